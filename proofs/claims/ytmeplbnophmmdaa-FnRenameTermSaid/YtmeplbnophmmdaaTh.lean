/- Binding: laws of shifts, substitutions and renamings. -/
import Derived.Test.YtmeplbnophmmdaaL2s
namespace Go.Dk
set_option linter.unusedVariables false
/-- A shift behind a shift, from the place that the first has made. -/
theorem sh_sh (v : T) (a b x : Int) (ha : 0 ≤ a) : (v.mv (shf a 0) x).mv (shf b 0) (x + a) = v.mv (shf (a + b) 0) x :=
  T.mv_mv v x fun p _ => by
    rw [shf_eq, mv_vr, shf_eq, shf_eq]
    congr 1
    (repeat' split) <;> omega
/-- Substitution below binders that a shift has made room for. -/
theorem sh_sb (u v : T) (j b x : Int) (hj : 0 ≤ j) (hb : 0 ≤ b) (hx : ∀ p ∈ u.vs x, 0 ≤ p.1) : (u.mv (shf b 0) x).mv (sbf j v) (x + b) = (u.mv (sbf j v) x).mv (shf b 0) x := by
  have h1 : (u.mv (shf b 0) x).mv (sbf j v) (x + b) = u.mv (fun e n => (sbf j v e n).mv (shf b 0) e) x :=
    T.mv_mv u x fun p hp => by
      have hp0 := hx p hp
      rw [shf_eq, mv_vr]
      unfold sbf
      by_cases h : p.1 ≤ p.2
      · rw [if_pos (c := 0 + p.1 ≤ p.2) (by omega)]
        by_cases h2 : p.2 = j + p.1
        · rw [if_pos h2, if_pos (c := p.2 + b = j + (p.1 + b)) (by omega)]
          have := sh_sh v p.1 b 0 hp0
          rw [Int.zero_add] at this
          rw [this]
        · rw [if_neg h2, if_neg (c := p.2 + b = j + (p.1 + b)) (by omega)]
          by_cases h3 : j + p.1 < p.2
          · rw [if_pos h3, if_pos (c := j + (p.1 + b) < p.2 + b) (by omega), mv_vr, shf_eq]
            congr 1
            split <;> omega
          · rw [if_neg h3, if_neg (c := j + (p.1 + b) < p.2 + b) (by omega), mv_vr, shf_eq]
            congr 1
            split <;> omega
      · rw [if_neg (c := 0 + p.1 ≤ p.2) (by omega), if_neg (c := p.2 = j + (p.1 + b)) (by omega), if_neg (c := j + (p.1 + b) < p.2) (by omega), if_neg (c := p.2 = j + p.1) (by omega), if_neg (c := j + p.1 < p.2) (by omega), mv_vr, shf_eq]
        congr 1
        split <;> omega
  have h2 : (u.mv (sbf j v) x).mv (shf b 0) (x + 0) = u.mv (fun e n => (sbf j v e n).mv (shf b 0) e) x :=
    T.mv_mv u x fun p _ => by rw [Int.add_zero]
  rw [Int.add_zero] at h2
  rw [h1, h2]
/-- What a shift has made room for is not found by a substitution. -/
theorem sb_sh (v z : T) (b x : Int) (hb : 0 ≤ b) : (v.mv (shf (1 + b) 0) x).mv (sbf 0 z) (x + b) = v.mv (shf b 0) x :=
  T.mv_mv v x fun p _ => by
    rw [shf_eq, mv_vr, shf_eq]
    unfold sbf
    by_cases h : p.1 ≤ p.2
    · rw [if_pos (c := 0 + p.1 ≤ p.2) (by omega), if_neg (c := p.2 + (1 + b) = 0 + (p.1 + b)) (by omega), if_pos (c := 0 + (p.1 + b) < p.2 + (1 + b)) (by omega), if_pos (c := 0 + p.1 ≤ p.2) (by omega)]
      congr 1; omega
    · rw [if_neg (c := 0 + p.1 ≤ p.2) (by omega), if_neg (c := p.2 = 0 + (p.1 + b)) (by omega), if_neg (c := 0 + (p.1 + b) < p.2) (by omega), if_neg (c := 0 + p.1 ≤ p.2) (by omega)]
/-- SUBSTITUTIONS COMMUTE. -/
theorem sb_sb (t u v : T) (j : Int) (hj : 0 ≤ j) (ht : ∀ p ∈ t.vs 0, 0 ≤ p.1) (hu : ∀ p ∈ u.vs 0, 0 ≤ p.1) :
    (t.mv (sbf 0 u) 0).mv (sbf j v) 0 = (t.mv (sbf (j + 1) (v.mv (shf 1 0) 0)) 0).mv (sbf 0 (u.mv (sbf j v) 0)) 0 := by
  have h1 : (t.mv (sbf 0 u) 0).mv (sbf j v) (0 + 0) = t.mv (fun e n => (sbf (j + 1) (v.mv (shf 1 0) 0) e n).mv (sbf 0 (u.mv (sbf j v) 0)) e) 0 :=
    T.mv_mv t 0 fun p hp => by
      have hp0 := ht p hp
      rw [Int.add_zero]
      unfold sbf
      by_cases h : p.2 = p.1
      · rw [if_pos (c := p.2 = 0 + p.1) (by omega), if_neg (c := p.2 = j + 1 + p.1) (by omega), if_neg (c := j + 1 + p.1 < p.2) (by omega), mv_vr, if_pos (c := p.2 = 0 + p.1) (by omega)]
        have := sh_sb u v j p.1 0 hj hp0 hu
        rw [Int.zero_add] at this
        exact this
      · rw [if_neg (c := p.2 = 0 + p.1) (by omega)]
        by_cases h2 : p.1 < p.2
        · rw [if_pos (c := 0 + p.1 < p.2) (by omega), mv_vr]
          by_cases h3 : p.2 = j + 1 + p.1
          · rw [if_pos h3, if_pos (c := p.2 - 1 = j + p.1) (by omega)]
            have e1 := sh_sh v 1 p.1 0 (by omega)
            have e1' : (v.mv (shf 1 0) 0).mv (shf p.1 0) 0 = v.mv (shf (1 + p.1) 0) 0 := by
              have := T.mv_mv (f := shf 1 0) (g := shf p.1 0) (h := shf (1 + p.1) 0) (u := 0) v 0 fun q _ => by
                rw [shf_eq, mv_vr, shf_eq, shf_eq]
                congr 1
                (repeat' split) <;> omega
              rwa [Int.add_zero] at this
            rw [e1']
            have := sb_sh v (u.mv (fun b n => if n = j + b then v.mv (shf b 0) 0 else if j + b < n then vr (n - 1) else vr n) 0) p.1 0 hp0
            rw [Int.zero_add] at this
            exact this.symm
          · rw [if_neg h3, if_neg (c := p.2 - 1 = j + p.1) (by omega)]
            by_cases h4 : j + 1 + p.1 < p.2
            · rw [if_pos h4, if_pos (c := j + p.1 < p.2 - 1) (by omega), mv_vr, if_neg (c := p.2 - 1 = 0 + p.1) (by omega), if_pos (c := 0 + p.1 < p.2 - 1) (by omega)]
            · rw [if_neg h4, if_neg (c := j + p.1 < p.2 - 1) (by omega), mv_vr, if_neg (c := p.2 = 0 + p.1) (by omega), if_pos (c := 0 + p.1 < p.2) (by omega)]
        · rw [if_neg (c := 0 + p.1 < p.2) (by omega), mv_vr, if_neg (c := p.2 = j + p.1) (by omega), if_neg (c := j + p.1 < p.2) (by omega), if_neg (c := p.2 = j + 1 + p.1) (by omega), if_neg (c := j + 1 + p.1 < p.2) (by omega), mv_vr, if_neg (c := p.2 = 0 + p.1) (by omega), if_neg (c := 0 + p.1 < p.2) (by omega)]
  have h2 : (t.mv (sbf (j + 1) (v.mv (shf 1 0) 0)) 0).mv (sbf 0 (u.mv (sbf j v) 0)) (0 + 0) = t.mv (fun e n => (sbf (j + 1) (v.mv (shf 1 0) 0) e n).mv (sbf 0 (u.mv (sbf j v) 0)) e) 0 :=
    T.mv_mv t 0 fun p _ => by rw [Int.add_zero]
  rw [Int.add_zero] at h1 h2
  rw [h1, h2]
theorem vs_ren {g : Int → Int → Int} (t : T) (b : Int) : (t.mv (fun b n => vr (g b n)) b).vs b = (t.vs b).map fun p => (p.1, g p.1 p.2) := by
  have := T.vs_mv (f := fun b n => vr (g b n)) (u := 0) t b
  rw [Int.add_zero] at this
  rw [this]
  induction t.vs b with
  | nil => rfl
  | cons p l ih => rw [List.flatMap_cons, ih, List.map_cons, vs_vr, Int.add_zero]; rfl
theorem mfL_ex : ∀ {l : List (Int × Int)}, 0 < mfL l → ∃ p ∈ l, p.2 - p.1 + 1 = mfL l
  | p :: l, h => by
    simp only [mfL] at h ⊢
    by_cases h1 : mfL l < (if p.1 ≤ p.2 then p.2 - p.1 + 1 else 0)
    · refine ⟨p, by simp, ?_⟩
      split at h1 <;> omega
    · have : 0 < mfL l := by split at h <;> omega
      obtain ⟨q, hq, e⟩ := mfL_ex this
      exact ⟨q, by simp [hq], by rw [e]; split at h1 <;> omega⟩
theorem cnL_pos {j : Int} {l : List (Int × Int)} : 0 < cnL j l ↔ ∃ p ∈ l, p.2 = j + p.1 := by
  unfold cnL
  have : (0 : Int) < ((l.countP fun p => decide (p.2 = j + p.1) : Nat) : Int) ↔ 0 < l.countP fun p => decide (p.2 = j + p.1) := by omega
  rw [this, List.countP_pos_iff]
  simp
theorem vs_nonneg {t : T} (h : t.valid = true) : ∀ p ∈ t.vs 0, 0 ≤ p.1 := fun p hp => (T.vs_range t 0 30 (T.valid_shp h) p hp).2.2.1
theorem Br_t {A B : Prop} : Br true A B = A := rfl
theorem Br_f {A B : Prop} : Br false A B = B := rfl
theorem ShO_parts {t : T} {y c : Int} (h : t.ShO y c = true) : t.valid = true ∧ (-20 ≤ y ∧ y ≤ 20 ∧ 0 ≤ c ∧ c ≤ 20) ∧ (∀ p ∈ t.vs 0, p.2 - p.1 < c ∨ (c ≤ p.2 + y - p.1 ∧ p.2 + y ≤ 20)) ∧ (t.mv (shf y c) 0).valid = true ∧ t.ShR y c = t.mv (shf y c) 0 := by
  have h' := h
  unfold T.ShO T.shO at h'
  simp only [Bool.and_eq_true, decide_eq_true_eq, List.all_eq_true, shk] at h'
  exact ⟨h'.1, h'.2.1, h'.2.2.1, h'.2.2.2, by unfold T.ShR; rw [if_pos h]⟩
theorem sh_back {t : T} {y c : Int} (h : t.ShO y c = true) : (t.mv (shf y c) 0).mv (shf (-y) c) 0 = t := by
  obtain ⟨h1, h2, h3, h4, h5⟩ := ShO_parts h
  have e := T.mv_mv (f := shf y c) (g := shf (-y) c) (h := fun _ n => vr n) (u := 0) t 0 fun p hp => by
    have := h3 p hp
    rw [shf_eq, mv_vr, shf_eq]
    congr 1
    (repeat' split) <;> omega
  rw [Int.add_zero] at e
  rw [e]
  exact T.mv_id t 0 30 (T.valid_shp h1) fun p _ => rfl
theorem sh_vars {t : T} {y c : Int} : (t.mv (shf y c) 0).vs 0 = (t.vs 0).map fun p => (p.1, if c + p.1 ≤ p.2 then p.2 + y else p.2) := vs_ren (g := fun b n => if c + b ≤ n then n + y else n) t 0
theorem sh_back_ok {t : T} {y c : Int} (h : t.ShO y c = true) (hy : 0 ≤ y) : (t.ShR y c).ShO (-y) c = true := by
  obtain ⟨h1, h2, h3, h4, h5⟩ := ShO_parts h
  have hr := T.vs_range t 0 30 (T.valid_shp h1)
  rw [h5]
  unfold T.ShO T.shO
  simp only [Bool.and_eq_true, decide_eq_true_eq, List.all_eq_true, shk]
  refine ⟨h4, ⟨by omega, by omega, h2.2.2⟩, fun p hp => ?_, by rw [sh_back h]; exact h1⟩
  rw [sh_vars] at hp
  obtain ⟨q, hq, rfl⟩ := List.mem_map.1 hp
  have := h3 q hq
  have := hr q hq
  simp only
  split <;> omega
theorem sh_add {t : T} {y n c : Int} (h : t.ShO y c = true) : (t.mv (shf y c) 0).mv (shf n c) 0 = t.mv (shf (y + n) c) 0 := by
  obtain ⟨h1, h2, h3, h4, h5⟩ := ShO_parts h
  have e := T.mv_mv (f := shf y c) (g := shf n c) (h := shf (y + n) c) (u := 0) t 0 fun p hp => by
    have := h3 p hp
    rw [shf_eq, mv_vr, shf_eq, shf_eq]
    congr 1
    (repeat' split) <;> omega
  rwa [Int.add_zero] at e
theorem mfL_sh {y : Int} : ∀ {l : List (Int × Int)}, (∀ p ∈ l, p.2 - p.1 < 0 ∨ 0 ≤ p.2 + y - p.1) → (mfL l = 0 → mfL (l.map fun p => (p.1, if 0 + p.1 ≤ p.2 then p.2 + y else p.2)) = 0) ∧ (mfL l ≠ 0 → mfL (l.map fun p => (p.1, if 0 + p.1 ≤ p.2 then p.2 + y else p.2)) = mfL l + y)
  | [], _ => ⟨fun _ => rfl, fun h => absurd rfl h⟩
  | p :: l, h => by
    obtain ⟨i1, i2⟩ := mfL_sh (l := l) fun q hq => h q (by simp [hq])
    have hp := h p (by simp)
    have hn := mfL_nonneg l
    have hn2 := mfL_nonneg (l.map fun p => (p.1, if 0 + p.1 ≤ p.2 then p.2 + y else p.2))
    simp only [List.map_cons, mfL]
    generalize mfL (l.map fun p => (p.1, if 0 + p.1 ≤ p.2 then p.2 + y else p.2)) = M at *
    generalize mfL l = N at *
    by_cases hb : p.1 ≤ p.2
    · rw [if_pos (c := 0 + p.1 ≤ p.2) (by omega), if_pos hb, if_pos (c := p.1 ≤ p.2 + y) (by omega)]
      by_cases h0 : N = 0
      · have := i1 h0; omega
      · have := i2 h0; omega
    · rw [if_neg (c := 0 + p.1 ≤ p.2) (by omega), if_neg hb]
      by_cases h0 : N = 0
      · have := i1 h0; omega
      · have := i2 h0; omega
theorem mf_sh {t : T} {y : Int} (h : t.ShO y 0 = true) : (t.mf = 0 → (t.ShR y 0).mf = 0) ∧ (t.mf ≠ 0 → (t.ShR y 0).mf = t.mf + y) := by
  obtain ⟨h1, h2, h3, h4, h5⟩ := ShO_parts h
  unfold T.mf
  rw [h5, if_pos h4, if_pos h1, sh_vars]
  exact mfL_sh fun p hp => by have := h3 p hp; omega
theorem sh_closed {t : T} {y : Int} (h : t.ShO y 0 = true) (h0 : t.mf = 0) : t.ShR y 0 = t := by
  obtain ⟨h1, h2, h3, h4, h5⟩ := ShO_parts h
  unfold T.mf at h0
  rw [if_pos h1] at h0
  rw [h5]
  exact T.mv_id t 0 30 (T.valid_shp h1) fun p hp => by
    have := mfL_mem hp
    rw [shf_eq, if_neg (by omega)]
theorem mfL_le {t : T} (h : t.valid = true) : mfL (t.vs 0) ≤ 21 := by
  by_cases h0 : 0 < mfL (t.vs 0)
  · obtain ⟨p, hp, e⟩ := mfL_ex h0
    have := T.vs_range t 0 30 (T.valid_shp h) p hp
    omega
  · omega
theorem mf_range (t : T) : -1 ≤ t.mf ∧ t.mf ≤ 21 := by
  unfold T.mf
  split
  · rename_i h
    have := mfL_le h; have := mfL_nonneg (t.vs 0); omega
  · omega
theorem mf_valid {t : T} (h : 0 ≤ t.mf) : t.valid = true := by
  unfold T.mf at h
  split at h
  · assumption
  · omega
/-- 0, 1, .. -/
def idn (n : Nat) : List Int := (List.range n).map Int.ofNat
theorem idn_len (n : Nat) : (idn n).length = n := by simp [idn]
theorem idn_succ (n : Nat) : idn n ++ [(n : Int)] = idn (n + 1) := by simp [idn, List.range_succ]
theorem idn_get {n i : Nat} (h : i < n) : (idn n).getD i 0 = i := by
  simp [idn, List.getD_eq_getElem?_getD, h]
theorem idn_mem {n : Nat} {x : Int} (h : x ∈ idn n) : 0 ≤ x ∧ x < n := by
  simp only [idn, List.mem_map, List.mem_range] at h
  obtain ⟨i, hi, rfl⟩ := h
  exact ⟨Int.natCast_nonneg i, by show (i : Int) < n; omega⟩
theorem rn_id {t : T} {n : Nat} (h : t.valid = true) (hn : mfL (t.vs 0) = n) : t.RnO (idn n) = true ∧ t.RnR (idn n) = t := by
  have h21 := mfL_le h
  have e : t.mv (rnf (idn n)) 0 = t := T.mv_id t 0 30 (T.valid_shp h) fun p hp => by
    have hr := T.vs_range t 0 30 (T.valid_shp h) p hp
    have hm := mfL_mem hp
    unfold rnf
    congr 1
    split
    · rw [idn_get (by omega)]; omega
    · rfl
  have ok : t.RnO (idn n) = true := by
    unfold T.RnO
    rw [h, e, h, idn_len, decide_eq_true (p := n ≤ 21) (by omega), decide_eq_true (p := mfL _ ≤ _) (by omega), decide_eq_true (p := ∀ x ∈ idn n, 0 ≤ x ∧ x ≤ 20) (fun x hx => by have := idn_mem hx; omega)]
    rfl
  exact ⟨ok, by unfold T.RnR; rw [if_pos ok, e]⟩
theorem SbO_parts {t u : T} {j : Int} (h : t.SbO j u = true) : t.valid = true ∧ u.valid = true ∧ (0 ≤ j ∧ j ≤ 20) ∧ (t.mv (sbf j u) 0).valid = true ∧ t.SbR j u = t.mv (sbf j u) 0 := by
  have h' := h
  unfold T.SbO at h'
  simp only [Bool.and_eq_true, decide_eq_true_eq] at h'
  obtain ⟨h1, h2, h3, h4⟩ := h'
  rw [sbO_eq h1 h2] at h4
  exact ⟨h1, h2, h3, h4, SbR_eq h⟩
theorem SbO_of {t u : T} {j : Int} (h1 : t.valid = true) (h2 : u.valid = true) (h3 : 0 ≤ j ∧ j ≤ 20) (h4 : (t.mv (sbf j u) 0).valid = true) : t.SbO j u = true := by
  unfold T.SbO
  rw [sbO_eq h1 h2, h1, h2, h4, decide_eq_true h3]; rfl
/-- SUBSTITUTIONS COMMUTE, as the program performs them. -/
theorem Sb_Sb {t u v : T} {j : Int} (h1 : t.SbO 0 u = true) (h2 : (t.SbR 0 u).SbO j v = true) (h3 : v.ShO 1 0 = true) (h4 : t.SbO (j + 1) (v.ShR 1 0) = true) (h5 : u.SbO j v = true) :
    (t.SbR (j + 1) (v.ShR 1 0)).SbO 0 (u.SbR j v) = true ∧ (t.SbR 0 u).SbR j v = (t.SbR (j + 1) (v.ShR 1 0)).SbR 0 (u.SbR j v) := by
  obtain ⟨a1, a2, a3, a4, a5⟩ := SbO_parts h1
  obtain ⟨b1, b2, b3, b4, b5⟩ := SbO_parts h2
  obtain ⟨c1, c2, c3, c4, c5⟩ := ShO_parts h3
  obtain ⟨d1, d2, d3, d4, d5⟩ := SbO_parts h4
  obtain ⟨e1, e2, e3, e4, e5⟩ := SbO_parts h5
  have key := sb_sb t u v j b3.1 (vs_nonneg a1) (vs_nonneg a2)
  rw [a5] at b4 b5
  have ok : (t.SbR (j + 1) (v.ShR 1 0)).SbO 0 (u.SbR j v) = true := by
    refine SbO_of (by rw [d5]; exact d4) (by rw [e5]; exact e4) (by omega) ?_
    rw [d5, e5, c5, ← key]; exact b4
  refine ⟨ok, ?_⟩
  rw [(SbO_parts ok).2.2.2.2, a5, b5, d5, e5, c5, key]
end Go.Dk
