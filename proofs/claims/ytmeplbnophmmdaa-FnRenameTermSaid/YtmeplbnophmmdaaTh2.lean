/- Binding: more laws. -/
import Derived.Test.YtmeplbnophmmdaaTh
namespace Go.Dk
set_option linter.unusedVariables false
theorem cnL_map {g : Int × Int → Int × Int} {i j : Int} : ∀ {l : List (Int × Int)}, (∀ p ∈ l, (g p).2 = j + (g p).1 ↔ p.2 = i + p.1) → cnL j (l.map g) = cnL i l
  | [], _ => rfl
  | p :: l, h => by
    have ih := cnL_map (l := l) fun q hq => h q (by simp [hq])
    have hp := h p (by simp)
    unfold cnL at *
    simp only [List.map_cons, List.countP_cons]
    have e : decide ((g p).2 = j + (g p).1) = decide (p.2 = i + p.1) := decide_eq_decide.2 hp
    rw [e]
    omega
/-- Shifts move variables. -/
theorem cv_sh {t : T} {y c i : Int} (h : t.ShO y c = true) (hi : 0 ≤ i ∧ i ≤ 20) (hpos : 0 < t.cv i) : (t.ShR y c).cv (if c ≤ i then i + y else i) = t.cv i := by
  obtain ⟨h1, h2, h3, h4, h5⟩ := ShO_parts h
  have hr := T.vs_range t 0 30 (T.valid_shp h1)
  unfold T.cv at hpos
  rw [if_pos ⟨h1, hi⟩] at hpos
  obtain ⟨p0, hp0, e0⟩ := cnL_pos.1 hpos
  have q1 := h3 p0 hp0
  have q2 := hr p0 hp0
  unfold T.cv
  by_cases hci : c ≤ i
  · rw [if_pos hci, h5, if_pos (c := (t.mv (shf y c) 0).valid = true ∧ _) ⟨h4, by omega⟩, if_pos ⟨h1, hi⟩, sh_vars]
    refine cnL_map fun p hp => ?_
    have := h3 p hp
    simp only
    split <;> omega
  · rw [if_neg hci, h5, if_pos (c := (t.mv (shf y c) 0).valid = true ∧ _) ⟨h4, hi⟩, if_pos ⟨h1, hi⟩, sh_vars]
    refine cnL_map fun p hp => ?_
    have := h3 p hp
    simp only
    split <;> omega
theorem sh_size {t : T} {y c : Int} (h : t.ShO y c = true) : (t.ShR y c).size = t.size := by
  obtain ⟨h1, h2, h3, h4, h5⟩ := ShO_parts h
  rw [h5]
  exact T.size_ren (g := fun b n => if c + b ≤ n then n + y else n) (T.valid_shp h1)
/-- Closed terms are stable. -/
theorem sb_closed {t u : T} (h : t.SbO 0 u = true) (h0 : t.mf = 0) : t.SbR 0 u = t := by
  obtain ⟨h1, h2, h3, h4, h5⟩ := SbO_parts h
  unfold T.mf at h0
  rw [if_pos h1] at h0
  rw [h5]
  exact T.mv_id t 0 30 (T.valid_shp h1) fun p hp => by
    have := mfL_mem hp
    unfold sbf
    rw [if_neg (by omega), if_neg (by omega)]
/-- A substitution undoes a shift that has made room for its variable. -/
theorem sb_undo {t u : T} {j : Int} (h : t.SbO j u = true) (hs : t.ShO 1 j = true) : (t.ShR 1 j).SbO j u = true ∧ (t.ShR 1 j).SbR j u = t ∧ (t.ShR 1 j).cv j = 0 := by
  obtain ⟨h1, h2, h3, h4, h5⟩ := SbO_parts h
  obtain ⟨s1, s2, s3, s4, s5⟩ := ShO_parts hs
  have e := T.mv_mv (f := shf 1 j) (g := sbf j u) (h := fun _ n => vr n) (u := 0) t 0 fun p hp => by
    rw [shf_eq, mv_vr]
    unfold sbf
    by_cases hb : j + p.1 ≤ p.2
    · rw [if_pos hb, if_neg (c := p.2 + 1 = j + (p.1 + 0)) (by omega), if_pos (c := j + (p.1 + 0) < p.2 + 1) (by omega)]
      congr 1; omega
    · rw [if_neg hb, if_neg (c := p.2 = j + (p.1 + 0)) (by omega), if_neg (c := j + (p.1 + 0) < p.2) (by omega)]
  rw [Int.add_zero] at e
  have e2 : t.mv (fun _ n => vr n) 0 = t := T.mv_id t 0 30 (T.valid_shp h1) fun p _ => rfl
  rw [e2] at e
  have ok : (t.ShR 1 j).SbO j u = true := SbO_of (by rw [s5]; exact s4) h2 h3 (by rw [s5, e]; exact h1)
  refine ⟨ok, by rw [(SbO_parts ok).2.2.2.2, s5, e], ?_⟩
  unfold T.cv
  rw [s5, if_pos ⟨s4, h3⟩, sh_vars]
  have : ¬ 0 < cnL j ((t.vs 0).map fun p => (p.1, if j + p.1 ≤ p.2 then p.2 + 1 else p.2)) := by
    rw [cnL_pos]
    rintro ⟨q, hq, e⟩
    obtain ⟨p, hp, rfl⟩ := List.mem_map.1 hq
    simp only at e
    split at e <;> omega
  have := (cnL_le (j := j) (l := (t.vs 0).map fun p => (p.1, if j + p.1 ≤ p.2 then p.2 + 1 else p.2))).1
  omega
/-- Where the variable does not occur, a shift undoes the substitution. -/
theorem sh_undo {t u : T} {j : Int} (h : t.SbO j u = true) (h0 : ¬ 0 < t.cv j) (hs : (t.SbR j u).ShO 1 j = true) : (t.SbR j u).ShR 1 j = t := by
  obtain ⟨h1, h2, h3, h4, h5⟩ := SbO_parts h
  unfold T.cv at h0
  rw [if_pos ⟨h1, h3⟩, cnL_pos] at h0
  rw [(ShO_parts hs).2.2.2.2, h5]
  have e := T.mv_mv (f := sbf j u) (g := shf 1 j) (h := fun _ n => vr n) (u := 0) t 0 fun p hp => by
    have hn : p.2 ≠ j + p.1 := fun e => h0 ⟨p, hp, e⟩
    unfold sbf
    rw [if_neg hn]
    by_cases hb : j + p.1 < p.2
    · rw [if_pos hb, mv_vr, shf_eq, if_pos (by omega)]
      congr 1; omega
    · rw [if_neg hb, mv_vr, shf_eq, if_neg (by omega)]
  rw [Int.add_zero] at e
  rw [e]
  exact T.mv_id t 0 30 (T.valid_shp h1) fun p _ => rfl
theorem szs_sb {u : T} {j : Int} (hu : u.valid = true) : ∀ (l : List (Int × Int)), (szs (sbf j u) l : Int) = l.length + cnL j l * (u.size - 1)
  | [] => by simp [szs, cnL]
  | p :: l => by
    have ih := szs_sb (j := j) hu l
    rw [szs_cons]
    have hz : (sbf j u p.1 p.2).size = if p.2 = j + p.1 then u.size else 1 := by
      unfold sbf
      by_cases h : p.2 = j + p.1
      · rw [if_pos h, if_pos h]
        exact T.size_ren (g := fun b n => if 0 + b ≤ n then n + p.1 else n) (T.valid_shp hu)
      · rw [if_neg h, if_neg h]
        split <;> simp [vr, T.size, sizeL]
    rw [hz]
    have hc : cnL j (p :: l) = cnL j l + if p.2 = j + p.1 then 1 else 0 := by
      unfold cnL
      rw [List.countP_cons]
      split <;> rename_i h
      · rw [if_pos (of_decide_eq_true h)]; omega
      · rw [if_neg (fun e => h (decide_eq_true e))]; omega
    rw [hc]
    split
    · simp only [List.length_cons, Int.add_mul, Int.one_mul]; omega
    · simp only [List.length_cons, Int.add_zero]; omega
/-- The size of what a substitution makes. -/
theorem sb_size {t u : T} {j : Int} (h : t.SbO j u = true) : ((t.SbR j u).size : Int) = t.size + t.cv j * (u.size - 1) := by
  obtain ⟨h1, h2, h3, h4, h5⟩ := SbO_parts h
  have e := T.size_mv (f := sbf j u) t 0 30 (T.valid_shp h1)
  have e2 := szs_sb (j := j) h2 (t.vs 0)
  unfold T.cv
  rw [h5, if_pos ⟨h1, h3⟩]
  omega
theorem RnO_parts {t : T} {ns : List Int} (h : t.RnO ns = true) : t.valid = true ∧ ns.length ≤ 21 ∧ mfL (t.vs 0) ≤ ns.length ∧ (∀ x ∈ ns, 0 ≤ x ∧ x ≤ 20) ∧ (t.mv (rnf ns) 0).valid = true ∧ t.RnR ns = t.mv (rnf ns) 0 := by
  have h' := h
  unfold T.RnO at h'
  simp only [Bool.and_eq_true, decide_eq_true_eq] at h'
  exact ⟨h'.1, h'.2.1, h'.2.2.1, h'.2.2.2.1, h'.2.2.2.2, by unfold T.RnR; rw [if_pos h]⟩
theorem RnO_of {t : T} {ns : List Int} (h1 : t.valid = true) (h2 : ns.length ≤ 21) (h3 : mfL (t.vs 0) ≤ ns.length) (h4 : ∀ x ∈ ns, 0 ≤ x ∧ x ≤ 20) (h5 : (t.mv (rnf ns) 0).valid = true) : t.RnO ns = true := by
  unfold T.RnO
  rw [h1, decide_eq_true h2, decide_eq_true h3, decide_eq_true h4, h5]; rfl
theorem rn_size {t : T} {ns : List Int} (h : t.RnO ns = true) : (t.RnR ns).size = t.size := by
  obtain ⟨h1, h2, h3, h4, h5, h6⟩ := RnO_parts h
  rw [h6]
  exact T.size_ren (g := fun b n => if b ≤ n then ns.getD (n - b).toNat 0 + b else n) (T.valid_shp h1)
/-- Renamings compose. -/
theorem rn_rn {t : T} {ns other both : List Int} (h : t.RnO ns = true) (h2 : (t.RnR ns).RnO other = true) (ho : ∀ x ∈ both, 0 ≤ x ∧ x ≤ 20) (hl : both.length = ns.length) (hb : ∀ i, i < ns.length → both.getD i 0 = other.getD (ns.getD i 0).toNat 0) : t.RnO both = true ∧ (t.RnR ns).RnR other = t.RnR both := by
  obtain ⟨a1, a2, a3, a4, a5, a6⟩ := RnO_parts h
  obtain ⟨b1, b2, b3, b4, b5, b6⟩ := RnO_parts h2
  have hr := T.vs_range t 0 30 (T.valid_shp a1)
  have e := T.mv_mv (f := rnf ns) (g := rnf other) (h := rnf both) (u := 0) t 0 fun p hp => by
    have hm := mfL_mem hp
    have hq := hr p hp
    unfold rnf
    rw [mv_vr]
    by_cases hb1 : p.1 ≤ p.2
    · have hi : (p.2 - p.1).toNat < ns.length := by omega
      have hx := a4 (ns.getD (p.2 - p.1).toNat 0) (by rw [List.getD_eq_getElem?_getD, List.getElem?_eq_getElem hi]; exact List.getElem_mem _)
      rw [if_pos hb1, if_pos hb1, if_pos (by omega), hb _ hi]
      congr 1
      rw [show ns.getD (p.2 - p.1).toNat 0 + p.1 - (p.1 + 0) = ns.getD (p.2 - p.1).toNat 0 by omega]; omega
    · rw [if_neg hb1, if_neg hb1, if_neg (by omega)]
  rw [Int.add_zero] at e
  rw [a6] at b5 b6
  rw [e] at b5 b6
  have ok : t.RnO both = true := RnO_of a1 (by omega) (by omega) ho b5
  exact ⟨ok, by rw [a6, b6, (RnO_parts ok).2.2.2.2.2]⟩
/-- A shift is a renaming. -/
theorem rn_sh {t : T} {y c : Int} {ns : List Int} (h : t.ShO y c = true) (hl : mfL (t.vs 0) = ns.length) (hn : ∀ i, i < ns.length → ns.getD i 0 = if c ≤ (i : Int) then (i : Int) + y else i) (ho : ∀ x ∈ ns, 0 ≤ x ∧ x ≤ 20) : t.RnO ns = true ∧ t.RnR ns = t.ShR y c := by
  obtain ⟨h1, h2, h3, h4, h5⟩ := ShO_parts h
  have h21 := mfL_le h1
  have hr := T.vs_range t 0 30 (T.valid_shp h1)
  have e : t.mv (rnf ns) 0 = t.mv (shf y c) (0 + 0) := T.mv_eq t 0 fun p hp => by
    have hm := mfL_mem hp
    have hq := hr p hp
    unfold rnf
    rw [shf_eq]
    congr 1
    by_cases hb1 : p.1 ≤ p.2
    · rw [if_pos hb1, hn _ (by omega)]
      split <;> split <;> omega
    · rw [if_neg hb1, if_neg (by omega)]
  rw [Int.add_zero] at e
  have ok : t.RnO ns = true := RnO_of h1 (by omega) (by omega) ho (by rw [e]; exact h4)
  exact ⟨ok, by rw [(RnO_parts ok).2.2.2.2.2, e, h5]⟩
end Go.Dk
