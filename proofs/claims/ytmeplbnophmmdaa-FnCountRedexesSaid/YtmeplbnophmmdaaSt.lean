/- Places of redexes, steps, reductions of trees. -/
import Derived.Test.YtmeplbnophmmdaaPr
namespace Go.Dk
set_option linter.unusedVariables false
/-- The part at a way. -/
def T.at : T → List Int → T
  | t, [] => t
  | t, i :: w => (t.kids.getD i.toNat default).at w
/-- The part at a way replaced. -/
def T.put : T → List Int → T → T
  | _, [], u => u
  | t, i :: w, u => .mk t.k t.n (t.kids.set i.toNat ((t.kids.getD i.toNat default).put w u))
/-- There is a part at the way. -/
def T.has : T → List Int → Prop
  | _, [] => True
  | t, i :: w => (0 ≤ i ∧ i < t.kids.length) ∧ (t.kids.getD i.toNat default).has w
theorem T.at_nil (t : T) : t.at [] = t := rfl
theorem T.put_nil (t u : T) : t.put [] u = u := rfl
mutual
/-- The way to the first redex from inside. -/
def T.innw : T → List Int
  | .mk _ _ ts => if nrmL ts then [] else innwL ts 0
def innwL : List T → Nat → List Int
  | [], _ => []
  | t :: ts, i => if t.nrm then innwL ts (i + 1) else (i : Int) :: t.innw
end
/-- The operand that decides, or -1. -/
def mainK (k : Int) : Int := if k = 5 ∨ k = 15 ∨ k = 16 then 0 else if k = 9 then 3 else if k = 12 then 1 else -1
mutual
/-- Is there a redex that the root needs? -/
def T.hdo : T → Bool
  | .mk k n ts => if (T.mk k n ts).rdx ≠ 0 then true else if mainK k < 0 then false else hdoL ts (mainK k).toNat
def hdoL : List T → Nat → Bool
  | [], _ => false
  | t :: _, 0 => t.hdo
  | _ :: ts, j + 1 => hdoL ts j
end
mutual
/-- The way to it. -/
def T.hdw : T → List Int
  | .mk k n ts => if (T.mk k n ts).rdx ≠ 0 then [] else if mainK k < 0 then [] else mainK k :: hdwL ts (mainK k).toNat
def hdwL : List T → Nat → List Int
  | [], _ => []
  | t :: _, 0 => t.hdw
  | _ :: ts, j + 1 => hdwL ts j
end
theorem hdoL_get : ∀ {ts : List T} {j : Nat}, j < ts.length → hdoL ts j = (ts.getD j default).hdo
  | [], _, h => absurd h (Nat.not_lt_zero _)
  | t :: ts, 0, _ => by simp [hdoL]
  | t :: ts, j + 1, h => by
    have := hdoL_get (ts := ts) (j := j) (by simpa using h)
    simpa [hdoL] using this
theorem hdwL_get : ∀ {ts : List T} {j : Nat}, j < ts.length → hdwL ts j = (ts.getD j default).hdw
  | [], _, h => absurd h (Nat.not_lt_zero _)
  | t :: ts, 0, _ => by simp [hdwL]
  | t :: ts, j + 1, h => by
    have := hdwL_get (ts := ts) (j := j) (by simpa using h)
    simpa [hdwL] using this
theorem mainK_lt {k : Int} (h : ¬ mainK k < 0) : (mainK k).toNat < (arity k).toNat ∧ 0 ≤ arity k ∧ mainK k ≤ 3 := by
  unfold mainK at *
  split
  · rename_i h1; rcases h1 with rfl | rfl | rfl <;> decide
  · rename_i h1
    rw [if_neg h1] at h
    split
    · rename_i h2; subst h2; decide
    · rename_i h2
      rw [if_neg h2] at h
      split
      · rename_i h3; subst h3; decide
      · rename_i h3; rw [if_neg h3] at h; omega
theorem rdx_main {k n : Int} {ts : List T} (h : (T.mk k n ts).rdx ≠ 0) : ¬ mainK k < 0 := by
  rcases rdx_cases h with ⟨-, rfl, -⟩ | ⟨-, rfl, -⟩ | ⟨-, rfl, -⟩ | ⟨-, rfl, -⟩ | ⟨-, rfl, -⟩ | ⟨-, rfl, -⟩ <;> decide
theorem getD_set_ne {ts : List T} {i j : Nat} {u : T} (h : i ≠ j) : (ts.set i u).getD j default = ts.getD j default := by
  rw [List.getD_eq_getElem?_getD, List.getD_eq_getElem?_getD, List.getElem?_set_ne h]
theorem shpL_set : ∀ {ts : List T} {i : Nat} {u : T} {d : Int}, shpL (ts.set i u) d = true → i < ts.length → u.shp d = true
  | [], _, _, _, _, h => absurd h (Nat.not_lt_zero _)
  | t :: ts, 0, u, d, h, _ => by simp [shpL] at h; exact h.1
  | t :: ts, i + 1, u, d, h, hi => by
    simp [shpL] at h
    exact shpL_set h.2 (by simpa using hi)
theorem sizeL_set : ∀ {ts : List T} {i : Nat} {u : T}, i < ts.length → sizeL (ts.set i u) + (ts.getD i default).size = sizeL ts + u.size
  | [], _, _, h => absurd h (Nat.not_lt_zero _)
  | t :: ts, 0, u, _ => by simp [sizeL]; omega
  | t :: ts, i + 1, u, hi => by
    have := sizeL_set (ts := ts) (i := i) (u := u) (by simpa using hi)
    simp only [List.set_cons_succ, sizeL, List.getD_cons_succ]
    omega
/-- What is put into a valid tree is valid. -/
theorem T.put_sub : ∀ {w : List Int} {t u : T} {d : Int}, t.has w → (t.put w u).shp d = true → u.shp d = true ∧ u.size ≤ (t.put w u).size
  | [], t, u, d, _, h => ⟨h, Nat.le_refl _⟩
  | i :: w, .mk k n ts, u, d, hh, h => by
    obtain ⟨hi, hw⟩ := hh
    have hi : 0 ≤ i ∧ i < (ts.length : Int) := hi
    have hw : T.has (ts.getD i.toNat default) w := hw
    have h1 := shpL_set (T.shp_kids h) (show i.toNat < ts.length by omega)
    have h2 := T.put_sub hw h1
    have h3 := sizeL_set (u := (ts.getD i.toNat default).put w u) (show i.toNat < ts.length by omega)
    have h4 := sizeL_mem (getD_mem (show i.toNat < (ts.set i.toNat ((ts.getD i.toNat default).put w u)).length by simp; omega))
    have h5 : (ts.set i.toNat ((ts.getD i.toNat default).put w u)).getD i.toNat default = (ts.getD i.toNat default).put w u := by
      rw [List.getD_eq_getElem?_getD, List.getElem?_set_self (by omega)]; rfl
    rw [h5] at h4
    refine ⟨T.shp_mono (by omega) h2.1, ?_⟩
    have h6 := h2.2
    show u.size ≤ 1 + sizeL (ts.set i.toNat ((ts.getD i.toNat default).put w u))
    have h7 : (ts.set i.toNat ((ts.getD i.toNat default).put w u)).length = ts.length := by simp
    omega
theorem T.put_valid {w : List Int} {t u : T} (h : t.has w) (hv : (t.put w u).valid = true) : u.valid = true := by
  rw [valid_iff] at hv ⊢
  have := T.put_sub h hv.1
  exact ⟨this.1, by omega⟩
theorem T.at_shp : ∀ {w : List Int} {t : T} {d : Int}, t.has w → t.shp d = true → (t.at w).shp d = true ∧ (t.at w).size ≤ t.size
  | [], t, d, _, h => ⟨h, Nat.le_refl _⟩
  | i :: w, .mk k n ts, d, hh, h => by
    obtain ⟨hi, hw⟩ := hh
    have hi : 0 ≤ i ∧ i < (ts.length : Int) := hi
    have hw : T.has (ts.getD i.toNat default) w := hw
    have h1 := kid_ok h (show i.toNat < ts.length by omega)
    have h2 := T.at_shp hw h1.1
    have h3 : ((T.mk k n ts).at (i :: w)) = (ts.getD i.toNat default).at w := rfl
    rw [h3]
    exact ⟨T.shp_mono (by omega) h2.1, by omega⟩
theorem T.at_valid {w : List Int} {t : T} (h : t.has w) (hv : t.valid = true) : (t.at w).valid = true := by
  rw [valid_iff] at hv ⊢
  have := T.at_shp h hv.1
  exact ⟨this.1, by omega⟩
/-- A step at a way. -/
def T.stp (t : T) (w : List Int) : T := t.put w (t.at w).ctr
theorem PL_set : ∀ {ts : List T} {i : Nat} {u : T}, PL [ts.getD i default] [u] → PL ts (ts.set i u)
  | [], _, _, _ => PL.refl _
  | t :: ts, 0, u, h => PL.cons (by simpa using h) (PL.refl _)
  | t :: ts, i + 1, u, h => PL.cons (PL.refl _) (PL_set (ts := ts) (by simpa using h))
theorem PL_ctr {t : T} {d : Int} (h : t.shp d = true) (hr : t.rdx ≠ 0) : PL [t] [t.ctr] := by
  cases t with
  | mk k n l =>
    obtain ⟨ps, h1, h2⟩ := Rt_of h hr
    rw [h2]
    exact .red h1 (PL.refl _) .nil
theorem PL_stp : ∀ {w : List Int} {t : T} {d : Int}, t.has w → t.shp d = true → (t.at w).rdx ≠ 0 → PL [t] [t.stp w]
  | [], t, d, _, h, hr => PL_ctr h hr
  | i :: w, .mk k n ts, d, hh, h, hr => by
    obtain ⟨hi, hw⟩ := hh
    have hi : 0 ≤ i ∧ i < (ts.length : Int) := hi
    have hw : T.has (ts.getD i.toNat default) w := hw
    have h1 := kid_ok h (show i.toNat < ts.length by omega)
    exact .node (PL_set (PL_stp hw h1.1 hr)) .nil
/- The ways lead to redexes. -/
mutual
theorem T.outw_ok : ∀ (t : T), t.nrm = false → t.has t.outw ∧ (t.at t.outw).rdx ≠ 0
  | .mk k n ts, h => by
    unfold T.outw
    by_cases hr : (T.mk k n ts).rdx ≠ 0
    · rw [if_pos hr]; exact ⟨trivial, hr⟩
    · rw [if_neg hr]
      have hn : nrmL ts = false := by
        simp only [T.nrm, Bool.and_eq_false_iff, decide_eq_false_iff_not] at h
        rcases h with h | h
        · exact h
        · exact absurd h hr
      obtain ⟨j, w, e, hj, hw⟩ := outwL_ok ts 0 hn
      rw [e]
      have hj' : ((0 + j : Nat) : Int).toNat = j := by omega
      refine ⟨⟨⟨by omega, by show ((0 + j : Nat) : Int) < ts.length; omega⟩, ?_⟩, ?_⟩
      · show T.has (ts.getD ((0 + j : Nat) : Int).toNat default) w
        rw [hj']; exact hw.1
      · show (T.at (ts.getD ((0 + j : Nat) : Int).toNat default) w).rdx ≠ 0
        rw [hj']; exact hw.2
theorem outwL_ok : ∀ (ts : List T) (i : Nat), nrmL ts = false → ∃ j w, outwL ts i = ((i + j : Nat) : Int) :: w ∧ j < ts.length ∧ (ts.getD j default).has w ∧ ((ts.getD j default).at w).rdx ≠ 0
  | [], _, h => by simp [nrmL] at h
  | t :: ts, i, h => by
    unfold outwL
    by_cases ht : t.nrm = true
    · rw [if_pos ht]
      have : nrmL ts = false := by simpa [nrmL, ht] using h
      obtain ⟨j, w, e, hj, hw⟩ := outwL_ok ts (i + 1) this
      exact ⟨j + 1, w, by rw [e]; congr 1; omega, by simpa using hj, by simpa using hw⟩
    · rw [if_neg ht]
      have := T.outw_ok t (by simpa using ht)
      exact ⟨0, t.outw, rfl, by simp, by simpa using this⟩
end
mutual
theorem T.innw_ok : ∀ (t : T), t.nrm = false → t.has t.innw ∧ (t.at t.innw).rdx ≠ 0
  | .mk k n ts, h => by
    unfold T.innw
    by_cases hn : nrmL ts = true
    · rw [if_pos hn]
      simp only [T.nrm, hn, Bool.true_and, decide_eq_false_iff_not] at h
      exact ⟨trivial, h⟩
    · rw [if_neg hn]
      obtain ⟨j, w, e, hj, hw⟩ := innwL_ok ts 0 (by simpa using hn)
      rw [e]
      have hj' : ((0 + j : Nat) : Int).toNat = j := by omega
      refine ⟨⟨⟨by omega, by show ((0 + j : Nat) : Int) < ts.length; omega⟩, ?_⟩, ?_⟩
      · show T.has (ts.getD ((0 + j : Nat) : Int).toNat default) w
        rw [hj']; exact hw.1
      · show (T.at (ts.getD ((0 + j : Nat) : Int).toNat default) w).rdx ≠ 0
        rw [hj']; exact hw.2
theorem innwL_ok : ∀ (ts : List T) (i : Nat), nrmL ts = false → ∃ j w, innwL ts i = ((i + j : Nat) : Int) :: w ∧ j < ts.length ∧ (ts.getD j default).has w ∧ ((ts.getD j default).at w).rdx ≠ 0
  | [], _, h => by simp [nrmL] at h
  | t :: ts, i, h => by
    unfold innwL
    by_cases ht : t.nrm = true
    · rw [if_pos ht]
      have : nrmL ts = false := by simpa [nrmL, ht] using h
      obtain ⟨j, w, e, hj, hw⟩ := innwL_ok ts (i + 1) this
      exact ⟨j + 1, w, by rw [e]; congr 1; omega, by simpa using hj, by simpa using hw⟩
    · rw [if_neg ht]
      have := T.innw_ok t (by simpa using ht)
      exact ⟨0, t.innw, rfl, by simp, by simpa using this⟩
end
mutual
theorem T.hdw_ok : ∀ (t : T), t.hdo = true → t.has t.hdw ∧ (t.at t.hdw).rdx ≠ 0
  | .mk k n ts, h => by
    unfold T.hdw
    unfold T.hdo at h
    by_cases hr : (T.mk k n ts).rdx ≠ 0
    · rw [if_pos hr]; exact ⟨trivial, hr⟩
    · rw [if_neg hr] at h ⊢
      by_cases hm : mainK k < 0
      · rw [if_pos hm] at h; cases h
      · rw [if_neg hm] at h ⊢
        obtain ⟨hj, hw⟩ := hdwL_ok ts _ h
        exact ⟨⟨⟨by omega, by show mainK k < ts.length; omega⟩, hw.1⟩, hw.2⟩
theorem hdwL_ok : ∀ (ts : List T) (j : Nat), hdoL ts j = true → j < ts.length ∧ (ts.getD j default).has (hdwL ts j) ∧ ((ts.getD j default).at (hdwL ts j)).rdx ≠ 0
  | [], _, h => by simp [hdoL] at h
  | t :: ts, 0, h => by
    have := T.hdw_ok t (by simpa [hdoL] using h)
    exact ⟨by simp, by simpa [hdwL] using this⟩
  | t :: ts, j + 1, h => by
    obtain ⟨h1, h2⟩ := hdwL_ok ts j (by simpa [hdoL] using h)
    exact ⟨by simpa using h1, by simpa [hdwL] using h2⟩
end
mutual
theorem T.innw_len : ∀ (t : T), t.innw.length ≤ t.size
  | .mk k n ts => by
    unfold T.innw T.size
    split
    · simp
    · have := innwL_len ts 0; omega
theorem innwL_len : ∀ (ts : List T) (i : Nat), (innwL ts i).length ≤ sizeL ts + 1
  | [], _ => by simp [innwL]
  | t :: ts, i => by
    simp only [innwL, sizeL]
    have := T.innw_len t
    have := innwL_len ts (i + 1)
    split <;> simp <;> omega
end
mutual
theorem T.hdw_len : ∀ (t : T), t.hdw.length ≤ t.size
  | .mk k n ts => by
    unfold T.hdw T.size
    split
    · simp
    split
    · simp
    · have := hdwL_len ts (mainK k).toNat; simp only [List.length_cons]; omega
theorem hdwL_len : ∀ (ts : List T) (j : Nat), (hdwL ts j).length ≤ sizeL ts
  | [], _ => by simp [hdwL]
  | t :: ts, 0 => by have := T.hdw_len t; simp only [hdwL, sizeL]; omega
  | t :: ts, j + 1 => by have := hdwL_len ts j; simp only [hdwL, sizeL]; omega
end
theorem innwL_drop {ts : List T} {i : Nat} (h : i < ts.length) : innwL (ts.drop i) i = if (ts.getD i default).nrm then innwL (ts.drop (i + 1)) (i + 1) else (i : Int) :: (ts.getD i default).innw := by
  rw [List.drop_eq_getElem_cons h, innwL, List.getD_eq_getElem?_getD, List.getElem?_eq_getElem h]; rfl
theorem nrmL_mem : ∀ {ts : List T} {t : T}, nrmL ts = true → t ∈ ts → t.nrm = true
  | u :: ts, t, h, hm => by
    simp only [nrmL, Bool.and_eq_true] at h
    rcases List.mem_cons.1 hm with rfl | hm
    · exact h.1
    · exact nrmL_mem h.2 hm
theorem nrm_hdo {t : T} (h : t.nrm = true) : t.hdo = false := by
  cases hh : t.hdo with
  | false => rfl
  | true =>
    obtain ⟨h1, h2⟩ := T.hdw_ok t hh
    have : ∀ (w : List Int) (t : T), t.nrm = true → t.has w → (t.at w).rdx = 0 := by
      intro w
      induction w with
      | nil => intro t h _; cases t; simp only [T.nrm, Bool.and_eq_true, decide_eq_true_eq] at h; exact h.2
      | cons i w ih =>
        intro t h hw
        cases t with
        | mk k n ts =>
          obtain ⟨hi, hw⟩ := hw
          have hi : 0 ≤ i ∧ i < (ts.length : Int) := hi
          refine ih _ ?_ hw
          simp only [T.nrm, Bool.and_eq_true] at h
          exact nrmL_mem h.1 (getD_mem (show i.toNat < ts.length by omega))
    exact absurd (this _ _ h h1) h2
/-- A place: whether there is a redex, and the way to it. -/
structure Pl where
  o : T → Bool
  w : T → List Int
  ok : ∀ t, o t = true → t.has (w t) ∧ (t.at (w t)).rdx ≠ 0
def plO : Pl := ⟨fun t => !t.nrm, T.outw, fun t h => T.outw_ok t (by simpa using h)⟩
def plI : Pl := ⟨fun t => !t.nrm, T.innw, fun t h => T.innw_ok t (by simpa using h)⟩
def plH : Pl := ⟨T.hdo, T.hdw, fun t h => T.hdw_ok t h⟩
/-- Steps, as long as there is fuel: the term, how many, the code. -/
def T.rdc (P : Pl) : Nat → T → Int → T × Int × Int
  | 0, t, s => if P.o t = true then (.mk 0 0 [], s, 1) else (t, s, 0)
  | f + 1, t, s => if P.o t = true then (if (t.stp (P.w t)).valid = true then (t.stp (P.w t)).rdc P f (s + 1) else (.mk 0 0 [], s, 2)) else (t, s, 0)
theorem rdc_no {P : Pl} {t : T} (h : P.o t = false) (f : Nat) (s : Int) : t.rdc P f s = (t, s, 0) := by
  cases f <;> simp [T.rdc, h]
theorem rdc_zero {P : Pl} {t : T} (h : P.o t = true) (s : Int) : t.rdc P 0 s = (.mk 0 0 [], s, 1) := by
  simp [T.rdc, h]
theorem rdc_step {P : Pl} {t : T} (h : P.o t = true) (f : Nat) (s : Int) (hv : (t.stp (P.w t)).valid = true) : t.rdc P (f + 1) s = (t.stp (P.w t)).rdc P f (s + 1) := by
  simp [T.rdc, h, hv]
theorem rdc_large {P : Pl} {t : T} (h : P.o t = true) (f : Nat) (s : Int) (hv : (t.stp (P.w t)).valid = false) : t.rdc P (f + 1) s = (.mk 0 0 [], s, 2) := by
  simp [T.rdc, h, hv]
/-- What a reduction gives. -/
theorem rdc_spec (P : Pl) : ∀ (f : Nat) (t : T) (s : Int), t.valid = true →
    (∀ s', (t.rdc P f s').1 = (t.rdc P f s).1 ∧ (t.rdc P f s').2.2 = (t.rdc P f s).2.2 ∧ (t.rdc P f s').2.1 - s' = (t.rdc P f s).2.1 - s) ∧
    s ≤ (t.rdc P f s).2.1 ∧ (t.rdc P f s).2.1 ≤ s + f ∧
    (((t.rdc P f s).2.2 = 0 ∧ (t.rdc P f s).1.valid = true ∧ P.o (t.rdc P f s).1 = false ∧ PS t (t.rdc P f s).1 ∧ ∀ g : Nat, (t.rdc P f s).2.1 - s ≤ g → t.rdc P g s = t.rdc P f s) ∨
     ((t.rdc P f s).2.2 = 1 ∧ (t.rdc P f s).1 = .mk 0 0 [] ∧ (t.rdc P f s).2.1 = s + f) ∨
     ((t.rdc P f s).2.2 = 2 ∧ (t.rdc P f s).1 = .mk 0 0 []))
  | 0, t, s, hv => by
    cases h : P.o t with
    | false =>
      simp only [rdc_no h]
      exact ⟨fun s' => ⟨trivial, trivial, by omega⟩, by omega, by omega, .inl ⟨trivial, hv, h, .refl, fun g _ => trivial⟩⟩
    | true =>
      simp only [rdc_zero h]
      exact ⟨fun s' => ⟨trivial, trivial, by omega⟩, by omega, by omega, .inr (.inl ⟨trivial, trivial, by omega⟩)⟩
  | f + 1, t, s, hv => by
    cases h : P.o t with
    | false =>
      simp only [rdc_no h]
      exact ⟨fun s' => ⟨trivial, trivial, by omega⟩, by omega, by omega, .inl ⟨trivial, hv, h, .refl, fun g _ => trivial⟩⟩
    | true =>
      cases h2 : (t.stp (P.w t)).valid with
      | false =>
        simp only [rdc_large h _ _ h2]
        exact ⟨fun s' => ⟨trivial, trivial, by omega⟩, by omega, by omega, .inr (.inr ⟨trivial, trivial⟩)⟩
      | true =>
        obtain ⟨i1, i2, i3, i4⟩ := rdc_spec P f (t.stp (P.w t)) (s + 1) h2
        obtain ⟨w1, w2⟩ := P.ok t h
        have hp := PL_stp w1 (valid_shp hv) w2
        simp only [rdc_step h _ _ h2]
        refine ⟨fun s' => ?_, by omega, by omega, ?_⟩
        · obtain ⟨j1, j2, j3⟩ := i1 (s' + 1)
          exact ⟨j1, j2, by omega⟩
        · rcases i4 with ⟨a1, a2, a3, a4, a5⟩ | ⟨a1, a2, a3⟩ | a1
          · refine .inl ⟨a1, a2, a3, (PS.one hp).trans a4, fun g hg => ?_⟩
            match g, hg with
            | 0, hg => exfalso; omega
            | g + 1, hg => rw [rdc_step h _ _ h2]; exact a5 g (by omega)
          · exact .inr (.inl ⟨a1, a2, by omega⟩)
          · exact .inr (.inr a1)
end Go.Dk
