/- Reading texts as the program does: from operand to operand. -/
import Derived.Test.YteamklllllembaaDoorLb
import Derived.Test.YteamklllllembaaDoorTq
namespace Go.Dk
set_option linter.unusedVariables false
/-- What is found at a text's begin. -/
def KAt (s : List UInt8) (k : Int) : Prop := s = [] ∧ k = -1 ∨ s ≠ [] ∧ (k = -1 ∧ (∀ j, j < 16 → firsts.getD j 0 ≠ s.getD 0 0) ∨ (1 ≤ k ∧ k ≤ 16) ∧ firsts.getD (k - 1).toNat 0 = s.getD 0 0 ∧ ∀ j, j < (k - 1).toNat → firsts.getD j 0 ≠ s.getD 0 0)
def KInv (s : List UInt8) (i : Nat) (ss : List (List UInt8)) : Prop := i ≤ 16 ∧ ss = shapesL ∧ s ≠ [] ∧ (∀ j, j < i → firsts.getD j 0 ≠ s.getD 0 0)
/-- The reader's answer is right wherever there is a term's text. -/
def fndR (s : List UInt8) (d : Int) (t : T) (rest : List UInt8) (b : Bool) : Prop := ∀ (u : T) (r : List UInt8), u.shp d = true → nd r → s = u.text ++ r → t = u ∧ rest = r ∧ b = true
/-- What is known between two operands. -/
structure RdInv (s : List UInt8) (d k : Int) (ts : List T) (ps : List (List UInt8)) (rest : List UInt8) (b : Bool) (i : Nat) : Prop where
  i1 : 1 ≤ i
  i5 : i ≤ 5
  k3 : 3 ≤ k ∧ k ≤ 16
  ps : ps = seps k
  len : ts.length = i - 1
  sz : sizeL ts + rest.length ≤ s.length
  szb : b = true → sizeL ts + rest.length + 1 ≤ s.length
  ne : s ≠ []
  go : ∀ (u : T) (r : List UInt8), u.shp d = true → nd r → s = u.text ++ r → b = true ∧ ts = u.kids.take (i - 1) ∧ (k = u.k ∨ i = 1 ∧ k = 3 ∧ (u.k = 5 ∨ u.k = 13)) ∧ u.n = 0 ∧ rest = textL ((seps u.k).drop i) (u.kids.drop (i - 1)) ++ r
theorem shp_k {u : T} {d : Int} (h : u.shp d = true) : 1 ≤ u.k ∧ u.k ≤ 16 ∧ arity u.k = u.kids.length ∧ shpL u.kids (d - 1) = true ∧ (3 ≤ u.k → u.n = 0) ∧ 1 ≤ d := by
  cases u with
  | mk k n ts =>
    obtain ⟨h1, h2, h3⟩ := T.shp_root h
    have hk : 1 ≤ k ∧ k ≤ 16 := Decidable.byContradiction fun hn => by rw [arity_none hn] at h1; omega
    have hd : 1 ≤ d := by simp only [T.shp, Bool.and_eq_true, decide_eq_true_eq] at h; exact h.1
    refine ⟨hk.1, hk.2, h1, T.shp_kids h, fun h => ?_, hd⟩
    have h : 3 ≤ k := h
    unfold mostN at h3
    rw [if_neg (by omega), if_neg (by omega)] at h3
    show n = 0
    omega
theorem first_fact {u : T} {d : Int} {s r : List UInt8} (hu : u.shp d = true) (h : s = u.text ++ r) : s ≠ [] ∧ s.getD 0 0 = firsts.getD (u.k - 1).toNat 0 := by
  have hf := frm hu
  subst h
  cases hf
  all_goals
    simp only [tx1, tx2, tx3, tx4, tx5, tx6, tx7, tx8, tx9, tx10, tx11, tx12, tx13, tx14, tx15, tx16, List.cons_append]
    exact ⟨List.cons_ne_nil _ _, rfl⟩
theorem firsts_tabB : ((List.range 16).all fun i => (List.range 16).all fun j => !(firsts.getD i 0 == firsts.getD j 0) || (i == j || (i == 2 && (j == 4 || j == 12))) || (List.range i).any fun x => firsts.getD x 0 == firsts.getD j 0) = true := by decide +kernel
theorem firsts_tab (i : Nat) (hi : i < 16) (j : Nat) (hj : j < 16) (h : firsts.getD i 0 = firsts.getD j 0) (hx : ∀ x, x < i → firsts.getD x 0 ≠ firsts.getD j 0) : i = j ∨ i = 2 ∧ (j = 4 ∨ j = 12) := by
  have := List.all_eq_true.1 (List.all_eq_true.1 firsts_tabB i (List.mem_range.2 hi)) j (List.mem_range.2 hj)
  simp only [Bool.or_eq_true, Bool.not_eq_true', Bool.and_eq_true, List.any_eq_true, List.mem_range, beq_iff_eq, beq_eq_false_iff_ne] at this
  rcases this with (h1 | h1) | ⟨x, h1, h2⟩
  · exact absurd h h1
  · exact h1
  · exact absurd h2 (hx x h1)
theorem kAt_fact {u : T} {d k : Int} {s r : List UInt8} (hk : KAt s k) (hu : u.shp d = true) (h : s = u.text ++ r) : k = u.k ∨ k = 3 ∧ (u.k = 5 ∨ u.k = 13) := by
  obtain ⟨k1, k2, _⟩ := shp_k hu
  obtain ⟨h1, h2⟩ := first_fact hu h
  rcases hk with ⟨e, _⟩ | ⟨_, ⟨_, h3⟩ | ⟨h3, h4, h5⟩⟩
  · exact absurd e h1
  · exact absurd h2.symm (h3 _ (by omega))
  · rw [h2] at h4 h5
    rcases firsts_tab _ (by omega) _ (by omega) h4 h5 with e | ⟨e, e'⟩ <;> omega
theorem seps_p0 : ∀ k, 1 ≤ ((seps k).getD 0 []).length ∨ seps k = [] := fun k => kinds (P := fun k => 1 ≤ ((seps k).getD 0 []).length ∨ seps k = []) (by decide +kernel) (fun k h => .inr (seps_none h)) k
theorem seps_pos {k : Int} (h : 1 ≤ k ∧ k ≤ 16) : 1 ≤ (seps k).length ∧ (seps k).length ≤ 5 ∧ (3 ≤ k → (arity k : Int) + 1 = (seps k).length) :=
  kinds (P := fun k => 1 ≤ k ∧ k ≤ 16 → 1 ≤ (seps k).length ∧ (seps k).length ≤ 5 ∧ (3 ≤ k → (arity k : Int) + 1 = (seps k).length)) (by decide +kernel) (fun k h g => absurd g h) k h
def midB (k : Int) : Bool := (List.range 5).all fun i => i == 0 || decide ((seps k).length ≤ i) || (((seps k).getD i []).isEmpty && i + 1 == (seps k).length) || (((seps k).getD i []).length == 1 && (decide (((seps k).getD i []).getD 0 0 < 48) || decide (57 < ((seps k).getD i []).getD 0 0)))
theorem seps_mid (k : Int) (i : Nat) (h5 : i < 5) (h1 : 1 ≤ i) (hl : i < (seps k).length) : (((seps k).getD i []) = [] ∧ i + 1 = (seps k).length) ∨ (((seps k).getD i []).length = 1 ∧ (((seps k).getD i []).getD 0 0 < 48 ∨ 57 < ((seps k).getD i []).getD 0 0)) := by
  have := kinds (P := fun k => 1 ≤ (seps k).length → midB k = true) (by decide +kernel) (fun k h g => by rw [seps_none h] at g; simp at g) k (by omega)
  have := List.all_eq_true.1 this i (List.mem_range.2 h5)
  simp only [Bool.or_eq_true, Bool.and_eq_true, beq_iff_eq, decide_eq_true_eq, List.isEmpty_iff] at this
  rcases this with ((h | h) | h) | h
  · omega
  · omega
  · exact .inl h
  · exact .inr h
theorem text_eq {u : T} (h : 3 ≤ u.k) : u.text = (seps u.k).getD 0 [] ++ textL ((seps u.k).drop 1) u.kids := by
  cases u with
  | mk k n ts =>
    have h : 3 ≤ k := h
    show (if k = 1 then _ else if k = 2 then _ else _) = _
    rw [if_neg (by omega), if_neg (by omega)]
    show _ = (seps k).getD 0 [] ++ textL ((seps k).drop 1) ts
    cases seps k <;> rfl
theorem pre_true (p x : List UInt8) : Lib.hasPrefix (p ++ x) p = true := by
  unfold Lib.hasPrefix; exact List.isPrefixOf_iff_prefix.2 ⟨x, rfl⟩
theorem pre_trim (p x : List UInt8) : Lib.trimPrefix (p ++ x) p = x := by
  unfold Lib.trimPrefix; rw [pre_true, if_pos rfl, List.drop_append_of_le_length (Nat.le_refl _), List.drop_length, List.nil_append]
theorem trim_le (s p : List UInt8) : (Lib.trimPrefix s p).length ≤ s.length := by
  unfold Lib.trimPrefix; split
  · rw [List.length_drop]; omega
  · exact Nat.le_refl _
theorem trim_lt {s p : List UInt8} (h : Lib.hasPrefix s p = true) : (Lib.trimPrefix s p).length + p.length = s.length := by
  unfold Lib.trimPrefix; rw [if_pos h, List.length_drop]
  obtain ⟨x, rfl⟩ := List.isPrefixOf_iff_prefix.1 h
  rw [List.length_append]; omega
theorem seps_three {k j : Int} (h : k = j ∨ k = 3 ∧ (j = 5 ∨ j = 13)) : (seps k).getD 0 [] = (seps j).getD 0 [] ∧ (seps k).length = (seps j).length := by
  rcases h with rfl | ⟨rfl, rfl | rfl⟩
  · exact ⟨rfl, rfl⟩
  · exact ⟨rfl, rfl⟩
  · exact ⟨rfl, rfl⟩
theorem rd_start {s : List UInt8} {d k : Int} {ps : List (List UInt8)} (hk : KAt s k) (h3 : 3 ≤ k ∧ k ≤ 16) (hps : ps = seps k) : RdInv s d k [] ps (Lib.trimPrefix s (ps.getD 0 [])) (Lib.hasPrefix s (ps.getD 0 [])) 1 :=
  { i1 := Nat.le_refl 1
    i5 := by omega
    k3 := h3
    ps := hps
    len := rfl
    sz := by have := trim_le s (ps.getD 0 []); simp only [sizeL]; omega
    szb := fun h => by
      have := trim_lt h
      rw [hps] at this ⊢
      rcases seps_p0 k with h0 | h0
      · simp only [sizeL]; omega
      · have := (seps_pos (k := k) ⟨by omega, h3.2⟩).1
        rw [h0] at this; simp at this
    ne := by rcases hk with ⟨_, h⟩ | ⟨h, _⟩ <;> first | exact h | omega
    go := fun u r hu hr h => by
      have hf := kAt_fact hk hu h
      obtain ⟨u1, u2, u3, u4, u5, _⟩ := shp_k hu
      have hu3 : 3 ≤ u.k := by omega
      have e := (seps_three hf).1
      rw [text_eq hu3, List.append_assoc, ← e, ← hps] at h
      subst h
      rw [pre_true, pre_trim]
      exact ⟨rfl, rfl, by omega, u5 hu3, rfl⟩ }
/-- What comes next, wherever there is a term's text. -/
theorem rd_next {s : List UInt8} {d k : Int} {ts : List T} {ps : List (List UInt8)} {rest : List UInt8} {b : Bool} {i : Nat} (I : RdInv s d k ts ps rest b i) (hi : i < ps.length) {u : T} {r : List UInt8} (hu : u.shp d = true) (hr : nd r) (h : s = u.text ++ r) :
    ∃ v x, v.shp (d - 1) = true ∧ rest = v.text ++ ((seps u.k).getD i [] ++ x) ∧ nd ((seps u.k).getD i [] ++ x) ∧ u.kids.take i = ts ++ [v] ∧ x = textL ((seps u.k).drop (i + 1)) (u.kids.drop i) ++ r ∧ 3 ≤ u.k ∧ i < (seps u.k).length := by
  obtain ⟨_, g2, g3, g4, g5⟩ := I.go u r hu hr h
  obtain ⟨u1, u2, u3, u4, u5, _⟩ := shp_k hu
  have i1 := I.i1
  have k3 := I.k3
  have i5 := I.i5
  have hu3 : 3 ≤ u.k := by omega
  have hl : i < (seps u.k).length := by
    rw [← (seps_three (k := k) (j := u.k) (by omega)).2, ← I.ps]; exact hi
  obtain ⟨_, p2, p3⟩ := seps_pos (k := u.k) ⟨u1, u2⟩
  have hkl : i - 1 < u.kids.length := by have := p3 hu3; omega
  have e1 : i - 1 + 1 = i := by omega
  have d1 : u.kids.drop (i - 1) = u.kids.getD (i - 1) default :: u.kids.drop i := by rw [drop_getD hkl, e1]
  have d2 : (seps u.k).drop i = (seps u.k).getD i [] :: (seps u.k).drop (i + 1) := drop_getD hl
  refine ⟨u.kids.getD (i - 1) default, textL ((seps u.k).drop (i + 1)) (u.kids.drop i) ++ r, shpL_mem u4 (getD_mem hkl), ?_, ?_, ?_, rfl, hu3, hl⟩
  · rw [g5, d1, d2]
    show (_ ++ (_ ++ _)) ++ _ = _
    simp only [List.append_assoc]
  · rcases seps_mid u.k i (by omega) i1 hl with ⟨m1, m2⟩ | ⟨m1, m2⟩
    · rw [m1, List.nil_append, List.drop_eq_nil_of_le (by omega)]
      have : ∀ ts : List T, textL [] ts = [] := fun ts => by cases ts <;> rfl
      rw [this]; exact hr
    · match hp : (seps u.k).getD i [], m1, m2 with
      | [c], _, m2 => exact nd_cons m2
  · have := take_succ_getD hkl
    rw [e1] at this
    rw [this, g2]
theorem rd_step {s : List UInt8} {d k k2 : Int} {ts : List T} {ps ps2 : List (List UInt8)} {rest behind : List UInt8} {b : Bool} {i : Nat} {t : T} (I : RdInv s d k ts ps rest b i) (hb : b = true) (hi : i < ps.length) (hi2 : i < ps2.length)
    (hf : fndR rest (d - 1) t behind true) (hz : t.size + behind.length ≤ rest.length) (hk2 : 3 ≤ k2 ∧ k2 ≤ 16) (hps : ps2 = seps k2)
    (hkk : ∀ (u : T) (r x : List UInt8), u.shp d = true → nd r → s = u.text ++ r → (k = u.k ∨ i = 1 ∧ k = 3 ∧ (u.k = 5 ∨ u.k = 13)) → 3 ≤ u.k → behind = (seps u.k).getD i [] ++ x → k2 = u.k) :
    RdInv s d k2 (ts ++ [t]) ps2 (Lib.trimPrefix behind (ps2.getD i [])) (Lib.hasPrefix behind (ps2.getD i [])) (i + 1) :=
  have app : sizeL (ts ++ [t]) = sizeL ts + t.size := by
    clear I hkk
    induction ts with
    | nil => simp only [List.nil_append, sizeL]; omega
    | cons u us ih => simp only [List.cons_append, sizeL, ih]; omega
  have hsz : sizeL (ts ++ [t]) + (Lib.trimPrefix behind (ps2.getD i [])).length + 1 ≤ s.length := by
    have := I.szb hb
    have := trim_le behind (ps2.getD i [])
    omega
  { i1 := by omega
    i5 := by have := (seps_pos (k := k2) ⟨by omega, hk2.2⟩).2.1; rw [← hps] at this; omega
    k3 := hk2
    ps := hps
    len := by have := I.len; have := I.i1; rw [List.length_append]; simp; omega
    sz := by omega
    szb := fun _ => hsz
    ne := I.ne
    go := fun u r hu hr h => by
      obtain ⟨v, x, v1, v2, v3, v4, v5, v6, v7⟩ := rd_next I hi hu hr h
      obtain ⟨w1, w2, _⟩ := hf v _ v1 v3 v2
      obtain ⟨_, _, g3, g4, _⟩ := I.go u r hu hr h
      have e := hkk u r x hu hr h g3 v6 w2
      have e2 : ps2.getD i [] = (seps u.k).getD i [] := by rw [hps, e]
      rw [e2, w2, pre_true, pre_trim]
      exact ⟨rfl, by rw [w1]; exact v4.symm, .inl e, g4, v5⟩ }
theorem rd_bad {s : List UInt8} {d k : Int} {ts : List T} {ps : List (List UInt8)} {rest behind : List UInt8} {b : Bool} {i : Nat} {t : T} (I : RdInv s d k ts ps rest b i) (hi : i < ps.length) (hf : fndR rest (d - 1) t behind false) {t' : T} {rest' : List UInt8} {b' : Bool} : fndR s d t' rest' b' := fun u r hu hr h => by
  obtain ⟨v, x, v1, v2, v3, _⟩ := rd_next I hi hu hr h
  exact absurd (hf v _ v1 v3 v2).2.2 (by decide)
theorem rd_end {s : List UInt8} {d k : Int} {ts : List T} {ps : List (List UInt8)} {rest : List UInt8} {b : Bool} {i : Nat} (I : RdInv s d k ts ps rest b i) (h : ¬ i < ps.length ∨ b = false) : fndR s d (.mk k 0 ts) rest b := fun u r hu hr hs => by
  obtain ⟨g1, g2, g3, g4, g5⟩ := I.go u r hu hr hs
  obtain ⟨u1, u2, u3, u4, u5, _⟩ := shp_k hu
  have hi : ¬ i < ps.length := by
    rcases h with h | h
    · exact h
    · rw [h] at g1; cases g1
  have k3 := I.k3
  have hu3 : 3 ≤ u.k := by omega
  have hl := (seps_three (k := k) (j := u.k) (by omega)).2
  rw [I.ps, hl] at hi
  obtain ⟨_, p2, p3⟩ := seps_pos (k := u.k) ⟨u1, u2⟩
  have p3 := p3 hu3
  have hk : k = u.k := by
    rcases g3 with e | ⟨e1, e2, e3 | e3⟩
    · exact e
    · rw [e3] at hi; exact absurd (show i < (seps 5).length by rw [e1]; decide) hi
    · rw [e3] at hi; exact absurd (show i < (seps 13).length by rw [e1]; decide) hi
  have : ∀ ts : List T, textL [] ts = [] := fun ts => by cases ts <;> rfl
  rw [List.drop_eq_nil_of_le (by omega), this, List.nil_append] at g5
  rw [List.take_of_length_le (by omega)] at g2
  refine ⟨?_, g5, g1⟩
  rw [← T.eta u, ← hk, g4, ← g2]
/-- What a reader of a whole text answers: the program's. -/
theorem fndR_whole {s rest : List UInt8} {t : T} {b : Bool} (h : fndR s 30 t rest b) {u : T} (hu : u.valid = true) (he : u.text = s) : t = u ∧ rest = [] ∧ b = true := h u [] (T.valid_shp hu) nd_nil (by rw [List.append_nil, he])
end Go.Dk
