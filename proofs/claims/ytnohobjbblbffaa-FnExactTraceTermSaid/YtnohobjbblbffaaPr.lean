/- Parallel reduction of trees: substitution, confluence, free variables. -/
import Derived.Test.YtnohobjbblbffaaRd2
set_option linter.unusedSimpArgs false
namespace Go.Dk
set_option linter.unusedVariables false
/-- A family of substitutions, below binders. -/
def Fm (σ : Int → T) (b n : Int) : T := if n < b then vr n else (σ (n - b)).mv (shf b 0) 0
theorem Fm_lo {σ : Int → T} {b n : Int} (h : n < b) : Fm σ b n = vr n := if_pos h
theorem Fm_hi {σ : Int → T} {b n : Int} (h : ¬ n < b) : Fm σ b n = (σ (n - b)).mv (shf b 0) 0 := if_neg h
mutual
theorem T.vs_ge : ∀ (t : T) (b : Int), ∀ p ∈ t.vs b, b ≤ p.1
  | .mk k n ts, b, p, hp => by
    by_cases hk : k = 1
    · subst hk; rw [T.vs_var] at hp; simp at hp; subst hp; exact Int.le_refl _
    · rw [T.vs_node hk] at hp; exact vsL_ge ts b k 0 p hp
theorem vsL_ge : ∀ (ts : List T) (b k : Int) (i : Nat), ∀ p ∈ vsL b k i ts, b ≤ p.1
  | [], _, _, _, p, hp => by simp [vsL] at hp
  | t :: ts, b, k, i, p, hp => by
    simp only [vsL, List.mem_append] at hp
    have hu := und_range k i
    rcases hp with hp | hp
    · have := T.vs_ge t _ p hp; omega
    · exact vsL_ge ts b k (i + 1) p hp
end
theorem sh_sh0 (v : T) (a b : Int) (ha : 0 ≤ a) : (v.mv (shf a 0) 0).mv (shf b 0) 0 = v.mv (shf (a + b) 0) 0 := by
  have := T.mv_mv (f := shf a 0) (g := shf b 0) (h := shf (a + b) 0) (u := 0) v 0 fun q _ => by
    rw [shf_eq, mv_vr, shf_eq, shf_eq]
    congr 1
    (repeat' split) <;> omega
  rwa [Int.add_zero] at this
theorem Fm_up (σ : Int → T) {e b n : Int} (he : 0 ≤ e) (hb : 0 ≤ b) : Fm (Fm σ b) e n = Fm σ (e + b) n := by
  by_cases h1 : n < e
  · rw [Fm_lo h1, Fm_lo (by omega)]
  · rw [Fm_hi h1]
    by_cases h2 : n - e < b
    · rw [Fm_lo h2, Fm_lo (by omega), mv_vr, shf_eq, if_pos (by omega)]; congr 1; omega
    · rw [Fm_hi h2, Fm_hi (by omega), sh_sh0 _ _ _ hb, show b + e = e + b by omega, show n - e - b = n - (e + b) by omega]
theorem Fm_sh (u : T) (σ : Int → T) (e x : Int) (he : 0 ≤ e) (hx : 0 ≤ x) : (u.mv (shf e 0) x).mv (Fm σ) (x + e) = (u.mv (Fm σ) x).mv (shf e 0) x := by
  have h1 : (u.mv (shf e 0) x).mv (Fm σ) (x + e) = u.mv (fun d n => (Fm σ d n).mv (shf e 0) d) x :=
    T.mv_mv u x fun p hp => by
      have hp0 := T.vs_ge u x p hp
      rw [shf_eq, mv_vr]
      by_cases h : p.2 < p.1
      · rw [if_neg (by omega), Fm_lo (by omega), Fm_lo h, mv_vr, shf_eq, if_neg (by omega)]
      · rw [if_pos (by omega), Fm_hi (by omega), Fm_hi h]
        have := sh_sh (σ (p.2 - p.1)) p.1 e 0 (by omega)
        rw [Int.zero_add] at this
        rw [this, show p.2 + e - (p.1 + e) = p.2 - p.1 by omega]
  have h2 : (u.mv (Fm σ) x).mv (shf e 0) (x + 0) = u.mv (fun d n => (Fm σ d n).mv (shf e 0) d) x :=
    T.mv_mv u x fun p _ => by rw [Int.add_zero]
  rw [Int.add_zero] at h2
  rw [h1, h2]
theorem Fm_sb0 (t u : T) (σ : Int → T) : (t.mv (sbf 0 u) 0).mv (Fm σ) 0 = (t.mv (Fm σ) 1).mv (sbf 0 (u.mv (Fm σ) 0)) 0 := by
  have h0 : t.mv (fun e n => Fm σ (e + 1) n) 0 = t.mv (Fm σ) (0 + 1) := T.mv_eq t 0 fun p _ => rfl
  rw [Int.zero_add] at h0
  rw [← h0]
  have h1 : (t.mv (sbf 0 u) 0).mv (Fm σ) (0 + 0) = t.mv (fun e n => (Fm σ (e + 1) n).mv (sbf 0 (u.mv (Fm σ) 0)) e) 0 :=
    T.mv_mv t 0 fun p hp => by
      have hp0 := T.vs_ge t 0 p hp
      rw [Int.add_zero]
      unfold sbf
      by_cases h : p.2 = p.1
      · rw [if_pos (c := p.2 = 0 + p.1) (by omega), Fm_lo (by omega), mv_vr, if_pos (c := p.2 = 0 + p.1) (by omega)]
        have := Fm_sh u σ p.1 0 hp0 (Int.le_refl 0)
        rwa [Int.zero_add] at this
      · rw [if_neg (c := p.2 = 0 + p.1) (by omega)]
        by_cases h2 : p.1 < p.2
        · rw [if_pos (c := 0 + p.1 < p.2) (by omega), mv_vr, Fm_hi (b := p.1) (by omega), Fm_hi (b := p.1 + 1) (by omega)]
          have := sb_sh (σ (p.2 - (p.1 + 1))) (u.mv (Fm σ) 0) p.1 0 hp0
          rw [Int.zero_add] at this
          rw [show p.1 + 1 = 1 + p.1 by omega] at this ⊢
          unfold sbf at this
          rw [this, show p.2 - 1 - p.1 = p.2 - (1 + p.1) by omega]
        · rw [if_neg (c := 0 + p.1 < p.2) (by omega), mv_vr, Fm_lo (by omega), Fm_lo (by omega), mv_vr, if_neg (c := p.2 = 0 + p.1) (by omega), if_neg (c := 0 + p.1 < p.2) (by omega)]
  have h2 : (t.mv (fun e n => Fm σ (e + 1) n) 0).mv (sbf 0 (u.mv (Fm σ) 0)) (0 + 0) = t.mv (fun e n => (Fm σ (e + 1) n).mv (sbf 0 (u.mv (Fm σ) 0)) e) 0 :=
    T.mv_mv t 0 fun p _ => by rw [Int.add_zero]
  rw [Int.add_zero] at h1 h2
  rw [h1, h2]
theorem mv_up (t : T) (σ : Int → T) {b c : Int} (hb : 0 ≤ b) (hc : 0 ≤ c) : t.mv (Fm (Fm σ b)) c = t.mv (Fm σ) (c + b) :=
  T.mv_eq t c fun p hp => Fm_up σ (by have := T.vs_ge t c p hp; omega) hb
theorem Fm_sb (t u : T) (σ : Int → T) {b : Int} (hb : 0 ≤ b) : (t.mv (sbf 0 u) 0).mv (Fm σ) b = (t.mv (Fm σ) (b + 1)).mv (sbf 0 (u.mv (Fm σ) b)) 0 := by
  have h1 := mv_up (t.mv (sbf 0 u) 0) σ hb (Int.le_refl 0)
  have h2 := mv_up t σ hb (show (0 : Int) ≤ 1 by omega)
  have h3 := mv_up u σ hb (Int.le_refl 0)
  rw [Int.zero_add] at h1 h3
  rw [show b + 1 = 1 + b by omega, ← h1, ← h2, ← h3]
  exact Fm_sb0 t u (Fm σ b)
theorem und_z {k i : Int} (h : k ≠ 3 ∧ k ≠ 4 ∧ k ≠ 13) : und k i = 0 := if_neg (by omega)
/-- A redex, its rule, its parts. -/
def Rt (k : Int) (l : List T) (r : Int) (ps : List T) : Prop :=
  (k = 5 ∧ r = 1 ∧ ∃ m A b u, l = [.mk 4 m [A, b], u] ∧ ps = [b, u]) ∨
  (k = 9 ∧ r = 2 ∧ ∃ p z s m, l = [p, z, s, .mk 7 m []] ∧ ps = [z]) ∨
  (k = 9 ∧ r = 3 ∧ ∃ p z s m a, l = [p, z, s, .mk 8 m [a]] ∧ ps = [p, z, s, a]) ∨
  (k = 12 ∧ r = 4 ∧ ∃ x m y c, l = [x, .mk 11 m [y], c] ∧ ps = [c]) ∨
  (k = 15 ∧ r = 5 ∧ ∃ m A a b, l = [.mk 14 m [A, a, b]] ∧ ps = [a]) ∨
  (k = 16 ∧ r = 6 ∧ ∃ m A a b, l = [.mk 14 m [A, a, b]] ∧ ps = [b])
/-- What the parts are put together to. -/
def con (r : Int) (ps : List T) : T :=
  if r = 1 then (ps.getD 0 default).mv (sbf 0 (ps.getD 1 default)) 0
  else if r = 3 then .mk 5 0 [.mk 5 0 [ps.getD 2 default, ps.getD 3 default], .mk 9 0 [ps.getD 0 default, ps.getD 1 default, ps.getD 2 default, ps.getD 3 default]]
  else ps.getD 0 default
theorem con1 (b u : T) : con 1 [b, u] = b.mv (sbf 0 u) 0 := rfl
theorem con3 (p z s a : T) : con 3 [p, z, s, a] = .mk 5 0 [.mk 5 0 [s, a], .mk 9 0 [p, z, s, a]] := rfl
theorem con2 (z : T) : con 2 [z] = z := rfl
theorem con4 (z : T) : con 4 [z] = z := rfl
theorem con5 (z : T) : con 5 [z] = z := rfl
theorem con6 (z : T) : con 6 [z] = z := rfl
/-- Redexes are contracted side by side. -/
inductive PL : List T → List T → Prop
  | nil : PL [] []
  | node {k n : Int} {ts us rs ss : List T} : PL ts us → PL rs ss → PL (.mk k n ts :: rs) (.mk k n us :: ss)
  | red {k n r : Int} {l ps qs rs ss : List T} : Rt k l r ps → PL ps qs → PL rs ss → PL (.mk k n l :: rs) (con r qs :: ss)
theorem PL.refl : ∀ ts : List T, PL ts ts
  | [] => .nil
  | .mk k n us :: ts => .node (PL.refl us) (PL.refl ts)
termination_by ts => sizeL ts
decreasing_by all_goals (simp only [sizeL, T.size]; omega)
theorem PL.len {ts us : List T} (h : PL ts us) : ts.length = us.length := by
  induction h with
  | nil => rfl
  | node _ _ _ ih => simp [ih]
  | red _ _ _ _ ih => simp [ih]
theorem PL.cons {t u : T} {ts us : List T} (h : PL [t] [u]) (h2 : PL ts us) : PL (t :: ts) (u :: us) := by
  cases h with
  | node h1 _ => exact .node h1 h2
  | red hr h1 _ => exact .red hr h1 h2
theorem PL.unc {t : T} {ts us : List T} (h : PL (t :: ts) us) : ∃ u us', us = u :: us' ∧ PL [t] [u] ∧ PL ts us' := by
  cases h with
  | node h1 h0 => exact ⟨_, _, rfl, .node h1 .nil, h0⟩
  | red hr h1 h0 => exact ⟨_, _, rfl, .red hr h1 .nil, h0⟩
theorem PL.inv0 {us : List T} (h : PL [] us) : us = [] := by cases h; rfl
theorem PL.inv1 {a : T} {us : List T} (h : PL [a] us) : ∃ a', us = [a'] ∧ PL [a] [a'] := by
  obtain ⟨u, us', rfl, h1, h2⟩ := h.unc
  rw [h2.inv0]; exact ⟨_, rfl, h1⟩
theorem PL.inv2 {a b : T} {us : List T} (h : PL [a, b] us) : ∃ a' b', us = [a', b'] ∧ PL [a] [a'] ∧ PL [b] [b'] := by
  obtain ⟨u, us', rfl, h1, h2⟩ := h.unc
  obtain ⟨b', rfl, h3⟩ := h2.inv1
  exact ⟨_, _, rfl, h1, h3⟩
theorem PL.inv3 {a b c : T} {us : List T} (h : PL [a, b, c] us) : ∃ a' b' c', us = [a', b', c'] ∧ PL [a] [a'] ∧ PL [b] [b'] ∧ PL [c] [c'] := by
  obtain ⟨u, us', rfl, h1, h2⟩ := h.unc
  obtain ⟨b', c', rfl, h3, h4⟩ := h2.inv2
  exact ⟨_, _, _, rfl, h1, h3, h4⟩
theorem PL.inv4 {a b c d : T} {us : List T} (h : PL [a, b, c, d] us) : ∃ a' b' c' d', us = [a', b', c', d'] ∧ PL [a] [a'] ∧ PL [b] [b'] ∧ PL [c] [c'] ∧ PL [d] [d'] := by
  obtain ⟨u, us', rfl, h1, h2⟩ := h.unc
  obtain ⟨b', c', d', rfl, h3, h4, h5⟩ := h2.inv3
  exact ⟨_, _, _, _, rfl, h1, h3, h4, h5⟩
theorem Rt_kind {k r : Int} {l ps : List T} (h : Rt k l r ps) : k = 5 ∨ k = 9 ∨ k = 12 ∨ k = 15 ∨ k = 16 := by
  rcases h with ⟨h, _⟩ | ⟨h, _⟩ | ⟨h, _⟩ | ⟨h, _⟩ | ⟨h, _⟩ | ⟨h, _⟩ <;> omega
theorem PL.nd {k n : Int} {l us : List T} (h : PL [.mk k n l] us) (hk : ¬ (k = 5 ∨ k = 9 ∨ k = 12 ∨ k = 15 ∨ k = 16)) : ∃ l', us = [.mk k n l'] ∧ PL l l' := by
  cases h with
  | node h1 h0 => cases h0; exact ⟨_, rfl, h1⟩
  | red hr _ _ => exact absurd (Rt_kind hr) hk
theorem Rt_PL {k r : Int} {l l' ps : List T} (h : Rt k l r ps) (hl : PL l l') : ∃ qs, Rt k l' r qs ∧ PL ps qs := by
  rcases h with ⟨rfl, rfl, m, A, b, u, rfl, rfl⟩ | ⟨rfl, rfl, p, z, s, m, rfl, rfl⟩ | ⟨rfl, rfl, p, z, s, m, a, rfl, rfl⟩ | ⟨rfl, rfl, x, m, y, c, rfl, rfl⟩ | ⟨rfl, rfl, m, A, a, b, rfl, rfl⟩ | ⟨rfl, rfl, m, A, a, b, rfl, rfl⟩
  · obtain ⟨f, u', rfl, hf, hu⟩ := hl.inv2
    obtain ⟨ll, e, hm⟩ := hf.nd (by decide)
    cases e
    obtain ⟨A', b', rfl, hA, hb⟩ := hm.inv2
    exact ⟨[b', u'], .inl ⟨rfl, rfl, m, A', b', u', rfl, rfl⟩, hb.cons hu⟩
  · obtain ⟨p', z', s', f, rfl, hp, hz, hs, hf⟩ := hl.inv4
    obtain ⟨ll, e, hm⟩ := hf.nd (by decide)
    cases e
    rw [hm.inv0]
    exact ⟨[z'], .inr (.inl ⟨rfl, rfl, p', z', s', m, rfl, rfl⟩), hz⟩
  · obtain ⟨p', z', s', f, rfl, hp, hz, hs, hf⟩ := hl.inv4
    obtain ⟨ll, e, hm⟩ := hf.nd (by decide)
    cases e
    obtain ⟨a', rfl, ha⟩ := hm.inv1
    exact ⟨[p', z', s', a'], .inr (.inr (.inl ⟨rfl, rfl, p', z', s', m, a', rfl, rfl⟩)), hp.cons (hz.cons (hs.cons ha))⟩
  · obtain ⟨x', f, c', rfl, hx, hf, hc⟩ := hl.inv3
    obtain ⟨ll, e, hm⟩ := hf.nd (by decide)
    cases e
    obtain ⟨y', rfl, hy⟩ := hm.inv1
    exact ⟨[c'], .inr (.inr (.inr (.inl ⟨rfl, rfl, x', m, y', c', rfl, rfl⟩))), hc⟩
  · obtain ⟨f, rfl, hf⟩ := hl.inv1
    obtain ⟨ll, e, hm⟩ := hf.nd (by decide)
    cases e
    obtain ⟨A', a', b', rfl, hA, ha, hb⟩ := hm.inv3
    exact ⟨[a'], .inr (.inr (.inr (.inr (.inl ⟨rfl, rfl, m, A', a', b', rfl, rfl⟩)))), ha⟩
  · obtain ⟨f, rfl, hf⟩ := hl.inv1
    obtain ⟨ll, e, hm⟩ := hf.nd (by decide)
    cases e
    obtain ⟨A', a', b', rfl, hA, ha, hb⟩ := hm.inv3
    exact ⟨[b'], .inr (.inr (.inr (.inr (.inr ⟨rfl, rfl, m, A', a', b', rfl, rfl⟩)))), hb⟩
theorem Rt_size {k r : Int} {l ps : List T} (h : Rt k l r ps) : sizeL ps ≤ sizeL l := by
  rcases h with ⟨rfl, rfl, m, A, b, u, rfl, rfl⟩ | ⟨rfl, rfl, p, z, s, m, rfl, rfl⟩ | ⟨rfl, rfl, p, z, s, m, a, rfl, rfl⟩ | ⟨rfl, rfl, x, m, y, c, rfl, rfl⟩ | ⟨rfl, rfl, m, A, a, b, rfl, rfl⟩ | ⟨rfl, rfl, m, A, a, b, rfl, rfl⟩
  all_goals (simp only [sizeL, T.size]; omega)
theorem Rt_det {k r r' : Int} {l ps ps' : List T} (h : Rt k l r ps) (h' : Rt k l r' ps') : r = r' ∧ ps = ps' := by
  rcases h with ⟨rfl, rfl, m, A, b, u, rfl, rfl⟩ | ⟨rfl, rfl, p, z, s, m, rfl, rfl⟩ | ⟨rfl, rfl, p, z, s, m, a, rfl, rfl⟩ | ⟨rfl, rfl, x, m, y, c, rfl, rfl⟩ | ⟨rfl, rfl, m, A, a, b, rfl, rfl⟩ | ⟨rfl, rfl, m, A, a, b, rfl, rfl⟩
  all_goals
    rcases h' with ⟨hk, rfl, m', A', b', u', e, rfl⟩ | ⟨hk, rfl, p', z', s', m', e, rfl⟩ | ⟨hk, rfl, p', z', s', m', a', e, rfl⟩ | ⟨hk, rfl, x', m', y', c', e, rfl⟩ | ⟨hk, rfl, m', A', a', b', e, rfl⟩ | ⟨hk, rfl, m', A', a', b', e, rfl⟩
    all_goals first
      | (exfalso; revert hk; decide)
      | (simp only [List.cons.injEq, T.mk.injEq] at e; simp_all; done)
      | (exfalso; simp at e)
theorem Rt_rdx {k r : Int} {l ps : List T} (h : Rt k l r ps) (n : Int) : (T.mk k n l).rdx = r ∧ r ≠ 0 := by
  rcases h with ⟨rfl, rfl, m, A, b, u, rfl, rfl⟩ | ⟨rfl, rfl, p, z, s, m, rfl, rfl⟩ | ⟨rfl, rfl, p, z, s, m, a, rfl, rfl⟩ | ⟨rfl, rfl, x, m, y, c, rfl, rfl⟩ | ⟨rfl, rfl, m, A, a, b, rfl, rfl⟩ | ⟨rfl, rfl, m, A, a, b, rfl, rfl⟩
  all_goals exact ⟨rfl, by decide⟩
/-- Below which binders the parts stand: a rule's kind and first operand. -/
def ofk (r : Int) : Int := if r = 1 then 4 else 0
def ofi (r : Int) : Nat := if r = 1 then 1 else 0
theorem und0 (i : Int) : und 0 i = 0 := und_z (by omega)
theorem Rt_mv {k r : Int} {l ps : List T} (f : Int → Int → T) (B : Int) (h : Rt k l r ps) : Rt k (mvL f B k 0 l) r (mvL f B (ofk r) (ofi r) ps) := by
  have u1 : und 4 ((1 : Nat) : Int) = 1 := by decide
  have u2 : und 4 ((1 + 1 : Nat) : Int) = 0 := by decide
  have u3 : und 4 ((0 + 1 : Nat) : Int) = 1 := by decide
  have u4 : und 4 ((0 : Nat) : Int) = 0 := by decide
  rcases h with ⟨rfl, rfl, m, A, b, u, rfl, rfl⟩ | ⟨rfl, rfl, p, z, s, m, rfl, rfl⟩ | ⟨rfl, rfl, p, z, s, m, a, rfl, rfl⟩ | ⟨rfl, rfl, x, m, y, c, rfl, rfl⟩ | ⟨rfl, rfl, m, A, a, b, rfl, rfl⟩ | ⟨rfl, rfl, m, A, a, b, rfl, rfl⟩
  · refine .inl ⟨rfl, rfl, m, A.mv f B, b.mv f (B + 1), u.mv f B, ?_, ?_⟩
    · simp only [mvL, T.mv_node (show (4 : Int) ≠ 1 by decide), und_z (k := 5) (by decide), u3, u4, Int.add_zero]
    · simp only [mvL, ofk, ofi, if_pos, u1, u2, Int.add_zero]
  · refine .inr (.inl ⟨rfl, rfl, p.mv f B, z.mv f B, s.mv f B, m, ?_, ?_⟩)
    · simp only [mvL, T.mv_node (show (7 : Int) ≠ 1 by decide), und_z (k := 9) (by decide), Int.add_zero]
    · simp only [mvL, ofk, ofi, if_neg (show ¬ (2 : Int) = 1 by decide), und0, Int.add_zero]
  · refine .inr (.inr (.inl ⟨rfl, rfl, p.mv f B, z.mv f B, s.mv f B, m, a.mv f B, ?_, ?_⟩))
    · simp only [mvL, T.mv_node (show (8 : Int) ≠ 1 by decide), und_z (k := 9) (by decide), und_z (k := 8) (by decide), Int.add_zero]
    · simp only [mvL, ofk, ofi, if_neg (show ¬ (3 : Int) = 1 by decide), und0, Int.add_zero]
  · refine .inr (.inr (.inr (.inl ⟨rfl, rfl, x.mv f B, m, y.mv f B, c.mv f B, ?_, ?_⟩)))
    · simp only [mvL, T.mv_node (show (11 : Int) ≠ 1 by decide), und_z (k := 12) (by decide), und_z (k := 11) (by decide), Int.add_zero]
    · simp only [mvL, ofk, ofi, if_neg (show ¬ (4 : Int) = 1 by decide), und0, Int.add_zero]
  · refine .inr (.inr (.inr (.inr (.inl ⟨rfl, rfl, m, A.mv f B, a.mv f B, b.mv f B, ?_, ?_⟩))))
    · simp only [mvL, T.mv_node (show (14 : Int) ≠ 1 by decide), und_z (k := 15) (by decide), und_z (k := 14) (by decide), Int.add_zero]
    · simp only [mvL, ofk, ofi, if_neg (show ¬ (5 : Int) = 1 by decide), und0, Int.add_zero]
  · refine .inr (.inr (.inr (.inr (.inr ⟨rfl, rfl, m, A.mv f B, a.mv f B, b.mv f B, ?_, ?_⟩))))
    · simp only [mvL, T.mv_node (show (14 : Int) ≠ 1 by decide), und_z (k := 16) (by decide), und_z (k := 14) (by decide), Int.add_zero]
    · simp only [mvL, ofk, ofi, if_neg (show ¬ (6 : Int) = 1 by decide), und0, Int.add_zero]
theorem len1 {l : List T} (h : l.length = 1) : ∃ a, l = [a] := by
  match l, h with
  | [a], _ => exact ⟨_, rfl⟩
theorem len2 {l : List T} (h : l.length = 2) : ∃ a b, l = [a, b] := by
  match l, h with
  | [a, b], _ => exact ⟨_, _, rfl⟩
theorem len3 {l : List T} (h : l.length = 3) : ∃ a b c, l = [a, b, c] := by
  match l, h with
  | [a, b, c], _ => exact ⟨_, _, _, rfl⟩
theorem len4 {l : List T} (h : l.length = 4) : ∃ a b c d, l = [a, b, c, d] := by
  match l, h with
  | [a, b, c, d], _ => exact ⟨_, _, _, _, rfl⟩
theorem con_mv {k r : Int} {l ps qs : List T} (τ : Int → T) {b : Int} (hb : 0 ≤ b) (h : Rt k l r ps) (hl : ps.length = qs.length) : con r (mvL (Fm τ) b (ofk r) (ofi r) qs) = (con r qs).mv (Fm τ) b := by
  have u1 : und 4 ((1 : Nat) : Int) = 1 := by decide
  have u2 : und 4 ((1 + 1 : Nat) : Int) = 0 := by decide
  rcases h with ⟨rfl, rfl, m, A, _, u, rfl, rfl⟩ | ⟨rfl, rfl, p, z, s, m, rfl, rfl⟩ | ⟨rfl, rfl, p, z, s, m, a, rfl, rfl⟩ | ⟨rfl, rfl, x, m, y, c, rfl, rfl⟩ | ⟨rfl, rfl, m, A, a, _, rfl, rfl⟩ | ⟨rfl, rfl, m, A, a, _, rfl, rfl⟩
  · obtain ⟨q0, q1, rfl⟩ := len2 hl.symm
    simp only [mvL, ofk, ofi, if_pos, u1, u2, Int.add_zero, con1]
    rw [Fm_sb q0 q1 τ hb]
  · obtain ⟨q0, rfl⟩ := len1 hl.symm
    simp only [mvL, ofk, ofi, if_neg (show ¬ (2 : Int) = 1 by decide), und0, Int.add_zero, con2]
  · obtain ⟨q0, q1, q2, q3, rfl⟩ := len4 hl.symm
    simp only [mvL, ofk, ofi, if_neg (show ¬ (3 : Int) = 1 by decide), und0, Int.add_zero, con3, T.mv_node (show (5 : Int) ≠ 1 by decide), T.mv_node (show (9 : Int) ≠ 1 by decide), und_z (k := 5) (by decide), und_z (k := 9) (by decide)]
  · obtain ⟨q0, rfl⟩ := len1 hl.symm
    simp only [mvL, ofk, ofi, if_neg (show ¬ (4 : Int) = 1 by decide), und0, Int.add_zero, con4]
  · obtain ⟨q0, rfl⟩ := len1 hl.symm
    simp only [mvL, ofk, ofi, if_neg (show ¬ (5 : Int) = 1 by decide), und0, Int.add_zero, con5]
  · obtain ⟨q0, rfl⟩ := len1 hl.symm
    simp only [mvL, ofk, ofi, if_neg (show ¬ (6 : Int) = 1 by decide), und0, Int.add_zero, con6]
/-- Substitution in parallel reductions. -/
theorem PL_mv {ts us : List T} (h : PL ts us) : ∀ (σ τ : Int → T), (∀ b n, 0 ≤ b → PL [Fm σ b n] [Fm τ b n]) → ∀ (b k : Int) (i : Nat), 0 ≤ b → PL (mvL (Fm σ) b k i ts) (mvL (Fm τ) b k i us) := by
  induction h with
  | nil => intros; exact .nil
  | @node k' n ts us rs ss _ _ ih1 ih2 =>
    intro σ τ H b k i hb
    have hu := und_range k i
    simp only [mvL]
    refine PL.cons ?_ (ih2 σ τ H b k (i + 1) hb)
    by_cases hk : k' = 1
    · subst hk; rw [T.mv_var, T.mv_var]; exact H _ _ (by omega)
    · rw [T.mv_node hk, T.mv_node hk]
      exact .node (ih1 σ τ H _ k' 0 (by omega)) .nil
  | @red k' n r l ps qs rs ss hr h1 _ ih1 ih2 =>
    intro σ τ H b k i hb
    have hu := und_range k i
    have hk := Rt_kind hr
    simp only [mvL]
    refine PL.cons ?_ (ih2 σ τ H b k (i + 1) hb)
    rw [T.mv_node (by omega), ← con_mv τ (by omega) hr h1.len]
    exact .red (Rt_mv (Fm σ) _ hr) (ih1 σ τ H _ (ofk r) (ofi r) (by omega)) .nil
theorem PL_mv1 {t u : T} (h : PL [t] [u]) {σ τ : Int → T} (H : ∀ b n, 0 ≤ b → PL [Fm σ b n] [Fm τ b n]) {b : Int} (hb : 0 ≤ b) : PL [t.mv (Fm σ) b] [u.mv (Fm τ) b] := by
  have := PL_mv h σ τ H b 0 0 hb
  simpa only [mvL, und0, Int.add_zero] using this
theorem shf_Fm (t : T) (y : Int) (hy : 0 ≤ y) : t.mv (shf y 0) 0 = t.mv (Fm fun m => vr (if 0 ≤ m then m + y else m)) 0 := by
  have := T.mv_eq (f := shf y 0) (g := Fm fun m => vr (if 0 ≤ m then m + y else m)) (u := 0) t 0 fun p hp => by
    have hp0 := T.vs_ge t 0 p hp
    rw [Int.add_zero, shf_eq]
    by_cases h : p.2 < p.1
    · rw [Fm_lo h, if_neg (by omega)]
    · rw [Fm_hi h, mv_vr, shf_eq, if_pos (by omega), if_pos (by omega), if_pos (by omega)]; congr 1; omega
  rwa [Int.add_zero] at this
/-- Shifted terms. -/
theorem PL_sh {t u : T} (h : PL [t] [u]) {y : Int} (hy : 0 ≤ y) : PL [t.mv (shf y 0) 0] [u.mv (shf y 0) 0] := by
  rw [shf_Fm t y hy, shf_Fm u y hy]
  exact PL_mv1 h (fun b n hb => PL.refl _) (Int.le_refl 0)
def sbσ (j : Int) (u : T) (m : Int) : T := if m = j then u else if j < m then vr (m - 1) else vr m
theorem sbf_Fm (t u : T) {j : Int} (hj : 0 ≤ j) : t.mv (sbf j u) 0 = t.mv (Fm (sbσ j u)) 0 := by
  have := T.mv_eq (f := sbf j u) (g := Fm (sbσ j u)) (u := 0) t 0 fun p hp => by
    have hp0 := T.vs_ge t 0 p hp
    rw [Int.add_zero]
    unfold sbf
    by_cases h : p.2 < p.1
    · rw [Fm_lo h, if_neg (by omega), if_neg (by omega)]
    · rw [Fm_hi h]
      unfold sbσ
      by_cases h1 : p.2 = j + p.1
      · rw [if_pos h1, if_pos (by omega)]
      · rw [if_neg h1, if_neg (c := p.2 - p.1 = j) (by omega)]
        by_cases h2 : j + p.1 < p.2
        · rw [if_pos h2, if_pos (by omega), mv_vr, shf_eq, if_pos (by omega)]; congr 1; omega
        · rw [if_neg h2, if_neg (by omega), mv_vr, shf_eq, if_pos (by omega)]; congr 1; omega
  rwa [Int.add_zero] at this
theorem PL_sb {t t' u u' : T} (h : PL [t] [t']) (hu : PL [u] [u']) {j : Int} (hj : 0 ≤ j) : PL [t.mv (sbf j u) 0] [t'.mv (sbf j u') 0] := by
  rw [sbf_Fm t u hj, sbf_Fm t' u' hj]
  refine PL_mv1 h (fun b n hb => ?_) (Int.le_refl 0)
  by_cases h1 : n < b
  · rw [Fm_lo h1, Fm_lo h1]; exact PL.refl _
  · rw [Fm_hi h1, Fm_hi h1]
    unfold sbσ
    by_cases h2 : n - b = j
    · rw [if_pos h2, if_pos h2]; exact PL_sh hu hb
    · rw [if_neg h2, if_neg h2]; exact PL.refl _
theorem con_mono' {k r : Int} {l ps qs ws : List T} (h : Rt k l r ps) (hq : PL ps qs) (hw : PL qs ws) : PL [con r qs] [con r ws] := by
  have hl := hq.len
  rcases h with ⟨rfl, rfl, m, A, _, u, rfl, rfl⟩ | ⟨rfl, rfl, p, z, s, m, rfl, rfl⟩ | ⟨rfl, rfl, p, z, s, m, a, rfl, rfl⟩ | ⟨rfl, rfl, x, m, y, c, rfl, rfl⟩ | ⟨rfl, rfl, m, A, a, _, rfl, rfl⟩ | ⟨rfl, rfl, m, A, a, _, rfl, rfl⟩
  · obtain ⟨b, u, rfl⟩ := len2 hl.symm
    obtain ⟨b', u', rfl, hb, hu⟩ := hw.inv2
    exact PL_sb hb hu (Int.le_refl 0)
  · obtain ⟨z, rfl⟩ := len1 hl.symm
    obtain ⟨z', rfl, hz⟩ := hw.inv1
    exact hz
  · obtain ⟨p, z, s, a, rfl⟩ := len4 hl.symm
    obtain ⟨p', z', s', a', rfl, hp, hz, hs, ha⟩ := hw.inv4
    rw [con3, con3]
    exact .node (.node (hs.cons ha) (.node (hp.cons (hz.cons (hs.cons ha))) .nil)) .nil
  · obtain ⟨z, rfl⟩ := len1 hl.symm
    obtain ⟨z', rfl, hz⟩ := hw.inv1
    exact hz
  · obtain ⟨z, rfl⟩ := len1 hl.symm
    obtain ⟨z', rfl, hz⟩ := hw.inv1
    exact hz
  · obtain ⟨z, rfl⟩ := len1 hl.symm
    obtain ⟨z', rfl, hz⟩ := hw.inv1
    exact hz
/-- THE DIAMOND. -/
theorem PL_dia : ∀ (N : Nat) {ts us vs : List T}, sizeL ts ≤ N → PL ts us → PL ts vs → ∃ ws, PL us ws ∧ PL vs ws := by
  intro N
  induction N with
  | zero =>
    intro ts us vs hs h1 h2
    cases h1 with
    | nil => cases h2; exact ⟨[], .nil, .nil⟩
    | node => simp only [sizeL, T.size] at hs; omega
    | red => simp only [sizeL, T.size] at hs; omega
  | succ N ih =>
    intro ts us vs hs h1 h2
    cases h1 with
    | nil => cases h2; exact ⟨[], .nil, .nil⟩
    | node a1 a2 =>
      simp only [sizeL, T.size] at hs
      cases h2 with
      | node b1 b2 =>
        obtain ⟨w1, c1, d1⟩ := ih (by omega) a1 b1
        obtain ⟨w2, c2, d2⟩ := ih (by omega) a2 b2
        exact ⟨_, .node c1 c2, .node d1 d2⟩
      | red hr b1 b2 =>
        have hz := Rt_size hr
        obtain ⟨qs, e1, e2⟩ := Rt_PL hr a1
        obtain ⟨w1, c1, d1⟩ := ih (by omega) e2 b1
        obtain ⟨w2, c2, d2⟩ := ih (by omega) a2 b2
        exact ⟨_, .red e1 c1 c2, PL.cons (con_mono' hr b1 d1) d2⟩
    | red hr a1 a2 =>
      simp only [sizeL, T.size] at hs
      have hz := Rt_size hr
      cases h2 with
      | node b1 b2 =>
        obtain ⟨qs, e1, e2⟩ := Rt_PL hr b1
        obtain ⟨w1, c1, d1⟩ := ih (by omega) a1 e2
        obtain ⟨w2, c2, d2⟩ := ih (by omega) a2 b2
        exact ⟨_, PL.cons (con_mono' hr a1 c1) c2, .red e1 d1 d2⟩
      | red hr' b1 b2 =>
        obtain ⟨rfl, rfl⟩ := Rt_det hr hr'
        obtain ⟨w1, c1, d1⟩ := ih (by omega) a1 b1
        obtain ⟨w2, c2, d2⟩ := ih (by omega) a2 b2
        exact ⟨_, PL.cons (con_mono' hr a1 c1) c2, PL.cons (con_mono' hr b1 d1) d2⟩
/-- Reductions. -/
inductive PS : T → T → Prop
  | refl {a : T} : PS a a
  | tail {a b c : T} : PS a b → PL [b] [c] → PS a c
theorem PS.one {a b : T} (h : PL [a] [b]) : PS a b := .tail .refl h
theorem PS.trans {a b c : T} (h1 : PS a b) (h2 : PS b c) : PS a c := by
  induction h2 with
  | refl => exact h1
  | tail _ h ih => exact .tail ih h
theorem PS.strip {a b c : T} (h1 : PL [a] [b]) (h2 : PS a c) : ∃ d, PS b d ∧ PL [c] [d] := by
  induction h2 with
  | refl => exact ⟨b, .refl, h1⟩
  | tail _ h ih =>
    obtain ⟨d, e1, e2⟩ := ih
    obtain ⟨ws, f1, f2⟩ := PL_dia _ (Nat.le_refl _) e2 h
    obtain ⟨w, rfl, f1⟩ := f1.inv1
    exact ⟨w, .tail e1 f1, f2⟩
/-- CONFLUENCE. -/
theorem PS.confl {a b c : T} (h1 : PS a b) (h2 : PS a c) : ∃ d, PS b d ∧ PS c d := by
  induction h1 with
  | refl => exact ⟨c, h2, .refl⟩
  | tail _ h ih =>
    obtain ⟨d, e1, e2⟩ := ih
    obtain ⟨w, f1, f2⟩ := PS.strip h e1
    exact ⟨w, f1, .tail e2 f2⟩
theorem PL_nrm {ts us : List T} (h : PL ts us) : nrmL ts = true → us = ts := by
  induction h with
  | nil => intro _; rfl
  | @node k n ts us rs ss _ _ ih1 ih2 =>
    intro hn
    simp only [nrmL, T.nrm, Bool.and_eq_true] at hn
    rw [ih1 hn.1.1, ih2 hn.2]
  | @red k n r l ps qs rs ss hr _ _ _ _ =>
    intro hn
    simp only [nrmL, T.nrm, Bool.and_eq_true, decide_eq_true_eq] at hn
    have := Rt_rdx hr n
    omega
theorem PS.nrm {a b : T} (h : PS a b) (hn : a.nrm = true) : b = a := by
  induction h with
  | refl => rfl
  | tail _ h ih =>
    rw [ih] at h
    have := PL_nrm h (by simp only [nrmL, hn]; rfl)
    simpa using this
/-- Normal forms are unique. -/
theorem PS.unique {a b c : T} (h1 : PS a b) (h2 : PS a c) (hb : b.nrm = true) (hc : c.nrm = true) : b = c := by
  obtain ⟨d, e1, e2⟩ := PS.confl h1 h2
  rw [← e1.nrm hb, ← e2.nrm hc]
theorem PS.sb {a b : T} (h : PS a b) (u : T) {j : Int} (hj : 0 ≤ j) : PS (a.mv (sbf j u) 0) (b.mv (sbf j u) 0) := by
  induction h with
  | refl => exact .refl
  | tail _ h ih => exact .tail ih (PL_sb h (PL.refl _) hj)
/- Free variables. -/
theorem mfL_le_iff {l : List (Int × Int)} {m : Int} (hm : 0 ≤ m) : mfL l ≤ m ↔ ∀ p ∈ l, p.2 - p.1 < m := by
  constructor
  · intro h p hp
    have := mfL_mem hp
    omega
  · intro h
    by_cases h0 : 0 < mfL l
    · obtain ⟨p, hp, e⟩ := mfL_ex h0
      have := h p hp
      omega
    · omega
theorem vs_sh (u : T) (e B : Int) : (u.mv (shf e 0) 0).vs B = (u.vs 0).map fun p => (p.1 + B, if p.1 ≤ p.2 then p.2 + e else p.2) := by
  have := T.vs_mv (f := shf e 0) (u := B) u 0
  rw [Int.zero_add] at this
  rw [this]
  induction u.vs 0 with
  | nil => rfl
  | cons p l ih => rw [List.flatMap_cons, ih, List.map_cons, shf_eq, vs_vr, Int.zero_add]; rfl
theorem vs0_add (u : T) (B : Int) : u.vs B = (u.vs 0).map fun p => (p.1 + B, p.2) := by
  have := T.vs_add (u := B) u 0
  rwa [Int.zero_add] at this
theorem vs_sb {b u : T} {B m : Int} (hB : 0 ≤ B) (hm : 0 ≤ m) (hb : ∀ p ∈ b.vs (B + 1), p.2 - p.1 < m) (hu : ∀ p ∈ u.vs B, p.2 - p.1 < m) : ∀ p ∈ (b.mv (sbf 0 u) 0).vs B, p.2 - p.1 < m := by
  have h := T.vs_mv (f := sbf 0 u) (u := B) b 0
  rw [Int.zero_add] at h
  rw [h]
  intro p hp
  rw [List.mem_flatMap] at hp
  obtain ⟨q, hq, hp⟩ := hp
  have hq0 := T.vs_ge b 0 q hq
  have hq1 := hb (q.1 + (B + 1), q.2) (by rw [vs0_add b (B + 1)]; exact List.mem_map.2 ⟨q, hq, rfl⟩)
  simp only at hq1
  unfold sbf at hp
  by_cases h1 : q.2 = 0 + q.1
  · rw [if_pos h1, vs_sh] at hp
    obtain ⟨v, hv, rfl⟩ := List.mem_map.1 hp
    have hv1 := hu (v.1 + B, v.2) (by rw [vs0_add u B]; exact List.mem_map.2 ⟨v, hv, rfl⟩)
    simp only at hv1 ⊢
    split <;> omega
  · rw [if_neg h1] at hp
    by_cases h2 : 0 + q.1 < q.2
    · rw [if_pos h2, vs_vr] at hp
      simp at hp; subst hp; simp only; omega
    · rw [if_neg h2, vs_vr] at hp
      simp at hp; subst hp; simp only; omega
theorem vs_con {k r : Int} {l ps qs : List T} {B m : Int} (hB : 0 ≤ B) (hm : 0 ≤ m) (h : Rt k l r ps) (hl : ps.length = qs.length) (hq : ∀ p ∈ vsL B (ofk r) (ofi r) qs, p.2 - p.1 < m) : ∀ p ∈ (con r qs).vs B, p.2 - p.1 < m := by
  have u1 : und 4 ((1 : Nat) : Int) = 1 := by decide
  have u2 : und 4 ((1 + 1 : Nat) : Int) = 0 := by decide
  rcases h with ⟨rfl, rfl, _, A, _, u, rfl, rfl⟩ | ⟨rfl, rfl, p, z, s, _, rfl, rfl⟩ | ⟨rfl, rfl, p, z, s, _, a, rfl, rfl⟩ | ⟨rfl, rfl, x, _, y, c, rfl, rfl⟩ | ⟨rfl, rfl, _, A, a, _, rfl, rfl⟩ | ⟨rfl, rfl, _, A, a, _, rfl, rfl⟩
  · obtain ⟨q0, q1, rfl⟩ := len2 hl.symm
    simp only [vsL, ofk, ofi, if_pos, u1, u2, Int.add_zero, List.append_nil, List.mem_append] at hq
    rw [con1]
    exact vs_sb hB hm (fun p hp => hq p (.inl hp)) (fun p hp => hq p (.inr hp))
  · obtain ⟨q0, rfl⟩ := len1 hl.symm
    simpa only [vsL, ofk, ofi, if_neg (show ¬ (2 : Int) = 1 by decide), und0, Int.add_zero, List.append_nil, con2] using hq
  · obtain ⟨q0, q1, q2, q3, rfl⟩ := len4 hl.symm
    simp only [vsL, ofk, ofi, if_neg (show ¬ (3 : Int) = 1 by decide), und0, Int.add_zero, List.append_nil, List.mem_append] at hq
    rw [con3]
    intro p hp
    simp only [T.vs_node (show (5 : Int) ≠ 1 by decide), T.vs_node (show (9 : Int) ≠ 1 by decide), vsL, und_z (k := 5) (by decide), und_z (k := 9) (by decide), Int.add_zero, List.append_nil, List.mem_append] at hp
    refine hq p ?_
    rcases hp with (hp | hp) | hp
    · exact .inr (.inr (.inl hp))
    · exact .inr (.inr (.inr hp))
    · exact hp
  · obtain ⟨q0, rfl⟩ := len1 hl.symm
    simpa only [vsL, ofk, ofi, if_neg (show ¬ (4 : Int) = 1 by decide), und0, Int.add_zero, List.append_nil, con4] using hq
  · obtain ⟨q0, rfl⟩ := len1 hl.symm
    simpa only [vsL, ofk, ofi, if_neg (show ¬ (5 : Int) = 1 by decide), und0, Int.add_zero, List.append_nil, con5] using hq
  · obtain ⟨q0, rfl⟩ := len1 hl.symm
    simpa only [vsL, ofk, ofi, if_neg (show ¬ (6 : Int) = 1 by decide), und0, Int.add_zero, List.append_nil, con6] using hq
/-- The parts' variables are a redex's. -/
theorem Rt_vs {k r : Int} {l ps : List T} (h : Rt k l r ps) (B : Int) : ∀ p ∈ vsL B (ofk r) (ofi r) ps, p ∈ vsL B k 0 l := by
  have u1 : und 4 ((1 : Nat) : Int) = 1 := by decide
  have u2 : und 4 ((1 + 1 : Nat) : Int) = 0 := by decide
  have u3 : und 4 ((0 + 1 : Nat) : Int) = 1 := by decide
  rcases h with ⟨rfl, rfl, m, A, b, u, rfl, rfl⟩ | ⟨rfl, rfl, p, z, s, m, rfl, rfl⟩ | ⟨rfl, rfl, p, z, s, m, a, rfl, rfl⟩ | ⟨rfl, rfl, x, m, y, c, rfl, rfl⟩ | ⟨rfl, rfl, m, A, a, b, rfl, rfl⟩ | ⟨rfl, rfl, m, A, a, b, rfl, rfl⟩
  · simp only [vsL, ofk, ofi, if_pos, T.vs_node (show (4 : Int) ≠ 1 by decide), und_z (k := 5) (by decide), u1, u2, u3, Int.add_zero, List.append_nil, List.mem_append]
    rintro p (h | h)
    · exact .inl (.inr h)
    · exact .inr h
  · simp only [vsL, ofk, ofi, if_neg (show ¬ (2 : Int) = 1 by decide), und0, und_z (k := 9) (by decide), Int.add_zero, List.append_nil, List.mem_append]
    intro p h; exact .inr (.inl h)
  · simp only [vsL, ofk, ofi, if_neg (show ¬ (3 : Int) = 1 by decide), und0, T.vs_node (show (8 : Int) ≠ 1 by decide), und_z (k := 8) (by decide), und_z (k := 9) (by decide), Int.add_zero, List.append_nil, List.mem_append]
    intro p h; exact h
  · simp only [vsL, ofk, ofi, if_neg (show ¬ (4 : Int) = 1 by decide), und0, und_z (k := 12) (by decide), Int.add_zero, List.append_nil, List.mem_append]
    intro p h; exact .inr (.inr h)
  · simp only [vsL, ofk, ofi, if_neg (show ¬ (5 : Int) = 1 by decide), und0, T.vs_node (show (14 : Int) ≠ 1 by decide), und_z (k := 15) (by decide), und_z (k := 14) (by decide), Int.add_zero, List.append_nil, List.mem_append]
    intro p h; exact .inr (.inl h)
  · simp only [vsL, ofk, ofi, if_neg (show ¬ (6 : Int) = 1 by decide), und0, T.vs_node (show (14 : Int) ≠ 1 by decide), und_z (k := 16) (by decide), und_z (k := 14) (by decide), Int.add_zero, List.append_nil, List.mem_append]
    intro p h; exact .inr (.inr h)
/-- Reduction adds no free variables. -/
theorem PL_vs {ts us : List T} (h : PL ts us) {m : Int} (hm : 0 ≤ m) : ∀ (B k : Int) (i : Nat), 0 ≤ B → (∀ p ∈ vsL B k i ts, p.2 - p.1 < m) → ∀ p ∈ vsL B k i us, p.2 - p.1 < m := by
  induction h with
  | nil => intro B k i hB h; exact h
  | @node k' n ts us rs ss _ _ ih1 ih2 =>
    intro B k i hB h
    have hu := und_range k i
    simp only [vsL, List.mem_append] at h ⊢
    rintro p (hp | hp)
    · by_cases hk : k' = 1
      · subst hk; rw [T.vs_var] at hp; exact h p (.inl (by rw [T.vs_var]; exact hp))
      · rw [T.vs_node hk] at hp
        exact ih1 _ k' 0 (by omega) (fun q hq => h q (.inl (by rw [T.vs_node hk]; exact hq))) p hp
    · exact ih2 B k (i + 1) hB (fun q hq => h q (.inr hq)) p hp
  | @red k' n r l ps qs rs ss hr h1 _ ih1 ih2 =>
    intro B k i hB h
    have hu := und_range k i
    have hk := Rt_kind hr
    simp only [vsL, List.mem_append] at h ⊢
    rintro p (hp | hp)
    · refine vs_con (by omega) hm hr h1.len (ih1 _ (ofk r) (ofi r) (by omega) fun q hq => h q (.inl ?_)) p hp
      rw [T.vs_node (by omega)]
      exact Rt_vs hr _ q hq
    · exact ih2 B k (i + 1) hB (fun q hq => h q (.inr hq)) p hp
theorem PL_mf {t u : T} (h : PL [t] [u]) : mfL (u.vs 0) ≤ mfL (t.vs 0) := by
  have hn := mfL_nonneg (t.vs 0)
  rw [mfL_le_iff hn]
  have := PL_vs h hn 0 0 0 (Int.le_refl 0)
  simp only [vsL, und0, Int.add_zero, List.append_nil] at this
  exact this ((mfL_le_iff hn).1 (Int.le_refl _))
theorem PS.mf {t u : T} (h : PS t u) : mfL (u.vs 0) ≤ mfL (t.vs 0) := by
  induction h with
  | refl => exact Int.le_refl _
  | tail _ h ih => have := PL_mf h; omega
/- Redexes of well-formed trees. -/
theorem Rt_of {k n d : Int} {l : List T} (h : (T.mk k n l).shp d = true) (hr : (T.mk k n l).rdx ≠ 0) : ∃ ps, Rt k l (T.mk k n l).rdx ps ∧ (T.mk k n l).ctr = con (T.mk k n l).rdx ps := by
  have ha := shp_arity h
  have hk := T.shp_kids h
  have kid : ∀ {i : Nat} {a : Int}, i < l.length → (l.getD i default).k = a → ∃ m ls, l.getD i default = .mk a m ls ∧ arity a = ls.length := by
    intro i a hi e
    have := shpL_mem hk (getD_mem hi)
    generalize l.getD i default = x at *
    cases x with
    | mk a' m ls =>
      have e : a' = a := e
      subst e
      exact ⟨m, ls, rfl, shp_arity this⟩
  rcases rdx_cases hr with ⟨e, rfl, e2⟩ | ⟨e, rfl, e2⟩ | ⟨e, rfl, e2⟩ | ⟨e, rfl, e2⟩ | ⟨e, rfl, e2⟩ | ⟨e, rfl, e2⟩
  · have ha : (2 : Int) = l.length := ha
    obtain ⟨x, u, rfl⟩ := len2 (l := l) (by omega)
    obtain ⟨m, ls, e3, e4⟩ := kid (i := 0) (by simp) e2
    have e3 : x = .mk 4 m ls := e3
    have e4 : (2 : Int) = ls.length := e4
    obtain ⟨A, b, rfl⟩ := len2 (l := ls) (by omega)
    subst e3
    exact ⟨[b, u], .inl ⟨rfl, e, m, A, b, u, rfl, rfl⟩, rfl⟩
  · have ha : (4 : Int) = l.length := ha
    obtain ⟨p, z, s, x, rfl⟩ := len4 (l := l) (by omega)
    obtain ⟨m, ls, e3, e4⟩ := kid (i := 3) (by simp) e2
    have e3 : x = .mk 7 m ls := e3
    have e4 : (0 : Int) = ls.length := e4
    have : ls = [] := List.eq_nil_of_length_eq_zero (by omega)
    subst this
    subst e3
    exact ⟨[z], .inr (.inl ⟨rfl, e, p, z, s, m, rfl, rfl⟩), rfl⟩
  · have ha : (4 : Int) = l.length := ha
    obtain ⟨p, z, s, x, rfl⟩ := len4 (l := l) (by omega)
    obtain ⟨m, ls, e3, e4⟩ := kid (i := 3) (by simp) e2
    have e3 : x = .mk 8 m ls := e3
    have e4 : (1 : Int) = ls.length := e4
    obtain ⟨a, rfl⟩ := len1 (l := ls) (by omega)
    subst e3
    exact ⟨[p, z, s, a], .inr (.inr (.inl ⟨rfl, e, p, z, s, m, a, rfl, rfl⟩)), rfl⟩
  · have ha : (3 : Int) = l.length := ha
    obtain ⟨x, y, c, rfl⟩ := len3 (l := l) (by omega)
    obtain ⟨m, ls, e3, e4⟩ := kid (i := 1) (by simp) e2
    have e3 : y = .mk 11 m ls := e3
    have e4 : (1 : Int) = ls.length := e4
    obtain ⟨a, rfl⟩ := len1 (l := ls) (by omega)
    subst e3
    exact ⟨[c], .inr (.inr (.inr (.inl ⟨rfl, e, x, m, a, c, rfl, rfl⟩))), rfl⟩
  · have ha : (1 : Int) = l.length := ha
    obtain ⟨x, rfl⟩ := len1 (l := l) (by omega)
    obtain ⟨m, ls, e3, e4⟩ := kid (i := 0) (by simp) e2
    have e3 : x = .mk 14 m ls := e3
    have e4 : (3 : Int) = ls.length := e4
    obtain ⟨A, a, b, rfl⟩ := len3 (l := ls) (by omega)
    subst e3
    exact ⟨[a], .inr (.inr (.inr (.inr (.inl ⟨rfl, e, m, A, a, b, rfl, rfl⟩)))), rfl⟩
  · have ha : (1 : Int) = l.length := ha
    obtain ⟨x, rfl⟩ := len1 (l := l) (by omega)
    obtain ⟨m, ls, e3, e4⟩ := kid (i := 0) (by simp) e2
    have e3 : x = .mk 14 m ls := e3
    have e4 : (3 : Int) = ls.length := e4
    obtain ⟨A, a, b, rfl⟩ := len3 (l := ls) (by omega)
    subst e3
    exact ⟨[b], .inr (.inr (.inr (.inr (.inr ⟨rfl, e, m, A, a, b, rfl, rfl⟩)))), rfl⟩
end Go.Dk
