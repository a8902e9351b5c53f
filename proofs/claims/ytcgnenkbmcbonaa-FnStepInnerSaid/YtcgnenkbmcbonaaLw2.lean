/- Laws of single steps, in plain Lean. -/
import Derived.Test.YtcgnenkbmcbonaaLw
namespace Go.Dk
set_option linter.unusedVariables false
open Go.Proofs
theorem stC_one {t : T} {P : Pl} (h : t.stC P = 1) : t.valid = true ∧ P.o t = true ∧ (t.stp (P.w t)).valid = true ∧ t.stR P = t.stp (P.w t) ∧ PS t (t.stR P) ∧ (t.stR P).mf ≤ t.mf := by
  unfold T.stC at h
  by_cases a : t.valid = true
  · by_cases o : P.o t = true
    · by_cases s : (t.stp (P.w t)).valid = true
      · have e : t.stR P = t.stp (P.w t) := by unfold T.stR; rw [if_pos a, if_pos o, if_pos s]
        obtain ⟨w1, w2⟩ := P.ok t o
        have ps : PS t (t.stR P) := by rw [e]; exact PS.one (PL_stp w1 (T.valid_shp a) w2)
        refine ⟨a, o, s, e, ps, ?_⟩
        unfold T.mf
        rw [if_pos a, if_pos (by rw [e]; exact s)]
        exact ps.mf
      · rw [if_pos a, if_pos o, if_neg s] at h; omega
    · rw [if_pos a, if_neg o] at h; omega
  · rw [if_neg a] at h; omega
theorem stC_zero {t : T} {P : Pl} (h : t.stC P = 0) : t.valid = true ∧ P.o t = false ∧ t.stR P = t := by
  unfold T.stC at h
  by_cases a : t.valid = true
  · by_cases o : P.o t = true
    · by_cases s : (t.stp (P.w t)).valid = true
      · rw [if_pos a, if_pos o, if_pos s] at h; omega
      · rw [if_pos a, if_pos o, if_neg s] at h; omega
    · exact ⟨a, Bool.eq_false_iff.2 o, by unfold T.stR; rw [if_pos a, if_neg o]⟩
  · rw [if_neg a] at h; omega
theorem red_after {t u : T} {f g : Int} (h : PS t u) (a : (t.red plO f).2.2 = 0) (b : (u.red plO g).2.2 = 0) : (t.red plO f).1 = (u.red plO g).1 := by
  obtain ⟨_, a2, a3, _⟩ := red_ok a
  obtain ⟨_, b2, b3, _⟩ := red_ok b
  exact a3.unique (h.trans b3) (plO_nrm a2) (plO_nrm b2)
theorem red_tail {t : T} {P : Pl} {f : Int} (h : t.stC P = 1) (a : (t.red P f).2.2 = 0) : ((t.stR P).red P f).2.2 = 0 := by
  obtain ⟨v, o, s, e, -, -⟩ := stC_one h
  have c := red_val (t := t) (P := P) (f := f) (by omega)
  rw [red_eq c] at a
  rw [e, red_eq ⟨s, c.2⟩]
  generalize hf : f.toNat = m at a
  cases m with
  | zero => rw [rdc_zero o] at a; exact absurd a (by decide)
  | succ m =>
    rw [rdc_step o _ _ s] at a
    obtain ⟨-, -, q3, q⟩ := rdc_spec P m (t.stp (P.w t)) (0 + 1) s
    rcases q with ⟨_, _, _, _, q5⟩ | ⟨q1, _⟩ | ⟨q1, _⟩
    · have z := (rdc_spec P (m + 1) (t.stp (P.w t)) (0 + 1) s).1 0
      rw [z.2.1, q5 (m + 1) (by omega)]
      exact a
    · omega
    · omega
theorem CoO_step {t : T} (h : t.CoO = true) : t.valid = true ∧ t.rdx ≠ 0 ∧ t.stC plO = 1 ∧ t.CoR = t.stR plO := by
  have h1 := h
  unfold T.CoO T.coO at h1
  rw [Bool.and_eq_true, Bool.and_eq_true, decide_eq_true_eq] at h1
  obtain ⟨v, r, c⟩ := h1
  cases t with
  | mk k n ts =>
    have o : plO.o (.mk k n ts) = true := by show (!(T.mk k n ts).nrm) = true; rw [T.nrm, decide_eq_false r]; simp
    have w : plO.w (.mk k n ts) = [] := by show (T.mk k n ts).outw = []; rw [T.outw, if_pos r]
    have e : (T.mk k n ts).stp (plO.w (.mk k n ts)) = (T.mk k n ts).ctr := by rw [w]; simp only [T.stp, T.at, T.put]
    refine ⟨v, r, ?_, ?_⟩
    · unfold T.stC; rw [if_pos v, if_pos o, e, if_pos c]
    · unfold T.stR T.CoR; rw [if_pos v, if_pos o, e, if_pos c, if_pos h]
theorem hdo_rdx {t : T} (h : plH.o t = false) : t.rdx = 0 := by
  have h : t.hdo = false := h
  cases t with
  | mk k n ts =>
    refine Decidable.byContradiction fun q => ?_
    rw [T.hdo, if_pos q] at h
    cases h
theorem red_next {y : T} {g : Int} (hg : 0 ≤ g) (h : (y.red plO (g + 1)).2.2 = 0) (c : y.stC plO = 1) : (y.stR plO).valid = true ∧ ((y.stR plO).red plO g).2.2 = 0 ∧ ((y.stR plO).red plO g).1 = (y.red plO (g + 1)).1 := by
  obtain ⟨v, o, s, e, -, -⟩ := stC_one c
  have b := red_val (t := y) (P := plO) (f := g + 1) (by omega)
  have n : (g + 1).toNat = g.toNat + 1 := by omega
  rw [e]
  rw [red_eq b, n, rdc_step o _ _ s] at h ⊢
  rw [red_eq ⟨s, hg, by omega⟩]
  have z := (rdc_spec plO g.toNat (y.stp (plO.w y)) (0 + 1) s).1 0
  exact ⟨s, by rw [z.2.1]; exact h, z.1⟩
theorem red_stay {y : T} {g : Int} (hg : 0 ≤ g) (h : (y.red plO (g + 1)).2.2 = 0) (c : ¬ y.stC plO = 1) : y.red plO g = (y, 0, 0) ∧ y.red plO (g + 1) = (y, 0, 0) := by
  have b := red_val (t := y) (P := plO) (f := g + 1) (by omega)
  have n : (g + 1).toNat = g.toNat + 1 := by omega
  have o : plO.o y = false := by
    cases o : plO.o y with
    | false => rfl
    | true =>
      exfalso
      cases s : (y.stp (plO.w y)).valid with
      | true => exact c (by unfold T.stC; rw [if_pos b.1, if_pos o, if_pos s])
      | false =>
        rw [red_eq b, n, rdc_large o _ _ s] at h
        exact absurd h (by decide)
  exact ⟨red_no ⟨b.1, hg, by omega⟩ o, red_no b o⟩
end Go.Dk
