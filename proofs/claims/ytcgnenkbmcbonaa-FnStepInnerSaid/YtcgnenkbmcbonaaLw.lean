/- Laws of reductions, in plain Lean. -/
import Derived.Test.YtcgnenkbmcbonaaSt2
import Derived.Test.YtcgnenkbmcbonaaTh
namespace Go.Dk
set_option linter.unusedVariables false
open Go.Proofs
theorem brt {A B : Prop} (h : A) : Br true A B := br (fun _ => h) (fun h => nomatch h)
theorem brf {A B : Prop} (h : B) : Br false A B := br (fun h => nomatch h) (fun _ => h)
theorem red_val {t : T} {P : Pl} {f : Int} (h : (t.red P f).2.2 ≠ 3) : t.valid = true ∧ 0 ≤ f ∧ f ≤ 200 := by
  by_cases c : t.valid = true ∧ 0 ≤ f ∧ f ≤ 200
  · exact c
  · unfold T.red at h; rw [if_neg c] at h; exact absurd rfl h
theorem red_eq {t : T} {P : Pl} {f : Int} (h : t.valid = true ∧ 0 ≤ f ∧ f ≤ 200) : t.red P f = t.rdc P f.toNat 0 := by unfold T.red; rw [if_pos h]
theorem red_ok {t : T} {P : Pl} {f : Int} (h : (t.red P f).2.2 = 0) : (t.red P f).1.valid = true ∧ P.o (t.red P f).1 = false ∧ PS t (t.red P f).1 ∧ 0 ≤ (t.red P f).2.1 ∧ (t.red P f).2.1 ≤ f ∧ ∀ g, (t.red P f).2.1 ≤ g → g ≤ 200 → t.red P g = t.red P f := by
  have c := red_val (t := t) (P := P) (f := f) (by omega)
  have e := red_eq (P := P) c
  obtain ⟨-, h2, h3, h4⟩ := rdc_spec P f.toNat t 0 c.1
  rw [← e] at h2 h3 h4
  rcases h4 with ⟨_, a2, a3, a4, a5⟩ | ⟨a1, _⟩ | ⟨a1, _⟩
  · refine ⟨a2, a3, a4, h2, by omega, fun g hg hg2 => ?_⟩
    rw [red_eq (f := g) ⟨c.1, by omega, hg2⟩]
    exact a5 g.toNat (by omega)
  · omega
  · omega
theorem red_bad {t : T} {P : Pl} {f : Int} (h : (t.red P f).2.2 ≠ 0) : (t.red P f).1 = .mk 0 0 [] := by
  by_cases c : t.valid = true ∧ 0 ≤ f ∧ f ≤ 200
  · have e := red_eq (P := P) c
    obtain ⟨-, -, -, h4⟩ := rdc_spec P f.toNat t 0 c.1
    rw [← e] at h4
    rcases h4 with ⟨a1, _⟩ | ⟨_, a2, _⟩ | ⟨_, a2⟩
    · exact absurd a1 h
    · exact a2
    · exact a2
  · unfold T.red; rw [if_neg c]
theorem red_steps {t : T} {P : Pl} {f : Int} (h : (t.red P f).2.2 ≠ 3) : 0 ≤ (t.red P f).2.1 ∧ (t.red P f).2.1 ≤ f ∧ ((t.red P f).2.2 = 1 → (t.red P f).2.1 = f) := by
  have c := red_val h
  have e := red_eq (P := P) c
  obtain ⟨-, h2, h3, h4⟩ := rdc_spec P f.toNat t 0 c.1
  rw [← e] at h2 h3 h4
  refine ⟨h2, by omega, fun q => ?_⟩
  rcases h4 with ⟨a1, _⟩ | ⟨_, _, a2⟩ | ⟨a1, _⟩ <;> omega
theorem red_no {t : T} {P : Pl} {f : Int} (c : t.valid = true ∧ 0 ≤ f ∧ f ≤ 200) (h : P.o t = false) : t.red P f = (t, 0, 0) := by
  rw [red_eq c, rdc_no h]
theorem plO_nrm {t : T} (h : plO.o t = false) : t.nrm = true := by
  have h : (!t.nrm) = false := h
  simpa using h
theorem plI_nrm {t : T} (h : plI.o t = false) : t.nrm = true := by
  have h : (!t.nrm) = false := h
  simpa using h
theorem nrm_plO {t : T} (h : t.nrm = true) : plO.o t = false := by show (!t.nrm) = false; rw [h]; rfl
theorem red_same {t : T} {f g : Int} (h : (t.red plO f).2.2 = 0) (h2 : (t.red plI g).2.2 = 0) : (t.red plO f).1 = (t.red plI g).1 := by
  obtain ⟨_, a2, a3, _⟩ := red_ok h
  obtain ⟨_, b2, b3, _⟩ := red_ok h2
  exact a3.unique b3 (plO_nrm a2) (plI_nrm b2)
theorem red_mf {t : T} {P : Pl} {f : Int} (h : (t.red P f).2.2 = 0) : (t.red P f).1.mf ≤ t.mf := by
  obtain ⟨a1, _, a3, _⟩ := red_ok h
  have c := red_val (t := t) (P := P) (f := f) (by omega)
  unfold T.mf
  rw [if_pos a1, if_pos c.1]
  exact a3.mf
theorem hdo_val {t : T} (h : ¬ (t.k = 5 ∨ t.k = 9 ∨ t.k = 12 ∨ t.k = 15 ∨ t.k = 16)) : t.hdo = false := by
  cases t with
  | mk k n ts =>
    have h : ¬ (k = 5 ∨ k = 9 ∨ k = 12 ∨ k = 15 ∨ k = 16) := h
    cases hh : (T.mk k n ts).hdo with
    | false => rfl
    | true =>
      exfalso
      have m : mainK k < 0 := by
        unfold mainK
        repeat' split
        all_goals omega
      have r : (T.mk k n ts).rdx = 0 := Decidable.byContradiction fun q => rdx_main q m
      unfold T.hdo at hh
      simp [r, m] at hh
end Go.Dk
