/- laws.FnExactReduceSteps returns true and leaves its arguments as they were, for all arguments. -/
import Derived.Test.YtnohobjbblbffaaLaw
import Derived.Test.YtnohobjbblbffaaL0
import Derived.Test.YtnohobjbblbffaaL4
import Derived.Test.YtnohobjbblbffaaL4s
import Derived.Test.YtnohobjbblbffaaMh
namespace Go.Dk
set_option linter.unusedVariables false
open Go.Proofs
/-- laws.FnExactReduceSteps -/
def cFnExactReduceSteps : Con
  | [.st [.int .i64 k0, .int .i64 n0, .slc ts0 (.arg 0)], .int .i64 (i1)], [], K => (((T.mk k0 n0 ts0).fits) ∧ (InR i1)) ∧ ((K (.bool true) []))
  | _, _, _ => False
theorem FnExactReduceSteps_ok (k0 n0 : Int) (ts0 : List T) (i1 : Int) (K : AV → List AV → Prop) (hp : (((T.mk k0 n0 ts0).fits) ∧ (InR i1))) (hk : ((K (.bool true) []))) :
    bodyQ [(13, cszTerm), (15, ctoTerm), (14, csReduceSteps), (16, cReduceSteps), (17, ceqTerm)] TY [] Try.f3 (body Try.f3) [.st [.int .i64 k0, .int .i64 n0, .slc ts0 (.arg 0)], .int .i64 (i1)] [] K := by
  refine of_vc (A :=
      (((((List.length ts0) ≤ (9223372036854775807 : Nat)) ∧ (fitsL ts0)) ∧ (((0 : Int) ≤ (1048576 : Int)) ∧ ((1048576 : Int) ≤ (1048576 : Int)))) ∧
       (Br (Decidable.decide ((szI (sizeL ts0) (1048576 : Int)) < (0 : Int)))
         (Ret K (.bool true) [])
         (((sizeL ts0) ≤ (1048576 : Nat)) ∧
          (True ∧
           (((sizeL ts0) ≤ (1048576 : Nat)) ∧
            (True ∧
             (Br (Decidable.decide ((Prod.fst (Prod.snd (T.red (T.mk k0 n0 ts0) plO i1))) ≠ (Prod.fst (Prod.snd (T.red (T.mk k0 n0 ts0) plO i1)))))
               (Ret K (.bool false) [])
               (Br (Decidable.decide ((Prod.snd (Prod.snd (T.red (T.mk k0 n0 ts0) plO i1))) ≠ (Prod.snd (Prod.snd (T.red (T.mk k0 n0 ts0) plO i1)))))
                 (Ret K (.bool false) [])
                 (((sizeL ts0) ≤ (1048576 : Nat)) ∧
                  ((k0 = k0) ∧
                   ((n0 = n0) ∧
                    ((ts0 = ts0) ∧
                     (((sizeL ts0) ≤ (1099511627776 : Nat)) ∧ (Br (Bool.not (T.same (T.mk k0 n0 ts0) (T.mk k0 n0 ts0))) (Ret K (.bool false) []) (Ret K (.bool true) [])))))))))))))))) ?_ (by kernel_rfl)
  obtain ⟨hp0, hp1⟩ := hp
  obtain ⟨-, -, l0', f0⟩ := hp0
  have same : ∀ t : T, t.same t = true := fun t => T.same_iff.2 rfl
  simp only [T.eta, same]
  refine ⟨⟨⟨l0', f0⟩, by omega, by omega⟩, br (fun _ => retB hk rfl) (fun h => ?_)⟩
  have ⟨s0, e0⟩ := szI_ok (of_decide_eq_false h) (by omega)
  try rw [e0]
  repeat' first | trivial | rfl | omega | exact retB hk rfl | refine br (fun h => absurd h (by simp)) (fun _ => ?_) | apply And.intro
theorem FnExactReduceSteps_sound : Sound Try.prog 3 cFnExactReduceSteps := by
  refine soundF (G := [(13, cszTerm), (15, ctoTerm), (14, csReduceSteps), (16, cReduceSteps), (17, ceqTerm)]) ((gcons szTerm_sound (gcons toTerm_sound (gcons sReduceSteps_sound (gcons ReduceSteps_sound (gcons eqTerm_sound gnil)))))) Try.func3 rfl (by kernel_rfl) fun args hs K hCC => ?_
  unfold cFnExactReduceSteps at hCC
  split at hCC
  case h_2 => exact hCC.elim
  rename_i k0 n0 ts0 i1
  exact ⟨Nat.le_of_ble_eq_true rfl, _, FnExactReduceSteps_ok k0 n0 ts0 i1 K hCC.1 hCC.2⟩
end Go.Dk
namespace Go.Proofs.Ytnohobjbblbffaa
open Go.ChangeShapes Go.WideShapes Go.RowKit Go.Dk Go.Proofs
set_option linter.unusedVariables false
set_option maxRecDepth 100000 in
theorem FnExactReduceSteps_lifted (os : Os) (started : os.Started) (H : Type) (enc : TypeId × Value → H) :
    ReturnsInHanded {} Try.checked os 3 .any (Rows.fnExactReduceStepsSpec.pre6 enc Try.prog Try.f3 Rows.fnExactReduceStepsRow.domain false) (Rows.fnExactReduceStepsSpec.post enc Try.prog Try.f3 false true false false) := by
  refine returnsInHanded_of_change (C := Try.checked) own started (by kernel_rfl) Try.func3
    (ChangeSpec.witness6 (enc := enc) (C := Try.checked) false ⟨#[], #[.agg #[.int .i64 0, .int .i64 0, .slice none 0 0], .int .i64 0], []⟩ 8 (by kernel_rfl) (by kernel_rfl) (by kernel_rfl) (by kernel_rfl)) ?_
  intro W base args ds gs before hok hW _ _
  have hW' := hW
  obtain ⟨p, q, hA, hV, rfl, hfz, hnd⟩ := hW
  rw [Try.params3] at hA
  obtain ⟨rfl, rfl⟩ := trodVars_none hV
  obtain ⟨v0, vs0, d0, ds0, q0, s0, e0, rfl, rfl, h0, hA⟩ := trodAll_cons hA
  obtain ⟨v1, vs1, d1, ds1, q1, s1, e1, rfl, rfl, h1, hA⟩ := trodAll_cons hA
  obtain ⟨rfl, rfl, rfl⟩ := trodAll_nil hA
  subst e1
  have ha : args = #[v0, v1] := by cases args; simpa using e0
  subst ha
  obtain ⟨k0, n0, ts0, p0, r0⟩ := open_term tmT h0
  obtain ⟨i1, p1, r1⟩ := open_int Try.underlying3 (plain_int Try.underlying3 (hok 1 _ _ rfl rfl)) h1
  refine (law_call (args := [.st [.int .i64 k0, .int .i64 n0, .slc ts0 (.arg 0)], .int .i64 i1]) (vals := [v0, v1]) FnExactReduceSteps_sound (fun K hK => ⟨⟨p0, p1⟩, hK⟩) (fun j => slOf ([v0, v1].getD j .nilFunc)) ⟨r0 _ 0 rfl, r1 _, trivial⟩).mono fun e W' ⟨he, hk⟩ => ?_
  exact ⟨_, he, law_post laidOut (of_decide_eq_true (by kernel_rfl)) rfl rfl Try.underlying4 rfl hW' hk⟩
theorem FnExactReduceSteps_holds : Rows.FnExactReduceStepsSaid :=
  OpenClaim.holds_of_wide 3 Try.f3 rfl rfl rfl rfl rfl rfl rfl ⟨rfl, rfl, rfl, rfl, rfl⟩ rfl rfl rfl rfl rfl (by kernel_rfl) Try.func3 (by kernel_rfl)
    (of_decide_eq_true (by kernel_rfl)) (by unfold Func.isWrapper; first | (rw [if_pos (by decide +kernel)]; kernel_rfl) | (rw [if_neg (by decide +kernel)]; exact ⟨rfl, rfl⟩))
    (fun os started H enc _ => FnExactReduceSteps_lifted os started H enc)
end Go.Proofs.Ytnohobjbblbffaa
namespace Go.Dk
open Go.Proofs
end Go.Dk
