/- laws.FnExactTraceTerm returns true and leaves its arguments as they were, for all arguments. -/
import Derived.Test.YtnohobjbblbffaaLaw
import Derived.Test.YtnohobjbblbffaaL0
import Derived.Test.YtnohobjbblbffaaTr
import Derived.Test.YtnohobjbblbffaaMh
namespace Go.Dk
set_option linter.unusedVariables false
open Go.Proofs
/-- laws.FnExactTraceTerm -/
def cFnExactTraceTerm : Con
  | [.st [.int .i64 k0, .int .i64 n0, .slc ts0 (.arg 0)]], [], K => (((T.mk k0 n0 ts0).fits)) ∧ ((K (.bool true) []))
  | _, _, _ => False
theorem FnExactTraceTerm_ok (k0 n0 : Int) (ts0 : List T) (K : AV → List AV → Prop) (hp : (((T.mk k0 n0 ts0).fits))) (hk : ((K (.bool true) []))) :
    bodyQ [(13, cszTerm), (15, ctoTerm), (24, csTraceTerm), (25, cTraceTerm), (17, ceqTerm), (26, ceqTermS), (28, cheldTermS)] TY [] Try.f6 (body Try.f6) [.st [.int .i64 k0, .int .i64 n0, .slc ts0 (.arg 0)]] [] K := by
  refine of_vc (A :=
      (((((List.length ts0) ≤ (9223372036854775807 : Nat)) ∧ (fitsL ts0)) ∧ (((0 : Int) ≤ (1048576 : Int)) ∧ ((1048576 : Int) ≤ (1048576 : Int)))) ∧
       (Br (Decidable.decide ((szI (sizeL ts0) (1048576 : Int)) < (0 : Int)))
         (Ret K (.bool true) [])
         (((sizeL ts0) ≤ (1048576 : Nat)) ∧
          (True ∧
           (((sizeL ts0) ≤ (1048576 : Nat)) ∧
            (True ∧
             (((sizeL (T.trc (T.mk k0 n0 ts0))) ≤ (1099511627776 : Nat)) ∧
              (Br (Bool.not (sameL (T.trc (T.mk k0 n0 ts0)) (T.trc (T.mk k0 n0 ts0))))
                (Ret K (.bool false) [])
                (((sizeL ts0) ≤ (1048576 : Nat)) ∧
                 ((k0 = k0) ∧
                  ((n0 = n0) ∧
                   ((ts0 = ts0) ∧
                    (((sizeL ts0) ≤ (1099511627776 : Nat)) ∧
                     (Br (Bool.not (T.same (T.mk k0 n0 ts0) (T.mk k0 n0 ts0)))
                       (Ret K (.bool false) [])
                       ((((0 : Int) ≤ (1 : Int)) ∧ (((1 : Int) + ((2 : Int) * (((sizeL ts0) : Nat) : Int))) ≤ (9223372036854775807 : Int))) ∧
                        (((sizeL (T.trc (T.mk k0 n0 ts0))) ≤ (1099511627776 : Nat)) ∧
                         (Br (Bool.not (sameL (T.trc (T.mk k0 n0 ts0)) (T.trc (T.mk k0 n0 ts0))))
                           (Ret K (.bool false) [])
                           ((((0 : Int) ≤ (1 : Int)) ∧ (((1 : Int) + ((2 : Int) * (((sizeL (T.trc (T.mk k0 n0 ts0))) : Nat) : Int))) ≤ (9223372036854775807 : Int))) ∧
                            (((((0 : Int) ≤ (1 : Int)) ∧ (((1 : Int) + ((2 : Int) * (((sizeL (markL (T.trc (T.mk k0 n0 ts0)) (1 : Int))) : Nat) : Int))) ≤ (1000000000000 : Int))) ∧
                              (∃ us : (List T), ((markL (T.trc (T.mk k0 n0 ts0)) (1 : Int)) = (markL us (1 : Int))))) ∧
                             (Br (Decidable.decide (((1 : Int) + ((2 : Int) * (((sizeL (markL (T.trc (T.mk k0 n0 ts0)) (1 : Int))) : Nat) : Int))) ≠ ((1 : Int) + ((2 : Int) * (((sizeL (T.trc (T.mk k0 n0 ts0))) : Nat) : Int)))))
                               (Ret K (.bool false) [])
                               (((sizeL ts0) ≤ (1048576 : Nat)) ∧
                                (True ∧
                                 (((sizeL (T.trc (T.mk k0 n0 ts0))) ≤ (1099511627776 : Nat)) ∧
                                  (Br (Bool.not (sameL (T.trc (T.mk k0 n0 ts0)) (T.trc (T.mk k0 n0 ts0))))
                                    (Ret K (.bool false) [])
                                    (((((0 : Int) ≤ (1 : Int)) ∧ (((1 : Int) + ((2 : Int) * (((sizeL (markL (T.trc (T.mk k0 n0 ts0)) (1 : Int))) : Nat) : Int))) ≤ (1000000000000 : Int))) ∧
                                      (∃ us : (List T), ((markL (T.trc (T.mk k0 n0 ts0)) (1 : Int)) = (markL us (1 : Int))))) ∧
                                     (Br (Decidable.decide (((1 : Int) + ((2 : Int) * (((sizeL (markL (T.trc (T.mk k0 n0 ts0)) (1 : Int))) : Nat) : Int))) ≠ ((1 : Int) + ((2 : Int) * (((sizeL (T.trc (T.mk k0 n0 ts0))) : Nat) : Int)))))
                                       (Ret K (.bool false) [])
                                       (Ret K (.bool true) [])))))))))))))))))))))))))))) ?_ (by kernel_rfl)
  have hp0 := hp
  obtain ⟨-, -, l0', f0⟩ := hp0
  have same : ∀ t : T, t.same t = true := fun t => T.same_iff.2 rfl
  have sameL : ∀ ts : List T, sameL ts ts = true := fun t => sameL_iff.2 rfl
  have z := trc_small (.mk k0 n0 ts0)
  simp only [T.eta, same, sameL, markL_size]
  refine ⟨⟨⟨l0', f0⟩, by omega, by omega⟩, br (fun _ => retB hk rfl) (fun h => ?_)⟩
  have ⟨s0, e0⟩ := szI_ok (of_decide_eq_false h) (by omega)
  try rw [e0]
  repeat' first | trivial | rfl | omega | exact retB hk rfl | exact ⟨_, rfl⟩ | refine br (fun h => absurd h (by simp)) (fun _ => ?_) | apply And.intro
theorem FnExactTraceTerm_sound : Sound Try.prog 6 cFnExactTraceTerm := by
  refine soundF (G := [(13, cszTerm), (15, ctoTerm), (24, csTraceTerm), (25, cTraceTerm), (17, ceqTerm), (26, ceqTermS), (28, cheldTermS)]) ((gcons szTerm_sound (gcons toTerm_sound (gcons sTraceTerm_sound (gcons TraceTerm_sound (gcons eqTerm_sound (gcons eqTermS_sound (gcons heldTermS_sound gnil)))))))) Try.func6 rfl (by kernel_rfl) fun args hs K hCC => ?_
  unfold cFnExactTraceTerm at hCC
  split at hCC
  case h_2 => exact hCC.elim
  rename_i k0 n0 ts0
  exact ⟨Nat.le_of_ble_eq_true rfl, _, FnExactTraceTerm_ok k0 n0 ts0 K hCC.1 hCC.2⟩
end Go.Dk
namespace Go.Proofs.Ytnohobjbblbffaa
open Go.ChangeShapes Go.WideShapes Go.RowKit Go.Dk Go.Proofs
set_option linter.unusedVariables false
set_option maxRecDepth 100000 in
theorem FnExactTraceTerm_lifted (os : Os) (started : os.Started) (H : Type) (enc : TypeId × Value → H) :
    ReturnsInHanded {} Try.checked os 6 .any (Rows.fnExactTraceTermSpec.pre6 enc Try.prog Try.f6 Rows.fnExactTraceTermRow.domain false) (Rows.fnExactTraceTermSpec.post enc Try.prog Try.f6 false true false false) := by
  refine returnsInHanded_of_change (C := Try.checked) own started (by kernel_rfl) Try.func6
    (ChangeSpec.witness6 (enc := enc) (C := Try.checked) false ⟨#[], #[.agg #[.int .i64 0, .int .i64 0, .slice none 0 0]], []⟩ 8 (by kernel_rfl) (by kernel_rfl) (by kernel_rfl) (by kernel_rfl)) ?_
  intro W base args ds gs before hok hW _ _
  have hW' := hW
  obtain ⟨p, q, hA, hV, rfl, hfz, hnd⟩ := hW
  rw [Try.params6] at hA
  obtain ⟨rfl, rfl⟩ := trodVars_none hV
  obtain ⟨v0, vs0, d0, ds0, q0, s0, e0, rfl, rfl, h0, hA⟩ := trodAll_cons hA
  obtain ⟨rfl, rfl, rfl⟩ := trodAll_nil hA
  have ha : args = #[v0] := by cases args; simpa using e0
  subst ha
  obtain ⟨k0, n0, ts0, p0, r0⟩ := open_term tmT h0
  refine (law_call (args := [.st [.int .i64 k0, .int .i64 n0, .slc ts0 (.arg 0)]]) (vals := [v0]) FnExactTraceTerm_sound (fun K hK => ⟨p0, hK⟩) (fun j => slOf ([v0].getD j .nilFunc)) ⟨r0 _ 0 rfl, trivial⟩).mono fun e W' ⟨he, hk⟩ => ?_
  exact ⟨_, he, law_post laidOut (of_decide_eq_true (by kernel_rfl)) rfl rfl Try.underlying4 rfl hW' hk⟩
theorem FnExactTraceTerm_holds : Rows.FnExactTraceTermSaid :=
  OpenClaim.holds_of_wide 6 Try.f6 rfl rfl rfl rfl rfl rfl rfl ⟨rfl, rfl, rfl, rfl, rfl⟩ rfl rfl rfl rfl rfl (by kernel_rfl) Try.func6 (by kernel_rfl)
    (of_decide_eq_true (by kernel_rfl)) (by unfold Func.isWrapper; first | (rw [if_pos (by decide +kernel)]; kernel_rfl) | (rw [if_neg (by decide +kernel)]; exact ⟨rfl, rfl⟩))
    (fun os started H enc _ => FnExactTraceTerm_lifted os started H enc)
end Go.Proofs.Ytnohobjbblbffaa
namespace Go.Dk
open Go.Proofs
end Go.Dk
