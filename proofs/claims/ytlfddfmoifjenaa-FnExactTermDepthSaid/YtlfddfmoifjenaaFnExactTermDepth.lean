/- laws.FnExactTermDepth returns true and leaves its arguments as they were, for all arguments. -/
import Derived.Test.YtlfddfmoifjenaaDr
import Derived.Test.YtlfddfmoifjenaaL0
namespace Go.Dk
set_option linter.unusedVariables false
open Go.Proofs
/-- laws.FnExactTermDepth -/
def cFnExactTermDepth : Con
  | [.st [.int .i64 k, .int .i64 n, .slc ts (.arg 0)]], [], K => (((T.mk k n ts).fits)) ∧ ((K (.bool true) []))
  | _, _, _ => False
theorem FnExactTermDepth_ok (k n : Int) (ts : List T) (K : AV → List AV → Prop) (hp : (((T.mk k n ts).fits))) (hk : ((K (.bool true) []))) :
    bodyP [(19, cszTerm), (21, ctoTerm), (33, csTermDepth), (29, cTermDepth), (22, ceqTerm)] TY [] Try.f12 (body Try.f12) [.st [.int .i64 k, .int .i64 n, .slc ts (.arg 0)]] [] K := by
  refine of_vc (A :=
      (((((List.length ts) ≤ (9223372036854775807 : Nat)) ∧ (fitsL ts)) ∧ (((0 : Int) ≤ (1048576 : Int)) ∧ ((1048576 : Int) ≤ (1048576 : Int)))) ∧
       (Br (Decidable.decide ((szI (sizeL ts) (1048576 : Int)) < (0 : Int)))
         (Ret K (.bool true) [])
         (((sizeL ts) ≤ (1048576 : Nat)) ∧
          (True ∧
           (((sizeL ts) ≤ (1048576 : Nat)) ∧
            (True ∧
             (Br (Decidable.decide ((if ((T.valid (T.mk k n ts)) = true) then (T.dep (T.mk k n ts)) else (0 : Int)) ≠ (if ((T.valid (T.mk k n ts)) = true) then (T.dep (T.mk k n ts)) else (0 : Int))))
               (Ret K (.bool false) [])
               (((sizeL ts) ≤ (1048576 : Nat)) ∧
                ((k = k) ∧
                 ((n = n) ∧
                  ((ts = ts) ∧ (((sizeL ts) ≤ (1099511627776 : Nat)) ∧ (Br (Bool.not (T.same (T.mk k n ts) (T.mk k n ts))) (Ret K (.bool false) []) (Ret K (.bool true) []))))))))))))))) ?_ (by kernel_rfl)
  obtain ⟨-, -, l1, f1⟩ := hp
  refine ⟨⟨⟨l1, f1⟩, by omega, by omega⟩, br (fun _ => retB hk rfl) (fun h => ?_)⟩
  have ⟨s1, e1⟩ := szI_ok (of_decide_eq_false h) (by omega)
  have q1 := T.same_iff.2 (rfl : T.mk k n ts = .mk k n ts)
  rw [q1]
  repeat' first | trivial | rfl | omega | exact retB hk rfl | refine br (fun h => absurd h (by simp)) (fun _ => ?_) | apply And.intro
theorem FnExactTermDepth_sound : Sound Try.prog 12 cFnExactTermDepth := by
  refine soundF (G := [(19, cszTerm), (21, ctoTerm), (33, csTermDepth), (29, cTermDepth), (22, ceqTerm)]) ((gcons szTerm_sound (gcons toTerm_sound (gcons sTermDepth_sound (gcons TermDepth_sound (gcons eqTerm_sound gnil)))))) Try.func12 rfl (by kernel_rfl) fun args hs K h => ?_
  unfold cFnExactTermDepth at h
  split at h
  case h_2 => exact h.elim
  exact ⟨Nat.le_of_ble_eq_true rfl, _, FnExactTermDepth_ok _ _ _ K h.1 h.2⟩
end Go.Dk
namespace Go.Proofs.Ytlfddfmoifjenaa
open Go.ChangeShapes Go.WideShapes Go.RowKit Go.Dk Go.Proofs
set_option linter.unusedVariables false
theorem FnExactTermDepth_lifted (os : Os) (started : os.Started) (H : Type) (enc : TypeId × Value → H) :
    ReturnsInHanded {} Try.checked os 12 .any (Rows.fnExactTermDepthSpec.pre6 enc Try.prog Try.f12 Rows.fnExactTermDepthRow.domain false) (Rows.fnExactTermDepthSpec.post enc Try.prog Try.f12 false true false false) := by
  refine returnsInHanded_of_change (C := Try.checked) own started (by kernel_rfl) Try.func12
    (ChangeSpec.witness6 (enc := enc) (C := Try.checked) false ⟨#[], #[.agg #[.int .i64 0, .int .i64 0, .slice none 0 0]], []⟩ 8 (by kernel_rfl) (by kernel_rfl) (by kernel_rfl) (by kernel_rfl)) ?_
  intro W base args ds gs before hok hW _ _
  have hW' := hW
  obtain ⟨p, q, hA, hV, rfl, hfz, hnd⟩ := hW
  rw [Try.params12] at hA
  obtain ⟨rfl, rfl⟩ := trodVars_none hV
  obtain ⟨v0, vs0, d0, ds0, q0, s0, e0, rfl, rfl, h0, hA⟩ := trodAll_cons hA
  obtain ⟨rfl, rfl, rfl⟩ := trodAll_nil hA
  have ha : args = #[v0] := by cases args; simpa using e0
  subst ha
  obtain ⟨k0, n0, ts0, p0, r0⟩ := open_term tmT h0
  refine (law_call (args := [.st [.int .i64 k0, .int .i64 n0, .slc ts0 (.arg 0)]]) (vals := [v0]) FnExactTermDepth_sound (fun K hK => ⟨p0, hK⟩) (fun j => slOf ([v0].getD j .nilFunc)) ⟨r0 _ 0 rfl, trivial⟩).mono fun e W' ⟨he, hk⟩ => ?_
  exact ⟨_, he, law_post laidOut (of_decide_eq_true (by kernel_rfl)) rfl rfl Try.underlying4 rfl hW' hk⟩
theorem FnExactTermDepth_holds : Rows.FnExactTermDepthSaid :=
  OpenClaim.holds_of_wide 12 Try.f12 rfl rfl rfl rfl rfl rfl rfl ⟨rfl, rfl, rfl, rfl, rfl⟩ rfl rfl rfl rfl rfl (by kernel_rfl) Try.func12 (by kernel_rfl)
    (of_decide_eq_true (by kernel_rfl)) (by unfold Func.isWrapper; first | (rw [if_pos (by decide +kernel)]; kernel_rfl) | (rw [if_neg (by decide +kernel)]; exact ⟨rfl, rfl⟩))
    (fun os started H enc _ => FnExactTermDepth_lifted os started H enc)
end Go.Proofs.Ytlfddfmoifjenaa
namespace Go.Dk
open Go.Proofs
end Go.Dk
