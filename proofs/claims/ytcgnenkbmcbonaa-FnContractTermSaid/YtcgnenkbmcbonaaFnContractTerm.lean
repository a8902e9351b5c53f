/- laws.FnContractTerm returns true and leaves its arguments as they were, for all arguments. -/
import Derived.Test.YtcgnenkbmcbonaaLaw
import Derived.Test.YtcgnenkbmcbonaaL0
import Derived.Test.YtcgnenkbmcbonaaLw2
import Derived.Test.YtcgnenkbmcbonaaDr4
import Derived.Test.YtcgnenkbmcbonaaL3
import Derived.Test.YtcgnenkbmcbonaaL3c
import Derived.Test.YtcgnenkbmcbonaaL4
import Derived.Test.YtcgnenkbmcbonaaCs
namespace Go.Dk
set_option linter.unusedVariables false
set_option linter.unusedSimpArgs false
open Go.Proofs
/-- laws.FnContractTerm -/
def cFnContractTerm : Con
  | [.ints .u8 bs (.arg 0)], [], K => ((bs.length ≤ 9223372036854775807 ∧ Bs bs)) ∧ ((K (.bool true) []))
  | _, _, _ => False
theorem FnContractTerm_ok (bs : List Int) (K : AV → List AV → Prop) (hp : ((bs.length ≤ 9223372036854775807 ∧ Bs bs))) (hk : ((K (.bool true) []))) :
    bodyQ [(21, cdContractTerm), (22, cContractTerm), (23, csContractTerm), (17, cTermSame), (24, cStepTerm), (25, cRedexOf)] TY [] Try.f4 (body Try.f4) [.ints .u8 bs (.arg 0)] [] K := by
  refine of_vc (A :=
    (Br (Decidable.decide ((1048576 : Int) < (((List.length bs) : Nat) : Int)))
     (Ret K (.bool true) [])
     ((Bs bs) ∧
     (∀ t : T,
     (((T.size t) ≤ (3000 : Nat)) →
     (True ∧
     (True ∧
     (Br (bne (T.CoO (T.mk (T.k t) (T.n t) (T.kids t))) (T.CoO (T.mk (T.k t) (T.n t) (T.kids t))))
     (Br (BEq.beq (T.CoO (T.mk (T.k t) (T.n t) (T.kids t))) (T.CoO (T.mk (T.k t) (T.n t) (T.kids t))))
     (((sizeL (T.kids (T.CoR (T.mk (T.k t) (T.n t) (T.kids t))))) ≤ (1099511627776 : Nat)) ∧
     (Ret K (.bool (T.same (T.mk (T.k (T.CoR (T.mk (T.k t) (T.n t) (T.kids t)))) (T.n (T.CoR (T.mk (T.k t) (T.n t) (T.kids t)))) (T.kids (T.CoR (T.mk (T.k t) (T.n t) (T.kids t))))) (T.mk (T.k (T.CoR (T.mk (T.k t) (T.n t) (T.kids t)))) (T.n (T.CoR (T.mk (T.k t) (T.n t) (T.kids t)))) (T.kids (T.CoR (T.mk (T.k t) (T.n t) (T.kids t))))))) []))
     (Ret K (.bool false) []))
     (((sizeL (T.kids (T.CoR (T.mk (T.k t) (T.n t) (T.kids t))))) ≤ (1099511627776 : Nat)) ∧
     (Br (Bool.not (T.same (T.mk (T.k (T.CoR (T.mk (T.k t) (T.n t) (T.kids t)))) (T.n (T.CoR (T.mk (T.k t) (T.n t) (T.kids t)))) (T.kids (T.CoR (T.mk (T.k t) (T.n t) (T.kids t))))) (T.mk (T.k (T.CoR (T.mk (T.k t) (T.n t) (T.kids t)))) (T.n (T.CoR (T.mk (T.k t) (T.n t) (T.kids t)))) (T.kids (T.CoR (T.mk (T.k t) (T.n t) (T.kids t)))))))
     (Br (BEq.beq (T.CoO (T.mk (T.k t) (T.n t) (T.kids t))) (T.CoO (T.mk (T.k t) (T.n t) (T.kids t))))
     (((sizeL (T.kids (T.CoR (T.mk (T.k t) (T.n t) (T.kids t))))) ≤ (1099511627776 : Nat)) ∧
     (Ret K (.bool (T.same (T.mk (T.k (T.CoR (T.mk (T.k t) (T.n t) (T.kids t)))) (T.n (T.CoR (T.mk (T.k t) (T.n t) (T.kids t)))) (T.kids (T.CoR (T.mk (T.k t) (T.n t) (T.kids t))))) (T.mk (T.k (T.CoR (T.mk (T.k t) (T.n t) (T.kids t)))) (T.n (T.CoR (T.mk (T.k t) (T.n t) (T.kids t)))) (T.kids (T.CoR (T.mk (T.k t) (T.n t) (T.kids t))))))) []))
     (Ret K (.bool false) []))
     (Br (Bool.not (T.CoO (T.mk (T.k t) (T.n t) (T.kids t))))
     (Br (BEq.beq (T.CoO (T.mk (T.k t) (T.n t) (T.kids t))) (T.CoO (T.mk (T.k t) (T.n t) (T.kids t))))
     (((sizeL (T.kids (T.CoR (T.mk (T.k t) (T.n t) (T.kids t))))) ≤ (1099511627776 : Nat)) ∧
     (Ret K (.bool (T.same (T.mk (T.k (T.CoR (T.mk (T.k t) (T.n t) (T.kids t)))) (T.n (T.CoR (T.mk (T.k t) (T.n t) (T.kids t)))) (T.kids (T.CoR (T.mk (T.k t) (T.n t) (T.kids t))))) (T.mk (T.k (T.CoR (T.mk (T.k t) (T.n t) (T.kids t)))) (T.n (T.CoR (T.mk (T.k t) (T.n t) (T.kids t)))) (T.kids (T.CoR (T.mk (T.k t) (T.n t) (T.kids t))))))) []))
     (Ret K (.bool false) []))
     (True ∧
     (True ∧
     (Br (Decidable.decide ((if ((T.valid (T.mk (T.k t) (T.n t) (T.kids t))) = true) then (T.rdx (T.mk (T.k t) (T.n t) (T.kids t))) else (0 : Int)) ≠ (0 : Int)))
     (Br (Decidable.decide ((T.stC (T.mk (T.k t) (T.n t) (T.kids t)) plO) = (1 : Int)))
     (((sizeL (T.kids (T.CoR (T.mk (T.k t) (T.n t) (T.kids t))))) ≤ (1099511627776 : Nat)) ∧
     (Ret K (.bool (T.same (T.mk (T.k (T.CoR (T.mk (T.k t) (T.n t) (T.kids t)))) (T.n (T.CoR (T.mk (T.k t) (T.n t) (T.kids t)))) (T.kids (T.CoR (T.mk (T.k t) (T.n t) (T.kids t))))) (T.mk (T.k (T.stR (T.mk (T.k t) (T.n t) (T.kids t)) plO)) (T.n (T.stR (T.mk (T.k t) (T.n t) (T.kids t)) plO)) (T.kids (T.stR (T.mk (T.k t) (T.n t) (T.kids t)) plO))))) []))
     (Ret K (.bool false) []))
     (Ret K (.bool false) []))))))))))))))) ?_ (by kernel_rfl)
  refine br (fun _ => retB hk rfl) (fun _ => ⟨hp.2, fun t ht => ?_⟩)
  have z1 := CoR_small t
  have st := T.size_eq t
  have same : ∀ t : T, t.same t = true := fun t => T.same_iff.2 rfl
  simp only [T.eta, same, ne_eq, not_true_eq_false, not_false_eq_true, decide_true, decide_false, Bool.not_true, Bool.not_false, bne_self_eq_false]
  repeat' first
    | exact retB hk rfl
    | exact trivial
    | with_reducible refine brt ?_
    | with_reducible refine brf ?_
    | refine brd (fun _ => ?_) (fun _ => ?_)
    | refine brn (fun _ => ?_) (fun _ => ?_)
    | refine br (fun _ => ?_) (fun _ => ?_)
    | apply And.intro
    | omega
  · rename_i a b
    exact absurd rfl b
  · rename_i a _ _
    rw [Bool.not_eq_false'] at a
    exact retB hk (by rw [(CoO_step a).2.2.2]; exact same _)
  · rename_i a _ b
    rw [Bool.not_eq_false'] at a
    exact absurd (CoO_step a).2.2.1 b
  · rename_i a b
    rw [Bool.not_eq_false'] at a
    rw [if_pos (CoO_step a).1] at b
    exact absurd (CoO_step a).2.1 b
theorem FnContractTerm_sound : Sound Try.prog 4 cFnContractTerm := by
  refine soundF (G := [(21, cdContractTerm), (22, cContractTerm), (23, csContractTerm), (17, cTermSame), (24, cStepTerm), (25, cRedexOf)]) ((gcons dContractTerm_sound (gcons ContractTerm_sound (gcons sContractTerm_sound (gcons TermSame_sound (gcons StepTerm_sound (gcons RedexOf_sound gnil))))))) Try.func4 rfl (by kernel_rfl) fun args hs K hCC => ?_
  unfold cFnContractTerm at hCC
  split at hCC
  case h_2 => exact hCC.elim
  rename_i bs
  exact ⟨Nat.le_of_ble_eq_true rfl, _, FnContractTerm_ok bs K hCC.1 hCC.2⟩
end Go.Dk
namespace Go.Proofs.Ytcgnenkbmcbonaa
open Go.ChangeShapes Go.WideShapes Go.RowKit Go.Dk Go.Proofs
set_option linter.unusedVariables false
set_option maxRecDepth 100000 in
theorem FnContractTerm_lifted (os : Os) (started : os.Started) (H : Type) (enc : TypeId × Value → H) :
    ReturnsInHanded {} Try.checked os 4 .any (Rows.fnContractTermSpec.pre6 enc Try.prog Try.f4 Rows.fnContractTermRow.domain false) (Rows.fnContractTermSpec.post enc Try.prog Try.f4 false true false false) := by
  refine returnsInHanded_of_change (C := Try.checked) own started (by kernel_rfl) Try.func4
    (ChangeSpec.witness6 (enc := enc) (C := Try.checked) false ⟨#[], #[.slice none 0 0], []⟩ 8 (by kernel_rfl) (by kernel_rfl) (by kernel_rfl) (by kernel_rfl)) ?_
  intro W base args ds gs before hok hW _ _
  have hW' := hW
  obtain ⟨p, q, hA, hV, rfl, hfz, hnd⟩ := hW
  rw [Try.params4] at hA
  obtain ⟨rfl, rfl⟩ := trodVars_none hV
  obtain ⟨v0, vs0, d0, ds0, q0, s0, e0, rfl, rfl, h0, hA⟩ := trodAll_cons hA
  obtain ⟨rfl, rfl, rfl⟩ := trodAll_nil hA
  have ha : args = #[v0] := by cases args; simpa using e0
  subst ha
  obtain ⟨bs0, l0, p0, r0⟩ := open_bytes Try.underlying22 Try.underlying5 (by kernel_rfl) (plain_slice Try.underlying22 (hok 0 _ _ rfl rfl)) h0
  refine (law_call (args := [.ints .u8 bs0 (.arg 0)]) (vals := [v0]) FnContractTerm_sound (fun K hK => ⟨⟨l0, p0⟩, hK⟩) (fun j => slOf ([v0].getD j .nilFunc)) ⟨r0 _ 0 rfl, trivial⟩).mono fun e W' ⟨he, hk⟩ => ?_
  exact ⟨_, he, law_post laidOut (of_decide_eq_true (by kernel_rfl)) rfl rfl Try.underlying4 rfl hW' hk⟩
theorem FnContractTerm_holds : Rows.FnContractTermSaid :=
  OpenClaim.holds_of_wide 4 Try.f4 rfl rfl rfl rfl rfl rfl rfl ⟨rfl, rfl, rfl, rfl, rfl⟩ rfl rfl rfl rfl rfl (by kernel_rfl) Try.func4 (by kernel_rfl)
    (of_decide_eq_true (by kernel_rfl)) (by unfold Func.isWrapper; first | (rw [if_pos (by decide +kernel)]; kernel_rfl) | (rw [if_neg (by decide +kernel)]; exact ⟨rfl, rfl⟩))
    (fun os started H enc _ => FnContractTerm_lifted os started H enc)
end Go.Proofs.Ytcgnenkbmcbonaa
namespace Go.Dk
open Go.Proofs
end Go.Dk
