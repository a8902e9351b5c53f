/- laws.FnFreeShift returns true and leaves its arguments as they were, for all arguments. -/
import Derived.Test.YtbkaifclhjgokaaLaw
import Derived.Test.YtbkaifclhjgokaaL0
import Derived.Test.YtbkaifclhjgokaaDr2
import Derived.Test.YtbkaifclhjgokaaTh
namespace Go.Dk
set_option linter.unusedVariables false
open Go.Proofs
/-- laws.FnFreeShift -/
def cFnFreeShift : Con
  | [.ints .u8 bs (.arg 0)], [], K => ((bs.length ≤ 9223372036854775807 ∧ Bs bs)) ∧ ((K (.bool true) []))
  | _, _, _ => False
theorem FnFreeShift_ok (bs : List Int) (K : AV → List AV → Prop) (hp : ((bs.length ≤ 9223372036854775807 ∧ Bs bs))) (hk : ((K (.bool true) []))) :
    bodyQ [(30, cdShiftTerm), (31, cShiftTerm), (32, csShiftTerm), (23, cMaxFree), (19, cTermSame)] TY [] Try.f12 (body Try.f12) [.ints .u8 bs (.arg 0)] [] K := by
  refine of_vc (A :=
      (Br (Decidable.decide ((1048576 : Int) < (((List.length bs) : Nat) : Int)))
        (Ret K (.bool true) [])
        ((Bs bs) ∧
         (∀ t : T,
           (∀ y : Int,
             (∀ c : Int,
               (((T.size t) ≤ (1000 : Nat)) →
                ((InR y) →
                 ((((- (1 : Int)) ≤ c) ∧ (c ≤ (21 : Int))) →
                  (True ∧
                   (True ∧
                    (True ∧
                     (Br (bne (T.ShO (T.mk (T.k t) (T.n t) (T.kids t)) y (0 : Int)) (T.ShO (T.mk (T.k t) (T.n t) (T.kids t)) y (0 : Int)))
                       (Br (BEq.beq (T.ShO (T.mk (T.k t) (T.n t) (T.kids t)) y (0 : Int)) (T.ShO (T.mk (T.k t) (T.n t) (T.kids t)) y (0 : Int)))
                         (((sizeL (T.kids (T.ShR (T.mk (T.k t) (T.n t) (T.kids t)) y (0 : Int)))) ≤ (1099511627776 : Nat)) ∧
                          (Ret K (.bool (T.same (T.mk (T.k (T.ShR (T.mk (T.k t) (T.n t) (T.kids t)) y (0 : Int))) (T.n (T.ShR (T.mk (T.k t) (T.n t) (T.kids t)) y (0 : Int))) (T.kids (T.ShR (T.mk (T.k t) (T.n t) (T.kids t)) y (0 : Int)))) (T.mk (T.k (T.ShR (T.mk (T.k t) (T.n t) (T.kids t)) y (0 : Int))) (T.n (T.ShR (T.mk (T.k t) (T.n t) (T.kids t)) y (0 : Int))) (T.kids (T.ShR (T.mk (T.k t) (T.n t) (T.kids t)) y (0 : Int)))))) []))
                         (Ret K (.bool false) []))
                       (((sizeL (T.kids (T.ShR (T.mk (T.k t) (T.n t) (T.kids t)) y (0 : Int)))) ≤ (1099511627776 : Nat)) ∧
                        (Br (Bool.not (T.same (T.mk (T.k (T.ShR (T.mk (T.k t) (T.n t) (T.kids t)) y (0 : Int))) (T.n (T.ShR (T.mk (T.k t) (T.n t) (T.kids t)) y (0 : Int))) (T.kids (T.ShR (T.mk (T.k t) (T.n t) (T.kids t)) y (0 : Int)))) (T.mk (T.k (T.ShR (T.mk (T.k t) (T.n t) (T.kids t)) y (0 : Int))) (T.n (T.ShR (T.mk (T.k t) (T.n t) (T.kids t)) y (0 : Int))) (T.kids (T.ShR (T.mk (T.k t) (T.n t) (T.kids t)) y (0 : Int))))))
                          (Br (BEq.beq (T.ShO (T.mk (T.k t) (T.n t) (T.kids t)) y (0 : Int)) (T.ShO (T.mk (T.k t) (T.n t) (T.kids t)) y (0 : Int)))
                            (((sizeL (T.kids (T.ShR (T.mk (T.k t) (T.n t) (T.kids t)) y (0 : Int)))) ≤ (1099511627776 : Nat)) ∧
                             (Ret K (.bool (T.same (T.mk (T.k (T.ShR (T.mk (T.k t) (T.n t) (T.kids t)) y (0 : Int))) (T.n (T.ShR (T.mk (T.k t) (T.n t) (T.kids t)) y (0 : Int))) (T.kids (T.ShR (T.mk (T.k t) (T.n t) (T.kids t)) y (0 : Int)))) (T.mk (T.k (T.ShR (T.mk (T.k t) (T.n t) (T.kids t)) y (0 : Int))) (T.n (T.ShR (T.mk (T.k t) (T.n t) (T.kids t)) y (0 : Int))) (T.kids (T.ShR (T.mk (T.k t) (T.n t) (T.kids t)) y (0 : Int)))))) []))
                            (Ret K (.bool false) []))
                          (Br (Bool.not (T.ShO (T.mk (T.k t) (T.n t) (T.kids t)) y (0 : Int)))
                            (Br (BEq.beq (T.ShO (T.mk (T.k t) (T.n t) (T.kids t)) y (0 : Int)) (T.ShO (T.mk (T.k t) (T.n t) (T.kids t)) y (0 : Int)))
                              (((sizeL (T.kids (T.ShR (T.mk (T.k t) (T.n t) (T.kids t)) y (0 : Int)))) ≤ (1099511627776 : Nat)) ∧
                               (Ret K (.bool (T.same (T.mk (T.k (T.ShR (T.mk (T.k t) (T.n t) (T.kids t)) y (0 : Int))) (T.n (T.ShR (T.mk (T.k t) (T.n t) (T.kids t)) y (0 : Int))) (T.kids (T.ShR (T.mk (T.k t) (T.n t) (T.kids t)) y (0 : Int)))) (T.mk (T.k (T.ShR (T.mk (T.k t) (T.n t) (T.kids t)) y (0 : Int))) (T.n (T.ShR (T.mk (T.k t) (T.n t) (T.kids t)) y (0 : Int))) (T.kids (T.ShR (T.mk (T.k t) (T.n t) (T.kids t)) y (0 : Int)))))) []))
                              (Ret K (.bool false) []))
                            (Br (Decidable.decide ((T.mf (T.mk (T.k t) (T.n t) (T.kids t))) = (0 : Int)))
                              (((sizeL (T.kids (T.ShR (T.mk (T.k t) (T.n t) (T.kids t)) y (0 : Int)))) ≤ (1099511627776 : Nat)) ∧
                               (Ret K (.bool (T.same (T.mk (T.k (T.ShR (T.mk (T.k t) (T.n t) (T.kids t)) y (0 : Int))) (T.n (T.ShR (T.mk (T.k t) (T.n t) (T.kids t)) y (0 : Int))) (T.kids (T.ShR (T.mk (T.k t) (T.n t) (T.kids t)) y (0 : Int)))) (T.mk (T.k t) (T.n t) (T.kids t)))) []))
                              (True ∧
                               ((InR ((T.mf (T.mk (T.k t) (T.n t) (T.kids t))) + y)) ∧
                                (Ret K (.bool (Decidable.decide ((T.mf (T.mk (T.k (T.ShR (T.mk (T.k t) (T.n t) (T.kids t)) y (0 : Int))) (T.n (T.ShR (T.mk (T.k t) (T.n t) (T.kids t)) y (0 : Int))) (T.kids (T.ShR (T.mk (T.k t) (T.n t) (T.kids t)) y (0 : Int))))) = ((T.mf (T.mk (T.k t) (T.n t) (T.kids t))) + y)))) [])))))))))))))))))))) ?_ (by kernel_rfl)
  refine br (fun _ => retB hk rfl) (fun _ => ⟨hp.2, fun t y c ht hy hc => ?_⟩)
  have same : ∀ t : T, t.same t = true := fun t => T.same_iff.2 rfl
  simp only [T.eta, same]
  have z1 := ShR_small t y 0
  refine ⟨trivial, trivial, trivial, br (fun h => absurd h (by simp)) (fun _ => ⟨by omega, br (fun h => absurd h (by simp)) (fun _ => br (fun h => ?_) (fun h0 => ?_))⟩)⟩
  · rw [Bool.not_eq_true'] at h
    rw [h]
    exact br (fun _ => ⟨by omega, retB hk rfl⟩) (fun h => absurd h (by simp))
  · have hO : t.ShO y 0 = true := by simpa using h0
    have h2 := (ShO_parts hO).2.1
    refine br (fun h => ⟨by omega, retB hk ?_⟩) (fun h => ⟨trivial, ?_, retB hk ?_⟩)
    · rw [sh_closed hO (of_decide_eq_true h)]; exact T.same_iff.2 rfl
    · have := mf_range t; unfold InR; omega
    · rw [(mf_sh hO).2 (of_decide_eq_false h)]; simp
theorem FnFreeShift_sound : Sound Try.prog 12 cFnFreeShift := by
  refine soundF (G := [(30, cdShiftTerm), (31, cShiftTerm), (32, csShiftTerm), (23, cMaxFree), (19, cTermSame)]) ((gcons dShiftTerm_sound (gcons ShiftTerm_sound (gcons sShiftTerm_sound (gcons MaxFree_sound (gcons TermSame_sound gnil)))))) Try.func12 rfl (by kernel_rfl) fun args hs K hCC => ?_
  unfold cFnFreeShift at hCC
  split at hCC
  case h_2 => exact hCC.elim
  rename_i bs
  exact ⟨Nat.le_of_ble_eq_true rfl, _, FnFreeShift_ok bs K hCC.1 hCC.2⟩
end Go.Dk
namespace Go.Proofs.Ytbkaifclhjgokaa
open Go.ChangeShapes Go.WideShapes Go.RowKit Go.Dk Go.Proofs
set_option linter.unusedVariables false
theorem FnFreeShift_lifted (os : Os) (started : os.Started) (H : Type) (enc : TypeId × Value → H) :
    ReturnsInHanded {} Try.checked os 12 .any (Rows.fnFreeShiftSpec.pre6 enc Try.prog Try.f12 Rows.fnFreeShiftRow.domain false) (Rows.fnFreeShiftSpec.post enc Try.prog Try.f12 false true false false) := by
  refine returnsInHanded_of_change (C := Try.checked) own started (by kernel_rfl) Try.func12
    (ChangeSpec.witness6 (enc := enc) (C := Try.checked) false ⟨#[], #[.slice none 0 0], []⟩ 8 (by kernel_rfl) (by kernel_rfl) (by kernel_rfl) (by kernel_rfl)) ?_
  intro W base args ds gs before hok hW _ _
  have hW' := hW
  obtain ⟨p, q, hA, hV, rfl, hfz, hnd⟩ := hW
  rw [Try.params12] at hA
  obtain ⟨rfl, rfl⟩ := trodVars_none hV
  obtain ⟨v0, vs0, d0, ds0, q0, s0, e0, rfl, rfl, h0, hA⟩ := trodAll_cons hA
  obtain ⟨rfl, rfl, rfl⟩ := trodAll_nil hA
  have ha : args = #[v0] := by cases args; simpa using e0
  subst ha
  obtain ⟨bs0, l0, p0, r0⟩ := open_bytes Try.underlying22 Try.underlying5 (by kernel_rfl) (plain_slice Try.underlying22 (hok 0 _ _ rfl rfl)) h0
  refine (law_call (args := [.ints .u8 bs0 (.arg 0)]) (vals := [v0]) FnFreeShift_sound (fun K hK => ⟨⟨l0, p0⟩, hK⟩) (fun j => slOf ([v0].getD j .nilFunc)) ⟨r0 _ 0 rfl, trivial⟩).mono fun e W' ⟨he, hk⟩ => ?_
  exact ⟨_, he, law_post laidOut (of_decide_eq_true (by kernel_rfl)) rfl rfl Try.underlying4 rfl hW' hk⟩
theorem FnFreeShift_holds : Rows.FnFreeShiftSaid :=
  OpenClaim.holds_of_wide 12 Try.f12 rfl rfl rfl rfl rfl rfl rfl ⟨rfl, rfl, rfl, rfl, rfl⟩ rfl rfl rfl rfl rfl (by kernel_rfl) Try.func12 (by kernel_rfl)
    (of_decide_eq_true (by kernel_rfl)) (by unfold Func.isWrapper; first | (rw [if_pos (by decide +kernel)]; kernel_rfl) | (rw [if_neg (by decide +kernel)]; exact ⟨rfl, rfl⟩))
    (fun os started H enc _ => FnFreeShift_lifted os started H enc)
end Go.Proofs.Ytbkaifclhjgokaa
namespace Go.Dk
open Go.Proofs
end Go.Dk
