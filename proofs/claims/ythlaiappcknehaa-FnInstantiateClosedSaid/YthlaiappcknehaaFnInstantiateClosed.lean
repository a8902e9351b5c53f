/- laws.FnInstantiateClosed returns true and leaves its arguments as they were, for all arguments. -/
import Derived.Test.YthlaiappcknehaaLaw
import Derived.Test.YthlaiappcknehaaL0
import Derived.Test.YthlaiappcknehaaDr2
import Derived.Test.YthlaiappcknehaaTh2
namespace Go.Dk
set_option linter.unusedVariables false
open Go.Proofs
/-- laws.FnInstantiateClosed -/
def cFnInstantiateClosed : Con
  | [.ints .u8 bs (.arg 0)], [], K => ((bs.length ≤ 9223372036854775807 ∧ Bs bs)) ∧ ((K (.bool true) []))
  | _, _, _ => False
theorem FnInstantiateClosed_ok (bs : List Int) (K : AV → List AV → Prop) (hp : ((bs.length ≤ 9223372036854775807 ∧ Bs bs))) (hk : ((K (.bool true) []))) :
    bodyQ [(25, cdInstantiate), (26, cInstantiate), (27, csInstantiate), (24, cMaxFree), (18, cTermSame)] TY [] Try.f6 (body Try.f6) [.ints .u8 bs (.arg 0)] [] K := by
  refine of_vc (A :=
      (Br (Decidable.decide ((1048576 : Int) < (((List.length bs) : Nat) : Int)))
        (Ret K (.bool true) [])
        ((Bs bs) ∧
         (∀ t : T,
           (∀ u : T,
             (((T.size t) ≤ (1000 : Nat)) →
              (((T.size u) ≤ (1000 : Nat)) →
               (True ∧
                (True ∧
                 (Br (bne (T.SbO (T.mk (T.k t) (T.n t) (T.kids t)) (0 : Int) (T.mk (T.k u) (T.n u) (T.kids u))) (T.SbO (T.mk (T.k t) (T.n t) (T.kids t)) (0 : Int) (T.mk (T.k u) (T.n u) (T.kids u))))
                   (Br (BEq.beq (T.SbO (T.mk (T.k t) (T.n t) (T.kids t)) (0 : Int) (T.mk (T.k u) (T.n u) (T.kids u))) (T.SbO (T.mk (T.k t) (T.n t) (T.kids t)) (0 : Int) (T.mk (T.k u) (T.n u) (T.kids u))))
                     (((sizeL (T.kids (T.SbR (T.mk (T.k t) (T.n t) (T.kids t)) (0 : Int) (T.mk (T.k u) (T.n u) (T.kids u))))) ≤ (1099511627776 : Nat)) ∧
                      (Ret K (.bool (T.same (T.mk (T.k (T.SbR (T.mk (T.k t) (T.n t) (T.kids t)) (0 : Int) (T.mk (T.k u) (T.n u) (T.kids u)))) (T.n (T.SbR (T.mk (T.k t) (T.n t) (T.kids t)) (0 : Int) (T.mk (T.k u) (T.n u) (T.kids u)))) (T.kids (T.SbR (T.mk (T.k t) (T.n t) (T.kids t)) (0 : Int) (T.mk (T.k u) (T.n u) (T.kids u))))) (T.mk (T.k (T.SbR (T.mk (T.k t) (T.n t) (T.kids t)) (0 : Int) (T.mk (T.k u) (T.n u) (T.kids u)))) (T.n (T.SbR (T.mk (T.k t) (T.n t) (T.kids t)) (0 : Int) (T.mk (T.k u) (T.n u) (T.kids u)))) (T.kids (T.SbR (T.mk (T.k t) (T.n t) (T.kids t)) (0 : Int) (T.mk (T.k u) (T.n u) (T.kids u))))))) []))
                     (Ret K (.bool false) []))
                   (((sizeL (T.kids (T.SbR (T.mk (T.k t) (T.n t) (T.kids t)) (0 : Int) (T.mk (T.k u) (T.n u) (T.kids u))))) ≤ (1099511627776 : Nat)) ∧
                    (Br (Bool.not (T.same (T.mk (T.k (T.SbR (T.mk (T.k t) (T.n t) (T.kids t)) (0 : Int) (T.mk (T.k u) (T.n u) (T.kids u)))) (T.n (T.SbR (T.mk (T.k t) (T.n t) (T.kids t)) (0 : Int) (T.mk (T.k u) (T.n u) (T.kids u)))) (T.kids (T.SbR (T.mk (T.k t) (T.n t) (T.kids t)) (0 : Int) (T.mk (T.k u) (T.n u) (T.kids u))))) (T.mk (T.k (T.SbR (T.mk (T.k t) (T.n t) (T.kids t)) (0 : Int) (T.mk (T.k u) (T.n u) (T.kids u)))) (T.n (T.SbR (T.mk (T.k t) (T.n t) (T.kids t)) (0 : Int) (T.mk (T.k u) (T.n u) (T.kids u)))) (T.kids (T.SbR (T.mk (T.k t) (T.n t) (T.kids t)) (0 : Int) (T.mk (T.k u) (T.n u) (T.kids u)))))))
                      (Br (BEq.beq (T.SbO (T.mk (T.k t) (T.n t) (T.kids t)) (0 : Int) (T.mk (T.k u) (T.n u) (T.kids u))) (T.SbO (T.mk (T.k t) (T.n t) (T.kids t)) (0 : Int) (T.mk (T.k u) (T.n u) (T.kids u))))
                        (((sizeL (T.kids (T.SbR (T.mk (T.k t) (T.n t) (T.kids t)) (0 : Int) (T.mk (T.k u) (T.n u) (T.kids u))))) ≤ (1099511627776 : Nat)) ∧
                         (Ret K (.bool (T.same (T.mk (T.k (T.SbR (T.mk (T.k t) (T.n t) (T.kids t)) (0 : Int) (T.mk (T.k u) (T.n u) (T.kids u)))) (T.n (T.SbR (T.mk (T.k t) (T.n t) (T.kids t)) (0 : Int) (T.mk (T.k u) (T.n u) (T.kids u)))) (T.kids (T.SbR (T.mk (T.k t) (T.n t) (T.kids t)) (0 : Int) (T.mk (T.k u) (T.n u) (T.kids u))))) (T.mk (T.k (T.SbR (T.mk (T.k t) (T.n t) (T.kids t)) (0 : Int) (T.mk (T.k u) (T.n u) (T.kids u)))) (T.n (T.SbR (T.mk (T.k t) (T.n t) (T.kids t)) (0 : Int) (T.mk (T.k u) (T.n u) (T.kids u)))) (T.kids (T.SbR (T.mk (T.k t) (T.n t) (T.kids t)) (0 : Int) (T.mk (T.k u) (T.n u) (T.kids u))))))) []))
                        (Ret K (.bool false) []))
                      (Br (Bool.not (T.SbO (T.mk (T.k t) (T.n t) (T.kids t)) (0 : Int) (T.mk (T.k u) (T.n u) (T.kids u))))
                        (Br (BEq.beq (T.SbO (T.mk (T.k t) (T.n t) (T.kids t)) (0 : Int) (T.mk (T.k u) (T.n u) (T.kids u))) (T.SbO (T.mk (T.k t) (T.n t) (T.kids t)) (0 : Int) (T.mk (T.k u) (T.n u) (T.kids u))))
                          (((sizeL (T.kids (T.SbR (T.mk (T.k t) (T.n t) (T.kids t)) (0 : Int) (T.mk (T.k u) (T.n u) (T.kids u))))) ≤ (1099511627776 : Nat)) ∧
                           (Ret K (.bool (T.same (T.mk (T.k (T.SbR (T.mk (T.k t) (T.n t) (T.kids t)) (0 : Int) (T.mk (T.k u) (T.n u) (T.kids u)))) (T.n (T.SbR (T.mk (T.k t) (T.n t) (T.kids t)) (0 : Int) (T.mk (T.k u) (T.n u) (T.kids u)))) (T.kids (T.SbR (T.mk (T.k t) (T.n t) (T.kids t)) (0 : Int) (T.mk (T.k u) (T.n u) (T.kids u))))) (T.mk (T.k (T.SbR (T.mk (T.k t) (T.n t) (T.kids t)) (0 : Int) (T.mk (T.k u) (T.n u) (T.kids u)))) (T.n (T.SbR (T.mk (T.k t) (T.n t) (T.kids t)) (0 : Int) (T.mk (T.k u) (T.n u) (T.kids u)))) (T.kids (T.SbR (T.mk (T.k t) (T.n t) (T.kids t)) (0 : Int) (T.mk (T.k u) (T.n u) (T.kids u))))))) []))
                          (Ret K (.bool false) []))
                        (True ∧
                         (Br (Decidable.decide ((0 : Int) < (T.mf (T.mk (T.k t) (T.n t) (T.kids t)))))
                           (Br (BEq.beq (T.SbO (T.mk (T.k t) (T.n t) (T.kids t)) (0 : Int) (T.mk (T.k u) (T.n u) (T.kids u))) (T.SbO (T.mk (T.k t) (T.n t) (T.kids t)) (0 : Int) (T.mk (T.k u) (T.n u) (T.kids u))))
                             (((sizeL (T.kids (T.SbR (T.mk (T.k t) (T.n t) (T.kids t)) (0 : Int) (T.mk (T.k u) (T.n u) (T.kids u))))) ≤ (1099511627776 : Nat)) ∧
                              (Ret K (.bool (T.same (T.mk (T.k (T.SbR (T.mk (T.k t) (T.n t) (T.kids t)) (0 : Int) (T.mk (T.k u) (T.n u) (T.kids u)))) (T.n (T.SbR (T.mk (T.k t) (T.n t) (T.kids t)) (0 : Int) (T.mk (T.k u) (T.n u) (T.kids u)))) (T.kids (T.SbR (T.mk (T.k t) (T.n t) (T.kids t)) (0 : Int) (T.mk (T.k u) (T.n u) (T.kids u))))) (T.mk (T.k (T.SbR (T.mk (T.k t) (T.n t) (T.kids t)) (0 : Int) (T.mk (T.k u) (T.n u) (T.kids u)))) (T.n (T.SbR (T.mk (T.k t) (T.n t) (T.kids t)) (0 : Int) (T.mk (T.k u) (T.n u) (T.kids u)))) (T.kids (T.SbR (T.mk (T.k t) (T.n t) (T.kids t)) (0 : Int) (T.mk (T.k u) (T.n u) (T.kids u))))))) []))
                             (Ret K (.bool false) []))
                           (((sizeL (T.kids (T.SbR (T.mk (T.k t) (T.n t) (T.kids t)) (0 : Int) (T.mk (T.k u) (T.n u) (T.kids u))))) ≤ (1099511627776 : Nat)) ∧
                            (Ret K (.bool (T.same (T.mk (T.k (T.SbR (T.mk (T.k t) (T.n t) (T.kids t)) (0 : Int) (T.mk (T.k u) (T.n u) (T.kids u)))) (T.n (T.SbR (T.mk (T.k t) (T.n t) (T.kids t)) (0 : Int) (T.mk (T.k u) (T.n u) (T.kids u)))) (T.kids (T.SbR (T.mk (T.k t) (T.n t) (T.kids t)) (0 : Int) (T.mk (T.k u) (T.n u) (T.kids u))))) (T.mk (T.k t) (T.n t) (T.kids t)))) []))))))))))))))))) ?_ (by kernel_rfl)
  refine br (fun _ => retB hk rfl) (fun _ => ⟨hp.2, fun t u ht hu => ?_⟩)
  have same : ∀ t : T, t.same t = true := fun t => T.same_iff.2 rfl
  simp only [T.eta, same]
  have z := SbR_small t 0 u
  have A : Br (t.SbO 0 u == t.SbO 0 u) (sizeL (t.SbR 0 u).kids ≤ 1099511627776 ∧ Ret K (AV.bool true) []) (Ret K (AV.bool false) []) := br (fun _ => ⟨by omega, retB hk rfl⟩) (fun h => absurd h (by simp))
  refine ⟨trivial, trivial, br (fun h => absurd h (by simp)) (fun _ => ⟨by omega, br (fun h => absurd h (by simp)) (fun _ => br (fun _ => A) (fun h1 => ⟨trivial, br (fun _ => A) (fun h2 => ⟨by omega, retB hk ?_⟩)⟩))⟩)⟩
  rw [Bool.not_eq_false'] at h1
  have h2 := of_decide_eq_false h2
  have hv := (SbO_parts h1).1
  have em : t.mf = mfL (t.vs 0) := by unfold T.mf; rw [if_pos hv]
  have := mfL_nonneg (t.vs 0)
  rw [sb_closed h1 (by omega)]
  exact same _
theorem FnInstantiateClosed_sound : Sound Try.prog 6 cFnInstantiateClosed := by
  refine soundF (G := [(25, cdInstantiate), (26, cInstantiate), (27, csInstantiate), (24, cMaxFree), (18, cTermSame)]) ((gcons dInstantiate_sound (gcons Instantiate_sound (gcons sInstantiate_sound (gcons MaxFree_sound (gcons TermSame_sound gnil)))))) Try.func6 rfl (by kernel_rfl) fun args hs K hCC => ?_
  unfold cFnInstantiateClosed at hCC
  split at hCC
  case h_2 => exact hCC.elim
  rename_i bs
  exact ⟨Nat.le_of_ble_eq_true rfl, _, FnInstantiateClosed_ok bs K hCC.1 hCC.2⟩
end Go.Dk
namespace Go.Proofs.Ythlaiappcknehaa
open Go.ChangeShapes Go.WideShapes Go.RowKit Go.Dk Go.Proofs
set_option linter.unusedVariables false
theorem FnInstantiateClosed_lifted (os : Os) (started : os.Started) (H : Type) (enc : TypeId × Value → H) :
    ReturnsInHanded {} Try.checked os 6 .any (Rows.fnInstantiateClosedSpec.pre6 enc Try.prog Try.f6 Rows.fnInstantiateClosedRow.domain false) (Rows.fnInstantiateClosedSpec.post enc Try.prog Try.f6 false true false false) := by
  refine returnsInHanded_of_change (C := Try.checked) own started (by kernel_rfl) Try.func6
    (ChangeSpec.witness6 (enc := enc) (C := Try.checked) false ⟨#[], #[.slice none 0 0], []⟩ 8 (by kernel_rfl) (by kernel_rfl) (by kernel_rfl) (by kernel_rfl)) ?_
  intro W base args ds gs before hok hW _ _
  have hW' := hW
  obtain ⟨p, q, hA, hV, rfl, hfz, hnd⟩ := hW
  rw [Try.params6] at hA
  obtain ⟨rfl, rfl⟩ := trodVars_none hV
  obtain ⟨v0, vs0, d0, ds0, q0, s0, e0, rfl, rfl, h0, hA⟩ := trodAll_cons hA
  obtain ⟨rfl, rfl, rfl⟩ := trodAll_nil hA
  have ha : args = #[v0] := by cases args; simpa using e0
  subst ha
  obtain ⟨bs0, l0, p0, r0⟩ := open_bytes Try.underlying22 Try.underlying5 (by kernel_rfl) (plain_slice Try.underlying22 (hok 0 _ _ rfl rfl)) h0
  refine (law_call (args := [.ints .u8 bs0 (.arg 0)]) (vals := [v0]) FnInstantiateClosed_sound (fun K hK => ⟨⟨l0, p0⟩, hK⟩) (fun j => slOf ([v0].getD j .nilFunc)) ⟨r0 _ 0 rfl, trivial⟩).mono fun e W' ⟨he, hk⟩ => ?_
  exact ⟨_, he, law_post laidOut (of_decide_eq_true (by kernel_rfl)) rfl rfl Try.underlying4 rfl hW' hk⟩
theorem FnInstantiateClosed_holds : Rows.FnInstantiateClosedSaid :=
  OpenClaim.holds_of_wide 6 Try.f6 rfl rfl rfl rfl rfl rfl rfl ⟨rfl, rfl, rfl, rfl, rfl⟩ rfl rfl rfl rfl rfl (by kernel_rfl) Try.func6 (by kernel_rfl)
    (of_decide_eq_true (by kernel_rfl)) (by unfold Func.isWrapper; first | (rw [if_pos (by decide +kernel)]; kernel_rfl) | (rw [if_neg (by decide +kernel)]; exact ⟨rfl, rfl⟩))
    (fun os started H enc _ => FnInstantiateClosed_lifted os started H enc)
end Go.Proofs.Ythlaiappcknehaa
namespace Go.Dk
open Go.Proofs
end Go.Dk
