/- laws.FnSubstFree returns true and leaves its arguments as they were, for all arguments. -/
import Derived.Test.YthlaiappcknehaaLaw
import Derived.Test.YthlaiappcknehaaL0
import Derived.Test.YthlaiappcknehaaDr2
import Derived.Test.YthlaiappcknehaaTh2
namespace Go.Dk
set_option linter.unusedVariables false
open Go.Proofs
/-- laws.FnSubstFree -/
def cFnSubstFree : Con
  | [.ints .u8 bs (.arg 0)], [], K => ((bs.length ≤ 9223372036854775807 ∧ Bs bs)) ∧ ((K (.bool true) []))
  | _, _, _ => False
theorem FnSubstFree_ok (bs : List Int) (K : AV → List AV → Prop) (hp : ((bs.length ≤ 9223372036854775807 ∧ Bs bs))) (hk : ((K (.bool true) []))) :
    bodyQ [(28, cdSubstTerm), (29, cSubstTerm), (30, csSubstTerm), (16, cShiftTerm), (31, cFreeAt), (20, cCountNodes), (19, cCountVar), (18, cTermSame)] TY [] Try.f9 (body Try.f9) [.ints .u8 bs (.arg 0)] [] K := by
  refine of_vc (A :=
      (Br (Decidable.decide ((1048576 : Int) < (((List.length bs) : Nat) : Int)))
        (Ret K (.bool true) [])
        ((Bs bs) ∧
         (∀ t : T,
           (∀ c : Int,
             (∀ u : T,
               (((T.size t) ≤ (1000 : Nat)) →
                ((((- (1 : Int)) ≤ c) ∧ (c ≤ (21 : Int))) →
                 (((T.size u) ≤ (1000 : Nat)) →
                  (True ∧
                   (True ∧
                    (Br (bne (T.SbO (T.mk (T.k t) (T.n t) (T.kids t)) c (T.mk (T.k u) (T.n u) (T.kids u))) (T.SbO (T.mk (T.k t) (T.n t) (T.kids t)) c (T.mk (T.k u) (T.n u) (T.kids u))))
                      (Br (BEq.beq (T.SbO (T.mk (T.k t) (T.n t) (T.kids t)) c (T.mk (T.k u) (T.n u) (T.kids u))) (T.SbO (T.mk (T.k t) (T.n t) (T.kids t)) c (T.mk (T.k u) (T.n u) (T.kids u))))
                        (((sizeL (T.kids (T.SbR (T.mk (T.k t) (T.n t) (T.kids t)) c (T.mk (T.k u) (T.n u) (T.kids u))))) ≤ (1099511627776 : Nat)) ∧
                         (Ret K (.bool (T.same (T.mk (T.k (T.SbR (T.mk (T.k t) (T.n t) (T.kids t)) c (T.mk (T.k u) (T.n u) (T.kids u)))) (T.n (T.SbR (T.mk (T.k t) (T.n t) (T.kids t)) c (T.mk (T.k u) (T.n u) (T.kids u)))) (T.kids (T.SbR (T.mk (T.k t) (T.n t) (T.kids t)) c (T.mk (T.k u) (T.n u) (T.kids u))))) (T.mk (T.k (T.SbR (T.mk (T.k t) (T.n t) (T.kids t)) c (T.mk (T.k u) (T.n u) (T.kids u)))) (T.n (T.SbR (T.mk (T.k t) (T.n t) (T.kids t)) c (T.mk (T.k u) (T.n u) (T.kids u)))) (T.kids (T.SbR (T.mk (T.k t) (T.n t) (T.kids t)) c (T.mk (T.k u) (T.n u) (T.kids u))))))) []))
                        (Ret K (.bool false) []))
                      (((sizeL (T.kids (T.SbR (T.mk (T.k t) (T.n t) (T.kids t)) c (T.mk (T.k u) (T.n u) (T.kids u))))) ≤ (1099511627776 : Nat)) ∧
                       (Br (Bool.not (T.same (T.mk (T.k (T.SbR (T.mk (T.k t) (T.n t) (T.kids t)) c (T.mk (T.k u) (T.n u) (T.kids u)))) (T.n (T.SbR (T.mk (T.k t) (T.n t) (T.kids t)) c (T.mk (T.k u) (T.n u) (T.kids u)))) (T.kids (T.SbR (T.mk (T.k t) (T.n t) (T.kids t)) c (T.mk (T.k u) (T.n u) (T.kids u))))) (T.mk (T.k (T.SbR (T.mk (T.k t) (T.n t) (T.kids t)) c (T.mk (T.k u) (T.n u) (T.kids u)))) (T.n (T.SbR (T.mk (T.k t) (T.n t) (T.kids t)) c (T.mk (T.k u) (T.n u) (T.kids u)))) (T.kids (T.SbR (T.mk (T.k t) (T.n t) (T.kids t)) c (T.mk (T.k u) (T.n u) (T.kids u)))))))
                         (Br (BEq.beq (T.SbO (T.mk (T.k t) (T.n t) (T.kids t)) c (T.mk (T.k u) (T.n u) (T.kids u))) (T.SbO (T.mk (T.k t) (T.n t) (T.kids t)) c (T.mk (T.k u) (T.n u) (T.kids u))))
                           (((sizeL (T.kids (T.SbR (T.mk (T.k t) (T.n t) (T.kids t)) c (T.mk (T.k u) (T.n u) (T.kids u))))) ≤ (1099511627776 : Nat)) ∧
                            (Ret K (.bool (T.same (T.mk (T.k (T.SbR (T.mk (T.k t) (T.n t) (T.kids t)) c (T.mk (T.k u) (T.n u) (T.kids u)))) (T.n (T.SbR (T.mk (T.k t) (T.n t) (T.kids t)) c (T.mk (T.k u) (T.n u) (T.kids u)))) (T.kids (T.SbR (T.mk (T.k t) (T.n t) (T.kids t)) c (T.mk (T.k u) (T.n u) (T.kids u))))) (T.mk (T.k (T.SbR (T.mk (T.k t) (T.n t) (T.kids t)) c (T.mk (T.k u) (T.n u) (T.kids u)))) (T.n (T.SbR (T.mk (T.k t) (T.n t) (T.kids t)) c (T.mk (T.k u) (T.n u) (T.kids u)))) (T.kids (T.SbR (T.mk (T.k t) (T.n t) (T.kids t)) c (T.mk (T.k u) (T.n u) (T.kids u))))))) []))
                           (Ret K (.bool false) []))
                         (Br (Bool.not (T.SbO (T.mk (T.k t) (T.n t) (T.kids t)) c (T.mk (T.k u) (T.n u) (T.kids u))))
                           (Br (BEq.beq (T.SbO (T.mk (T.k t) (T.n t) (T.kids t)) c (T.mk (T.k u) (T.n u) (T.kids u))) (T.SbO (T.mk (T.k t) (T.n t) (T.kids t)) c (T.mk (T.k u) (T.n u) (T.kids u))))
                             (((sizeL (T.kids (T.SbR (T.mk (T.k t) (T.n t) (T.kids t)) c (T.mk (T.k u) (T.n u) (T.kids u))))) ≤ (1099511627776 : Nat)) ∧
                              (Ret K (.bool (T.same (T.mk (T.k (T.SbR (T.mk (T.k t) (T.n t) (T.kids t)) c (T.mk (T.k u) (T.n u) (T.kids u)))) (T.n (T.SbR (T.mk (T.k t) (T.n t) (T.kids t)) c (T.mk (T.k u) (T.n u) (T.kids u)))) (T.kids (T.SbR (T.mk (T.k t) (T.n t) (T.kids t)) c (T.mk (T.k u) (T.n u) (T.kids u))))) (T.mk (T.k (T.SbR (T.mk (T.k t) (T.n t) (T.kids t)) c (T.mk (T.k u) (T.n u) (T.kids u)))) (T.n (T.SbR (T.mk (T.k t) (T.n t) (T.kids t)) c (T.mk (T.k u) (T.n u) (T.kids u)))) (T.kids (T.SbR (T.mk (T.k t) (T.n t) (T.kids t)) c (T.mk (T.k u) (T.n u) (T.kids u))))))) []))
                             (Ret K (.bool false) []))
                           (True ∧
                            (Br (Bool.not (Decidable.decide ((0 : Int) < (T.cv (T.mk (T.k t) (T.n t) (T.kids t)) c))))
                              (True ∧
                               (Br (Bool.not (T.ShO (T.mk (T.k (T.SbR (T.mk (T.k t) (T.n t) (T.kids t)) c (T.mk (T.k u) (T.n u) (T.kids u)))) (T.n (T.SbR (T.mk (T.k t) (T.n t) (T.kids t)) c (T.mk (T.k u) (T.n u) (T.kids u)))) (T.kids (T.SbR (T.mk (T.k t) (T.n t) (T.kids t)) c (T.mk (T.k u) (T.n u) (T.kids u))))) (1 : Int) c))
                                 (Ret K (.bool true) [])
                                 (((sizeL (T.kids (T.ShR (T.mk (T.k (T.SbR (T.mk (T.k t) (T.n t) (T.kids t)) c (T.mk (T.k u) (T.n u) (T.kids u)))) (T.n (T.SbR (T.mk (T.k t) (T.n t) (T.kids t)) c (T.mk (T.k u) (T.n u) (T.kids u)))) (T.kids (T.SbR (T.mk (T.k t) (T.n t) (T.kids t)) c (T.mk (T.k u) (T.n u) (T.kids u))))) (1 : Int) c))) ≤ (1099511627776 : Nat)) ∧
                                  (Ret K (.bool (T.same (T.mk (T.k (T.ShR (T.mk (T.k (T.SbR (T.mk (T.k t) (T.n t) (T.kids t)) c (T.mk (T.k u) (T.n u) (T.kids u)))) (T.n (T.SbR (T.mk (T.k t) (T.n t) (T.kids t)) c (T.mk (T.k u) (T.n u) (T.kids u)))) (T.kids (T.SbR (T.mk (T.k t) (T.n t) (T.kids t)) c (T.mk (T.k u) (T.n u) (T.kids u))))) (1 : Int) c)) (T.n (T.ShR (T.mk (T.k (T.SbR (T.mk (T.k t) (T.n t) (T.kids t)) c (T.mk (T.k u) (T.n u) (T.kids u)))) (T.n (T.SbR (T.mk (T.k t) (T.n t) (T.kids t)) c (T.mk (T.k u) (T.n u) (T.kids u)))) (T.kids (T.SbR (T.mk (T.k t) (T.n t) (T.kids t)) c (T.mk (T.k u) (T.n u) (T.kids u))))) (1 : Int) c)) (T.kids (T.ShR (T.mk (T.k (T.SbR (T.mk (T.k t) (T.n t) (T.kids t)) c (T.mk (T.k u) (T.n u) (T.kids u)))) (T.n (T.SbR (T.mk (T.k t) (T.n t) (T.kids t)) c (T.mk (T.k u) (T.n u) (T.kids u)))) (T.kids (T.SbR (T.mk (T.k t) (T.n t) (T.kids t)) c (T.mk (T.k u) (T.n u) (T.kids u))))) (1 : Int) c))) (T.mk (T.k t) (T.n t) (T.kids t)))) []))))
                              (True ∧
                               (((T.k u) = (T.k u)) ∧
                                (((T.n u) = (T.n u)) ∧
                                 (((T.kids u) = (T.kids u)) ∧
                                  (((T.k t) = (T.k t)) ∧
                                   (((T.n t) = (T.n t)) ∧
                                    (((T.kids t) = (T.kids t)) ∧
                                     (((T.k t) = (T.k t)) ∧
                                      (((T.n t) = (T.n t)) ∧
                                       (((T.kids t) = (T.kids t)) ∧
                                        (True ∧
                                         (((T.k u) = (T.k u)) ∧
                                          (((T.n u) = (T.n u)) ∧
                                           (((T.kids u) = (T.kids u)) ∧
                                            (((T.k t) = (T.k t)) ∧
                                             (((T.n t) = (T.n t)) ∧
                                              (((T.kids t) = (T.kids t)) ∧
                                               (True ∧
                                                (((T.k u) = (T.k u)) ∧
                                                 (((T.n u) = (T.n u)) ∧
                                                  (((T.kids u) = (T.kids u)) ∧
                                                   (True ∧
                                                    ((InR ((if ((T.valid (T.mk (T.k u) (T.n u) (T.kids u))) = true) then (((T.size (T.mk (T.k u) (T.n u) (T.kids u))) : Nat) : Int) else (0 : Int)) - (1 : Int))) ∧
                                                     ((InR ((T.cv (T.mk (T.k t) (T.n t) (T.kids t)) c) * ((if ((T.valid (T.mk (T.k u) (T.n u) (T.kids u))) = true) then (((T.size (T.mk (T.k u) (T.n u) (T.kids u))) : Nat) : Int) else (0 : Int)) - (1 : Int)))) ∧
                                                      ((InR ((if ((T.valid (T.mk (T.k t) (T.n t) (T.kids t))) = true) then (((T.size (T.mk (T.k t) (T.n t) (T.kids t))) : Nat) : Int) else (0 : Int)) + ((T.cv (T.mk (T.k t) (T.n t) (T.kids t)) c) * ((if ((T.valid (T.mk (T.k u) (T.n u) (T.kids u))) = true) then (((T.size (T.mk (T.k u) (T.n u) (T.kids u))) : Nat) : Int) else (0 : Int)) - (1 : Int))))) ∧
                                                       (Ret K (.bool (Decidable.decide ((if ((T.valid (T.mk (T.k (T.SbR (T.mk (T.k t) (T.n t) (T.kids t)) c (T.mk (T.k u) (T.n u) (T.kids u)))) (T.n (T.SbR (T.mk (T.k t) (T.n t) (T.kids t)) c (T.mk (T.k u) (T.n u) (T.kids u)))) (T.kids (T.SbR (T.mk (T.k t) (T.n t) (T.kids t)) c (T.mk (T.k u) (T.n u) (T.kids u)))))) = true) then (((T.size (T.mk (T.k (T.SbR (T.mk (T.k t) (T.n t) (T.kids t)) c (T.mk (T.k u) (T.n u) (T.kids u)))) (T.n (T.SbR (T.mk (T.k t) (T.n t) (T.kids t)) c (T.mk (T.k u) (T.n u) (T.kids u)))) (T.kids (T.SbR (T.mk (T.k t) (T.n t) (T.kids t)) c (T.mk (T.k u) (T.n u) (T.kids u)))))) : Nat) : Int) else (0 : Int)) = ((if ((T.valid (T.mk (T.k t) (T.n t) (T.kids t))) = true) then (((T.size (T.mk (T.k t) (T.n t) (T.kids t))) : Nat) : Int) else (0 : Int)) + ((T.cv (T.mk (T.k t) (T.n t) (T.kids t)) c) * ((if ((T.valid (T.mk (T.k u) (T.n u) (T.kids u))) = true) then (((T.size (T.mk (T.k u) (T.n u) (T.kids u))) : Nat) : Int) else (0 : Int)) - (1 : Int))))))) []))))))))))))))))))))))))))))))))))))))))))) ?_ (by kernel_rfl)
  refine br (fun _ => retB hk rfl) (fun _ => ⟨hp.2, fun t j u ht hj hu => ?_⟩)
  have same : ∀ t : T, t.same t = true := fun t => T.same_iff.2 rfl
  simp only [T.eta, same]
  have z := SbR_small t j u
  have A : Br (t.SbO j u == t.SbO j u) (sizeL (t.SbR j u).kids ≤ 1099511627776 ∧ Ret K (AV.bool true) []) (Ret K (AV.bool false) []) := br (fun _ => ⟨by omega, retB hk rfl⟩) (fun h => absurd h (by simp))
  refine ⟨trivial, trivial, br (fun h => absurd h (by simp)) (fun _ => ⟨by omega, br (fun h => absurd h (by simp)) (fun _ => br (fun _ => A) (fun h1 => ⟨trivial, br (fun h2 => ⟨trivial, br (fun _ => retB hk rfl) (fun h3 => ?_)⟩) (fun h2 => ?_)⟩))⟩)⟩
  · rw [Bool.not_eq_false'] at h1 h3
    have z2 := ShR_small (t.SbR j u) 1 j
    refine ⟨by omega, retB hk ?_⟩
    rw [sh_undo h1 (by simpa using h2) h3]; exact same _
  · rw [Bool.not_eq_false'] at h1
    have p := SbO_parts h1
    have hx : (t.SbR j u).valid = true := by rw [p.2.2.2.2]; exact p.2.2.2.1
    have e := sb_size h1
    have v1 := T.valid_size p.1
    have v2 := T.valid_size p.2.1
    have v3 := T.valid_size hx
    have v4 := T.size_eq u
    simp only [hx, p.1, p.2.1, if_true]
    refine ⟨trivial, trivial, trivial, trivial, trivial, trivial, trivial, trivial, trivial, trivial, trivial, trivial, trivial, trivial, trivial, trivial, trivial, trivial, trivial, trivial, trivial, trivial, by unfold InR; omega, by unfold InR; omega, by unfold InR; omega, retB hk (decide_eq_true e)⟩
theorem FnSubstFree_sound : Sound Try.prog 9 cFnSubstFree := by
  refine soundF (G := [(28, cdSubstTerm), (29, cSubstTerm), (30, csSubstTerm), (16, cShiftTerm), (31, cFreeAt), (20, cCountNodes), (19, cCountVar), (18, cTermSame)]) ((gcons dSubstTerm_sound (gcons SubstTerm_sound (gcons sSubstTerm_sound (gcons ShiftTerm_sound (gcons FreeAt_sound (gcons CountNodes_sound (gcons CountVar_sound (gcons TermSame_sound gnil))))))))) Try.func9 rfl (by kernel_rfl) fun args hs K hCC => ?_
  unfold cFnSubstFree at hCC
  split at hCC
  case h_2 => exact hCC.elim
  rename_i bs
  exact ⟨Nat.le_of_ble_eq_true rfl, _, FnSubstFree_ok bs K hCC.1 hCC.2⟩
end Go.Dk
namespace Go.Proofs.Ythlaiappcknehaa
open Go.ChangeShapes Go.WideShapes Go.RowKit Go.Dk Go.Proofs
set_option linter.unusedVariables false
theorem FnSubstFree_lifted (os : Os) (started : os.Started) (H : Type) (enc : TypeId × Value → H) :
    ReturnsInHanded {} Try.checked os 9 .any (Rows.fnSubstFreeSpec.pre6 enc Try.prog Try.f9 Rows.fnSubstFreeRow.domain false) (Rows.fnSubstFreeSpec.post enc Try.prog Try.f9 false true false false) := by
  refine returnsInHanded_of_change (C := Try.checked) own started (by kernel_rfl) Try.func9
    (ChangeSpec.witness6 (enc := enc) (C := Try.checked) false ⟨#[], #[.slice none 0 0], []⟩ 8 (by kernel_rfl) (by kernel_rfl) (by kernel_rfl) (by kernel_rfl)) ?_
  intro W base args ds gs before hok hW _ _
  have hW' := hW
  obtain ⟨p, q, hA, hV, rfl, hfz, hnd⟩ := hW
  rw [Try.params9] at hA
  obtain ⟨rfl, rfl⟩ := trodVars_none hV
  obtain ⟨v0, vs0, d0, ds0, q0, s0, e0, rfl, rfl, h0, hA⟩ := trodAll_cons hA
  obtain ⟨rfl, rfl, rfl⟩ := trodAll_nil hA
  have ha : args = #[v0] := by cases args; simpa using e0
  subst ha
  obtain ⟨bs0, l0, p0, r0⟩ := open_bytes Try.underlying22 Try.underlying5 (by kernel_rfl) (plain_slice Try.underlying22 (hok 0 _ _ rfl rfl)) h0
  refine (law_call (args := [.ints .u8 bs0 (.arg 0)]) (vals := [v0]) FnSubstFree_sound (fun K hK => ⟨⟨l0, p0⟩, hK⟩) (fun j => slOf ([v0].getD j .nilFunc)) ⟨r0 _ 0 rfl, trivial⟩).mono fun e W' ⟨he, hk⟩ => ?_
  exact ⟨_, he, law_post laidOut (of_decide_eq_true (by kernel_rfl)) rfl rfl Try.underlying4 rfl hW' hk⟩
theorem FnSubstFree_holds : Rows.FnSubstFreeSaid :=
  OpenClaim.holds_of_wide 9 Try.f9 rfl rfl rfl rfl rfl rfl rfl ⟨rfl, rfl, rfl, rfl, rfl⟩ rfl rfl rfl rfl rfl (by kernel_rfl) Try.func9 (by kernel_rfl)
    (of_decide_eq_true (by kernel_rfl)) (by unfold Func.isWrapper; first | (rw [if_pos (by decide +kernel)]; kernel_rfl) | (rw [if_neg (by decide +kernel)]; exact ⟨rfl, rfl⟩))
    (fun os started H enc _ => FnSubstFree_lifted os started H enc)
end Go.Proofs.Ythlaiappcknehaa
namespace Go.Dk
open Go.Proofs
end Go.Dk
