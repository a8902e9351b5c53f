/- laws.FnRenameSame returns true and leaves its arguments as they were, for all arguments. -/
import Derived.Test.YtbkaifclhjgokaaLaw
import Derived.Test.YtbkaifclhjgokaaL0
import Derived.Test.YtbkaifclhjgokaaDr2
import Derived.Test.YtbkaifclhjgokaaTh
namespace Go.Dk
set_option linter.unusedVariables false
open Go.Proofs
/-- laws.FnRenameSame -/
def cFnRenameSame : Con
  | [.ints .u8 bs (.arg 0)], [], K => ((bs.length ≤ 9223372036854775807 ∧ Bs bs)) ∧ ((K (.bool true) []))
  | _, _, _ => False
theorem FnRenameSame_ok (bs : List Int) (K : AV → List AV → Prop) (hp : ((bs.length ≤ 9223372036854775807 ∧ Bs bs))) (hk : ((K (.bool true) []))) :
    bodyQ [(29, cdMaxFree), (23, cMaxFree), (21, csMaxFree), (35, cRenameTerm), (19, cTermSame)] TY [(9, { ι := T × Nat, ok := fun x => x.1.valid = true ∧ (x.2 : Int) ≤ x.1.mf, tl := fun x => [(3, .ptr 3), (4, .int .i64 (x.1.mf)), (5, .ints .i64 (idn x.2) (.iv 4 0 true (.tok 37))), (6, .int .i64 x.2)], hl := fun x => [(3, x.1.av .any)], fh := fun _ => [], μ := fun x => (x.1.mf - x.2).toNat })] Try.f10 (body Try.f10) [.ints .u8 bs (.arg 0)] [] K := by
  refine of_vc (A :=
      (Br (Decidable.decide ((1048576 : Int) < (((List.length bs) : Nat) : Int)))
        (Ret K (.bool true) [])
        ((Bs bs) ∧
         (∀ t : T,
           (((T.size t) ≤ (1000 : Nat)) →
            (True ∧
             (True ∧
              (Br (Decidable.decide ((T.mf (T.mk (T.k t) (T.n t) (T.kids t))) ≠ (T.mf (T.mk (T.k t) (T.n t) (T.kids t)))))
                (True ∧ (Ret K (.bool (Decidable.decide ((T.mf (T.mk (T.k t) (T.n t) (T.kids t))) = (T.mf (T.mk (T.k t) (T.n t) (T.kids t)))))) []))
                (Br (Decidable.decide ((T.mf (T.mk (T.k t) (T.n t) (T.kids t))) < (0 : Int)))
                  (True ∧ (Ret K (.bool (Decidable.decide ((T.mf (T.mk (T.k t) (T.n t) (T.kids t))) = (T.mf (T.mk (T.k t) (T.n t) (T.kids t)))))) []))
                  ((∃ x : (Prod T Nat),
                     ((((T.valid (Prod.fst x)) = true) ∧ ((((Prod.snd x) : Nat) : Int) ≤ (T.mf (Prod.fst x)))) ∧
                      (((T.mf (T.mk (T.k t) (T.n t) (T.kids t))) = (T.mf (Prod.fst x))) ∧
                       ((([] : List Int) = (idn (Prod.snd x))) ∧
                        (((0 : Int) = (((Prod.snd x) : Nat) : Int)) ∧
                         (((T.k t) = (T.k (Prod.fst x))) ∧ (((T.n t) = (T.n (Prod.fst x))) ∧ (((T.kids t) = (T.kids (Prod.fst x))) ∧ True)))))))) ∧
                   (∀ x : (Prod T Nat),
                     ((((T.valid (Prod.fst x)) = true) ∧ ((((Prod.snd x) : Nat) : Int) ≤ (T.mf (Prod.fst x)))) →
                      (Br (Decidable.decide ((((Prod.snd x) : Nat) : Int) < (T.mf (Prod.fst x))))
                        ((((((List.length (idn (Prod.snd x))) : Nat) : Int) + (1 : Int)) ≤ (1099511627776 : Int)) ∧
                         ((InR ((((Prod.snd x) : Nat) : Int) + (1 : Int))) ∧
                          (∃ y : (Prod T Nat),
                            ((((T.valid (Prod.fst y)) = true) ∧ ((((Prod.snd y) : Nat) : Int) ≤ (T.mf (Prod.fst y)))) ∧
                             (((T.mf (Prod.fst x)) = (T.mf (Prod.fst y))) ∧
                              ((((idn (Prod.snd x)) ++ [(((Prod.snd x) : Nat) : Int)]) = (idn (Prod.snd y))) ∧
                               ((((((Prod.snd x) : Nat) : Int) + (1 : Int)) = (((Prod.snd y) : Nat) : Int)) ∧
                                (((T.k (Prod.fst x)) = (T.k (Prod.fst y))) ∧
                                 (((T.n (Prod.fst x)) = (T.n (Prod.fst y))) ∧
                                  (((T.kids (Prod.fst x)) = (T.kids (Prod.fst y))) ∧
                                   ((Nat.succ (Int.toNat ((T.mf (Prod.fst y)) - (((Prod.snd y) : Nat) : Int)))) ≤ (Int.toNat ((T.mf (Prod.fst x)) - (((Prod.snd x) : Nat) : Int))))))))))))))
                        (True ∧
                         (Br (T.RnO (T.mk (T.k (Prod.fst x)) (T.n (Prod.fst x)) (T.kids (Prod.fst x))) (idn (Prod.snd x)))
                           (((sizeL (T.kids (T.RnR (T.mk (T.k (Prod.fst x)) (T.n (Prod.fst x)) (T.kids (Prod.fst x))) (idn (Prod.snd x))))) ≤ (1099511627776 : Nat)) ∧
                            (Ret K (.bool (T.same (T.mk (T.k (T.RnR (T.mk (T.k (Prod.fst x)) (T.n (Prod.fst x)) (T.kids (Prod.fst x))) (idn (Prod.snd x)))) (T.n (T.RnR (T.mk (T.k (Prod.fst x)) (T.n (Prod.fst x)) (T.kids (Prod.fst x))) (idn (Prod.snd x)))) (T.kids (T.RnR (T.mk (T.k (Prod.fst x)) (T.n (Prod.fst x)) (T.kids (Prod.fst x))) (idn (Prod.snd x))))) (T.mk (T.k (Prod.fst x)) (T.n (Prod.fst x)) (T.kids (Prod.fst x))))) []))
                           (Ret K (.bool false) [])))))))))))))))) ?_ (by kernel_rfl)
  refine br (fun _ => retB hk rfl) (fun _ => ⟨hp.2, fun t ht => ?_⟩)
  simp only [T.eta]
  refine ⟨trivial, trivial, br (fun h => absurd rfl (of_decide_eq_true h)) (fun _ => br (fun _ => ⟨trivial, retB hk (by simp)⟩) (fun h0 => ?_))⟩
  have h0 := of_decide_eq_false h0
  have hv := mf_valid (t := t) (by omega)
  refine ⟨⟨(t, 0), ⟨hv, by show (0 : Int) ≤ t.mf; omega⟩, (by repeat' first | trivial | rfl | (simp; done) | apply And.intro)⟩, ?_⟩
  rintro ⟨t, i⟩ ⟨g1, g2⟩
  simp only at g1 g2
  have em : t.mf = mfL (t.vs 0) := by unfold T.mf; rw [if_pos g1]
  have hr := mf_range t
  refine br (fun h => ?_) (fun h => ?_)
  · have h := of_decide_eq_true h
    simp only at h
    refine ⟨by rw [idn_len]; show (i : Int) + 1 ≤ _; omega, by unfold InR; show _ ≤ (i : Int) + 1 ∧ (i : Int) + 1 ≤ _; omega, (t, i + 1), ⟨g1, by show ((i + 1 : Nat) : Int) ≤ t.mf; omega⟩, (by first | trivial | rfl | (simp; done)), idn_succ i, by simp, (by first | trivial | rfl | (simp; done)), (by first | trivial | rfl | (simp; done)), (by first | trivial | rfl | (simp; done)), by show Nat.succ (t.mf - ((i + 1 : Nat) : Int)).toNat ≤ (t.mf - (i : Int)).toNat; omega⟩
  · have h := of_decide_eq_false h
    simp only at h
    obtain ⟨q1, q2⟩ := rn_id g1 (n := i) (by omega)
    have z := RnR_small t (idn i)
    refine ⟨trivial, br (fun _ => ⟨by show sizeL (t.RnR (idn i)).kids ≤ _; omega, retB hk ?_⟩) (fun h => ?_)⟩
    · show (t.RnR (idn i)).same t = true
      rw [q2]; exact T.same_iff.2 rfl
    · have h : t.RnO (idn i) = false := h
      rw [q1] at h; cases h
theorem FnRenameSame_sound : Sound Try.prog 10 cFnRenameSame := by
  refine soundF (G := [(29, cdMaxFree), (23, cMaxFree), (21, csMaxFree), (35, cRenameTerm), (19, cTermSame)]) ((gcons dMaxFree_sound (gcons MaxFree_sound (gcons sMaxFree_sound (gcons RenameTerm_sound (gcons TermSame_sound gnil)))))) Try.func10 rfl (by kernel_rfl) fun args hs K hCC => ?_
  unfold cFnRenameSame at hCC
  split at hCC
  case h_2 => exact hCC.elim
  rename_i bs
  exact ⟨Nat.le_of_ble_eq_true rfl, _, FnRenameSame_ok bs K hCC.1 hCC.2⟩
end Go.Dk
namespace Go.Proofs.Ytbkaifclhjgokaa
open Go.ChangeShapes Go.WideShapes Go.RowKit Go.Dk Go.Proofs
set_option linter.unusedVariables false
theorem FnRenameSame_lifted (os : Os) (started : os.Started) (H : Type) (enc : TypeId × Value → H) :
    ReturnsInHanded {} Try.checked os 10 .any (Rows.fnRenameSameSpec.pre6 enc Try.prog Try.f10 Rows.fnRenameSameRow.domain false) (Rows.fnRenameSameSpec.post enc Try.prog Try.f10 false true false false) := by
  refine returnsInHanded_of_change (C := Try.checked) own started (by kernel_rfl) Try.func10
    (ChangeSpec.witness6 (enc := enc) (C := Try.checked) false ⟨#[], #[.slice none 0 0], []⟩ 8 (by kernel_rfl) (by kernel_rfl) (by kernel_rfl) (by kernel_rfl)) ?_
  intro W base args ds gs before hok hW _ _
  have hW' := hW
  obtain ⟨p, q, hA, hV, rfl, hfz, hnd⟩ := hW
  rw [Try.params10] at hA
  obtain ⟨rfl, rfl⟩ := trodVars_none hV
  obtain ⟨v0, vs0, d0, ds0, q0, s0, e0, rfl, rfl, h0, hA⟩ := trodAll_cons hA
  obtain ⟨rfl, rfl, rfl⟩ := trodAll_nil hA
  have ha : args = #[v0] := by cases args; simpa using e0
  subst ha
  obtain ⟨bs0, l0, p0, r0⟩ := open_bytes Try.underlying22 Try.underlying5 (by kernel_rfl) (plain_slice Try.underlying22 (hok 0 _ _ rfl rfl)) h0
  refine (law_call (args := [.ints .u8 bs0 (.arg 0)]) (vals := [v0]) FnRenameSame_sound (fun K hK => ⟨⟨l0, p0⟩, hK⟩) (fun j => slOf ([v0].getD j .nilFunc)) ⟨r0 _ 0 rfl, trivial⟩).mono fun e W' ⟨he, hk⟩ => ?_
  exact ⟨_, he, law_post laidOut (of_decide_eq_true (by kernel_rfl)) rfl rfl Try.underlying4 rfl hW' hk⟩
theorem FnRenameSame_holds : Rows.FnRenameSameSaid :=
  OpenClaim.holds_of_wide 10 Try.f10 rfl rfl rfl rfl rfl rfl rfl ⟨rfl, rfl, rfl, rfl, rfl⟩ rfl rfl rfl rfl rfl (by kernel_rfl) Try.func10 (by kernel_rfl)
    (of_decide_eq_true (by kernel_rfl)) (by unfold Func.isWrapper; first | (rw [if_pos (by decide +kernel)]; kernel_rfl) | (rw [if_neg (by decide +kernel)]; exact ⟨rfl, rfl⟩))
    (fun os started H enc _ => FnRenameSame_lifted os started H enc)
end Go.Proofs.Ytbkaifclhjgokaa
namespace Go.Dk
open Go.Proofs
end Go.Dk
