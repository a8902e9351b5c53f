/- laws.FnMaxFree returns true and leaves its arguments as they were, for all arguments. -/
import Derived.Test.YtbkaifclhjgokaaLaw
import Derived.Test.YtbkaifclhjgokaaL0
import Derived.Test.YtbkaifclhjgokaaDr2
import Derived.Test.YtbkaifclhjgokaaTh
namespace Go.Dk
set_option linter.unusedVariables false
open Go.Proofs
/-- laws.FnMaxFree -/
def cFnMaxFree : Con
  | [.ints .u8 bs (.arg 0)], [], K => ((bs.length ≤ 9223372036854775807 ∧ Bs bs)) ∧ ((K (.bool true) []))
  | _, _, _ => False
theorem FnMaxFree_ok (bs : List Int) (K : AV → List AV → Prop) (hp : ((bs.length ≤ 9223372036854775807 ∧ Bs bs))) (hk : ((K (.bool true) []))) :
    bodyQ [(29, cdMaxFree), (23, cMaxFree), (21, csMaxFree), (28, cFreeAt)] TY [(8, { ι := T × Int, ok := fun x => x.1.valid = true ∧ x.1.mf ≤ x.2 ∧ 0 ≤ x.1.mf ∧ x.2 ≤ 21, tl := fun x => [(3, .ptr 3), (4, .int .i64 (x.1.mf)), (5, .int .i64 (x.2))], hl := fun x => [(3, x.1.av .any)], fh := fun _ => [], μ := fun x => (21 - x.2).toNat })] Try.f7 (body Try.f7) [.ints .u8 bs (.arg 0)] [] K := by
  refine of_vc (A :=
      (Br (Decidable.decide ((1048576 : Int) < (((List.length bs) : Nat) : Int)))
        (Ret K (.bool true) [])
        ((Bs bs) ∧
         (∀ t : T,
           (((T.size t) ≤ (1000 : Nat)) →
            (True ∧
             (True ∧
              (Br (Decidable.decide ((T.mf (T.mk (T.k t) (T.n t) (T.kids t))) ≠ (T.mf (T.mk (T.k t) (T.n t) (T.kids t)))))
                (True ∧ (Ret K (.bool (Decidable.decide ((T.mf (T.mk (T.k t) (T.n t) (T.kids t))) = (T.mf (T.mk (T.k t) (T.n t) (T.kids t)))))) []))
                (Br (Decidable.decide ((T.mf (T.mk (T.k t) (T.n t) (T.kids t))) < (0 : Int)))
                  (True ∧ (Ret K (.bool (Decidable.decide ((T.mf (T.mk (T.k t) (T.n t) (T.kids t))) = (T.mf (T.mk (T.k t) (T.n t) (T.kids t)))))) []))
                  ((∃ x : (Prod T Int),
                     ((((T.valid (Prod.fst x)) = true) ∧ (((T.mf (Prod.fst x)) ≤ (Prod.snd x)) ∧ (((0 : Int) ≤ (T.mf (Prod.fst x))) ∧ ((Prod.snd x) ≤ (21 : Int))))) ∧
                      (((T.mf (T.mk (T.k t) (T.n t) (T.kids t))) = (T.mf (Prod.fst x))) ∧
                       (((T.mf (T.mk (T.k t) (T.n t) (T.kids t))) = (Prod.snd x)) ∧
                        (((T.k t) = (T.k (Prod.fst x))) ∧ (((T.n t) = (T.n (Prod.fst x))) ∧ (((T.kids t) = (T.kids (Prod.fst x))) ∧ True))))))) ∧
                   (∀ x : (Prod T Int),
                     ((((T.valid (Prod.fst x)) = true) ∧ (((T.mf (Prod.fst x)) ≤ (Prod.snd x)) ∧ (((0 : Int) ≤ (T.mf (Prod.fst x))) ∧ ((Prod.snd x) ≤ (21 : Int))))) →
                      (Br (Decidable.decide ((Prod.snd x) ≤ (20 : Int)))
                        (True ∧
                         (Br (Decidable.decide ((0 : Int) < (T.cv (T.mk (T.k (Prod.fst x)) (T.n (Prod.fst x)) (T.kids (Prod.fst x))) (Prod.snd x))))
                           (Ret K (.bool false) [])
                           ((InR ((Prod.snd x) + (1 : Int))) ∧
                            (∃ y : (Prod T Int),
                              ((((T.valid (Prod.fst y)) = true) ∧ (((T.mf (Prod.fst y)) ≤ (Prod.snd y)) ∧ (((0 : Int) ≤ (T.mf (Prod.fst y))) ∧ ((Prod.snd y) ≤ (21 : Int))))) ∧
                               (((T.mf (Prod.fst x)) = (T.mf (Prod.fst y))) ∧
                                ((((Prod.snd x) + (1 : Int)) = (Prod.snd y)) ∧
                                 (((T.k (Prod.fst x)) = (T.k (Prod.fst y))) ∧
                                  (((T.n (Prod.fst x)) = (T.n (Prod.fst y))) ∧
                                   (((T.kids (Prod.fst x)) = (T.kids (Prod.fst y))) ∧ ((Nat.succ (Int.toNat ((21 : Int) - (Prod.snd y)))) ≤ (Int.toNat ((21 : Int) - (Prod.snd x))))))))))))))
                        (Br (Decidable.decide ((T.mf (Prod.fst x)) = (0 : Int)))
                          (Ret K (.bool true) [])
                          ((InR ((T.mf (Prod.fst x)) - (1 : Int))) ∧
                           (True ∧
                            (Ret K (.bool (Decidable.decide ((0 : Int) < (T.cv (T.mk (T.k (Prod.fst x)) (T.n (Prod.fst x)) (T.kids (Prod.fst x))) ((T.mf (Prod.fst x)) - (1 : Int)))))) []))))))))))))))))) ?_ (by kernel_rfl)
  refine br (fun _ => retB hk rfl) (fun _ => ⟨hp.2, fun t ht => ?_⟩)
  simp only [T.eta]
  refine ⟨trivial, trivial, br (fun h => absurd rfl (of_decide_eq_true h)) (fun _ => br (fun _ => ⟨trivial, retB hk (by simp)⟩) (fun h0 => ?_))⟩
  have h0 := of_decide_eq_false h0
  have hv := mf_valid (t := t) (by omega)
  have hr := mf_range t
  refine ⟨⟨(t, t.mf), ⟨hv, Int.le_refl _, by show 0 ≤ t.mf; omega, by show t.mf ≤ 21; omega⟩, (by repeat' first | trivial | rfl | (simp; done) | apply And.intro)⟩, ?_⟩
  rintro ⟨t, i⟩ ⟨g1, g2, g3, g4⟩
  simp only at g1 g2 g3 g4
  have em : t.mf = mfL (t.vs 0) := by unfold T.mf; rw [if_pos g1]
  refine br (fun h => ⟨trivial, br (fun h2 => ?_) (fun h2 => ⟨by unfold InR; show _ ≤ i + 1 ∧ i + 1 ≤ _; omega, (t, i + 1), ⟨g1, by show t.mf ≤ i + 1; omega, g3, ?_⟩, (by first | trivial | rfl | (simp; done)), (by first | trivial | rfl | (simp; done)), (by first | trivial | rfl | (simp; done)), (by first | trivial | rfl | (simp; done)), (by first | trivial | rfl | (simp; done)), by have h := of_decide_eq_true h; show Nat.succ (21 - (i + 1)).toNat ≤ (21 - i).toNat; simp only at h; omega⟩)⟩) (fun h => br (fun h2 => retB hk rfl) (fun h2 => ⟨by unfold InR; show _ ≤ t.mf - 1 ∧ t.mf - 1 ≤ _; omega, trivial, retB hk ?_⟩))
  · exfalso
    have h2 := of_decide_eq_true h2
    have h := of_decide_eq_true h
    simp only at h2 h
    unfold T.cv at h2
    rw [if_pos ⟨g1, by omega, h⟩] at h2
    obtain ⟨p, hp, e⟩ := cnL_pos.1 h2
    have := mfL_mem hp
    omega
  · have h := of_decide_eq_true h
    show i + 1 ≤ 21; simp only at h; omega
  · have h2 := of_decide_eq_false h2
    simp only at h2
    have hr := mf_range t
    obtain ⟨p, hp, e⟩ := mfL_ex (l := t.vs 0) (by omega)
    have : 0 < cnL (t.mf - 1) (t.vs 0) := cnL_pos.2 ⟨p, hp, by omega⟩
    show decide (0 < t.cv (t.mf - 1)) = true
    unfold T.cv
    rw [if_pos ⟨g1, by omega, by omega⟩]
    exact decide_eq_true this
theorem FnMaxFree_sound : Sound Try.prog 7 cFnMaxFree := by
  refine soundF (G := [(29, cdMaxFree), (23, cMaxFree), (21, csMaxFree), (28, cFreeAt)]) ((gcons dMaxFree_sound (gcons MaxFree_sound (gcons sMaxFree_sound (gcons FreeAt_sound gnil))))) Try.func7 rfl (by kernel_rfl) fun args hs K hCC => ?_
  unfold cFnMaxFree at hCC
  split at hCC
  case h_2 => exact hCC.elim
  rename_i bs
  exact ⟨Nat.le_of_ble_eq_true rfl, _, FnMaxFree_ok bs K hCC.1 hCC.2⟩
end Go.Dk
namespace Go.Proofs.Ytbkaifclhjgokaa
open Go.ChangeShapes Go.WideShapes Go.RowKit Go.Dk Go.Proofs
set_option linter.unusedVariables false
theorem FnMaxFree_lifted (os : Os) (started : os.Started) (H : Type) (enc : TypeId × Value → H) :
    ReturnsInHanded {} Try.checked os 7 .any (Rows.fnMaxFreeSpec.pre6 enc Try.prog Try.f7 Rows.fnMaxFreeRow.domain false) (Rows.fnMaxFreeSpec.post enc Try.prog Try.f7 false true false false) := by
  refine returnsInHanded_of_change (C := Try.checked) own started (by kernel_rfl) Try.func7
    (ChangeSpec.witness6 (enc := enc) (C := Try.checked) false ⟨#[], #[.slice none 0 0], []⟩ 8 (by kernel_rfl) (by kernel_rfl) (by kernel_rfl) (by kernel_rfl)) ?_
  intro W base args ds gs before hok hW _ _
  have hW' := hW
  obtain ⟨p, q, hA, hV, rfl, hfz, hnd⟩ := hW
  rw [Try.params7] at hA
  obtain ⟨rfl, rfl⟩ := trodVars_none hV
  obtain ⟨v0, vs0, d0, ds0, q0, s0, e0, rfl, rfl, h0, hA⟩ := trodAll_cons hA
  obtain ⟨rfl, rfl, rfl⟩ := trodAll_nil hA
  have ha : args = #[v0] := by cases args; simpa using e0
  subst ha
  obtain ⟨bs0, l0, p0, r0⟩ := open_bytes Try.underlying22 Try.underlying5 (by kernel_rfl) (plain_slice Try.underlying22 (hok 0 _ _ rfl rfl)) h0
  refine (law_call (args := [.ints .u8 bs0 (.arg 0)]) (vals := [v0]) FnMaxFree_sound (fun K hK => ⟨⟨l0, p0⟩, hK⟩) (fun j => slOf ([v0].getD j .nilFunc)) ⟨r0 _ 0 rfl, trivial⟩).mono fun e W' ⟨he, hk⟩ => ?_
  exact ⟨_, he, law_post laidOut (of_decide_eq_true (by kernel_rfl)) rfl rfl Try.underlying4 rfl hW' hk⟩
theorem FnMaxFree_holds : Rows.FnMaxFreeSaid :=
  OpenClaim.holds_of_wide 7 Try.f7 rfl rfl rfl rfl rfl rfl rfl ⟨rfl, rfl, rfl, rfl, rfl⟩ rfl rfl rfl rfl rfl (by kernel_rfl) Try.func7 (by kernel_rfl)
    (of_decide_eq_true (by kernel_rfl)) (by unfold Func.isWrapper; first | (rw [if_pos (by decide +kernel)]; kernel_rfl) | (rw [if_neg (by decide +kernel)]; exact ⟨rfl, rfl⟩))
    (fun os started H enc _ => FnMaxFree_lifted os started H enc)
end Go.Proofs.Ytbkaifclhjgokaa
namespace Go.Dk
open Go.Proofs
end Go.Dk
