/- laws.FnStepInner returns true and leaves its arguments as they were, for all arguments. -/
import Derived.Test.YtcgnenkbmcbonaaLaw
import Derived.Test.YtcgnenkbmcbonaaLw2
import Derived.Test.YtcgnenkbmcbonaaDr4
import Derived.Test.YtcgnenkbmcbonaaL3
import Derived.Test.YtcgnenkbmcbonaaL4
import Derived.Test.YtcgnenkbmcbonaaL4s
namespace Go.Dk
set_option linter.unusedVariables false
set_option linter.unusedSimpArgs false
open Go.Proofs
/-- laws.FnStepInner -/
def cFnStepInner : Con
  | [.ints .u8 bs (.arg 0)], [], K => ((bs.length ≤ 9223372036854775807 ∧ Bs bs)) ∧ ((K (.bool true) []))
  | _, _, _ => False
theorem FnStepInner_ok (bs : List Int) (K : AV → List AV → Prop) (hp : ((bs.length ≤ 9223372036854775807 ∧ Bs bs))) (hk : ((K (.bool true) []))) :
    bodyQ [(14, cdStepInner), (15, cStepInner), (16, csStepInner), (17, cTermSame), (20, cNormalTerm), (18, cNormalize), (19, cMaxFree)] TY [] Try.f3 (body Try.f3) [.ints .u8 bs (.arg 0)] [] K := by
  refine of_vc (A :=
    (Br (Decidable.decide ((1048576 : Int) < (((List.length bs) : Nat) : Int)))
     (Ret K (.bool true) [])
     ((Bs bs) ∧
     (∀ t : T,
     (((T.size t) ≤ (3000 : Nat)) →
     (True ∧
     (((sizeL (T.kids t)) ≤ (1048576 : Nat)) ∧
     (Br (Decidable.decide ((T.stC (T.mk (T.k t) (T.n t) (T.kids t)) plI) ≠ (T.stC (T.mk (T.k t) (T.n t) (T.kids t)) plI)))
     (Br (Decidable.decide ((T.stC (T.mk (T.k t) (T.n t) (T.kids t)) plI) = (T.stC (T.mk (T.k t) (T.n t) (T.kids t)) plI)))
     (((sizeL (T.kids (T.stR (T.mk (T.k t) (T.n t) (T.kids t)) plI))) ≤ (1099511627776 : Nat)) ∧
     (Ret K (.bool (T.same (T.mk (T.k (T.stR (T.mk (T.k t) (T.n t) (T.kids t)) plI)) (T.n (T.stR (T.mk (T.k t) (T.n t) (T.kids t)) plI)) (T.kids (T.stR (T.mk (T.k t) (T.n t) (T.kids t)) plI))) (T.mk (T.k (T.stR (T.mk (T.k t) (T.n t) (T.kids t)) plI)) (T.n (T.stR (T.mk (T.k t) (T.n t) (T.kids t)) plI)) (T.kids (T.stR (T.mk (T.k t) (T.n t) (T.kids t)) plI))))) []))
     (Ret K (.bool false) []))
     (((sizeL (T.kids (T.stR (T.mk (T.k t) (T.n t) (T.kids t)) plI))) ≤ (1099511627776 : Nat)) ∧
     (Br (Bool.not (T.same (T.mk (T.k (T.stR (T.mk (T.k t) (T.n t) (T.kids t)) plI)) (T.n (T.stR (T.mk (T.k t) (T.n t) (T.kids t)) plI)) (T.kids (T.stR (T.mk (T.k t) (T.n t) (T.kids t)) plI))) (T.mk (T.k (T.stR (T.mk (T.k t) (T.n t) (T.kids t)) plI)) (T.n (T.stR (T.mk (T.k t) (T.n t) (T.kids t)) plI)) (T.kids (T.stR (T.mk (T.k t) (T.n t) (T.kids t)) plI)))))
     (Br (Decidable.decide ((T.stC (T.mk (T.k t) (T.n t) (T.kids t)) plI) = (T.stC (T.mk (T.k t) (T.n t) (T.kids t)) plI)))
     (((sizeL (T.kids (T.stR (T.mk (T.k t) (T.n t) (T.kids t)) plI))) ≤ (1099511627776 : Nat)) ∧
     (Ret K (.bool (T.same (T.mk (T.k (T.stR (T.mk (T.k t) (T.n t) (T.kids t)) plI)) (T.n (T.stR (T.mk (T.k t) (T.n t) (T.kids t)) plI)) (T.kids (T.stR (T.mk (T.k t) (T.n t) (T.kids t)) plI))) (T.mk (T.k (T.stR (T.mk (T.k t) (T.n t) (T.kids t)) plI)) (T.n (T.stR (T.mk (T.k t) (T.n t) (T.kids t)) plI)) (T.kids (T.stR (T.mk (T.k t) (T.n t) (T.kids t)) plI))))) []))
     (Ret K (.bool false) []))
     (Br (Decidable.decide ((T.stC (T.mk (T.k t) (T.n t) (T.kids t)) plI) ≠ (1 : Int)))
     (Br (Decidable.decide ((T.stC (T.mk (T.k t) (T.n t) (T.kids t)) plI) = (T.stC (T.mk (T.k t) (T.n t) (T.kids t)) plI)))
     (((sizeL (T.kids (T.stR (T.mk (T.k t) (T.n t) (T.kids t)) plI))) ≤ (1099511627776 : Nat)) ∧
     (Ret K (.bool (T.same (T.mk (T.k (T.stR (T.mk (T.k t) (T.n t) (T.kids t)) plI)) (T.n (T.stR (T.mk (T.k t) (T.n t) (T.kids t)) plI)) (T.kids (T.stR (T.mk (T.k t) (T.n t) (T.kids t)) plI))) (T.mk (T.k (T.stR (T.mk (T.k t) (T.n t) (T.kids t)) plI)) (T.n (T.stR (T.mk (T.k t) (T.n t) (T.kids t)) plI)) (T.kids (T.stR (T.mk (T.k t) (T.n t) (T.kids t)) plI))))) []))
     (Ret K (.bool false) []))
     (True ∧
     (True ∧
     (True ∧
     (((T.k t) = (T.k t)) ∧
     (((T.n t) = (T.n t)) ∧
     (((T.kids t) = (T.kids t)) ∧
     (True ∧
     (Br (Decidable.decide ((T.mf (T.mk (T.k (T.stR (T.mk (T.k t) (T.n t) (T.kids t)) plI)) (T.n (T.stR (T.mk (T.k t) (T.n t) (T.kids t)) plI)) (T.kids (T.stR (T.mk (T.k t) (T.n t) (T.kids t)) plI)))) ≤ (T.mf (T.mk (T.k t) (T.n t) (T.kids t)))))
     (True ∧
     (Br (Bool.not (Bool.and (T.valid (T.mk (T.k t) (T.n t) (T.kids t))) (T.nrm (T.mk (T.k t) (T.n t) (T.kids t)))))
     (Br (Decidable.decide ((Prod.snd (Prod.snd (T.red (T.mk (T.k t) (T.n t) (T.kids t)) plO (200 : Int)))) ≠ (0 : Int)))
     (Ret K (.bool true) [])
     (Br (Decidable.decide ((Prod.snd (Prod.snd (T.red (T.mk (T.k (T.stR (T.mk (T.k t) (T.n t) (T.kids t)) plI)) (T.n (T.stR (T.mk (T.k t) (T.n t) (T.kids t)) plI)) (T.kids (T.stR (T.mk (T.k t) (T.n t) (T.kids t)) plI))) plO (200 : Int)))) ≠ (0 : Int)))
     (Ret K (.bool true) [])
     (((sizeL (T.kids (Prod.fst (T.red (T.mk (T.k t) (T.n t) (T.kids t)) plO (200 : Int))))) ≤ (1099511627776 : Nat)) ∧
     (Ret K (.bool (T.same (T.mk (T.k (Prod.fst (T.red (T.mk (T.k t) (T.n t) (T.kids t)) plO (200 : Int)))) (T.n (Prod.fst (T.red (T.mk (T.k t) (T.n t) (T.kids t)) plO (200 : Int)))) (T.kids (Prod.fst (T.red (T.mk (T.k t) (T.n t) (T.kids t)) plO (200 : Int))))) (T.mk (T.k (Prod.fst (T.red (T.mk (T.k (T.stR (T.mk (T.k t) (T.n t) (T.kids t)) plI)) (T.n (T.stR (T.mk (T.k t) (T.n t) (T.kids t)) plI)) (T.kids (T.stR (T.mk (T.k t) (T.n t) (T.kids t)) plI))) plO (200 : Int)))) (T.n (Prod.fst (T.red (T.mk (T.k (T.stR (T.mk (T.k t) (T.n t) (T.kids t)) plI)) (T.n (T.stR (T.mk (T.k t) (T.n t) (T.kids t)) plI)) (T.kids (T.stR (T.mk (T.k t) (T.n t) (T.kids t)) plI))) plO (200 : Int)))) (T.kids (Prod.fst (T.red (T.mk (T.k (T.stR (T.mk (T.k t) (T.n t) (T.kids t)) plI)) (T.n (T.stR (T.mk (T.k t) (T.n t) (T.kids t)) plI)) (T.kids (T.stR (T.mk (T.k t) (T.n t) (T.kids t)) plI))) plO (200 : Int))))))) []))))
     (Ret K (.bool false) [])))
     (Ret K (.bool false) [])))))))))))))))))))) ?_ (by kernel_rfl)
  refine br (fun _ => retB hk rfl) (fun _ => ⟨hp.2, fun t ht => ?_⟩)
  have z1 := stR_small t plO
  have z2 := stR_small t plI
  have st := T.size_eq t
  have same : ∀ t : T, t.same t = true := fun t => T.same_iff.2 rfl
  simp only [T.eta, same, ne_eq, not_true_eq_false, not_false_eq_true, decide_true, decide_false, Bool.not_true, Bool.not_false, bne_self_eq_false]
  repeat' first
    | exact retB hk rfl
    | exact trivial
    | with_reducible refine brt ?_
    | with_reducible refine brf ?_
    | refine brd (fun _ => ?_) (fun _ => ?_)
    | refine brn (fun _ => ?_) (fun _ => ?_)
    | refine br (fun _ => ?_) (fun _ => ?_)
    | apply And.intro
    | omega
  · have := red_small t plO 200; omega
  · rename_i a _ _ b c
    have q := stC_one (P := plI) (t := t) (by omega)
    exact retB hk (by rw [red_after q.2.2.2.2.1 (f := 200) (g := 200) (by omega) (by omega)]; exact same _)
  · rename_i a _ b
    have q := stC_one (P := plI) (t := t) (by omega)
    have o : (!t.nrm) = true := q.2.1
    rw [q.1, Bool.true_and] at b
    rw [b] at o; cases o
  · rename_i a b
    have q := stC_one (P := plI) (t := t) (by omega)
    exact absurd q.2.2.2.2.2 b
theorem FnStepInner_sound : Sound Try.prog 3 cFnStepInner := by
  refine soundF (G := [(14, cdStepInner), (15, cStepInner), (16, csStepInner), (17, cTermSame), (20, cNormalTerm), (18, cNormalize), (19, cMaxFree)]) ((gcons dStepInner_sound (gcons StepInner_sound (gcons sStepInner_sound (gcons TermSame_sound (gcons NormalTerm_sound (gcons Normalize_sound (gcons MaxFree_sound gnil)))))))) Try.func3 rfl (by kernel_rfl) fun args hs K hCC => ?_
  unfold cFnStepInner at hCC
  split at hCC
  case h_2 => exact hCC.elim
  rename_i bs
  exact ⟨Nat.le_of_ble_eq_true rfl, _, FnStepInner_ok bs K hCC.1 hCC.2⟩
end Go.Dk
namespace Go.Proofs.Ytcgnenkbmcbonaa
open Go.ChangeShapes Go.WideShapes Go.RowKit Go.Dk Go.Proofs
set_option linter.unusedVariables false
set_option maxRecDepth 100000 in
theorem FnStepInner_lifted (os : Os) (started : os.Started) (H : Type) (enc : TypeId × Value → H) :
    ReturnsInHanded {} Try.checked os 3 .any (Rows.fnStepInnerSpec.pre6 enc Try.prog Try.f3 Rows.fnStepInnerRow.domain false) (Rows.fnStepInnerSpec.post enc Try.prog Try.f3 false true false false) := by
  refine returnsInHanded_of_change (C := Try.checked) own started (by kernel_rfl) Try.func3
    (ChangeSpec.witness6 (enc := enc) (C := Try.checked) false ⟨#[], #[.slice none 0 0], []⟩ 8 (by kernel_rfl) (by kernel_rfl) (by kernel_rfl) (by kernel_rfl)) ?_
  intro W base args ds gs before hok hW _ _
  have hW' := hW
  obtain ⟨p, q, hA, hV, rfl, hfz, hnd⟩ := hW
  rw [Try.params3] at hA
  obtain ⟨rfl, rfl⟩ := trodVars_none hV
  obtain ⟨v0, vs0, d0, ds0, q0, s0, e0, rfl, rfl, h0, hA⟩ := trodAll_cons hA
  obtain ⟨rfl, rfl, rfl⟩ := trodAll_nil hA
  have ha : args = #[v0] := by cases args; simpa using e0
  subst ha
  obtain ⟨bs0, l0, p0, r0⟩ := open_bytes Try.underlying22 Try.underlying5 (by kernel_rfl) (plain_slice Try.underlying22 (hok 0 _ _ rfl rfl)) h0
  refine (law_call (args := [.ints .u8 bs0 (.arg 0)]) (vals := [v0]) FnStepInner_sound (fun K hK => ⟨⟨l0, p0⟩, hK⟩) (fun j => slOf ([v0].getD j .nilFunc)) ⟨r0 _ 0 rfl, trivial⟩).mono fun e W' ⟨he, hk⟩ => ?_
  exact ⟨_, he, law_post laidOut (of_decide_eq_true (by kernel_rfl)) rfl rfl Try.underlying4 rfl hW' hk⟩
theorem FnStepInner_holds : Rows.FnStepInnerSaid :=
  OpenClaim.holds_of_wide 3 Try.f3 rfl rfl rfl rfl rfl rfl rfl ⟨rfl, rfl, rfl, rfl, rfl⟩ rfl rfl rfl rfl rfl (by kernel_rfl) Try.func3 (by kernel_rfl)
    (of_decide_eq_true (by kernel_rfl)) (by unfold Func.isWrapper; first | (rw [if_pos (by decide +kernel)]; kernel_rfl) | (rw [if_neg (by decide +kernel)]; exact ⟨rfl, rfl⟩))
    (fun os started H enc _ => FnStepInner_lifted os started H enc)
end Go.Proofs.Ytcgnenkbmcbonaa
namespace Go.Dk
open Go.Proofs
end Go.Dk
