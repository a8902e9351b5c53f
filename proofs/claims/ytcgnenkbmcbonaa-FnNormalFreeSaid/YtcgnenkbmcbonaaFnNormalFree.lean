/- laws.FnNormalFree returns true and leaves its arguments as they were, for all arguments. -/
import Derived.Test.YtcgnenkbmcbonaaLaw
import Derived.Test.YtcgnenkbmcbonaaLw
import Derived.Test.YtcgnenkbmcbonaaDr4
import Derived.Test.YtcgnenkbmcbonaaL4
import Derived.Test.YtcgnenkbmcbonaaL4s
namespace Go.Dk
set_option linter.unusedVariables false
set_option linter.unusedSimpArgs false
open Go.Proofs
/-- laws.FnNormalFree -/
def cFnNormalFree : Con
  | [.ints .u8 bs (.arg 0)], [], K => ((bs.length ≤ 9223372036854775807 ∧ Bs bs)) ∧ ((K (.bool true) []))
  | _, _, _ => False
theorem FnNormalFree_ok (bs : List Int) (K : AV → List AV → Prop) (hp : ((bs.length ≤ 9223372036854775807 ∧ Bs bs))) (hk : ((K (.bool true) []))) :
    bodyQ [(32, cdNormalize), (18, cNormalize), (33, csNormalize), (17, cTermSame), (19, cMaxFree)] TY [] Try.f10 (body Try.f10) [.ints .u8 bs (.arg 0)] [] K := by
  refine of_vc (A :=
    (Br (Decidable.decide ((1048576 : Int) < (((List.length bs) : Nat) : Int)))
     (Ret K (.bool true) [])
     ((Bs bs) ∧
     (∀ t : T,
     (∀ f : Int,
     (((T.size t) ≤ (3000 : Nat)) →
     ((((- (1 : Int)) ≤ f) ∧ (f ≤ (201 : Int))) →
     (True ∧
     (((sizeL (T.kids t)) ≤ (1048576 : Nat)) ∧
     (Br (Decidable.decide ((Prod.snd (Prod.snd (T.red (T.mk (T.k t) (T.n t) (T.kids t)) plO f))) ≠ (Prod.snd (Prod.snd (T.red (T.mk (T.k t) (T.n t) (T.kids t)) plO f)))))
     (Br (Decidable.decide ((Prod.snd (Prod.snd (T.red (T.mk (T.k t) (T.n t) (T.kids t)) plO f))) = (Prod.snd (Prod.snd (T.red (T.mk (T.k t) (T.n t) (T.kids t)) plO f)))))
     (((sizeL (T.kids (Prod.fst (T.red (T.mk (T.k t) (T.n t) (T.kids t)) plO f)))) ≤ (1099511627776 : Nat)) ∧
     (Ret K (.bool (T.same (T.mk (T.k (Prod.fst (T.red (T.mk (T.k t) (T.n t) (T.kids t)) plO f))) (T.n (Prod.fst (T.red (T.mk (T.k t) (T.n t) (T.kids t)) plO f))) (T.kids (Prod.fst (T.red (T.mk (T.k t) (T.n t) (T.kids t)) plO f)))) (T.mk (T.k (Prod.fst (T.red (T.mk (T.k t) (T.n t) (T.kids t)) plO f))) (T.n (Prod.fst (T.red (T.mk (T.k t) (T.n t) (T.kids t)) plO f))) (T.kids (Prod.fst (T.red (T.mk (T.k t) (T.n t) (T.kids t)) plO f)))))) []))
     (Ret K (.bool false) []))
     (((sizeL (T.kids (Prod.fst (T.red (T.mk (T.k t) (T.n t) (T.kids t)) plO f)))) ≤ (1099511627776 : Nat)) ∧
     (Br (Bool.not (T.same (T.mk (T.k (Prod.fst (T.red (T.mk (T.k t) (T.n t) (T.kids t)) plO f))) (T.n (Prod.fst (T.red (T.mk (T.k t) (T.n t) (T.kids t)) plO f))) (T.kids (Prod.fst (T.red (T.mk (T.k t) (T.n t) (T.kids t)) plO f)))) (T.mk (T.k (Prod.fst (T.red (T.mk (T.k t) (T.n t) (T.kids t)) plO f))) (T.n (Prod.fst (T.red (T.mk (T.k t) (T.n t) (T.kids t)) plO f))) (T.kids (Prod.fst (T.red (T.mk (T.k t) (T.n t) (T.kids t)) plO f))))))
     (Br (Decidable.decide ((Prod.snd (Prod.snd (T.red (T.mk (T.k t) (T.n t) (T.kids t)) plO f))) = (Prod.snd (Prod.snd (T.red (T.mk (T.k t) (T.n t) (T.kids t)) plO f)))))
     (((sizeL (T.kids (Prod.fst (T.red (T.mk (T.k t) (T.n t) (T.kids t)) plO f)))) ≤ (1099511627776 : Nat)) ∧
     (Ret K (.bool (T.same (T.mk (T.k (Prod.fst (T.red (T.mk (T.k t) (T.n t) (T.kids t)) plO f))) (T.n (Prod.fst (T.red (T.mk (T.k t) (T.n t) (T.kids t)) plO f))) (T.kids (Prod.fst (T.red (T.mk (T.k t) (T.n t) (T.kids t)) plO f)))) (T.mk (T.k (Prod.fst (T.red (T.mk (T.k t) (T.n t) (T.kids t)) plO f))) (T.n (Prod.fst (T.red (T.mk (T.k t) (T.n t) (T.kids t)) plO f))) (T.kids (Prod.fst (T.red (T.mk (T.k t) (T.n t) (T.kids t)) plO f)))))) []))
     (Ret K (.bool false) []))
     (Br (Decidable.decide ((Prod.snd (Prod.snd (T.red (T.mk (T.k t) (T.n t) (T.kids t)) plO f))) ≠ (0 : Int)))
     (Br (Decidable.decide ((Prod.snd (Prod.snd (T.red (T.mk (T.k t) (T.n t) (T.kids t)) plO f))) = (Prod.snd (Prod.snd (T.red (T.mk (T.k t) (T.n t) (T.kids t)) plO f)))))
     (((sizeL (T.kids (Prod.fst (T.red (T.mk (T.k t) (T.n t) (T.kids t)) plO f)))) ≤ (1099511627776 : Nat)) ∧
     (Ret K (.bool (T.same (T.mk (T.k (Prod.fst (T.red (T.mk (T.k t) (T.n t) (T.kids t)) plO f))) (T.n (Prod.fst (T.red (T.mk (T.k t) (T.n t) (T.kids t)) plO f))) (T.kids (Prod.fst (T.red (T.mk (T.k t) (T.n t) (T.kids t)) plO f)))) (T.mk (T.k (Prod.fst (T.red (T.mk (T.k t) (T.n t) (T.kids t)) plO f))) (T.n (Prod.fst (T.red (T.mk (T.k t) (T.n t) (T.kids t)) plO f))) (T.kids (Prod.fst (T.red (T.mk (T.k t) (T.n t) (T.kids t)) plO f)))))) []))
     (Ret K (.bool false) []))
     (True ∧
     (((T.k t) = (T.k t)) ∧
     (((T.n t) = (T.n t)) ∧
     (((T.kids t) = (T.kids t)) ∧
     (True ∧
     (Ret K (.bool (Decidable.decide ((T.mf (T.mk (T.k (Prod.fst (T.red (T.mk (T.k t) (T.n t) (T.kids t)) plO f))) (T.n (Prod.fst (T.red (T.mk (T.k t) (T.n t) (T.kids t)) plO f))) (T.kids (Prod.fst (T.red (T.mk (T.k t) (T.n t) (T.kids t)) plO f))))) ≤ (T.mf (T.mk (T.k t) (T.n t) (T.kids t)))))) []))))))))))))))))))) ?_ (by kernel_rfl)
  refine br (fun _ => retB hk rfl) (fun _ => ⟨hp.2, fun t f ht hf => ?_⟩)
  have z1 := red_small t plO f
  have z2 := red_small t plI f
  have z3 := red_small t plH f
  have st := T.size_eq t
  have same : ∀ t : T, t.same t = true := fun t => T.same_iff.2 rfl
  simp only [T.eta, same, ne_eq, not_true_eq_false, not_false_eq_true, decide_true, decide_false, Bool.not_true, Bool.not_false, bne_self_eq_false]
  repeat' first
    | exact retB hk rfl
    | exact trivial
    | with_reducible refine brt ?_
    | with_reducible refine brf ?_
    | refine brd (fun _ => ?_) (fun _ => ?_)
    | refine brn (fun _ => ?_) (fun _ => ?_)
    | refine br (fun _ => ?_) (fun _ => ?_)
    | apply And.intro
    | omega
  rename_i a
  exact retB hk (decide_eq_true (red_mf (Decidable.byContradiction a)))
theorem FnNormalFree_sound : Sound Try.prog 10 cFnNormalFree := by
  refine soundF (G := [(32, cdNormalize), (18, cNormalize), (33, csNormalize), (17, cTermSame), (19, cMaxFree)]) ((gcons dNormalize_sound (gcons Normalize_sound (gcons sNormalize_sound (gcons TermSame_sound (gcons MaxFree_sound gnil)))))) Try.func10 rfl (by kernel_rfl) fun args hs K hCC => ?_
  unfold cFnNormalFree at hCC
  split at hCC
  case h_2 => exact hCC.elim
  rename_i bs
  exact ⟨Nat.le_of_ble_eq_true rfl, _, FnNormalFree_ok bs K hCC.1 hCC.2⟩
end Go.Dk
namespace Go.Proofs.Ytcgnenkbmcbonaa
open Go.ChangeShapes Go.WideShapes Go.RowKit Go.Dk Go.Proofs
set_option linter.unusedVariables false
set_option maxRecDepth 100000 in
theorem FnNormalFree_lifted (os : Os) (started : os.Started) (H : Type) (enc : TypeId × Value → H) :
    ReturnsInHanded {} Try.checked os 10 .any (Rows.fnNormalFreeSpec.pre6 enc Try.prog Try.f10 Rows.fnNormalFreeRow.domain false) (Rows.fnNormalFreeSpec.post enc Try.prog Try.f10 false true false false) := by
  refine returnsInHanded_of_change (C := Try.checked) own started (by kernel_rfl) Try.func10
    (ChangeSpec.witness6 (enc := enc) (C := Try.checked) false ⟨#[], #[.slice none 0 0], []⟩ 8 (by kernel_rfl) (by kernel_rfl) (by kernel_rfl) (by kernel_rfl)) ?_
  intro W base args ds gs before hok hW _ _
  have hW' := hW
  obtain ⟨p, q, hA, hV, rfl, hfz, hnd⟩ := hW
  rw [Try.params10] at hA
  obtain ⟨rfl, rfl⟩ := trodVars_none hV
  obtain ⟨v0, vs0, d0, ds0, q0, s0, e0, rfl, rfl, h0, hA⟩ := trodAll_cons hA
  obtain ⟨rfl, rfl, rfl⟩ := trodAll_nil hA
  have ha : args = #[v0] := by cases args; simpa using e0
  subst ha
  obtain ⟨bs0, l0, p0, r0⟩ := open_bytes Try.underlying22 Try.underlying5 (by kernel_rfl) (plain_slice Try.underlying22 (hok 0 _ _ rfl rfl)) h0
  refine (law_call (args := [.ints .u8 bs0 (.arg 0)]) (vals := [v0]) FnNormalFree_sound (fun K hK => ⟨⟨l0, p0⟩, hK⟩) (fun j => slOf ([v0].getD j .nilFunc)) ⟨r0 _ 0 rfl, trivial⟩).mono fun e W' ⟨he, hk⟩ => ?_
  exact ⟨_, he, law_post laidOut (of_decide_eq_true (by kernel_rfl)) rfl rfl Try.underlying4 rfl hW' hk⟩
theorem FnNormalFree_holds : Rows.FnNormalFreeSaid :=
  OpenClaim.holds_of_wide 10 Try.f10 rfl rfl rfl rfl rfl rfl rfl ⟨rfl, rfl, rfl, rfl, rfl⟩ rfl rfl rfl rfl rfl (by kernel_rfl) Try.func10 (by kernel_rfl)
    (of_decide_eq_true (by kernel_rfl)) (by unfold Func.isWrapper; first | (rw [if_pos (by decide +kernel)]; kernel_rfl) | (rw [if_neg (by decide +kernel)]; exact ⟨rfl, rfl⟩))
    (fun os started H enc _ => FnNormalFree_lifted os started H enc)
end Go.Proofs.Ytcgnenkbmcbonaa
namespace Go.Dk
open Go.Proofs
end Go.Dk
