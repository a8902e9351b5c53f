/- laws.FnHeadNormal returns true and leaves its arguments as they were, for all arguments. -/
import Derived.Test.YtcgnenkbmcbonaaLaw
import Derived.Test.YtcgnenkbmcbonaaLw2
import Derived.Test.YtcgnenkbmcbonaaDr4
import Derived.Test.YtcgnenkbmcbonaaL2
import Derived.Test.YtcgnenkbmcbonaaL3
import Derived.Test.YtcgnenkbmcbonaaL4
import Derived.Test.YtcgnenkbmcbonaaL4s
namespace Go.Dk
set_option linter.unusedVariables false
set_option linter.unusedSimpArgs false
open Go.Proofs
/-- laws.FnHeadNormal -/
def cFnHeadNormal : Con
  | [.ints .u8 bs (.arg 0)], [], K => ((bs.length ≤ 9223372036854775807 ∧ Bs bs)) ∧ ((K (.bool true) []))
  | _, _, _ => False
theorem FnHeadNormal_ok (bs : List Int) (K : AV → List AV → Prop) (hp : ((bs.length ≤ 9223372036854775807 ∧ Bs bs))) (hk : ((K (.bool true) []))) :
    bodyQ [(29, cdHeadNormal), (30, cHeadNormal), (31, csHeadNormal), (17, cTermSame), (18, cNormalize), (25, cRedexOf)] TY [] Try.f8 (body Try.f8) [.ints .u8 bs (.arg 0)] [] K := by
  refine of_vc (A :=
    (Br (Decidable.decide ((1048576 : Int) < (((List.length bs) : Nat) : Int)))
     (Ret K (.bool true) [])
     ((Bs bs) ∧
     (∀ t : T,
     (∀ f : Int,
     (((T.size t) ≤ (3000 : Nat)) →
     ((((- (1 : Int)) ≤ f) ∧ (f ≤ (201 : Int))) →
     (True ∧
     (True ∧
     (Br (Decidable.decide ((Prod.snd (Prod.snd (T.red (T.mk (T.k t) (T.n t) (T.kids t)) plH f))) ≠ (Prod.snd (Prod.snd (T.red (T.mk (T.k t) (T.n t) (T.kids t)) plH f)))))
     (Br (Decidable.decide ((Prod.snd (Prod.snd (T.red (T.mk (T.k t) (T.n t) (T.kids t)) plH f))) = (Prod.snd (Prod.snd (T.red (T.mk (T.k t) (T.n t) (T.kids t)) plH f)))))
     (((sizeL (T.kids (Prod.fst (T.red (T.mk (T.k t) (T.n t) (T.kids t)) plH f)))) ≤ (1099511627776 : Nat)) ∧
     (Ret K (.bool (T.same (T.mk (T.k (Prod.fst (T.red (T.mk (T.k t) (T.n t) (T.kids t)) plH f))) (T.n (Prod.fst (T.red (T.mk (T.k t) (T.n t) (T.kids t)) plH f))) (T.kids (Prod.fst (T.red (T.mk (T.k t) (T.n t) (T.kids t)) plH f)))) (T.mk (T.k (Prod.fst (T.red (T.mk (T.k t) (T.n t) (T.kids t)) plH f))) (T.n (Prod.fst (T.red (T.mk (T.k t) (T.n t) (T.kids t)) plH f))) (T.kids (Prod.fst (T.red (T.mk (T.k t) (T.n t) (T.kids t)) plH f)))))) []))
     (Ret K (.bool false) []))
     (((sizeL (T.kids (Prod.fst (T.red (T.mk (T.k t) (T.n t) (T.kids t)) plH f)))) ≤ (1099511627776 : Nat)) ∧
     (Br (Bool.not (T.same (T.mk (T.k (Prod.fst (T.red (T.mk (T.k t) (T.n t) (T.kids t)) plH f))) (T.n (Prod.fst (T.red (T.mk (T.k t) (T.n t) (T.kids t)) plH f))) (T.kids (Prod.fst (T.red (T.mk (T.k t) (T.n t) (T.kids t)) plH f)))) (T.mk (T.k (Prod.fst (T.red (T.mk (T.k t) (T.n t) (T.kids t)) plH f))) (T.n (Prod.fst (T.red (T.mk (T.k t) (T.n t) (T.kids t)) plH f))) (T.kids (Prod.fst (T.red (T.mk (T.k t) (T.n t) (T.kids t)) plH f))))))
     (Br (Decidable.decide ((Prod.snd (Prod.snd (T.red (T.mk (T.k t) (T.n t) (T.kids t)) plH f))) = (Prod.snd (Prod.snd (T.red (T.mk (T.k t) (T.n t) (T.kids t)) plH f)))))
     (((sizeL (T.kids (Prod.fst (T.red (T.mk (T.k t) (T.n t) (T.kids t)) plH f)))) ≤ (1099511627776 : Nat)) ∧
     (Ret K (.bool (T.same (T.mk (T.k (Prod.fst (T.red (T.mk (T.k t) (T.n t) (T.kids t)) plH f))) (T.n (Prod.fst (T.red (T.mk (T.k t) (T.n t) (T.kids t)) plH f))) (T.kids (Prod.fst (T.red (T.mk (T.k t) (T.n t) (T.kids t)) plH f)))) (T.mk (T.k (Prod.fst (T.red (T.mk (T.k t) (T.n t) (T.kids t)) plH f))) (T.n (Prod.fst (T.red (T.mk (T.k t) (T.n t) (T.kids t)) plH f))) (T.kids (Prod.fst (T.red (T.mk (T.k t) (T.n t) (T.kids t)) plH f)))))) []))
     (Ret K (.bool false) []))
     (Br (Decidable.decide ((Prod.snd (Prod.snd (T.red (T.mk (T.k t) (T.n t) (T.kids t)) plH f))) ≠ (0 : Int)))
     (Br (Decidable.decide ((Prod.snd (Prod.snd (T.red (T.mk (T.k t) (T.n t) (T.kids t)) plH f))) = (Prod.snd (Prod.snd (T.red (T.mk (T.k t) (T.n t) (T.kids t)) plH f)))))
     (((sizeL (T.kids (Prod.fst (T.red (T.mk (T.k t) (T.n t) (T.kids t)) plH f)))) ≤ (1099511627776 : Nat)) ∧
     (Ret K (.bool (T.same (T.mk (T.k (Prod.fst (T.red (T.mk (T.k t) (T.n t) (T.kids t)) plH f))) (T.n (Prod.fst (T.red (T.mk (T.k t) (T.n t) (T.kids t)) plH f))) (T.kids (Prod.fst (T.red (T.mk (T.k t) (T.n t) (T.kids t)) plH f)))) (T.mk (T.k (Prod.fst (T.red (T.mk (T.k t) (T.n t) (T.kids t)) plH f))) (T.n (Prod.fst (T.red (T.mk (T.k t) (T.n t) (T.kids t)) plH f))) (T.kids (Prod.fst (T.red (T.mk (T.k t) (T.n t) (T.kids t)) plH f)))))) []))
     (Ret K (.bool false) []))
     (True ∧
     (True ∧
     (True ∧
     (True ∧
     (Br (Decidable.decide ((if ((T.valid (T.mk (T.k (Prod.fst (T.red (T.mk (T.k t) (T.n t) (T.kids t)) plH f))) (T.n (Prod.fst (T.red (T.mk (T.k t) (T.n t) (T.kids t)) plH f))) (T.kids (Prod.fst (T.red (T.mk (T.k t) (T.n t) (T.kids t)) plH f))))) = true) then (T.rdx (T.mk (T.k (Prod.fst (T.red (T.mk (T.k t) (T.n t) (T.kids t)) plH f))) (T.n (Prod.fst (T.red (T.mk (T.k t) (T.n t) (T.kids t)) plH f))) (T.kids (Prod.fst (T.red (T.mk (T.k t) (T.n t) (T.kids t)) plH f))))) else (0 : Int)) = (0 : Int)))
     (Br (Decidable.decide ((Prod.snd (Prod.snd (T.red (T.mk (T.k (Prod.fst (T.red (T.mk (T.k t) (T.n t) (T.kids t)) plH f))) (T.n (Prod.fst (T.red (T.mk (T.k t) (T.n t) (T.kids t)) plH f))) (T.kids (Prod.fst (T.red (T.mk (T.k t) (T.n t) (T.kids t)) plH f)))) plH (0 : Int)))) = (0 : Int)))
     (((sizeL (T.kids (Prod.fst (T.red (T.mk (T.k (Prod.fst (T.red (T.mk (T.k t) (T.n t) (T.kids t)) plH f))) (T.n (Prod.fst (T.red (T.mk (T.k t) (T.n t) (T.kids t)) plH f))) (T.kids (Prod.fst (T.red (T.mk (T.k t) (T.n t) (T.kids t)) plH f)))) plH (0 : Int))))) ≤ (1099511627776 : Nat)) ∧
     (Br (T.same (T.mk (T.k (Prod.fst (T.red (T.mk (T.k (Prod.fst (T.red (T.mk (T.k t) (T.n t) (T.kids t)) plH f))) (T.n (Prod.fst (T.red (T.mk (T.k t) (T.n t) (T.kids t)) plH f))) (T.kids (Prod.fst (T.red (T.mk (T.k t) (T.n t) (T.kids t)) plH f)))) plH (0 : Int)))) (T.n (Prod.fst (T.red (T.mk (T.k (Prod.fst (T.red (T.mk (T.k t) (T.n t) (T.kids t)) plH f))) (T.n (Prod.fst (T.red (T.mk (T.k t) (T.n t) (T.kids t)) plH f))) (T.kids (Prod.fst (T.red (T.mk (T.k t) (T.n t) (T.kids t)) plH f)))) plH (0 : Int)))) (T.kids (Prod.fst (T.red (T.mk (T.k (Prod.fst (T.red (T.mk (T.k t) (T.n t) (T.kids t)) plH f))) (T.n (Prod.fst (T.red (T.mk (T.k t) (T.n t) (T.kids t)) plH f))) (T.kids (Prod.fst (T.red (T.mk (T.k t) (T.n t) (T.kids t)) plH f)))) plH (0 : Int))))) (T.mk (T.k (Prod.fst (T.red (T.mk (T.k t) (T.n t) (T.kids t)) plH f))) (T.n (Prod.fst (T.red (T.mk (T.k t) (T.n t) (T.kids t)) plH f))) (T.kids (Prod.fst (T.red (T.mk (T.k t) (T.n t) (T.kids t)) plH f)))))
     (Br (Decidable.decide ((Prod.snd (Prod.snd (T.red (T.mk (T.k t) (T.n t) (T.kids t)) plO (200 : Int)))) ≠ (0 : Int)))
     (Ret K (.bool true) [])
     (Br (Decidable.decide ((Prod.snd (Prod.snd (T.red (T.mk (T.k (Prod.fst (T.red (T.mk (T.k t) (T.n t) (T.kids t)) plH f))) (T.n (Prod.fst (T.red (T.mk (T.k t) (T.n t) (T.kids t)) plH f))) (T.kids (Prod.fst (T.red (T.mk (T.k t) (T.n t) (T.kids t)) plH f)))) plO (200 : Int)))) ≠ (0 : Int)))
     (Ret K (.bool true) [])
     (((sizeL (T.kids (Prod.fst (T.red (T.mk (T.k t) (T.n t) (T.kids t)) plO (200 : Int))))) ≤ (1099511627776 : Nat)) ∧
     (Ret K (.bool (T.same (T.mk (T.k (Prod.fst (T.red (T.mk (T.k t) (T.n t) (T.kids t)) plO (200 : Int)))) (T.n (Prod.fst (T.red (T.mk (T.k t) (T.n t) (T.kids t)) plO (200 : Int)))) (T.kids (Prod.fst (T.red (T.mk (T.k t) (T.n t) (T.kids t)) plO (200 : Int))))) (T.mk (T.k (Prod.fst (T.red (T.mk (T.k (Prod.fst (T.red (T.mk (T.k t) (T.n t) (T.kids t)) plH f))) (T.n (Prod.fst (T.red (T.mk (T.k t) (T.n t) (T.kids t)) plH f))) (T.kids (Prod.fst (T.red (T.mk (T.k t) (T.n t) (T.kids t)) plH f)))) plO (200 : Int)))) (T.n (Prod.fst (T.red (T.mk (T.k (Prod.fst (T.red (T.mk (T.k t) (T.n t) (T.kids t)) plH f))) (T.n (Prod.fst (T.red (T.mk (T.k t) (T.n t) (T.kids t)) plH f))) (T.kids (Prod.fst (T.red (T.mk (T.k t) (T.n t) (T.kids t)) plH f)))) plO (200 : Int)))) (T.kids (Prod.fst (T.red (T.mk (T.k (Prod.fst (T.red (T.mk (T.k t) (T.n t) (T.kids t)) plH f))) (T.n (Prod.fst (T.red (T.mk (T.k t) (T.n t) (T.kids t)) plH f))) (T.kids (Prod.fst (T.red (T.mk (T.k t) (T.n t) (T.kids t)) plH f)))) plO (200 : Int))))))) []))))
     (Ret K (.bool false) [])))
     (Ret K (.bool false) []))
     (Ret K (.bool false) []))))))))))))))))))) ?_ (by kernel_rfl)
  refine br (fun _ => retB hk rfl) (fun _ => ⟨hp.2, fun t f ht hf => ?_⟩)
  have z1 := red_small t plO f
  have z2 := red_small t plI f
  have z3 := red_small t plH f
  have st := T.size_eq t
  have same : ∀ t : T, t.same t = true := fun t => T.same_iff.2 rfl
  simp only [T.eta, same, ne_eq, not_true_eq_false, not_false_eq_true, decide_true, decide_false, Bool.not_true, Bool.not_false, bne_self_eq_false]
  repeat' first
    | exact retB hk rfl
    | exact trivial
    | with_reducible refine brt ?_
    | with_reducible refine brf ?_
    | refine brd (fun _ => ?_) (fun _ => ?_)
    | refine brn (fun _ => ?_) (fun _ => ?_)
    | refine br (fun _ => ?_) (fun _ => ?_)
    | apply And.intro
    | omega
  all_goals
    have a : (t.red plH f).2.2 = 0 := by omega
    obtain ⟨a1, a2, a3, -⟩ := red_ok a
    have e := red_no (P := plH) (f := 0) ⟨a1, by omega, by omega⟩ a2
  · rw [e]; show sizeL (t.red plH f).1.kids ≤ _; omega
  · have := red_small t plO 200; omega
  · exact retB hk (by rw [red_after a3 (f := 200) (g := 200) (by omega) (by omega)]; exact same _)
  · rename_i b
    rw [e] at b
    have b2 : (t.red plH f).1.same (t.red plH f).1 = false := b
    rw [same] at b2; cases b2
  · rename_i b
    rw [e] at b; exact absurd rfl b
  · rename_i b
    rw [if_pos a1] at b; exact absurd (hdo_rdx a2) b
theorem FnHeadNormal_sound : Sound Try.prog 8 cFnHeadNormal := by
  refine soundF (G := [(29, cdHeadNormal), (30, cHeadNormal), (31, csHeadNormal), (17, cTermSame), (18, cNormalize), (25, cRedexOf)]) ((gcons dHeadNormal_sound (gcons HeadNormal_sound (gcons sHeadNormal_sound (gcons TermSame_sound (gcons Normalize_sound (gcons RedexOf_sound gnil))))))) Try.func8 rfl (by kernel_rfl) fun args hs K hCC => ?_
  unfold cFnHeadNormal at hCC
  split at hCC
  case h_2 => exact hCC.elim
  rename_i bs
  exact ⟨Nat.le_of_ble_eq_true rfl, _, FnHeadNormal_ok bs K hCC.1 hCC.2⟩
end Go.Dk
namespace Go.Proofs.Ytcgnenkbmcbonaa
open Go.ChangeShapes Go.WideShapes Go.RowKit Go.Dk Go.Proofs
set_option linter.unusedVariables false
set_option maxRecDepth 100000 in
theorem FnHeadNormal_lifted (os : Os) (started : os.Started) (H : Type) (enc : TypeId × Value → H) :
    ReturnsInHanded {} Try.checked os 8 .any (Rows.fnHeadNormalSpec.pre6 enc Try.prog Try.f8 Rows.fnHeadNormalRow.domain false) (Rows.fnHeadNormalSpec.post enc Try.prog Try.f8 false true false false) := by
  refine returnsInHanded_of_change (C := Try.checked) own started (by kernel_rfl) Try.func8
    (ChangeSpec.witness6 (enc := enc) (C := Try.checked) false ⟨#[], #[.slice none 0 0], []⟩ 8 (by kernel_rfl) (by kernel_rfl) (by kernel_rfl) (by kernel_rfl)) ?_
  intro W base args ds gs before hok hW _ _
  have hW' := hW
  obtain ⟨p, q, hA, hV, rfl, hfz, hnd⟩ := hW
  rw [Try.params8] at hA
  obtain ⟨rfl, rfl⟩ := trodVars_none hV
  obtain ⟨v0, vs0, d0, ds0, q0, s0, e0, rfl, rfl, h0, hA⟩ := trodAll_cons hA
  obtain ⟨rfl, rfl, rfl⟩ := trodAll_nil hA
  have ha : args = #[v0] := by cases args; simpa using e0
  subst ha
  obtain ⟨bs0, l0, p0, r0⟩ := open_bytes Try.underlying22 Try.underlying5 (by kernel_rfl) (plain_slice Try.underlying22 (hok 0 _ _ rfl rfl)) h0
  refine (law_call (args := [.ints .u8 bs0 (.arg 0)]) (vals := [v0]) FnHeadNormal_sound (fun K hK => ⟨⟨l0, p0⟩, hK⟩) (fun j => slOf ([v0].getD j .nilFunc)) ⟨r0 _ 0 rfl, trivial⟩).mono fun e W' ⟨he, hk⟩ => ?_
  exact ⟨_, he, law_post laidOut (of_decide_eq_true (by kernel_rfl)) rfl rfl Try.underlying4 rfl hW' hk⟩
theorem FnHeadNormal_holds : Rows.FnHeadNormalSaid :=
  OpenClaim.holds_of_wide 8 Try.f8 rfl rfl rfl rfl rfl rfl rfl ⟨rfl, rfl, rfl, rfl, rfl⟩ rfl rfl rfl rfl rfl (by kernel_rfl) Try.func8 (by kernel_rfl)
    (of_decide_eq_true (by kernel_rfl)) (by unfold Func.isWrapper; first | (rw [if_pos (by decide +kernel)]; kernel_rfl) | (rw [if_neg (by decide +kernel)]; exact ⟨rfl, rfl⟩))
    (fun os started H enc _ => FnHeadNormal_lifted os started H enc)
end Go.Proofs.Ytcgnenkbmcbonaa
namespace Go.Dk
open Go.Proofs
end Go.Dk
