/- laws.FnExactParseTerm returns true and leaves its arguments as they were, for all arguments. -/
import Derived.Test.YteamklllllembaaDoorDf
import Derived.Test.YteamklllllembaaDoorMh
import Derived.Test.YteamklllllembaaDoorL0
import Derived.Test.YteamklllllembaaDoorSq
import Derived.Test.YteamklllllembaaDoorSj
namespace Go.Dk
set_option linter.unusedVariables false
open Go.Proofs
/-- laws.FnExactParseTerm -/
def cFnExactParseTerm : Con
  | [.str l], [], K => ((l.length ≤ 9223372036854775807)) ∧ ((K (.bool true) []))
  | _, _, _ => False
theorem FnExactParseTerm_ok (l : List UInt8) (K : AV → List AV → Prop) (hp : ((l.length ≤ 9223372036854775807))) (hk : ((K (.bool true) []))) :
    bodyQ [(8, csParseTerm), (9, ciParseTerm), (10, ceqTerm), (12, cheldTerm)] TY [] Tryd.f3 (body Tryd.f3) [.str l] [] K := by
  refine of_vc (A :=
    (Br (Decidable.decide ((1048576 : Int) < (((List.length l) : Nat) : Int)))
     (Ret K (.bool true) [])
     (((List.length l) ≤ (1048576 : Nat)) ∧
     (∀ t : T,
     (∀ b : Bool,
     ((PrT l t b) →
     (((List.length l) ≤ (1048576 : Nat)) ∧
     (∀ t1 : T,
     (∀ b1 : Bool,
     ((PrT l t1 b1) →
     (((sizeL (T.kids t1)) ≤ (1099511627776 : Nat)) ∧
     (Br (Bool.not (T.same (T.mk (T.k t1) (T.n t1) (T.kids t1)) (T.mk (T.k t) (T.n t) (T.kids t))))
     (Ret K (.bool false) [])
     (Br (bne b1 b)
     (Ret K (.bool false) [])
     ((((0 : Int) ≤ (1 : Int)) ∧ (((1 : Int) + ((2 : Int) * (((sizeL (T.kids t1)) : Nat) : Int))) ≤ (9223372036854775807 : Int))) ∧
     (((((0 : Int) ≤ (1 : Int)) ∧ (((1 : Int) + ((2 : Int) * (((sizeL (markL (T.kids t1) (1 : Int))) : Nat) : Int))) ≤ (1000000000000 : Int))) ∧
     (∃ us : (List T), ((markL (T.kids t1) (1 : Int)) = (markL us (1 : Int))))) ∧
     (Br (Decidable.decide (((1 : Int) + ((2 : Int) * (((sizeL (markL (T.kids t1) (1 : Int))) : Nat) : Int))) ≠ ((1 : Int) + ((2 : Int) * (((sizeL (T.kids t1)) : Nat) : Int)))))
     (Ret K (.bool false) [])
     (((List.length l) ≤ (1048576 : Nat)) ∧
     (∀ t2 : T,
     (∀ b2 : Bool,
     ((PrT l t2 b2) →
     (((sizeL (T.kids t2)) ≤ (1099511627776 : Nat)) ∧
     (Br (Bool.not (T.same (T.mk (T.k t2) (T.n t2) (T.kids t2)) (T.mk (T.k t) (T.n t) (T.kids t))))
     (Ret K (.bool false) [])
     (Br (bne b2 b)
     (Ret K (.bool false) [])
     (((((0 : Int) ≤ (1 : Int)) ∧ (((1 : Int) + ((2 : Int) * (((sizeL (markL (T.kids t1) (1 : Int))) : Nat) : Int))) ≤ (1000000000000 : Int))) ∧
     (∃ us : (List T), ((markL (T.kids t1) (1 : Int)) = (markL us (1 : Int))))) ∧
     (Br (Decidable.decide (((1 : Int) + ((2 : Int) * (((sizeL (markL (T.kids t1) (1 : Int))) : Nat) : Int))) ≠ ((1 : Int) + ((2 : Int) * (((sizeL (T.kids t1)) : Nat) : Int)))))
     (Ret K (.bool false) [])
     (Ret K (.bool true) [])))))))))))))))))))))))))) ?_ (by kernel_rfl)
  have same : ∀ t : T, t.same t = true := fun t => T.same_iff.2 rfl
  refine brd (fun _ => retB hk rfl) (fun _ => ⟨by omega, fun t b h => ⟨by omega, fun t1 b1 h1 => ?_⟩⟩)
  obtain ⟨rfl, rfl⟩ := h.uniq h1
  have hz := h.size
  have hs := t.size_eq
  simp only [T.eta, same, markL_size, bne_self_eq_false]
  refine ⟨by omega, brf (brf ⟨by omega, ⟨by omega, ⟨_, rfl⟩⟩, brd (fun g => absurd rfl g) (fun _ => ⟨by omega, fun t2 b2 h2 => ?_⟩)⟩)⟩
  obtain ⟨rfl, rfl⟩ := h.uniq h2
  simp only [same, bne_self_eq_false]
  exact ⟨by omega, brf (brf ⟨⟨by omega, ⟨_, rfl⟩⟩, brd (fun g => absurd rfl g) (fun _ => retB hk rfl)⟩)⟩
theorem FnExactParseTerm_sound : Sound Tryd.prog 3 cFnExactParseTerm := by
  refine soundF (G := [(8, csParseTerm), (9, ciParseTerm), (10, ceqTerm), (12, cheldTerm)]) ((gcons sParseTerm_sound (gcons iParseTerm_sound (gcons eqTerm_sound (gcons heldTerm_sound gnil))))) Tryd.func3 rfl (by kernel_rfl) fun args hs K hCC => ?_
  unfold cFnExactParseTerm at hCC
  split at hCC
  case h_2 => exact hCC.elim
  rename_i l
  exact ⟨Nat.le_of_ble_eq_true rfl, _, FnExactParseTerm_ok l K hCC.1 hCC.2⟩
end Go.Dk
namespace Go.Proofs.YteamklllllembaaDoor
open Go.ChangeShapes Go.WideShapes Go.RowKit Go.Dk Go.Proofs
set_option linter.unusedVariables false
set_option maxRecDepth 100000 in
theorem FnExactParseTerm_lifted (os : Os) (started : os.Started) (H : Type) (enc : TypeId × Value → H) :
    ReturnsInHanded {} Tryd.checked os 3 .any (fun w args => (Rows.fnExactParseTermSpec.pre enc Tryd.prog Tryd.f3 [] false w args ∧ laidMetH Tryd.prog Rows.fnExactParseTermRow.laid w) ∧ sizedMet enc Tryd.prog Tryd.f3 (OpenSpec.ofChange Rows.fnExactParseTermSpec) false w args) (Rows.fnExactParseTermSpec.post enc Tryd.prog Tryd.f3 false true false false) := by
  refine handed_shaped (C := Tryd.checked) (X := fun w _ => laidMetH Tryd.prog Rows.fnExactParseTermRow.laid w) (fun _ _ _ hh h => h.of_heap hh) own started (by kernel_rfl) Tryd.func3
    (ChangeSpec.witness_shaped (enc := enc) (C := Tryd.checked) (os := os) (X := fun w _ => laidMetH Tryd.prog Rows.fnExactParseTermRow.laid w) false (World.laidAll Tryd.prog os Rows.fnExactParseTermRow.laid) #[.string ⟨#[]⟩] 8 (World.laidAll_os _ _ _)
      (World.shaped_of_ZipB (by kernel_rfl) (by kernel_rfl)) (by kernel_rfl) (by kernel_rfl) (by kernel_rfl)
      (by rw [MakeChecks.laidMetH_plain _ _ _ (by kernel_rfl)]; exact laidMet_laidAll _ (by kernel_rfl) (by kernel_rfl))) ?_
  intro W base args ds gs before hok hW _ _ hsh hL _
  have hE1 : IfcCell W 0 := ifc_of_laid hL (by kernel_rfl) (.tail _ (.tail _ (.tail _ (.tail _ (.tail _ (.head _)))))) (by kernel_rfl) (by kernel_rfl) Tryd.underlying92
  have hE2 : IfcCell W 1 := ifc_of_laid hL (by kernel_rfl) (.tail _ (.tail _ (.tail _ (.tail _ (.head _))))) (by kernel_rfl) (by kernel_rfl) Tryd.underlying92
  have hW' := hW
  obtain ⟨p, q, hA, hV, rfl, hfz, hnd⟩ := hW
  rw [Tryd.params3] at hA
  obtain ⟨rfl, rfl⟩ := trodVars_none hV
  obtain ⟨v0, vs0, d0, ds0, q0, s0, e0, rfl, rfl, h0, hA⟩ := trodAll_cons hA
  obtain ⟨rfl, rfl, rfl⟩ := trodAll_nil hA
  have ha : args = #[v0] := by cases args; simpa using e0
  subst ha
  obtain ⟨l0, p0, r0⟩ := open_str Tryd.underlying9 (hok 0 _ _ rfl rfl) h0
  refine (law_call (hI := (inv_of hsh hE1 hE2)) (args := [.str l0]) (vals := [v0]) FnExactParseTerm_sound (fun K hK => ⟨p0, hK⟩) (fun j => slOf ([v0].getD j .nilFunc)) ⟨r0 _ _, trivial⟩).mono fun e W' ⟨he, hk⟩ => ?_
  exact ⟨_, he, law_post laidOut (of_decide_eq_true (by kernel_rfl)) rfl rfl Tryd.underlying4 rfl hW' hk⟩
theorem FnExactParseTerm_holds : Rows.FnExactParseTermSaid :=
  OpenClaim.holds_of_wide 3 Tryd.f3 rfl rfl rfl rfl rfl rfl rfl ⟨rfl, rfl, rfl, rfl, rfl⟩ rfl rfl rfl rfl rfl (by kernel_rfl) Tryd.func3 (by kernel_rfl)
    (of_decide_eq_true (by kernel_rfl)) (by unfold Func.isWrapper; first | (rw [if_pos (by decide +kernel)]; kernel_rfl) | (rw [if_neg (by decide +kernel)]; exact ⟨rfl, rfl⟩))
    (fun os started H enc _ => FnExactParseTerm_lifted os started H enc)
theorem FnExactParseTerm_card : Rows.FnExactParseTermCardSaid :=
  Claim7.holds_tied_plain_at .later [] _ true _ _ FnExactParseTerm_holds (fun _ h => by cases h) (by kernel_rfl) (fun _ h => by cases h) fnExactParseTerm_row_tie rfl ⟨rfl, rfl⟩ (by kernel_rfl) rfl
    (fun f fn hf hfn => by
      obtain rfl : f = 3 := Option.some.inj ((show Tryd.prog.funcNamed Rows.fnExactParseTermRow.func = some 3 by kernel_rfl).symm.trans hf) |>.symm
      obtain rfl : fn = Tryd.f3 := (Option.some.inj (Tryd.func3.symm.trans hfn)).symm
      exact ⟨by kernel_rfl, fun j t ht => by
        rw [Tryd.params3] at ht
        have hm : t ∈ [9] := by simpa using Array.mem_of_getElem? ht
        have hall : ([9].all fun u => !Tryd.prog.wantsStandIn u) = true := by kernel_rfl
        exact (show Tryd.prog.wantsStandIn t = false by simpa using List.all_eq_true.1 hall t hm)⟩)
    (by kernel_rfl)
end Go.Proofs.YteamklllllembaaDoor
namespace Go.Dk
open Go.Proofs
end Go.Dk
