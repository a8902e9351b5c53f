/- laws.FnExactFormatTerm returns true and leaves its arguments as they were, for all arguments. -/
import Derived.Test.YteamklllllembaaDoorDe
import Derived.Test.YteamklllllembaaDoorL0
import Derived.Test.YteamklllllembaaDoorSs
import Derived.Test.YteamklllllembaaDoorSg
namespace Go.Dk
set_option linter.unusedVariables false
open Go.Proofs
/-- laws.FnExactFormatTerm -/
def cFnExactFormatTerm : Con
  | [.st [.int .i64 k, .int .i64 n, .slc ts (.arg 0)]], [], K => (((T.mk k n ts).fits)) ∧ ((K (.bool true) []))
  | _, _, _ => False
theorem FnExactFormatTerm_ok (k n : Int) (ts : List T) (K : AV → List AV → Prop) (hp : (((T.mk k n ts).fits))) (hk : ((K (.bool true) []))) :
    bodyQ [(22, cszTerm), (23, ctoTerm), (15, csFormat), (14, ciFormat), (10, ceqTerm)] TY [] Tryd.f6 (body Tryd.f6) [.st [.int .i64 k, .int .i64 n, .slc ts (.arg 0)]] [] K := by
  refine of_vc (A :=
    (((((List.length ts) ≤ (9223372036854775807 : Nat)) ∧ (fitsL ts)) ∧ (((0 : Int) ≤ (1048576 : Int)) ∧ ((1048576 : Int) ≤ (1048576 : Int)))) ∧
     (Br (Decidable.decide ((szI (sizeL ts) (1048576 : Int)) < (0 : Int)))
     (Ret K (.bool true) [])
     (((sizeL ts) ≤ (1048576 : Nat)) ∧
     (True ∧
     (((sizeL ts) ≤ (1048576 : Nat)) ∧
     (True ∧
     (Br (Decidable.decide ((if ((T.valid (T.mk k n ts)) = true) then (T.text (T.mk k n ts)) else ([] : List UInt8)) ≠ (if ((T.valid (T.mk k n ts)) = true) then (T.text (T.mk k n ts)) else ([] : List UInt8))))
     (Ret K (.bool false) [])
     (((sizeL ts) ≤ (1048576 : Nat)) ∧
     ((k = k) ∧
     ((n = n) ∧
     ((ts = ts) ∧ (((sizeL ts) ≤ (1099511627776 : Nat)) ∧ (Br (Bool.not (T.same (T.mk k n ts) (T.mk k n ts))) (Ret K (.bool false) []) (Ret K (.bool true) []))))))))))))))) ?_ (by kernel_rfl)
  obtain ⟨-, -, h1, h2⟩ := hp
  have same : ∀ t : T, t.same t = true := fun t => T.same_iff.2 rfl
  refine ⟨⟨⟨h1, h2⟩, by omega, by omega⟩, brd (fun _ => retB hk rfl) (fun h => ?_)⟩
  have ⟨hs, _⟩ := szI_ok h (by omega)
  simp only [same]
  exact ⟨by omega, trivial, by omega, trivial, brd (fun g => absurd rfl g) (fun _ => ⟨by omega, trivial, trivial, trivial, by omega, brf (retB hk rfl)⟩)⟩
theorem FnExactFormatTerm_sound : Sound Tryd.prog 6 cFnExactFormatTerm := by
  refine soundF (G := [(22, cszTerm), (23, ctoTerm), (15, csFormat), (14, ciFormat), (10, ceqTerm)]) ((gcons szTerm_sound (gcons toTerm_sound (gcons sFormat_sound (gcons iFormat_sound (gcons eqTerm_sound gnil)))))) Tryd.func6 rfl (by kernel_rfl) fun args hs K hCC => ?_
  unfold cFnExactFormatTerm at hCC
  split at hCC
  case h_2 => exact hCC.elim
  rename_i k n ts
  exact ⟨Nat.le_of_ble_eq_true rfl, _, FnExactFormatTerm_ok k n ts K hCC.1 hCC.2⟩
end Go.Dk
namespace Go.Proofs.YteamklllllembaaDoor
open Go.ChangeShapes Go.WideShapes Go.RowKit Go.Dk Go.Proofs
set_option linter.unusedVariables false
set_option maxRecDepth 100000 in
theorem FnExactFormatTerm_lifted (os : Os) (started : os.Started) (H : Type) (enc : TypeId × Value → H) :
    ReturnsInHanded {} Tryd.checked os 6 .any (fun w args => (Rows.fnExactFormatTermSpec.pre enc Tryd.prog Tryd.f6 [] false w args ∧ laidMetH Tryd.prog Rows.fnExactFormatTermRow.laid w) ∧ sizedMet enc Tryd.prog Tryd.f6 (OpenSpec.ofChange Rows.fnExactFormatTermSpec) false w args) (Rows.fnExactFormatTermSpec.post enc Tryd.prog Tryd.f6 false true false false) := by
  refine handed_shaped (C := Tryd.checked) (X := fun w _ => laidMetH Tryd.prog Rows.fnExactFormatTermRow.laid w) (fun _ _ _ hh h => h.of_heap hh) own started (by kernel_rfl) Tryd.func6
    (ChangeSpec.witness_shaped (enc := enc) (C := Tryd.checked) (os := os) (X := fun w _ => laidMetH Tryd.prog Rows.fnExactFormatTermRow.laid w) false (World.laidAll Tryd.prog os Rows.fnExactFormatTermRow.laid) #[.agg #[.int .i64 0, .int .i64 0, .slice none 0 0]] 8 (World.laidAll_os _ _ _)
      (World.shaped_of_ZipB (by kernel_rfl) (by kernel_rfl)) (by kernel_rfl) (by kernel_rfl) (by kernel_rfl)
      (by rw [MakeChecks.laidMetH_plain _ _ _ (by kernel_rfl)]; exact laidMet_laidAll _ (by kernel_rfl) (by kernel_rfl))) ?_
  intro W base args ds gs before hok hW _ _ hsh _ _
  have hW' := hW
  obtain ⟨p, q, hA, hV, rfl, hfz, hnd⟩ := hW
  rw [Tryd.params6] at hA
  obtain ⟨rfl, rfl⟩ := trodVars_none hV
  obtain ⟨v0, vs0, d0, ds0, q0, s0, e0, rfl, rfl, h0, hA⟩ := trodAll_cons hA
  obtain ⟨rfl, rfl, rfl⟩ := trodAll_nil hA
  have ha : args = #[v0] := by cases args; simpa using e0
  subst ha
  obtain ⟨k0, n0, ts0, p0, r0⟩ := open_term tmT h0
  refine (law_call (hI := (inv_of hsh)) (args := [.st [.int .i64 k0, .int .i64 n0, .slc ts0 (.arg 0)]]) (vals := [v0]) FnExactFormatTerm_sound (fun K hK => ⟨p0, hK⟩) (fun j => slOf ([v0].getD j .nilFunc)) ⟨r0 _ _ 0 rfl, trivial⟩).mono fun e W' ⟨he, hk⟩ => ?_
  exact ⟨_, he, law_post laidOut (of_decide_eq_true (by kernel_rfl)) rfl rfl Tryd.underlying4 rfl hW' hk⟩
theorem FnExactFormatTerm_holds : Rows.FnExactFormatTermSaid :=
  OpenClaim.holds_of_wide 6 Tryd.f6 rfl rfl rfl rfl rfl rfl rfl ⟨rfl, rfl, rfl, rfl, rfl⟩ rfl rfl rfl rfl rfl (by kernel_rfl) Tryd.func6 (by kernel_rfl)
    (of_decide_eq_true (by kernel_rfl)) (by unfold Func.isWrapper; first | (rw [if_pos (by decide +kernel)]; kernel_rfl) | (rw [if_neg (by decide +kernel)]; exact ⟨rfl, rfl⟩))
    (fun os started H enc _ => FnExactFormatTerm_lifted os started H enc)
theorem FnExactFormatTerm_card : Rows.FnExactFormatTermCardSaid :=
  Claim7.holds_tied_plain_at .later [] _ true _ _ FnExactFormatTerm_holds (fun _ h => by cases h) (by kernel_rfl) (fun _ h => by cases h) fnExactFormatTerm_row_tie rfl ⟨rfl, rfl⟩ (by kernel_rfl) rfl
    (fun f fn hf hfn => by
      obtain rfl : f = 6 := Option.some.inj ((show Tryd.prog.funcNamed Rows.fnExactFormatTermRow.func = some 6 by kernel_rfl).symm.trans hf) |>.symm
      obtain rfl : fn = Tryd.f6 := (Option.some.inj (Tryd.func6.symm.trans hfn)).symm
      exact ⟨by kernel_rfl, fun j t ht => by
        rw [Tryd.params6] at ht
        have hm : t ∈ [41] := by simpa using Array.mem_of_getElem? ht
        have hall : ([41].all fun u => !Tryd.prog.wantsStandIn u) = true := by kernel_rfl
        exact (show Tryd.prog.wantsStandIn t = false by simpa using List.all_eq_true.1 hall t hm)⟩)
    (by kernel_rfl)
end Go.Proofs.YteamklllllembaaDoor
namespace Go.Dk
open Go.Proofs
end Go.Dk
