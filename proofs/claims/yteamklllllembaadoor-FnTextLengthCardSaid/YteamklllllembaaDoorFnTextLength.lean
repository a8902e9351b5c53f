/- laws.FnTextLength returns true and leaves its arguments as they were, for all arguments. -/
import Derived.Test.YteamklllllembaaDoorDe
import Derived.Test.YteamklllllembaaDoorDr
import Derived.Test.YteamklllllembaaDoorSs
import Derived.Test.YteamklllllembaaDoorSg
namespace Go.Dk
set_option linter.unusedVariables false
open Go.Proofs
/-- laws.FnTextLength -/
def cFnTextLength : Con
  | [.ints .u8 bs (.arg 0)], [], K => ((bs.length ≤ 9223372036854775807 ∧ Bs bs)) ∧ ((K (.bool true) []))
  | _, _, _ => False
theorem FnTextLength_ok (bs : List Int) (K : AV → List AV → Prop) (hp : ((bs.length ≤ 9223372036854775807 ∧ Bs bs))) (hk : ((K (.bool true) []))) :
    bodyQ [(13, cdFormatTerm), (15, csFormat), (14, ciFormat), (24, cCountNodes), (16, cTermValid)] TY [] Tryd.f7 (body Tryd.f7) [.ints .u8 bs (.arg 0)] [] K := by
  refine of_vc (A :=
    (Br (Decidable.decide ((1048576 : Int) < (((List.length bs) : Nat) : Int)))
     (Ret K (.bool true) [])
     ((Bs bs) ∧
     (∀ t : T,
     (((T.size t) ≤ (1000 : Nat)) →
     (True ∧
     (True ∧
     (Br (Decidable.decide ((if ((T.valid (T.mk (T.k t) (T.n t) (T.kids t))) = true) then (T.text (T.mk (T.k t) (T.n t) (T.kids t))) else ([] : List UInt8)) = (if ((T.valid (T.mk (T.k t) (T.n t) (T.kids t))) = true) then (T.text (T.mk (T.k t) (T.n t) (T.kids t))) else ([] : List UInt8))))
     (True ∧
     (Br (Decidable.decide ((if ((T.valid (T.mk (T.k t) (T.n t) (T.kids t))) = true) then (((T.size (T.mk (T.k t) (T.n t) (T.kids t))) : Nat) : Int) else (0 : Int)) ≤ (((List.length (if ((T.valid (T.mk (T.k t) (T.n t) (T.kids t))) = true) then (T.text (T.mk (T.k t) (T.n t) (T.kids t))) else ([] : List UInt8))) : Nat) : Int)))
     (True ∧
     (Ret K (.bool (BEq.beq (Decidable.decide ((if ((T.valid (T.mk (T.k t) (T.n t) (T.kids t))) = true) then (T.text (T.mk (T.k t) (T.n t) (T.kids t))) else ([] : List UInt8)) = (Array.toList (ByteArray.data (ByteArray.mk (List.toArray ([] : List UInt8))))))) (Bool.not (T.valid (T.mk (T.k t) (T.n t) (T.kids t)))))) []))
     (Ret K (.bool false) [])))
     (Ret K (.bool false) []))))))))) ?_ (by kernel_rfl)
  refine brd (fun _ => retB hk rfl) (fun _ => ⟨hp.2, fun t ht => ?_⟩)
  simp only [T.eta]
  refine ⟨trivial, trivial, brd (fun _ => ⟨trivial, brd (fun _ => ⟨trivial, retB hk ?_⟩) (fun g => ?_)⟩) (fun g => absurd True.intro g)⟩
  · by_cases hv : t.valid = true
    · have := T.text_ge t 30 (T.valid_shp hv)
      have hz := t.size_eq
      have hne : ¬ t.text = [] := fun e => by rw [e] at this; simp at this; omega
      rw [if_pos hv, hv]
      simp [hne]
    · rw [if_neg hv]
      have hv : t.valid = false := by simpa using hv
      rw [hv]; rfl
  · exfalso
    by_cases hv : t.valid = true
    · rw [if_pos hv, if_pos hv] at g
      have := T.text_ge t 30 (T.valid_shp hv)
      omega
    · rw [if_neg hv, if_neg hv] at g
      exact g (by simp)
theorem FnTextLength_sound : Sound Tryd.prog 7 cFnTextLength := by
  refine soundF (G := [(13, cdFormatTerm), (15, csFormat), (14, ciFormat), (24, cCountNodes), (16, cTermValid)]) ((gcons dFormatTerm_sound (gcons sFormat_sound (gcons iFormat_sound (gcons CountNodes_sound (gcons TermValid_sound gnil)))))) Tryd.func7 rfl (by kernel_rfl) fun args hs K hCC => ?_
  unfold cFnTextLength at hCC
  split at hCC
  case h_2 => exact hCC.elim
  rename_i bs
  exact ⟨Nat.le_of_ble_eq_true rfl, _, FnTextLength_ok bs K hCC.1 hCC.2⟩
end Go.Dk
namespace Go.Proofs.YteamklllllembaaDoor
open Go.ChangeShapes Go.WideShapes Go.RowKit Go.Dk Go.Proofs
set_option linter.unusedVariables false
set_option maxRecDepth 100000 in
theorem FnTextLength_lifted (os : Os) (started : os.Started) (H : Type) (enc : TypeId × Value → H) :
    ReturnsInHanded {} Tryd.checked os 7 .any (fun w args => (Rows.fnTextLengthSpec.pre enc Tryd.prog Tryd.f7 [] false w args ∧ laidMetH Tryd.prog Rows.fnTextLengthRow.laid w) ∧ sizedMet enc Tryd.prog Tryd.f7 (OpenSpec.ofChange Rows.fnTextLengthSpec) false w args) (Rows.fnTextLengthSpec.post enc Tryd.prog Tryd.f7 false true false false) := by
  refine handed_shaped (C := Tryd.checked) (X := fun w _ => laidMetH Tryd.prog Rows.fnTextLengthRow.laid w) (fun _ _ _ hh h => h.of_heap hh) own started (by kernel_rfl) Tryd.func7
    (ChangeSpec.witness_shaped (enc := enc) (C := Tryd.checked) (os := os) (X := fun w _ => laidMetH Tryd.prog Rows.fnTextLengthRow.laid w) false (World.laidAll Tryd.prog os Rows.fnTextLengthRow.laid) #[.slice none 0 0] 8 (World.laidAll_os _ _ _)
      (World.shaped_of_ZipB (by kernel_rfl) (by kernel_rfl)) (by kernel_rfl) (by kernel_rfl) (by kernel_rfl)
      (by rw [MakeChecks.laidMetH_plain _ _ _ (by kernel_rfl)]; exact laidMet_laidAll _ (by kernel_rfl) (by kernel_rfl))) ?_
  intro W base args ds gs before hok hW _ _ hsh _ _
  have hW' := hW
  obtain ⟨p, q, hA, hV, rfl, hfz, hnd⟩ := hW
  rw [Tryd.params7] at hA
  obtain ⟨rfl, rfl⟩ := trodVars_none hV
  obtain ⟨v0, vs0, d0, ds0, q0, s0, e0, rfl, rfl, h0, hA⟩ := trodAll_cons hA
  obtain ⟨rfl, rfl, rfl⟩ := trodAll_nil hA
  have ha : args = #[v0] := by cases args; simpa using e0
  subst ha
  obtain ⟨bs0, l0, p0, r0⟩ := open_bytes Tryd.underlying30 Tryd.underlying5 (by kernel_rfl) (plain_slice Tryd.underlying30 (hok 0 _ _ rfl rfl)) h0
  refine (law_call (hI := (inv_of hsh)) (args := [.ints .u8 bs0 (.arg 0)]) (vals := [v0]) FnTextLength_sound (fun K hK => ⟨⟨l0, p0⟩, hK⟩) (fun j => slOf ([v0].getD j .nilFunc)) ⟨r0 _ _ 0 rfl, trivial⟩).mono fun e W' ⟨he, hk⟩ => ?_
  exact ⟨_, he, law_post laidOut (of_decide_eq_true (by kernel_rfl)) rfl rfl Tryd.underlying4 rfl hW' hk⟩
theorem FnTextLength_holds : Rows.FnTextLengthSaid :=
  OpenClaim.holds_of_wide 7 Tryd.f7 rfl rfl rfl rfl rfl rfl rfl ⟨rfl, rfl, rfl, rfl, rfl⟩ rfl rfl rfl rfl rfl (by kernel_rfl) Tryd.func7 (by kernel_rfl)
    (of_decide_eq_true (by kernel_rfl)) (by unfold Func.isWrapper; first | (rw [if_pos (by decide +kernel)]; kernel_rfl) | (rw [if_neg (by decide +kernel)]; exact ⟨rfl, rfl⟩))
    (fun os started H enc _ => FnTextLength_lifted os started H enc)
theorem FnTextLength_card : Rows.FnTextLengthCardSaid :=
  Claim7.holds_tied_plain_at .later [] _ true _ _ FnTextLength_holds (fun _ h => by cases h) (by kernel_rfl) (fun _ h => by cases h) fnTextLength_row_tie rfl ⟨rfl, rfl⟩ (by kernel_rfl) rfl
    (fun f fn hf hfn => by
      obtain rfl : f = 7 := Option.some.inj ((show Tryd.prog.funcNamed Rows.fnTextLengthRow.func = some 7 by kernel_rfl).symm.trans hf) |>.symm
      obtain rfl : fn = Tryd.f7 := (Option.some.inj (Tryd.func7.symm.trans hfn)).symm
      exact ⟨by kernel_rfl, fun j t ht => by
        rw [Tryd.params7] at ht
        have hm : t ∈ [30] := by simpa using Array.mem_of_getElem? ht
        have hall : ([30].all fun u => !Tryd.prog.wantsStandIn u) = true := by kernel_rfl
        exact (show Tryd.prog.wantsStandIn t = false by simpa using List.all_eq_true.1 hall t hm)⟩)
    (by kernel_rfl)
end Go.Proofs.YteamklllllembaaDoor
namespace Go.Dk
open Go.Proofs
end Go.Dk
