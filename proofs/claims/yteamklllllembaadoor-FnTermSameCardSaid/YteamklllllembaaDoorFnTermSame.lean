/- laws.FnTermSame returns true and leaves its arguments as they were, for all arguments. -/
import Derived.Test.YteamklllllembaaDoorDe
import Derived.Test.YteamklllllembaaDoorDr
import Derived.Test.YteamklllllembaaDoorSs
import Derived.Test.YteamklllllembaaDoorSg
import Derived.Test.YteamklllllembaaDoorTj
namespace Go.Dk
set_option linter.unusedVariables false
open Go.Proofs
/-- laws.FnTermSame -/
def cFnTermSame : Con
  | [.ints .u8 bs (.arg 0)], [], K => ((bs.length ≤ 9223372036854775807 ∧ Bs bs)) ∧ ((K (.bool true) []))
  | _, _, _ => False
theorem FnTermSame_ok (bs : List Int) (K : AV → List AV → Prop) (hp : ((bs.length ≤ 9223372036854775807 ∧ Bs bs))) (hk : ((K (.bool true) []))) :
    bodyQ [(20, cdTermSame), (18, cTermSame), (21, csTermSame), (14, ciFormat)] TY [] Tryd.f5 (body Tryd.f5) [.ints .u8 bs (.arg 0)] [] K := by
  refine of_vc (A :=
    (Br (Decidable.decide ((1048576 : Int) < (((List.length bs) : Nat) : Int)))
     (Ret K (.bool true) [])
     ((Bs bs) ∧
     (∀ t : T,
     (∀ u : T,
     (((T.size t) ≤ (1000 : Nat)) →
     (((T.size u) ≤ (1000 : Nat)) →
     (((sizeL (T.kids t)) ≤ (1099511627776 : Nat)) ∧
     (((sizeL (T.kids t)) ≤ (1099511627776 : Nat)) ∧
     (Br (bne (T.same (T.mk (T.k t) (T.n t) (T.kids t)) (T.mk (T.k u) (T.n u) (T.kids u))) (T.same (T.mk (T.k t) (T.n t) (T.kids t)) (T.mk (T.k u) (T.n u) (T.kids u))))
     (Ret K (.bool false) [])
     (((sizeL (T.kids u)) ≤ (1099511627776 : Nat)) ∧
     (Br (bne (T.same (T.mk (T.k t) (T.n t) (T.kids t)) (T.mk (T.k u) (T.n u) (T.kids u))) (T.same (T.mk (T.k u) (T.n u) (T.kids u)) (T.mk (T.k t) (T.n t) (T.kids t))))
     (Ret K (.bool false) [])
     (((sizeL (T.kids t)) ≤ (1099511627776 : Nat)) ∧
     (Br (Bool.not (T.same (T.mk (T.k t) (T.n t) (T.kids t)) (T.mk (T.k t) (T.n t) (T.kids t))))
     (Ret K (.bool false) [])
     (True ∧
     (True ∧
     (Br (Decidable.decide ((if ((T.valid (T.mk (T.k t) (T.n t) (T.kids t))) = true) then (T.text (T.mk (T.k t) (T.n t) (T.kids t))) else ([] : List UInt8)) = (Array.toList (ByteArray.data (ByteArray.mk (List.toArray ([] : List UInt8)))))))
     (Ret K (.bool true) [])
     (Br (Decidable.decide ((if ((T.valid (T.mk (T.k u) (T.n u) (T.kids u))) = true) then (T.text (T.mk (T.k u) (T.n u) (T.kids u))) else ([] : List UInt8)) = (Array.toList (ByteArray.data (ByteArray.mk (List.toArray ([] : List UInt8)))))))
     (Ret K (.bool true) [])
     (Ret K (.bool (BEq.beq (T.same (T.mk (T.k t) (T.n t) (T.kids t)) (T.mk (T.k u) (T.n u) (T.kids u))) (Decidable.decide ((if ((T.valid (T.mk (T.k t) (T.n t) (T.kids t))) = true) then (T.text (T.mk (T.k t) (T.n t) (T.kids t))) else ([] : List UInt8)) = (if ((T.valid (T.mk (T.k u) (T.n u) (T.kids u))) = true) then (T.text (T.mk (T.k u) (T.n u) (T.kids u))) else ([] : List UInt8)))))) []))))))))))))))))))) ?_ (by kernel_rfl)
  refine brd (fun _ => retB hk rfl) (fun _ => ⟨hp.2, fun t u ht hu => ?_⟩)
  have st := t.size_eq
  have su := u.size_eq
  have same : ∀ t : T, t.same t = true := fun t => T.same_iff.2 rfl
  have comm : t.same u = u.same t := by
    by_cases h : t = u
    · rw [h]
    · have h1 : t.same u = false := by rw [← Bool.not_eq_true]; exact fun e => h (T.same_iff.1 e)
      have h2 : u.same t = false := by rw [← Bool.not_eq_true]; exact fun e => h (T.same_iff.1 e).symm
      rw [h1, h2]
  simp only [T.eta, comm, same, bne_self_eq_false]
  refine ⟨by omega, by omega, brf ⟨by omega, brf ⟨by omega, brf ⟨trivial, trivial, brd (fun _ => retB hk rfl) (fun g1 => brd (fun _ => retB hk rfl) (fun g2 => retB hk ?_))⟩⟩⟩⟩
  by_cases hv : t.valid = true
  · by_cases hw : u.valid = true
    · rw [if_pos hv, if_pos hw]
      by_cases h : t = u
      · subst h; simp [same]
      · have h1 : u.same t = false := by rw [← Bool.not_eq_true]; exact fun e => h (T.same_iff.1 e).symm
        rw [h1, decide_eq_false (fun e => h (valid_inj hv hw e))]; rfl
    · rw [if_neg hw] at g2; exact absurd rfl g2
  · rw [if_neg hv] at g1; exact absurd rfl g1
theorem FnTermSame_sound : Sound Tryd.prog 5 cFnTermSame := by
  refine soundF (G := [(20, cdTermSame), (18, cTermSame), (21, csTermSame), (14, ciFormat)]) ((gcons dTermSame_sound (gcons TermSame_sound (gcons sTermSame_sound (gcons iFormat_sound gnil))))) Tryd.func5 rfl (by kernel_rfl) fun args hs K hCC => ?_
  unfold cFnTermSame at hCC
  split at hCC
  case h_2 => exact hCC.elim
  rename_i bs
  exact ⟨Nat.le_of_ble_eq_true rfl, _, FnTermSame_ok bs K hCC.1 hCC.2⟩
end Go.Dk
namespace Go.Proofs.YteamklllllembaaDoor
open Go.ChangeShapes Go.WideShapes Go.RowKit Go.Dk Go.Proofs
set_option linter.unusedVariables false
set_option maxRecDepth 100000 in
theorem FnTermSame_lifted (os : Os) (started : os.Started) (H : Type) (enc : TypeId × Value → H) :
    ReturnsInHanded {} Tryd.checked os 5 .any (fun w args => (Rows.fnTermSameSpec.pre enc Tryd.prog Tryd.f5 [] false w args ∧ laidMetH Tryd.prog Rows.fnTermSameRow.laid w) ∧ sizedMet enc Tryd.prog Tryd.f5 (OpenSpec.ofChange Rows.fnTermSameSpec) false w args) (Rows.fnTermSameSpec.post enc Tryd.prog Tryd.f5 false true false false) := by
  refine handed_shaped (C := Tryd.checked) (X := fun w _ => laidMetH Tryd.prog Rows.fnTermSameRow.laid w) (fun _ _ _ hh h => h.of_heap hh) own started (by kernel_rfl) Tryd.func5
    (ChangeSpec.witness_shaped (enc := enc) (C := Tryd.checked) (os := os) (X := fun w _ => laidMetH Tryd.prog Rows.fnTermSameRow.laid w) false (World.laidAll Tryd.prog os Rows.fnTermSameRow.laid) #[.slice none 0 0] 8 (World.laidAll_os _ _ _)
      (World.shaped_of_ZipB (by kernel_rfl) (by kernel_rfl)) (by kernel_rfl) (by kernel_rfl) (by kernel_rfl)
      (by rw [MakeChecks.laidMetH_plain _ _ _ (by kernel_rfl)]; exact laidMet_laidAll _ (by kernel_rfl) (by kernel_rfl))) ?_
  intro W base args ds gs before hok hW _ _ hsh _ _
  have hW' := hW
  obtain ⟨p, q, hA, hV, rfl, hfz, hnd⟩ := hW
  rw [Tryd.params5] at hA
  obtain ⟨rfl, rfl⟩ := trodVars_none hV
  obtain ⟨v0, vs0, d0, ds0, q0, s0, e0, rfl, rfl, h0, hA⟩ := trodAll_cons hA
  obtain ⟨rfl, rfl, rfl⟩ := trodAll_nil hA
  have ha : args = #[v0] := by cases args; simpa using e0
  subst ha
  obtain ⟨bs0, l0, p0, r0⟩ := open_bytes Tryd.underlying30 Tryd.underlying5 (by kernel_rfl) (plain_slice Tryd.underlying30 (hok 0 _ _ rfl rfl)) h0
  refine (law_call (hI := (inv_of hsh)) (args := [.ints .u8 bs0 (.arg 0)]) (vals := [v0]) FnTermSame_sound (fun K hK => ⟨⟨l0, p0⟩, hK⟩) (fun j => slOf ([v0].getD j .nilFunc)) ⟨r0 _ _ 0 rfl, trivial⟩).mono fun e W' ⟨he, hk⟩ => ?_
  exact ⟨_, he, law_post laidOut (of_decide_eq_true (by kernel_rfl)) rfl rfl Tryd.underlying4 rfl hW' hk⟩
theorem FnTermSame_holds : Rows.FnTermSameSaid :=
  OpenClaim.holds_of_wide 5 Tryd.f5 rfl rfl rfl rfl rfl rfl rfl ⟨rfl, rfl, rfl, rfl, rfl⟩ rfl rfl rfl rfl rfl (by kernel_rfl) Tryd.func5 (by kernel_rfl)
    (of_decide_eq_true (by kernel_rfl)) (by unfold Func.isWrapper; first | (rw [if_pos (by decide +kernel)]; kernel_rfl) | (rw [if_neg (by decide +kernel)]; exact ⟨rfl, rfl⟩))
    (fun os started H enc _ => FnTermSame_lifted os started H enc)
theorem FnTermSame_card : Rows.FnTermSameCardSaid :=
  Claim7.holds_tied_plain_at .later [] _ true _ _ FnTermSame_holds (fun _ h => by cases h) (by kernel_rfl) (fun _ h => by cases h) fnTermSame_row_tie rfl ⟨rfl, rfl⟩ (by kernel_rfl) rfl
    (fun f fn hf hfn => by
      obtain rfl : f = 5 := Option.some.inj ((show Tryd.prog.funcNamed Rows.fnTermSameRow.func = some 5 by kernel_rfl).symm.trans hf) |>.symm
      obtain rfl : fn = Tryd.f5 := (Option.some.inj (Tryd.func5.symm.trans hfn)).symm
      exact ⟨by kernel_rfl, fun j t ht => by
        rw [Tryd.params5] at ht
        have hm : t ∈ [30] := by simpa using Array.mem_of_getElem? ht
        have hall : ([30].all fun u => !Tryd.prog.wantsStandIn u) = true := by kernel_rfl
        exact (show Tryd.prog.wantsStandIn t = false by simpa using List.all_eq_true.1 hall t hm)⟩)
    (by kernel_rfl)
end Go.Proofs.YteamklllllembaaDoor
namespace Go.Dk
open Go.Proofs
end Go.Dk
