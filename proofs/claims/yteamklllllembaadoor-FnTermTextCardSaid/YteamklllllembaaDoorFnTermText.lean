/- laws.FnTermText returns true and leaves its arguments as they were, for all arguments. -/
import Derived.Test.YteamklllllembaaDoorDf
import Derived.Test.YteamklllllembaaDoorDs
import Derived.Test.YteamklllllembaaDoorSq
import Derived.Test.YteamklllllembaaDoorSg
import Derived.Test.YteamklllllembaaDoorSj
namespace Go.Dk
set_option linter.unusedVariables false
open Go.Proofs
/-- laws.FnTermText -/
def cFnTermText : Con
  | [.ints .u8 bs (.arg 0), .ints .u8 cs (.arg 1)], [], K => ((bs.length ≤ 9223372036854775807 ∧ Bs bs) ∧ (cs.length ≤ 9223372036854775807 ∧ Bs cs)) ∧ ((K (.bool true) []))
  | _, _, _ => False
theorem FnTermText_ok (bs : List Int) (cs : List Int) (K : AV → List AV → Prop) (hp : ((bs.length ≤ 9223372036854775807 ∧ Bs bs) ∧ (cs.length ≤ 9223372036854775807 ∧ Bs cs))) (hk : ((K (.bool true) []))) :
    bodyQ [(13, cdFormatTerm), (14, ciFormat), (9, ciParseTerm), (15, csFormat), (16, cTermValid), (17, csTermValid), (18, cTermSame), (19, cdParseTerm), (8, csParseTerm)] TY [] Tryd.f4 (body Tryd.f4) [.ints .u8 bs (.arg 0), .ints .u8 cs (.arg 1)] [] K := by
  refine of_vc (A :=
    (Br (Decidable.decide ((1048576 : Int) < (((List.length bs) : Nat) : Int)))
     (Ret K (.bool true) [])
     (Br (Decidable.decide ((1048576 : Int) < (((List.length cs) : Nat) : Int)))
     (Ret K (.bool true) [])
     ((Bs bs) ∧
     (∀ t : T,
     (((T.size t) ≤ (1000 : Nat)) →
     (True ∧
     (((List.length (if ((T.valid (T.mk (T.k t) (T.n t) (T.kids t))) = true) then (T.text (T.mk (T.k t) (T.n t) (T.kids t))) else ([] : List UInt8))) ≤ (1048576 : Nat)) ∧
     (∀ t1 : T,
     (∀ b : Bool,
     ((PrT (if ((T.valid (T.mk (T.k t) (T.n t) (T.kids t))) = true) then (T.text (T.mk (T.k t) (T.n t) (T.kids t))) else ([] : List UInt8)) t1 b) →
     (True ∧
     (Br (Decidable.decide ((if ((T.valid (T.mk (T.k t) (T.n t) (T.kids t))) = true) then (T.text (T.mk (T.k t) (T.n t) (T.kids t))) else ([] : List UInt8)) ≠ (if ((T.valid (T.mk (T.k t) (T.n t) (T.kids t))) = true) then (T.text (T.mk (T.k t) (T.n t) (T.kids t))) else ([] : List UInt8))))
     (Ret K (.bool false) [])
     (True ∧
     (((T.k t) = (T.k t)) ∧
     (((T.n t) = (T.n t)) ∧
     (((T.kids t) = (T.kids t)) ∧
     (True ∧
     (Br (bne (T.valid (T.mk (T.k t) (T.n t) (T.kids t))) (T.valid (T.mk (T.k t) (T.n t) (T.kids t))))
     (Ret K (.bool false) [])
     (True ∧
     (Br (bne b (T.valid (T.mk (T.k t) (T.n t) (T.kids t))))
     (Ret K (.bool false) [])
     (Br b
     (((sizeL (T.kids t1)) ≤ (1099511627776 : Nat)) ∧
     (Br (Bool.not (T.same (T.mk (T.k t1) (T.n t1) (T.kids t1)) (T.mk (T.k t) (T.n t) (T.kids t))))
     (Ret K (.bool false) [])
     ((Bs cs) ∧
     (∀ l : (List UInt8),
     (((List.length l) ≤ (5005 : Nat)) →
     (((List.length l) ≤ (1048576 : Nat)) ∧
     (∀ t2 : T,
     (∀ b1 : Bool,
     ((PrT l t2 b1) →
     (((List.length l) ≤ (1048576 : Nat)) ∧
     (∀ t3 : T,
     (∀ b2 : Bool,
     ((PrT l t3 b2) →
     (Br (BEq.beq b1 b2)
     (((sizeL (T.kids t2)) ≤ (1099511627776 : Nat)) ∧
     (Br (T.same (T.mk (T.k t2) (T.n t2) (T.kids t2)) (T.mk (T.k t3) (T.n t3) (T.kids t3)))
     (Br (Bool.not b1)
     (Ret K (.bool true) [])
     (True ∧
     (Ret K (.bool (Decidable.decide ((if ((T.valid (T.mk (T.k t2) (T.n t2) (T.kids t2))) = true) then (T.text (T.mk (T.k t2) (T.n t2) (T.kids t2))) else ([] : List UInt8)) = l))) [])))
     (Ret K (.bool false) [])))
     (Ret K (.bool false) [])))))))))))))))
     ((Bs cs) ∧
     (∀ l : (List UInt8),
     (((List.length l) ≤ (5005 : Nat)) →
     (((List.length l) ≤ (1048576 : Nat)) ∧
     (∀ t2 : T,
     (∀ b1 : Bool,
     ((PrT l t2 b1) →
     (((List.length l) ≤ (1048576 : Nat)) ∧
     (∀ t3 : T,
     (∀ b2 : Bool,
     ((PrT l t3 b2) →
     (Br (BEq.beq b1 b2)
     (((sizeL (T.kids t2)) ≤ (1099511627776 : Nat)) ∧
     (Br (T.same (T.mk (T.k t2) (T.n t2) (T.kids t2)) (T.mk (T.k t3) (T.n t3) (T.kids t3)))
     (Br (Bool.not b1)
     (Ret K (.bool true) [])
     (True ∧
     (Ret K (.bool (Decidable.decide ((if ((T.valid (T.mk (T.k t2) (T.n t2) (T.kids t2))) = true) then (T.text (T.mk (T.k t2) (T.n t2) (T.kids t2))) else ([] : List UInt8)) = l))) [])))
     (Ret K (.bool false) [])))
     (Ret K (.bool false) []))))))))))))))))))))))))))))))))))) ?_ (by kernel_rfl)
  have same : ∀ t : T, t.same t = true := fun t => T.same_iff.2 rfl
  have second : Bs cs ∧ ∀ (l : List UInt8), l.length ≤ 5005 → l.length ≤ 1048576 ∧ ∀ (t2 : T) (b1 : Bool), PrT l t2 b1 → l.length ≤ 1048576 ∧ ∀ (t3 : T) (b2 : Bool), PrT l t3 b2 →
      Br (b1 == b2) (sizeL t2.kids ≤ 1099511627776 ∧ Br (t2.same t3) (Br (!b1) (Ret K (.bool true) []) (True ∧ Ret K (.bool (decide ((if t2.valid = true then t2.text else []) = l))) [])) (Ret K (.bool false) [])) (Ret K (.bool false) []) :=
    ⟨hp.2.2, fun l hl => ⟨by omega, fun t2 b1 h1 => ⟨by omega, fun t3 b2 h2 => by
      obtain ⟨rfl, rfl⟩ := h1.uniq h2
      have hz := h1.size
      have hs := t2.size_eq
      rw [same]
      refine br (fun _ => ⟨by omega, brt (br (fun _ => retB hk rfl) (fun hb => ⟨trivial, retB hk ?_⟩))⟩) (fun h => by simp at h)
      have hb : b1 = true := by simpa using hb
      obtain ⟨k1, k2, _⟩ := h1.1 hb
      rw [if_pos k1]; exact decide_eq_true k2⟩⟩⟩
  refine brd (fun _ => retB hk rfl) (fun _ => brd (fun _ => retB hk rfl) (fun _ => ⟨hp.1.2, fun t ht => ⟨trivial, ?_⟩⟩))
  simp only [T.eta] at second ⊢
  have htl := t.text_le
  have hst := t.size_eq
  by_cases hv : t.valid = true
  · simp only [hv, if_true]
    refine ⟨by omega, fun t1 b h => ?_⟩
    have hb : b = true := by
      cases b with
      | true => rfl
      | false => exact absurd rfl ((h.2 rfl).2 t hv)
    subst hb
    obtain ⟨h1, h2, h3⟩ := h.1 rfl
    obtain rfl := h3 t hv rfl
    have hz := h.size
    rw [same]
    exact ⟨trivial, brd (fun g => absurd rfl g) (fun _ => ⟨trivial, trivial, trivial, trivial, trivial, brf ⟨trivial, brf (brt ⟨by omega, brf second⟩)⟩⟩)⟩
  · have hv : t.valid = false := by simpa using hv
    simp only [hv]
    refine ⟨by simp, fun t1 b h => ?_⟩
    have hb : b = false := by
      cases b with
      | false => rfl
      | true =>
        obtain ⟨h1, h2, _⟩ := h.1 rfl
        have := T.text_ge t1 30 (T.valid_shp h1)
        have hz := t1.size_eq
        rw [h2] at this; simp at this; omega
    subst hb
    exact ⟨trivial, brd (fun g => absurd rfl g) (fun _ => ⟨trivial, trivial, trivial, trivial, trivial, brf ⟨trivial, brf (brf second)⟩⟩)⟩
theorem FnTermText_sound : Sound Tryd.prog 4 cFnTermText := by
  refine soundF (G := [(13, cdFormatTerm), (14, ciFormat), (9, ciParseTerm), (15, csFormat), (16, cTermValid), (17, csTermValid), (18, cTermSame), (19, cdParseTerm), (8, csParseTerm)]) ((gcons dFormatTerm_sound (gcons iFormat_sound (gcons iParseTerm_sound (gcons sFormat_sound (gcons TermValid_sound (gcons sTermValid_sound (gcons TermSame_sound (gcons dParseTerm_sound (gcons sParseTerm_sound gnil)))))))))) Tryd.func4 rfl (by kernel_rfl) fun args hs K hCC => ?_
  unfold cFnTermText at hCC
  split at hCC
  case h_2 => exact hCC.elim
  rename_i bs cs
  exact ⟨Nat.le_of_ble_eq_true rfl, _, FnTermText_ok bs cs K hCC.1 hCC.2⟩
end Go.Dk
namespace Go.Proofs.YteamklllllembaaDoor
open Go.ChangeShapes Go.WideShapes Go.RowKit Go.Dk Go.Proofs
set_option linter.unusedVariables false
set_option maxRecDepth 100000 in
theorem FnTermText_lifted (os : Os) (started : os.Started) (H : Type) (enc : TypeId × Value → H) :
    ReturnsInHanded {} Tryd.checked os 4 .any (fun w args => (Rows.fnTermTextSpec.pre enc Tryd.prog Tryd.f4 [] false w args ∧ laidMetH Tryd.prog Rows.fnTermTextRow.laid w) ∧ sizedMet enc Tryd.prog Tryd.f4 (OpenSpec.ofChange Rows.fnTermTextSpec) false w args) (Rows.fnTermTextSpec.post enc Tryd.prog Tryd.f4 false true false false) := by
  refine handed_shaped (C := Tryd.checked) (X := fun w _ => laidMetH Tryd.prog Rows.fnTermTextRow.laid w) (fun _ _ _ hh h => h.of_heap hh) own started (by kernel_rfl) Tryd.func4
    (ChangeSpec.witness_shaped (enc := enc) (C := Tryd.checked) (os := os) (X := fun w _ => laidMetH Tryd.prog Rows.fnTermTextRow.laid w) false (World.laidAll Tryd.prog os Rows.fnTermTextRow.laid) #[.slice none 0 0, .slice none 0 0] 8 (World.laidAll_os _ _ _)
      (World.shaped_of_ZipB (by kernel_rfl) (by kernel_rfl)) (by kernel_rfl) (by kernel_rfl) (by kernel_rfl)
      (by rw [MakeChecks.laidMetH_plain _ _ _ (by kernel_rfl)]; exact laidMet_laidAll _ (by kernel_rfl) (by kernel_rfl))) ?_
  intro W base args ds gs before hok hW _ _ hsh hL _
  have hE1 : IfcCell W 0 := ifc_of_laid hL (by kernel_rfl) (.tail _ (.tail _ (.tail _ (.tail _ (.tail _ (.head _)))))) (by kernel_rfl) (by kernel_rfl) Tryd.underlying92
  have hE2 : IfcCell W 1 := ifc_of_laid hL (by kernel_rfl) (.tail _ (.tail _ (.tail _ (.tail _ (.head _))))) (by kernel_rfl) (by kernel_rfl) Tryd.underlying92
  have hW' := hW
  obtain ⟨p, q, hA, hV, rfl, hfz, hnd⟩ := hW
  rw [Tryd.params4] at hA
  obtain ⟨rfl, rfl⟩ := trodVars_none hV
  obtain ⟨v0, vs0, d0, ds0, q0, s0, e0, rfl, rfl, h0, hA⟩ := trodAll_cons hA
  obtain ⟨v1, vs1, d1, ds1, q1, s1, e1, rfl, rfl, h1, hA⟩ := trodAll_cons hA
  obtain ⟨rfl, rfl, rfl⟩ := trodAll_nil hA
  subst e1
  have ha : args = #[v0, v1] := by cases args; simpa using e0
  subst ha
  obtain ⟨bs0, l0, p0, r0⟩ := open_bytes Tryd.underlying30 Tryd.underlying5 (by kernel_rfl) (plain_slice Tryd.underlying30 (hok 0 _ _ rfl rfl)) h0
  obtain ⟨bs1, l1, p1, r1⟩ := open_bytes Tryd.underlying30 Tryd.underlying5 (by kernel_rfl) (plain_slice Tryd.underlying30 (hok 1 _ _ rfl rfl)) h1
  refine (law_call (hI := (inv_of hsh hE1 hE2)) (args := [.ints .u8 bs0 (.arg 0), .ints .u8 bs1 (.arg 1)]) (vals := [v0, v1]) FnTermText_sound (fun K hK => ⟨⟨⟨l0, p0⟩, ⟨l1, p1⟩⟩, hK⟩) (fun j => slOf ([v0, v1].getD j .nilFunc)) ⟨r0 _ _ 0 rfl, r1 _ _ 1 rfl, trivial⟩).mono fun e W' ⟨he, hk⟩ => ?_
  exact ⟨_, he, law_post laidOut (of_decide_eq_true (by kernel_rfl)) rfl rfl Tryd.underlying4 rfl hW' hk⟩
theorem FnTermText_holds : Rows.FnTermTextSaid :=
  OpenClaim.holds_of_wide 4 Tryd.f4 rfl rfl rfl rfl rfl rfl rfl ⟨rfl, rfl, rfl, rfl, rfl⟩ rfl rfl rfl rfl rfl (by kernel_rfl) Tryd.func4 (by kernel_rfl)
    (of_decide_eq_true (by kernel_rfl)) (by unfold Func.isWrapper; first | (rw [if_pos (by decide +kernel)]; kernel_rfl) | (rw [if_neg (by decide +kernel)]; exact ⟨rfl, rfl⟩))
    (fun os started H enc _ => FnTermText_lifted os started H enc)
theorem FnTermText_card : Rows.FnTermTextCardSaid :=
  Claim7.holds_tied_plain_at .later [] _ true _ _ FnTermText_holds (fun _ h => by cases h) (by kernel_rfl) (fun _ h => by cases h) fnTermText_row_tie rfl ⟨rfl, rfl⟩ (by kernel_rfl) rfl
    (fun f fn hf hfn => by
      obtain rfl : f = 4 := Option.some.inj ((show Tryd.prog.funcNamed Rows.fnTermTextRow.func = some 4 by kernel_rfl).symm.trans hf) |>.symm
      obtain rfl : fn = Tryd.f4 := (Option.some.inj (Tryd.func4.symm.trans hfn)).symm
      exact ⟨by kernel_rfl, fun j t ht => by
        rw [Tryd.params4] at ht
        have hm : t ∈ [30, 30] := by simpa using Array.mem_of_getElem? ht
        have hall : ([30, 30].all fun u => !Tryd.prog.wantsStandIn u) = true := by kernel_rfl
        exact (show Tryd.prog.wantsStandIn t = false by simpa using List.all_eq_true.1 hall t hm)⟩)
    (by kernel_rfl)
end Go.Proofs.YteamklllllembaaDoor
namespace Go.Dk
open Go.Proofs
end Go.Dk
