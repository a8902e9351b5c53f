/- Texts: the program's functions on whole texts. -/
import Derived.Test.YteamklllllembaaDoorL1
import Derived.Test.YteamklllllembaaDoorSi
namespace Go.Dk
set_option linter.unusedVariables false
open Go.Proofs
/-- impl.ParseTerm -/
def ciParseTerm : Con
  | [.str l], [], K => ((l.length ≤ 1048576)) ∧ ((∀ (t : T) (b : Bool), PrT l t b → K (.tup [t.fr, .bool b]) []))
  | _, _, _ => False
theorem iParseTerm_ok (l : List UInt8) (K : AV → List AV → Prop) (hp : ((l.length ≤ 1048576))) (hk : ((∀ (t : T) (b : Bool), PrT l t b → K (.tup [t.fr, .bool b]) []))) :
    bodyQ [(26, ciReadTerm), (16, cTermValid), (27, ciText)] TY [] Tryd.f9 (body Tryd.f9) [.str l] [] K := by
  refine of_vc (A :=
    ((((List.length l) ≤ (1048576 : Nat)) ∧ (((1 : Int) ≤ (1 : Int)) ∧ ((1 : Int) ≤ (31 : Int)))) ∧
     (∀ t : T,
     (∀ rest : (List UInt8),
     (∀ b : Bool,
     (((T.size t) ≤ ((List.length l) + (1 : Nat))) →
     (((b = true) → (((T.size t) + (List.length rest)) ≤ (List.length l))) →
     (((List.length rest) ≤ (List.length l)) →
     ((fndR l (30 : Int) t rest b) →
     (Br (Bool.not b)
     (Ret K (.tup [(.st [(.int .i64 0), (.int .i64 0), (.slc [] (.iv 0 0 true .full))]), (.bool false)]) [])
     (Br (Decidable.decide (rest ≠ (Array.toList (ByteArray.data (ByteArray.mk (List.toArray ([] : List UInt8)))))))
     (Ret K (.tup [(.st [(.int .i64 0), (.int .i64 0), (.slc [] (.iv 0 0 true .full))]), (.bool false)]) [])
     (True ∧
     (Br (Bool.not (T.valid (T.mk (T.k t) (T.n t) (T.kids t))))
     (Ret K (.tup [(.st [(.int .i64 0), (.int .i64 0), (.slc [] (.iv 0 0 true .full))]), (.bool false)]) [])
     (((∃ d : Int, ((T.shp (T.mk (T.k t) (T.n t) (T.kids t)) d) = true)) ∧ ((T.size (T.mk (T.k t) (T.n t) (T.kids t))) ≤ (400 : Nat))) ∧
     (Br (Decidable.decide ((T.text (T.mk (T.k t) (T.n t) (T.kids t))) ≠ l))
     (Ret K (.tup [(.st [(.int .i64 0), (.int .i64 0), (.slc [] (.iv 0 0 true .full))]), (.bool false)]) [])
     (Ret K (.tup [(.st [(.int .i64 (T.k t)), (.int .i64 (T.n t)), (.slc (T.kids t) (.iv 4 4 true (.tok 0)))]), (.bool true)]) [])))))))))))))))) ?_ (by kernel_rfl)
  refine ⟨⟨hp, by omega, by omega⟩, fun t rest b hz hzb hr hf => ?_⟩
  simp only [T.eta]
  have bad : (∀ u : T, u.valid = true → u.text = l → False) → Ret K (.tup [.st [.int .i64 0, .int .i64 0, .slc [] (.iv 0 0 true .full)], .bool false]) [] := fun hb => retTB (hk (.mk 0 0 []) false ⟨(fun h => by cases h), fun _ => ⟨rfl, fun u hu he => hb u hu he⟩⟩) rfl rfl
  refine br (fun hb => bad (fun u hu he => by rw [(fndR_whole hf hu he).2.2] at hb; cases hb)) (fun hb => brd (fun g => bad (fun u hu he => g (fndR_whole hf hu he).2.1)) (fun g1 => ⟨trivial, br (fun hv => bad (fun u hu he => ?_)) (fun hv => ?_)⟩))
  · rw [(fndR_whole hf hu he).1, hu] at hv; cases hv
  · have hv : t.valid = true := by simpa using hv
    refine ⟨⟨⟨30, T.valid_shp hv⟩, T.valid_size hv⟩, brd (fun g => bad (fun u hu he => g (by rw [(fndR_whole hf hu he).1]; exact he))) (fun g => ?_)⟩
    have g : t.text = l := Decidable.byContradiction g
    exact retTB (hk t true ⟨fun _ => ⟨hv, g, fun u hu he => (fndR_whole hf hu he).1⟩, (fun h => by cases h)⟩) (T.eta t) rfl rfl
theorem iParseTerm_sound : Sound Tryd.prog 9 ciParseTerm := by
  refine soundF (G := [(26, ciReadTerm), (16, cTermValid), (27, ciText)]) ((gcons iReadTerm_sound (gcons TermValid_sound (gcons iText_sound gnil)))) Tryd.func9 rfl (by kernel_rfl) fun args hs K hCC => ?_
  unfold ciParseTerm at hCC
  split at hCC
  case h_2 => exact hCC.elim
  rename_i l
  exact ⟨Nat.le_of_ble_eq_true rfl, _, iParseTerm_ok l K hCC.1 hCC.2⟩
end Go.Dk
