/- Texts: the program's FormatTerm. -/
import Derived.Test.YteamklllllembaaDoorL1
import Derived.Test.YteamklllllembaaDoorSf
namespace Go.Dk
set_option linter.unusedVariables false
open Go.Proofs
/-- impl.FormatTerm -/
def ciFormat : Con
  | [.st [.int .i64 k, .int .i64 n, .slc ts (.arg 0)]], [], K => True ∧ ((K (.str (if (T.mk k n ts).valid = true then (T.mk k n ts).text else [])) []))
  | _, _, _ => False
theorem iFormat_ok (k n : Int) (ts : List T) (K : AV → List AV → Prop) (hp : True) (hk : ((K (.str (if (T.mk k n ts).valid = true then (T.mk k n ts).text else [])) []))) :
    bodyQ [(16, cTermValid), (27, ciText)] TY [] Tryd.f14 (body Tryd.f14) [.st [.int .i64 k, .int .i64 n, .slc ts (.arg 0)]] [] K := by
  refine of_vc (A :=
    (True ∧
     (Br (Bool.not (T.valid (T.mk k n ts)))
     (Ret K (.str []) [])
     (((∃ d : Int, ((T.shp (T.mk k n ts) d) = true)) ∧ ((T.size (T.mk k n ts)) ≤ (400 : Nat))) ∧ (Ret K (.str (T.text (T.mk k n ts))) []))))) ?_ (by kernel_rfl)
  exact ⟨trivial, br (fun h => retStr hk (by rw [Bool.not_eq_true'] at h; rw [h]; rfl)) (fun h => by
    rw [Bool.not_eq_false'] at h
    have hz := T.valid_size h
    exact ⟨⟨⟨30, T.valid_shp h⟩, hz⟩, retStr hk (by rw [if_pos h])⟩)⟩
theorem iFormat_sound : Sound Tryd.prog 14 ciFormat := by
  refine soundF (G := [(16, cTermValid), (27, ciText)]) ((gcons TermValid_sound (gcons iText_sound gnil))) Tryd.func14 rfl (by kernel_rfl) fun args hs K hCC => ?_
  unfold ciFormat at hCC
  split at hCC
  case h_2 => exact hCC.elim
  rename_i k n ts
  exact ⟨Nat.le_of_ble_eq_true rfl, _, iFormat_ok k n ts K hCC.1 hCC.2⟩
end Go.Dk
