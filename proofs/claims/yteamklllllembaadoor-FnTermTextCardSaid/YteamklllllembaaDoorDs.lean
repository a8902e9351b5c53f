/- Draws of texts. -/
import Derived.Test.YteamklllllembaaDoorDr
import Derived.Test.YteamklllllembaaDoorSs
namespace Go.Dk
set_option linter.unusedVariables false
open Go.Proofs
theorem retStrR {K : AV → List AV → Prop} {a : List UInt8} {bs : List Int} {p p' : Int} (hk : K (.str a) [.st [.ints .u8 bs .any, .int .i64 p']]) (hp : p = p') : Ret K (.str a) [.st [.ints .u8 bs .any, .int .i64 p]] := by
  subst hp; exact fin hk rfl ⟨⟨⟨rfl, rfl, rfl⟩, ⟨rfl, rfl⟩, True.intro⟩, True.intro⟩
/-- spec.l19Rd).of -/
def crof : Con
  | [.fptr 0, .strs ss], [(.st [.ints .u8 bs .any, .int .i64 (p)])], K => ((Bs bs ∧ 0 ≤ p ∧ p ≤ 1000000 ∧ ss ≠ [] ∧ ss.length ≤ 1000)) ∧ ((∀ x, x ∈ ss → K (.str x) [(.st [.ints .u8 bs .any, .int .i64 ((p + 1))])]))
  | _, _, _ => False
theorem rof_ok (bs : List Int) (p : Int) (ss : List (List UInt8)) (K : AV → List AV → Prop) (hp : ((Bs bs ∧ 0 ≤ p ∧ p ≤ 1000000 ∧ ss ≠ [] ∧ ss.length ≤ 1000))) (hk : ((∀ x, x ∈ ss → K (.str x) [(.st [.ints .u8 bs .any, .int .i64 ((p + 1))])]))) :
    bodyQ [(40, crpick)] TY [] Tryd.f65 (body Tryd.f65) [.fptr 0, .strs ss] [(.st [.ints .u8 bs .any, .int .i64 (p)])] K := by
  refine of_vc (A :=
    (((Bs bs) ∧ (((0 : Int) ≤ p) ∧ ((p ≤ (1000000 : Int)) ∧ ((((List.length ss) : Nat) : Int) ≤ (9223372036854775807 : Int))))) ∧
     (∀ x : Int,
     ((((0 : Int) < (((List.length ss) : Nat) : Int)) → (((0 : Int) ≤ x) ∧ (x < (((List.length ss) : Nat) : Int)))) →
     ((((0 : Int) ≤ x) ∧ (x < (((List.length ss) : Nat) : Int))) ∧
     (Ret K (.str (List.getD ss (Int.toNat x) ([] : List UInt8))) [(.st [(.ints .u8 bs .any), (.int .i64 (p + (1 : Int)))])])))))) ?_ (by kernel_rfl)
  obtain ⟨hb, p0, p1, hn, hl2⟩ := hp
  have hl : 0 < ss.length := List.length_pos_iff.2 hn
  refine ⟨⟨hb, p0, p1, by omega⟩, fun x hx => ⟨hx (by omega), retStrR (hk _ (getD_mem ?_)) rfl⟩⟩
  have hx := hx (by omega)
  omega
theorem rof_sound : Sound Tryd.prog 65 crof := by
  refine soundF (G := [(40, crpick)]) ((gcons rpick_sound gnil)) Tryd.func65 rfl (by kernel_rfl) fun args hs K hCC => ?_
  unfold crof at hCC
  split at hCC
  case h_2 => exact hCC.elim
  rename_i ss bs p
  exact ⟨Nat.le_of_ble_eq_true rfl, _, rof_ok bs p ss K hCC.1 hCC.2⟩
/-- spec.l1Bend -/
def cl1Bend : Con
  | [.fptr 0, .str l, .strs ss], [(.st [.ints .u8 bs .any, .int .i64 (p)])], K => ((Bs bs ∧ 0 ≤ p ∧ p ≤ 900000 ∧ ss ≠ [] ∧ ss.length ≤ 1000) ∧ (l.length ≤ 5000 ∧ ∀ x ∈ ss, x.length ≤ 5)) ∧ ((∀ (x : List UInt8) (p' : Int), x.length ≤ 5005 → p ≤ p' ∧ p' ≤ p + 5 → K (.str x) [(.st [.ints .u8 bs .any, .int .i64 (p')])]))
  | _, _, _ => False
theorem l1Bend_ok (bs : List Int) (p : Int) (l : List UInt8) (ss : List (List UInt8)) (K : AV → List AV → Prop) (hp : ((Bs bs ∧ 0 ≤ p ∧ p ≤ 900000 ∧ ss ≠ [] ∧ ss.length ≤ 1000) ∧ (l.length ≤ 5000 ∧ ∀ x ∈ ss, x.length ≤ 5))) (hk : ((∀ (x : List UInt8) (p' : Int), x.length ≤ 5005 → p ≤ p' ∧ p' ≤ p + 5 → K (.str x) [(.st [.ints .u8 bs .any, .int .i64 (p')])]))) :
    bodyQ [(40, crpick), (65, crof)] TY [] Tryd.f38 (body Tryd.f38) [.fptr 0, .str l, .strs ss] [(.st [.ints .u8 bs .any, .int .i64 (p)])] K := by
  refine of_vc (A :=
    (Br (Decidable.decide ((((List.length l) : Nat) : Int) = (0 : Int)))
     (Ret K (.str l) [(.st [(.ints .u8 bs .any), (.int .i64 p)])])
     (((Bs bs) ∧ (((0 : Int) ≤ p) ∧ ((p ≤ (1000000 : Int)) ∧ ((2 : Int) ≤ (9223372036854775807 : Int))))) ∧
     (∀ x : Int,
     ((((0 : Int) < (2 : Int)) → (((0 : Int) ≤ x) ∧ (x < (2 : Int)))) →
     (Br (Decidable.decide (x = (0 : Int)))
     (Ret K (.str l) [(.st [(.ints .u8 bs .any), (.int .i64 (p + (1 : Int)))])])
     (((Bs bs) ∧ (((0 : Int) ≤ (p + (1 : Int))) ∧ (((p + (1 : Int)) ≤ (1000000 : Int)) ∧ ((((List.length l) : Nat) : Int) ≤ (9223372036854775807 : Int))))) ∧
     (∀ x1 : Int,
     ((((0 : Int) < (((List.length l) : Nat) : Int)) → (((0 : Int) ≤ x1) ∧ (x1 < (((List.length l) : Nat) : Int)))) →
     ((((0 : Int) ≤ (0 : Int)) ∧ (((0 : Int) ≤ x1) ∧ (x1 ≤ (((List.length l) : Nat) : Int)))) ∧
     (((Bs bs) ∧
     (((0 : Int) ≤ ((p + (1 : Int)) + (1 : Int))) ∧
     ((((p + (1 : Int)) + (1 : Int)) ≤ (1000000 : Int)) ∧ ((ss ≠ ([] : List (List UInt8))) ∧ ((List.length ss) ≤ (1000 : Nat)))))) ∧
     (∀ x2 : (List UInt8),
     ((Membership.mem ss x2) →
     ((((((List.length (List.take ((Int.toNat x1) - (0 : Nat)) (List.drop (0 : Nat) l))) : Nat) : Int) + (((List.length x2) : Nat) : Int)) ≤ (1099511627776 : Int)) ∧
     (((Bs bs) ∧
     (((0 : Int) ≤ (((p + (1 : Int)) + (1 : Int)) + (1 : Int))) ∧
     (((((p + (1 : Int)) + (1 : Int)) + (1 : Int)) ≤ (1000000 : Int)) ∧ ((2 : Int) ≤ (9223372036854775807 : Int))))) ∧
     (∀ x3 : Int,
     ((((0 : Int) < (2 : Int)) → (((0 : Int) ≤ x3) ∧ (x3 < (2 : Int)))) →
     ((InR (x1 + x3)) ∧
     ((((0 : Int) ≤ (x1 + x3)) ∧ ((x1 + x3) ≤ (((List.length l) : Nat) : Int))) ∧
     ((((((List.length ((List.take ((Int.toNat x1) - (0 : Nat)) (List.drop (0 : Nat) l)) ++ x2)) : Nat) : Int) + (((List.length (List.drop (Int.toNat (x1 + x3)) l)) : Nat) : Int)) ≤ (1099511627776 : Int)) ∧
     (Ret K (.str (((List.take ((Int.toNat x1) - (0 : Nat)) (List.drop (0 : Nat) l)) ++ x2) ++ (List.drop (Int.toNat (x1 + x3)) l))) [(.st [(.ints .u8 bs .any), (.int .i64 ((((p + (1 : Int)) + (1 : Int)) + (1 : Int)) + (1 : Int)))])]))))))))))))))))))))) ?_ (by kernel_rfl)
  obtain ⟨⟨hb, p0, p1, hn, hl2⟩, hl, hx⟩ := hp
  have out : ∀ (x : List UInt8) (p' : Int), x.length ≤ 5005 → p ≤ p' ∧ p' ≤ p + 5 → Ret K (.str x) [.st [.ints .u8 bs .any, .int .i64 p']] := fun x p' h1 h2 => retStrR (hk x p' h1 h2) rfl
  refine brd (fun _ => out _ _ (by omega) (by omega)) (fun h0 => ⟨⟨hb, by omega, by omega, by omega⟩, fun x h1 => brd (fun _ => out _ _ (by omega) (by omega)) (fun _ => ⟨⟨hb, by omega, by omega, by omega⟩, fun x1 h2 => ⟨⟨by omega, (h2 (by omega)).1, by have := h2 (by omega); omega⟩, ⟨hb, by omega, by omega, hn, hl2⟩, fun x2 h3 => ?_⟩⟩)⟩)
  have hx2 := hx x2 h3
  have h2 := h2 (by omega)
  have ht : (List.take (x1.toNat - 0) (List.drop 0 l)).length ≤ x1 := by rw [List.length_take]; omega
  refine ⟨by omega, ⟨hb, by omega, by omega, by omega⟩, fun x3 h4 => ?_⟩
  have h4 := h4 (by omega)
  refine ⟨by unfold InR; omega, ⟨by omega, by omega⟩, by simp only [List.length_append, List.length_drop]; omega, out _ _ ?_ (by omega)⟩
  simp only [List.length_append, List.length_drop]; omega
theorem l1Bend_sound : Sound Tryd.prog 38 cl1Bend := by
  refine soundF (G := [(40, crpick), (65, crof)]) ((gcons rpick_sound (gcons rof_sound gnil))) Tryd.func38 rfl (by kernel_rfl) fun args hs K hCC => ?_
  unfold cl1Bend at hCC
  split at hCC
  case h_2 => exact hCC.elim
  rename_i l ss bs p
  exact ⟨Nat.le_of_ble_eq_true rfl, _, l1Bend_ok bs p l ss K hCC.1 hCC.2⟩
/-- spec.DrawParseTerm -/
def cdParseTerm : Con
  | [.ints .u8 bs (.arg 0)], [], K => ((Bs bs)) ∧ ((∀ l : List UInt8, l.length ≤ 5005 → K (.str l) []))
  | _, _, _ => False
theorem dParseTerm_ok (bs : List Int) (K : AV → List AV → Prop) (hp : ((Bs bs))) (hk : ((∀ l : List UInt8, l.length ≤ 5005 → K (.str l) []))) :
    bodyQ [(37, cl19Open), (39, cl1Any), (32, csText), (38, cl1Bend)] TY [] Tryd.f19 (body Tryd.f19) [.ints .u8 bs (.arg 0)] [] K := by
  refine of_vc (A :=
    ((Bs bs) ∧
     (∀ bs' : (List Int),
     ((Bs bs') →
     (((Bs bs') ∧ (((0 : Int) ≤ (0 : Int)) ∧ ((0 : Int) ≤ (800000 : Int)))) ∧
     (∀ t : T,
     (∀ p' : Int,
     (((T.valid t) = true) →
     ((((0 : Int) ≤ p') ∧ (p' ≤ ((0 : Int) + (5000 : Int)))) →
     (((∃ d : Int, ((T.shp (T.mk (T.k t) (T.n t) (T.kids t)) d) = true)) ∧ ((T.size (T.mk (T.k t) (T.n t) (T.kids t))) ≤ (400 : Nat))) ∧
     ((((Bs bs') ∧
     (((0 : Int) ≤ p') ∧
     ((p' ≤ (900000 : Int)) ∧
     (([([] : List UInt8), [(40 : UInt8)], [(41 : UInt8)], [(35 : UInt8)], [(48 : UInt8)], [(44 : UInt8)], [(60 : UInt8)], [(78 : UInt8)], [(32 : UInt8)]] ≠ ([] : List (List UInt8))) ∧
     ((9 : Nat) ≤ (1000 : Nat)))))) ∧
     (((List.length (T.text (T.mk (T.k t) (T.n t) (T.kids t)))) ≤ (5000 : Nat)) ∧
     (∀ x : (List UInt8),
     ((Membership.mem [([] : List UInt8), [(40 : UInt8)], [(41 : UInt8)], [(35 : UInt8)], [(48 : UInt8)], [(44 : UInt8)], [(60 : UInt8)], [(78 : UInt8)], [(32 : UInt8)]] x) →
     ((List.length x) ≤ (5 : Nat)))))) ∧
     (∀ x : (List UInt8), (∀ p'1 : Int, (((List.length x) ≤ (5005 : Nat)) → (((p' ≤ p'1) ∧ (p'1 ≤ (p' + (5 : Int)))) → (Ret K (.str x) [])))))))))))))))) ?_ (by kernel_rfl)
  simp only [T.eta]
  refine ⟨hp, fun bs' hb => ⟨⟨hb, by omega, by omega⟩, fun t p' hv hp' => ⟨⟨⟨30, T.valid_shp hv⟩, T.valid_size hv⟩, ⟨⟨hb, by omega, by omega, by simp, by omega⟩, ?_, by decide⟩, fun x p1 hx _ => retStr (hk x hx) rfl⟩⟩⟩
  have := t.text_le
  have := T.valid_size hv
  omega
theorem dParseTerm_sound : Sound Tryd.prog 19 cdParseTerm := by
  refine soundF (G := [(37, cl19Open), (39, cl1Any), (32, csText), (38, cl1Bend)]) ((gcons l19Open_sound (gcons l1Any_sound (gcons sText_sound (gcons l1Bend_sound gnil))))) Tryd.func19 rfl (by kernel_rfl) fun args hs K hCC => ?_
  unfold cdParseTerm at hCC
  split at hCC
  case h_2 => exact hCC.elim
  rename_i bs
  exact ⟨Nat.le_of_ble_eq_true rfl, _, dParseTerm_ok bs K hCC.1 hCC.2⟩
end Go.Dk
