/- Draws: what is drawn is any value within bounds. -/
import Derived.Test.YteamklllllembaaDoorL1s
import Derived.Test.YteamklllllembaaDoorLaw
namespace Go.Dk
set_option linter.unusedVariables false
open Go.Proofs
def dbnd : Nat → Nat
  | 0 => 1
  | d + 1 => 1 + 4 * dbnd d
theorem dbnd_pos : ∀ d, 1 ≤ dbnd d
  | 0 => Nat.le_refl _
  | d + 1 => by unfold dbnd; omega
def lb (n B : Nat) : Nat := n * B
theorem lb_zero (B : Nat) : lb 0 B = 0 := Nat.zero_mul B
theorem lb_succ (n B : Nat) : lb (n + 1) B = lb n B + B := Nat.succ_mul n B
theorem lb_le {n B : Nat} (h : n ≤ 4) : lb n B ≤ 4 * B := Nat.mul_le_mul_right B h
theorem lb_le3 {n B : Nat} (h : n < 4) : lb n B ≤ 3 * B := Nat.mul_le_mul_right B (by omega)
theorem leafKind {x : Int} (h : x ∈ [(1 : Int), 7, 6, 2, 1]) : arity x ≤ 0 := by
  simp at h; rcases h with rfl | rfl | rfl | rfl | rfl <;> decide
theorem dbnd_le {d : Nat} (h : d ≤ 5) : dbnd d ≤ 1365 := by
  match d, h with
  | 0, _ | 1, _ | 2, _ | 3, _ | 4, _ | 5, _ => decide
theorem sizeL_append : ∀ (xs ys : List T), sizeL (xs ++ ys) = sizeL xs + sizeL ys
  | [], ys => by simp [sizeL]
  | x :: xs, ys => by simp only [List.cons_append, sizeL, sizeL_append xs ys]; omega
@[reducible] def fd : Tag := .iv 4 4 false .no
/-- spec.l19Open -/
def cl19Open : Con
  | [.ints .u8 bs (.arg 0)], [], K => ((Bs bs)) ∧ ((∀ bs', Bs bs' → K (.newp (.st [.ints .u8 bs' .any, .int .i64 (0)])) []))
  | _, _, _ => False
theorem l19Open_ok (bs : List Int) (K : AV → List AV → Prop) (hp : ((Bs bs))) (hk : ((∀ bs', Bs bs' → K (.newp (.st [.ints .u8 bs' .any, .int .i64 (0)])) []))) :
    bodyQ [] TY [] Tryd.f37 (body Tryd.f37) [.ints .u8 bs (.arg 0)] [] K := by
  refine of_vc (A :=
    (Br (Decidable.decide ((2000 : Int) < (((List.length bs) : Nat) : Int)))
     ((((0 : Int) ≤ (0 : Int)) ∧ (((0 : Int) ≤ (2000 : Int)) ∧ ((2000 : Int) ≤ (((List.length bs) : Nat) : Int)))) ∧
     (Ret K (.newp (.st [(.ints .u8 (List.take (2000 : Nat) (List.drop (0 : Nat) bs)) (.iv 2 2 false .no)), (.int .i64 0)])) []))
     (Ret K (.newp (.st [(.ints .u8 bs (.arg 0)), (.int .i64 0)])) []))) ?_ (by kernel_rfl)
  refine br (fun h => ?_) (fun h => ?_)
  · have h := of_decide_eq_true h
    exact ⟨⟨by omega, by omega, by omega⟩, fin (hk _ fun x hx => hp x (by simp only [List.drop_zero] at hx; exact List.mem_of_mem_take hx)) ⟨⟨rfl, rfl, rfl⟩, ⟨rfl, rfl⟩, trivial⟩ trivial⟩
  · exact fin (hk _ hp) ⟨⟨rfl, rfl, rfl⟩, ⟨rfl, rfl⟩, trivial⟩ trivial
theorem l19Open_sound : Sound Tryd.prog 37 cl19Open := by
  refine soundF (G := []) (gnil) Tryd.func37 rfl (by kernel_rfl) fun args hs K hCC => ?_
  unfold cl19Open at hCC
  split at hCC
  case h_2 => exact hCC.elim
  rename_i bs
  exact ⟨Nat.le_of_ble_eq_true rfl, _, l19Open_ok bs K hCC.1 hCC.2⟩
/-- spec.l19Rd).pick -/
def crpick : Con
  | [.fptr 0, .int .i64 n], [(.st [.ints .u8 bs .any, .int .i64 (p)])], K => ((Bs bs ∧ 0 ≤ p ∧ p ≤ 1000000 ∧ n ≤ 9223372036854775807)) ∧ ((∀ x, (0 < n → 0 ≤ x ∧ x < n) → K (.int .i64 x) [(.st [.ints .u8 bs .any, .int .i64 ((p + 1))])]))
  | _, _, _ => False
theorem rpick_ok (bs : List Int) (p n : Int) (K : AV → List AV → Prop) (hp : ((Bs bs ∧ 0 ≤ p ∧ p ≤ 1000000 ∧ n ≤ 9223372036854775807))) (hk : ((∀ x, (0 < n → 0 ≤ x ∧ x < n) → K (.int .i64 x) [(.st [.ints .u8 bs .any, .int .i64 ((p + 1))])]))) :
    bodyQ [] TY [] Tryd.f40 (body Tryd.f40) [.fptr 0, .int .i64 n] [(.st [.ints .u8 bs .any, .int .i64 (p)])] K := by
  refine of_vc (A :=
    ((InR (p + (1 : Int))) ∧
     (Br (Decidable.decide (n < (1 : Int)))
     (Ret K (.int .i64 0) [(.st [(.ints .u8 bs .any), (.int .i64 (p + (1 : Int)))])])
     (Br (Decidable.decide ((((List.length bs) : Nat) : Int) = (0 : Int)))
     (Ret K (.int .i64 0) [(.st [(.ints .u8 bs .any), (.int .i64 (p + (1 : Int)))])])
     ((InR ((p + (1 : Int)) - (1 : Int))) ∧
     (Br (Decidable.decide (((p + (1 : Int)) - (1 : Int)) < (((List.length bs) : Nat) : Int)))
     ((((0 : Int) ≤ ((p + (1 : Int)) - (1 : Int))) ∧ (((p + (1 : Int)) - (1 : Int)) < (((List.length bs) : Nat) : Int))) ∧
     ((InR (List.getD bs (Int.toNat ((p + (1 : Int)) - (1 : Int))) (0 : Int))) ∧
     ((((0 : Int) ≤ (List.getD bs (Int.toNat ((p + (1 : Int)) - (1 : Int))) (0 : Int))) ∧ (((0 : Int) < n) ∧ (n ≤ (9223372036854775807 : Int)))) ∧
     (Ret K (.int .i64 ((List.getD bs (Int.toNat ((p + (1 : Int)) - (1 : Int))) (0 : Int)) % n)) [(.st [(.ints .u8 bs .any), (.int .i64 (p + (1 : Int)))])]))))
     ((((0 : Int) ≤ ((p + (1 : Int)) - (1 : Int))) ∧
     (((0 : Int) < (((List.length bs) : Nat) : Int)) ∧ ((((List.length bs) : Nat) : Int) ≤ (9223372036854775807 : Int)))) ∧
     ((((0 : Int) ≤ (((p + (1 : Int)) - (1 : Int)) % (((List.length bs) : Nat) : Int))) ∧
     ((((p + (1 : Int)) - (1 : Int)) % (((List.length bs) : Nat) : Int)) < (((List.length bs) : Nat) : Int))) ∧
     ((InR (List.getD bs (Int.toNat (((p + (1 : Int)) - (1 : Int)) % (((List.length bs) : Nat) : Int))) (0 : Int))) ∧
     ((InR ((List.getD bs (Int.toNat (((p + (1 : Int)) - (1 : Int)) % (((List.length bs) : Nat) : Int))) (0 : Int)) * (131 : Int))) ∧
     ((InR (((p + (1 : Int)) - (1 : Int)) * (7 : Int))) ∧
     ((InR ((((p + (1 : Int)) - (1 : Int)) * (7 : Int)) + (3 : Int))) ∧
     ((((0 : Int) ≤ ((((p + (1 : Int)) - (1 : Int)) * (7 : Int)) + (3 : Int))) ∧
     (((0 : Int) < (((List.length bs) : Nat) : Int)) ∧ ((((List.length bs) : Nat) : Int) ≤ (9223372036854775807 : Int)))) ∧
     ((((0 : Int) ≤ (((((p + (1 : Int)) - (1 : Int)) * (7 : Int)) + (3 : Int)) % (((List.length bs) : Nat) : Int))) ∧
     ((((((p + (1 : Int)) - (1 : Int)) * (7 : Int)) + (3 : Int)) % (((List.length bs) : Nat) : Int)) < (((List.length bs) : Nat) : Int))) ∧
     ((InR (List.getD bs (Int.toNat (((((p + (1 : Int)) - (1 : Int)) * (7 : Int)) + (3 : Int)) % (((List.length bs) : Nat) : Int))) (0 : Int))) ∧
     ((InR ((List.getD bs (Int.toNat (((((p + (1 : Int)) - (1 : Int)) * (7 : Int)) + (3 : Int)) % (((List.length bs) : Nat) : Int))) (0 : Int)) * (1117 : Int))) ∧
     ((InR (((List.getD bs (Int.toNat (((p + (1 : Int)) - (1 : Int)) % (((List.length bs) : Nat) : Int))) (0 : Int)) * (131 : Int)) + ((List.getD bs (Int.toNat (((((p + (1 : Int)) - (1 : Int)) * (7 : Int)) + (3 : Int)) % (((List.length bs) : Nat) : Int))) (0 : Int)) * (1117 : Int)))) ∧
     ((InR (((p + (1 : Int)) - (1 : Int)) * (29 : Int))) ∧
     ((InR ((((List.getD bs (Int.toNat (((p + (1 : Int)) - (1 : Int)) % (((List.length bs) : Nat) : Int))) (0 : Int)) * (131 : Int)) + ((List.getD bs (Int.toNat (((((p + (1 : Int)) - (1 : Int)) * (7 : Int)) + (3 : Int)) % (((List.length bs) : Nat) : Int))) (0 : Int)) * (1117 : Int))) + (((p + (1 : Int)) - (1 : Int)) * (29 : Int)))) ∧
     ((((0 : Int) ≤ ((p + (1 : Int)) - (1 : Int))) ∧
     (((0 : Int) < (((List.length bs) : Nat) : Int)) ∧ (((p + (1 : Int)) - (1 : Int)) ≤ (9223372036854775807 : Int)))) ∧
     ((InR ((((p + (1 : Int)) - (1 : Int)) / (((List.length bs) : Nat) : Int)) * (53 : Int))) ∧
     ((InR (((((List.getD bs (Int.toNat (((p + (1 : Int)) - (1 : Int)) % (((List.length bs) : Nat) : Int))) (0 : Int)) * (131 : Int)) + ((List.getD bs (Int.toNat (((((p + (1 : Int)) - (1 : Int)) * (7 : Int)) + (3 : Int)) % (((List.length bs) : Nat) : Int))) (0 : Int)) * (1117 : Int))) + (((p + (1 : Int)) - (1 : Int)) * (29 : Int))) + ((((p + (1 : Int)) - (1 : Int)) / (((List.length bs) : Nat) : Int)) * (53 : Int)))) ∧
     ((((0 : Int) ≤ (((((List.getD bs (Int.toNat (((p + (1 : Int)) - (1 : Int)) % (((List.length bs) : Nat) : Int))) (0 : Int)) * (131 : Int)) + ((List.getD bs (Int.toNat (((((p + (1 : Int)) - (1 : Int)) * (7 : Int)) + (3 : Int)) % (((List.length bs) : Nat) : Int))) (0 : Int)) * (1117 : Int))) + (((p + (1 : Int)) - (1 : Int)) * (29 : Int))) + ((((p + (1 : Int)) - (1 : Int)) / (((List.length bs) : Nat) : Int)) * (53 : Int)))) ∧
     (((0 : Int) < (64 : Int)) ∧
     ((((((List.getD bs (Int.toNat (((p + (1 : Int)) - (1 : Int)) % (((List.length bs) : Nat) : Int))) (0 : Int)) * (131 : Int)) + ((List.getD bs (Int.toNat (((((p + (1 : Int)) - (1 : Int)) * (7 : Int)) + (3 : Int)) % (((List.length bs) : Nat) : Int))) (0 : Int)) * (1117 : Int))) + (((p + (1 : Int)) - (1 : Int)) * (29 : Int))) + ((((p + (1 : Int)) - (1 : Int)) / (((List.length bs) : Nat) : Int)) * (53 : Int))) ≤ (9223372036854775807 : Int)))) ∧
     (∀ c : Int,
     ((((0 : Int) ≤ (((((List.getD bs (Int.toNat (((p + (1 : Int)) - (1 : Int)) % (((List.length bs) : Nat) : Int))) (0 : Int)) * (131 : Int)) + ((List.getD bs (Int.toNat (((((p + (1 : Int)) - (1 : Int)) * (7 : Int)) + (3 : Int)) % (((List.length bs) : Nat) : Int))) (0 : Int)) * (1117 : Int))) + (((p + (1 : Int)) - (1 : Int)) * (29 : Int))) + ((((p + (1 : Int)) - (1 : Int)) / (((List.length bs) : Nat) : Int)) * (53 : Int)))) → (((0 : Int) ≤ ((((((List.getD bs (Int.toNat (((p + (1 : Int)) - (1 : Int)) % (((List.length bs) : Nat) : Int))) (0 : Int)) * (131 : Int)) + ((List.getD bs (Int.toNat (((((p + (1 : Int)) - (1 : Int)) * (7 : Int)) + (3 : Int)) % (((List.length bs) : Nat) : Int))) (0 : Int)) * (1117 : Int))) + (((p + (1 : Int)) - (1 : Int)) * (29 : Int))) + ((((p + (1 : Int)) - (1 : Int)) / (((List.length bs) : Nat) : Int)) * (53 : Int))) / (64 : Int))) → (((((((List.getD bs (Int.toNat (((p + (1 : Int)) - (1 : Int)) % (((List.length bs) : Nat) : Int))) (0 : Int)) * (131 : Int)) + ((List.getD bs (Int.toNat (((((p + (1 : Int)) - (1 : Int)) * (7 : Int)) + (3 : Int)) % (((List.length bs) : Nat) : Int))) (0 : Int)) * (1117 : Int))) + (((p + (1 : Int)) - (1 : Int)) * (29 : Int))) + ((((p + (1 : Int)) - (1 : Int)) / (((List.length bs) : Nat) : Int)) * (53 : Int))) ≤ (4611686018427387903 : Int)) → ((((((((List.getD bs (Int.toNat (((p + (1 : Int)) - (1 : Int)) % (((List.length bs) : Nat) : Int))) (0 : Int)) * (131 : Int)) + ((List.getD bs (Int.toNat (((((p + (1 : Int)) - (1 : Int)) * (7 : Int)) + (3 : Int)) % (((List.length bs) : Nat) : Int))) (0 : Int)) * (1117 : Int))) + (((p + (1 : Int)) - (1 : Int)) * (29 : Int))) + ((((p + (1 : Int)) - (1 : Int)) / (((List.length bs) : Nat) : Int)) * (53 : Int))) / (64 : Int)) ≤ (4611686018427387903 : Int)) → (((0 : Int) ≤ c) ∧ (c ≤ (9223372036854775807 : Int))))))) →
     ((((0 : Int) ≤ c) ∧ (((0 : Int) < n) ∧ (n ≤ (9223372036854775807 : Int)))) ∧
     (Ret K (.int .i64 (c % n)) [(.st [(.ints .u8 bs .any), (.int .i64 (p + (1 : Int)))])]))))))))))))))))))))))))))) ?_ (by kernel_rfl)
  obtain ⟨hb, p0, p1, hn⟩ := hp
  have byte : ∀ i, 0 ≤ bs.getD i 0 ∧ bs.getD i 0 ≤ 255 := fun i => by
    rw [List.getD_eq_getElem?_getD]
    cases h : bs[i]? with
    | none => simp
    | some x => simp; exact hb x (List.mem_of_getElem? h)
  have e1 : p + 1 - 1 = p := by omega
  rw [e1]
  refine ⟨by unfold InR; omega, br (fun h => ?_) (fun h => br (fun h2 => ?_) (fun h2 => ⟨by unfold InR; omega, br (fun h3 => ?_) (fun h3 => ?_)⟩))⟩
  · have h := of_decide_eq_true h
    exact fin (hk 0 fun h' => by omega) ⟨rfl, rfl⟩ ⟨⟨⟨rfl, rfl, rfl⟩, ⟨rfl, rfl⟩, trivial⟩, trivial⟩
  · have h := of_decide_eq_false h
    exact fin (hk 0 fun h' => by omega) ⟨rfl, rfl⟩ ⟨⟨⟨rfl, rfl, rfl⟩, ⟨rfl, rfl⟩, trivial⟩, trivial⟩
  · have h := of_decide_eq_false h
    have h3 := of_decide_eq_true h3
    have hx := byte p.toNat
    have q1 := Int.emod_nonneg (bs.getD p.toNat 0) (by omega : n ≠ 0)
    have q2 := Int.emod_lt_of_pos (bs.getD p.toNat 0) (by omega : 0 < n)
    exact ⟨⟨p0, h3⟩, by unfold InR; omega, ⟨hx.1, by omega, hn⟩, fin (hk _ fun _ => ⟨q1, q2⟩) ⟨rfl, rfl⟩ ⟨⟨⟨rfl, rfl, rfl⟩, ⟨rfl, rfl⟩, trivial⟩, trivial⟩⟩
  · have h := of_decide_eq_false h
    have h2 := of_decide_eq_false h2
    have h3 := of_decide_eq_false h3
    have hl : (0 : Int) < bs.length := by omega
    have b1 := byte (p % bs.length).toNat
    have b2 := byte ((p * 7 + 3) % bs.length).toNat
    have m1 := Int.emod_nonneg p (by omega : (bs.length : Int) ≠ 0)
    have m2 := Int.emod_lt_of_pos p hl
    have m3 := Int.emod_nonneg (p * 7 + 3) (by omega : (bs.length : Int) ≠ 0)
    have m4 := Int.emod_lt_of_pos (p * 7 + 3) hl
    have d1 := Int.ediv_nonneg p0 (by omega : (0 : Int) ≤ bs.length)
    have d2 := Int.ediv_le_self (bs.length : Int) p0
    unfold InR
    refine ⟨⟨p0, hl, by omega⟩, ⟨m1, m2⟩, by omega, by omega, by omega, by omega, ⟨by omega, hl, by omega⟩, ⟨m3, m4⟩, by omega, by omega, by omega, by omega, by omega, ⟨p0, hl, by omega⟩, by omega, by omega, ⟨by omega, by omega, by omega⟩, fun c hc => ?_⟩
    have hc := hc (by omega) (by omega) (by omega) (by omega)
    have q1 := Int.emod_nonneg c (by omega : n ≠ 0)
    have q2 := Int.emod_lt_of_pos c (by omega : 0 < n)
    exact ⟨⟨hc.1, by omega, hn⟩, fin (hk _ fun _ => ⟨q1, q2⟩) ⟨rfl, rfl⟩ ⟨⟨⟨rfl, rfl, rfl⟩, ⟨rfl, rfl⟩, trivial⟩, trivial⟩⟩
theorem rpick_sound : Sound Tryd.prog 40 crpick := by
  refine soundF (G := []) (gnil) Tryd.func40 rfl (by kernel_rfl) fun args hs K hCC => ?_
  unfold crpick at hCC
  split at hCC
  case h_2 => exact hCC.elim
  rename_i n bs p
  exact ⟨Nat.le_of_ble_eq_true rfl, _, rpick_ok bs p n K hCC.1 hCC.2⟩
/-- spec.l19Rd).num -/
def crnum : Con
  | [.fptr 0, .ints .i64 ns (.arg 1)], [(.st [.ints .u8 bs .any, .int .i64 (p)])], K => ((Bs bs ∧ 0 ≤ p ∧ p ≤ 1000000 ∧ ns ≠ [] ∧ ns.length ≤ 1000)) ∧ ((∀ x, x ∈ ns → K (.int .i64 x) [(.st [.ints .u8 bs .any, .int .i64 ((p + 1))])]))
  | _, _, _ => False
theorem rnum_ok (bs : List Int) (p : Int) (ns : List Int) (K : AV → List AV → Prop) (hp : ((Bs bs ∧ 0 ≤ p ∧ p ≤ 1000000 ∧ ns ≠ [] ∧ ns.length ≤ 1000))) (hk : ((∀ x, x ∈ ns → K (.int .i64 x) [(.st [.ints .u8 bs .any, .int .i64 ((p + 1))])]))) :
    bodyQ [(40, crpick)] TY [] Tryd.f57 (body Tryd.f57) [.fptr 0, .ints .i64 ns (.arg 1)] [(.st [.ints .u8 bs .any, .int .i64 (p)])] K := by
  refine of_vc (A :=
    (((Bs bs) ∧ (((0 : Int) ≤ p) ∧ ((p ≤ (1000000 : Int)) ∧ ((((List.length ns) : Nat) : Int) ≤ (9223372036854775807 : Int))))) ∧
     (∀ x : Int,
     ((((0 : Int) < (((List.length ns) : Nat) : Int)) → (((0 : Int) ≤ x) ∧ (x < (((List.length ns) : Nat) : Int)))) →
     ((((0 : Int) ≤ x) ∧ (x < (((List.length ns) : Nat) : Int))) ∧
     (Ret K (.int .i64 (List.getD ns (Int.toNat x) (0 : Int))) [(.st [(.ints .u8 bs .any), (.int .i64 (p + (1 : Int)))])])))))) ?_ (by kernel_rfl)
  obtain ⟨hb, p0, p1, hn, hl2⟩ := hp
  have hl : 0 < ns.length := List.length_pos_iff.2 hn
  refine ⟨⟨hb, p0, p1, by omega⟩, fun x hx => ⟨hx (by omega), fin (hk _ ?_) ⟨rfl, rfl⟩ ⟨⟨⟨rfl, rfl, rfl⟩, ⟨rfl, rfl⟩, trivial⟩, trivial⟩⟩⟩
  have hx := hx (by omega)
  have hi : x.toNat < ns.length := by omega
  rw [List.getD_eq_getElem?_getD, List.getElem?_eq_getElem hi]
  exact List.getElem_mem hi
theorem rnum_sound : Sound Tryd.prog 57 crnum := by
  refine soundF (G := [(40, crpick)]) ((gcons rpick_sound gnil)) Tryd.func57 rfl (by kernel_rfl) fun args hs K hCC => ?_
  unfold crnum at hCC
  split at hCC
  case h_2 => exact hCC.elim
  rename_i ns bs p
  exact ⟨Nat.le_of_ble_eq_true rfl, _, rnum_ok bs p ns K hCC.1 hCC.2⟩
/-- spec.l1Draw -/
def cl1DrawM (m : Nat) : Con
  | [.fptr 0, .int .i64 d], [(.st [.ints .u8 bs .any, .int .i64 (p)])], K => ((d.toNat) < m ∧ ((Bs bs ∧ 0 ≤ p ∧ p + 3 * dbnd d.toNat ≤ 900000 ∧ 0 ≤ d ∧ d ≤ 5))) ∧ ((∀ (t : T) (p' : Int), t.size ≤ dbnd d.toNat → p ≤ p' ∧ p' ≤ p + 3 * dbnd d.toNat → K t.fr [(.st [.ints .u8 bs .any, .int .i64 (p')])]))
  | _, _, _ => False
def cl1Draw : Con
  | [.fptr 0, .int .i64 d], [(.st [.ints .u8 bs .any, .int .i64 (p)])], K => ((Bs bs ∧ 0 ≤ p ∧ p + 3 * dbnd d.toNat ≤ 900000 ∧ 0 ≤ d ∧ d ≤ 5)) ∧ ((∀ (t : T) (p' : Int), t.size ≤ dbnd d.toNat → p ≤ p' ∧ p' ≤ p + 3 * dbnd d.toNat → K t.fr [(.st [.ints .u8 bs .any, .int .i64 (p')])]))
  | _, _, _ => False
theorem l1Draw_ok (m : Nat) (bs : List Int) (p d : Int) (K : AV → List AV → Prop) (hm : (d.toNat) < m + 1) (hp : ((Bs bs ∧ 0 ≤ p ∧ p + 3 * dbnd d.toNat ≤ 900000 ∧ 0 ≤ d ∧ d ≤ 5))) (hk : ((∀ (t : T) (p' : Int), t.size ≤ dbnd d.toNat → p ≤ p' ∧ p' ≤ p + 3 * dbnd d.toNat → K t.fr [(.st [.ints .u8 bs .any, .int .i64 (p')])]))) :
    bodyQ [(66, cl1DrawM m), (57, crnum), (63, csKids), (64, csMost)] TY [(8, { ι := (Int × Int) × (List T × Int), ok := fun x => sizeL x.2.1 ≤ lb x.2.1.length (dbnd (d - 1).toNat) ∧ x.2.1.length ≤ 4 ∧ (d < 2 → arity x.1.1 ≤ 0 ∧ x.2.1 = []) ∧ p ≤ x.2.2 ∧ x.2.2 ≤ p + 3 + 3 * (lb x.2.1.length (dbnd (d - 1).toNat)), tl := fun x => [(0, .fptr 0), (1, .int .i64 d), (4, .ptr 4), (5, .int .i64 x.1.1), (6, .ptr 6), (7, .int .i64 x.2.1.length)], hl := fun x => [(4, (T.mk 0 0 []).av (.iv 0 0 true .full)), (6, .st [.int .i64 x.1.1, .int .i64 x.1.2, .slc x.2.1 (.iv 4 4 true (.tok 38))])], fh := fun x => [(.st [.ints .u8 bs .any, .int .i64 (x.2.2)])], μ := fun x => 4 - x.2.1.length })] Tryd.f66 (body Tryd.f66) [.fptr 0, .int .i64 d] [(.st [.ints .u8 bs .any, .int .i64 (p)])] K := by
  refine of_vc (A :=
    (((Bs bs) ∧
     (((0 : Int) ≤ p) ∧
     ((p ≤ (1000000 : Int)) ∧
     (([(1 : Int), (5 : Int), (4 : Int), (8 : Int), (9 : Int), (3 : Int), (6 : Int), (7 : Int), (11 : Int), (15 : Int), (14 : Int), (10 : Int), (12 : Int), (13 : Int), (16 : Int), (2 : Int)] ≠ ([] : List Int)) ∧
     ((16 : Nat) ≤ (1000 : Nat)))))) ∧
     (∀ x : Int,
     ((Membership.mem [(1 : Int), (5 : Int), (4 : Int), (8 : Int), (9 : Int), (3 : Int), (6 : Int), (7 : Int), (11 : Int), (15 : Int), (14 : Int), (10 : Int), (12 : Int), (13 : Int), (16 : Int), (2 : Int)] x) →
     (Br (Decidable.decide (d < (2 : Int)))
     (((Bs bs) ∧
     (((0 : Int) ≤ (p + (1 : Int))) ∧
     (((p + (1 : Int)) ≤ (1000000 : Int)) ∧ (([(1 : Int), (7 : Int), (6 : Int), (2 : Int), (1 : Int)] ≠ ([] : List Int)) ∧ ((5 : Nat) ≤ (1000 : Nat)))))) ∧
     (∀ x1 : Int,
     ((Membership.mem [(1 : Int), (7 : Int), (6 : Int), (2 : Int), (1 : Int)] x1) →
     (True ∧
     (Br (Decidable.decide ((0 : Int) < (mostN x1)))
     (((Bs bs) ∧
     (((0 : Int) ≤ ((p + (1 : Int)) + (1 : Int))) ∧
     ((((p + (1 : Int)) + (1 : Int)) ≤ (1000000 : Int)) ∧
     (([(0 : Int), (1 : Int), (0 : Int), (2 : Int), (1 : Int), (3 : Int)] ≠ ([] : List Int)) ∧ ((6 : Nat) ≤ (1000 : Nat)))))) ∧
     (∀ x2 : Int,
     ((Membership.mem [(0 : Int), (1 : Int), (0 : Int), (2 : Int), (1 : Int), (3 : Int)] x2) →
     ((∃ x3 : (Prod (Prod Int Int) (Prod (List T) Int)),
     ((((sizeL (Prod.fst (Prod.snd x3))) ≤ (lb (List.length (Prod.fst (Prod.snd x3))) (dbnd (Int.toNat (d - (1 : Int)))))) ∧
     (((List.length (Prod.fst (Prod.snd x3))) ≤ (4 : Nat)) ∧
     (((d < (2 : Int)) → (((arity (Prod.fst (Prod.fst x3))) ≤ (0 : Int)) ∧ ((Prod.fst (Prod.snd x3)) = ([] : List T)))) ∧
     ((p ≤ (Prod.snd (Prod.snd x3))) ∧
     ((Prod.snd (Prod.snd x3)) ≤ ((p + (3 : Int)) + ((3 : Int) * (((lb (List.length (Prod.fst (Prod.snd x3))) (dbnd (Int.toNat (d - (1 : Int))))) : Nat) : Int)))))))) ∧
     ((d = d) ∧
     ((x1 = (Prod.fst (Prod.fst x3))) ∧
     (((0 : Int) = (((List.length (Prod.fst (Prod.snd x3))) : Nat) : Int)) ∧
     (((0 : Int) = (0 : Int)) ∧
     (((0 : Int) = (0 : Int)) ∧
     ((([] : List T) = ([] : List T)) ∧
     ((x1 = (Prod.fst (Prod.fst x3))) ∧
     ((x2 = (Prod.snd (Prod.fst x3))) ∧
     ((([] : List T) = (Prod.fst (Prod.snd x3))) ∧ ((bs = bs) ∧ (((((p + (1 : Int)) + (1 : Int)) + (1 : Int)) = (Prod.snd (Prod.snd x3))) ∧ True))))))))))))) ∧
     (∀ x3 : (Prod (Prod Int Int) (Prod (List T) Int)),
     ((((sizeL (Prod.fst (Prod.snd x3))) ≤ (lb (List.length (Prod.fst (Prod.snd x3))) (dbnd (Int.toNat (d - (1 : Int)))))) ∧ (((List.length (Prod.fst (Prod.snd x3))) ≤ (4 : Nat)) ∧ (((d < (2 : Int)) → (((arity (Prod.fst (Prod.fst x3))) ≤ (0 : Int)) ∧ ((Prod.fst (Prod.snd x3)) = ([] : List T)))) ∧ ((p ≤ (Prod.snd (Prod.snd x3))) ∧ ((Prod.snd (Prod.snd x3)) ≤ ((p + (3 : Int)) + ((3 : Int) * (((lb (List.length (Prod.fst (Prod.snd x3))) (dbnd (Int.toNat (d - (1 : Int))))) : Nat) : Int)))))))) →
     (True ∧
     (Br (Decidable.decide ((((List.length (Prod.fst (Prod.snd x3))) : Nat) : Int) < (arity (Prod.fst (Prod.fst x3)))))
     ((InR (d - (1 : Int))) ∧
     ((((Int.toNat (d - (1 : Int))) < m) ∧
     ((Bs bs) ∧
     (((0 : Int) ≤ (Prod.snd (Prod.snd x3))) ∧
     ((((Prod.snd (Prod.snd x3)) + ((3 : Int) * (((dbnd (Int.toNat (d - (1 : Int)))) : Nat) : Int))) ≤ (900000 : Int)) ∧
     (((0 : Int) ≤ (d - (1 : Int))) ∧ ((d - (1 : Int)) ≤ (5 : Int))))))) ∧
     (∀ t : T,
     (∀ p' : Int,
     (((T.size t) ≤ (dbnd (Int.toNat (d - (1 : Int))))) →
     ((((Prod.snd (Prod.snd x3)) ≤ p') ∧ (p' ≤ ((Prod.snd (Prod.snd x3)) + ((3 : Int) * (((dbnd (Int.toNat (d - (1 : Int)))) : Nat) : Int))))) →
     (((Prod.fst (Prod.snd x3)) = (Prod.fst (Prod.snd x3))) ∧
     ((((((List.length (Prod.fst (Prod.snd x3))) : Nat) : Int) + (1 : Int)) ≤ (1099511627776 : Int)) ∧
     ((InR ((((List.length (Prod.fst (Prod.snd x3))) : Nat) : Int) + (1 : Int))) ∧
     (∃ y : (Prod (Prod Int Int) (Prod (List T) Int)),
     ((((sizeL (Prod.fst (Prod.snd y))) ≤ (lb (List.length (Prod.fst (Prod.snd y))) (dbnd (Int.toNat (d - (1 : Int)))))) ∧
     (((List.length (Prod.fst (Prod.snd y))) ≤ (4 : Nat)) ∧
     (((d < (2 : Int)) → (((arity (Prod.fst (Prod.fst y))) ≤ (0 : Int)) ∧ ((Prod.fst (Prod.snd y)) = ([] : List T)))) ∧
     ((p ≤ (Prod.snd (Prod.snd y))) ∧
     ((Prod.snd (Prod.snd y)) ≤ ((p + (3 : Int)) + ((3 : Int) * (((lb (List.length (Prod.fst (Prod.snd y))) (dbnd (Int.toNat (d - (1 : Int))))) : Nat) : Int)))))))) ∧
     ((d = d) ∧
     (((Prod.fst (Prod.fst x3)) = (Prod.fst (Prod.fst y))) ∧
     ((((((List.length (Prod.fst (Prod.snd x3))) : Nat) : Int) + (1 : Int)) = (((List.length (Prod.fst (Prod.snd y))) : Nat) : Int)) ∧
     (((0 : Int) = (0 : Int)) ∧
     (((0 : Int) = (0 : Int)) ∧
     ((([] : List T) = ([] : List T)) ∧
     (((Prod.fst (Prod.fst x3)) = (Prod.fst (Prod.fst y))) ∧
     (((Prod.snd (Prod.fst x3)) = (Prod.snd (Prod.fst y))) ∧
     ((((Prod.fst (Prod.snd x3)) ++ [(T.mk (T.k t) (T.n t) (T.kids t))]) = (Prod.fst (Prod.snd y))) ∧
     ((bs = bs) ∧
     ((p' = (Prod.snd (Prod.snd y))) ∧ ((Nat.succ ((4 : Nat) - (List.length (Prod.fst (Prod.snd y))))) ≤ ((4 : Nat) - (List.length (Prod.fst (Prod.snd x3)))))))))))))))))))))))))))
     (Ret K (.st [(.int .i64 (Prod.fst (Prod.fst x3))), (.int .i64 (Prod.snd (Prod.fst x3))), (.slc (Prod.fst (Prod.snd x3)) (.iv 4 4 true (.tok 0)))]) [(.st [(.ints .u8 bs .any), (.int .i64 (Prod.snd (Prod.snd x3)))])])))))))))
     ((∃ x2 : (Prod (Prod Int Int) (Prod (List T) Int)),
     ((((sizeL (Prod.fst (Prod.snd x2))) ≤ (lb (List.length (Prod.fst (Prod.snd x2))) (dbnd (Int.toNat (d - (1 : Int)))))) ∧
     (((List.length (Prod.fst (Prod.snd x2))) ≤ (4 : Nat)) ∧
     (((d < (2 : Int)) → (((arity (Prod.fst (Prod.fst x2))) ≤ (0 : Int)) ∧ ((Prod.fst (Prod.snd x2)) = ([] : List T)))) ∧
     ((p ≤ (Prod.snd (Prod.snd x2))) ∧
     ((Prod.snd (Prod.snd x2)) ≤ ((p + (3 : Int)) + ((3 : Int) * (((lb (List.length (Prod.fst (Prod.snd x2))) (dbnd (Int.toNat (d - (1 : Int))))) : Nat) : Int)))))))) ∧
     ((d = d) ∧
     ((x1 = (Prod.fst (Prod.fst x2))) ∧
     (((0 : Int) = (((List.length (Prod.fst (Prod.snd x2))) : Nat) : Int)) ∧
     (((0 : Int) = (0 : Int)) ∧
     (((0 : Int) = (0 : Int)) ∧
     ((([] : List T) = ([] : List T)) ∧
     ((x1 = (Prod.fst (Prod.fst x2))) ∧
     (((0 : Int) = (Prod.snd (Prod.fst x2))) ∧
     ((([] : List T) = (Prod.fst (Prod.snd x2))) ∧ ((bs = bs) ∧ ((((p + (1 : Int)) + (1 : Int)) = (Prod.snd (Prod.snd x2))) ∧ True))))))))))))) ∧
     (∀ x2 : (Prod (Prod Int Int) (Prod (List T) Int)),
     ((((sizeL (Prod.fst (Prod.snd x2))) ≤ (lb (List.length (Prod.fst (Prod.snd x2))) (dbnd (Int.toNat (d - (1 : Int)))))) ∧ (((List.length (Prod.fst (Prod.snd x2))) ≤ (4 : Nat)) ∧ (((d < (2 : Int)) → (((arity (Prod.fst (Prod.fst x2))) ≤ (0 : Int)) ∧ ((Prod.fst (Prod.snd x2)) = ([] : List T)))) ∧ ((p ≤ (Prod.snd (Prod.snd x2))) ∧ ((Prod.snd (Prod.snd x2)) ≤ ((p + (3 : Int)) + ((3 : Int) * (((lb (List.length (Prod.fst (Prod.snd x2))) (dbnd (Int.toNat (d - (1 : Int))))) : Nat) : Int)))))))) →
     (True ∧
     (Br (Decidable.decide ((((List.length (Prod.fst (Prod.snd x2))) : Nat) : Int) < (arity (Prod.fst (Prod.fst x2)))))
     ((InR (d - (1 : Int))) ∧
     ((((Int.toNat (d - (1 : Int))) < m) ∧
     ((Bs bs) ∧
     (((0 : Int) ≤ (Prod.snd (Prod.snd x2))) ∧
     ((((Prod.snd (Prod.snd x2)) + ((3 : Int) * (((dbnd (Int.toNat (d - (1 : Int)))) : Nat) : Int))) ≤ (900000 : Int)) ∧
     (((0 : Int) ≤ (d - (1 : Int))) ∧ ((d - (1 : Int)) ≤ (5 : Int))))))) ∧
     (∀ t : T,
     (∀ p' : Int,
     (((T.size t) ≤ (dbnd (Int.toNat (d - (1 : Int))))) →
     ((((Prod.snd (Prod.snd x2)) ≤ p') ∧ (p' ≤ ((Prod.snd (Prod.snd x2)) + ((3 : Int) * (((dbnd (Int.toNat (d - (1 : Int)))) : Nat) : Int))))) →
     (((Prod.fst (Prod.snd x2)) = (Prod.fst (Prod.snd x2))) ∧
     ((((((List.length (Prod.fst (Prod.snd x2))) : Nat) : Int) + (1 : Int)) ≤ (1099511627776 : Int)) ∧
     ((InR ((((List.length (Prod.fst (Prod.snd x2))) : Nat) : Int) + (1 : Int))) ∧
     (∃ y : (Prod (Prod Int Int) (Prod (List T) Int)),
     ((((sizeL (Prod.fst (Prod.snd y))) ≤ (lb (List.length (Prod.fst (Prod.snd y))) (dbnd (Int.toNat (d - (1 : Int)))))) ∧
     (((List.length (Prod.fst (Prod.snd y))) ≤ (4 : Nat)) ∧
     (((d < (2 : Int)) → (((arity (Prod.fst (Prod.fst y))) ≤ (0 : Int)) ∧ ((Prod.fst (Prod.snd y)) = ([] : List T)))) ∧
     ((p ≤ (Prod.snd (Prod.snd y))) ∧
     ((Prod.snd (Prod.snd y)) ≤ ((p + (3 : Int)) + ((3 : Int) * (((lb (List.length (Prod.fst (Prod.snd y))) (dbnd (Int.toNat (d - (1 : Int))))) : Nat) : Int)))))))) ∧
     ((d = d) ∧
     (((Prod.fst (Prod.fst x2)) = (Prod.fst (Prod.fst y))) ∧
     ((((((List.length (Prod.fst (Prod.snd x2))) : Nat) : Int) + (1 : Int)) = (((List.length (Prod.fst (Prod.snd y))) : Nat) : Int)) ∧
     (((0 : Int) = (0 : Int)) ∧
     (((0 : Int) = (0 : Int)) ∧
     ((([] : List T) = ([] : List T)) ∧
     (((Prod.fst (Prod.fst x2)) = (Prod.fst (Prod.fst y))) ∧
     (((Prod.snd (Prod.fst x2)) = (Prod.snd (Prod.fst y))) ∧
     ((((Prod.fst (Prod.snd x2)) ++ [(T.mk (T.k t) (T.n t) (T.kids t))]) = (Prod.fst (Prod.snd y))) ∧
     ((bs = bs) ∧
     ((p' = (Prod.snd (Prod.snd y))) ∧ ((Nat.succ ((4 : Nat) - (List.length (Prod.fst (Prod.snd y))))) ≤ ((4 : Nat) - (List.length (Prod.fst (Prod.snd x2)))))))))))))))))))))))))))
     (Ret K (.st [(.int .i64 (Prod.fst (Prod.fst x2))), (.int .i64 (Prod.snd (Prod.fst x2))), (.slc (Prod.fst (Prod.snd x2)) (.iv 4 4 true (.tok 0)))]) [(.st [(.ints .u8 bs .any), (.int .i64 (Prod.snd (Prod.snd x2)))])])))))))))))
     (True ∧
     (Br (Decidable.decide ((0 : Int) < (mostN x)))
     (((Bs bs) ∧
     (((0 : Int) ≤ (p + (1 : Int))) ∧
     (((p + (1 : Int)) ≤ (1000000 : Int)) ∧ (([(0 : Int), (1 : Int), (0 : Int), (2 : Int), (1 : Int), (3 : Int)] ≠ ([] : List Int)) ∧ ((6 : Nat) ≤ (1000 : Nat)))))) ∧
     (∀ x1 : Int,
     ((Membership.mem [(0 : Int), (1 : Int), (0 : Int), (2 : Int), (1 : Int), (3 : Int)] x1) →
     ((∃ x2 : (Prod (Prod Int Int) (Prod (List T) Int)),
     ((((sizeL (Prod.fst (Prod.snd x2))) ≤ (lb (List.length (Prod.fst (Prod.snd x2))) (dbnd (Int.toNat (d - (1 : Int)))))) ∧
     (((List.length (Prod.fst (Prod.snd x2))) ≤ (4 : Nat)) ∧
     (((d < (2 : Int)) → (((arity (Prod.fst (Prod.fst x2))) ≤ (0 : Int)) ∧ ((Prod.fst (Prod.snd x2)) = ([] : List T)))) ∧
     ((p ≤ (Prod.snd (Prod.snd x2))) ∧
     ((Prod.snd (Prod.snd x2)) ≤ ((p + (3 : Int)) + ((3 : Int) * (((lb (List.length (Prod.fst (Prod.snd x2))) (dbnd (Int.toNat (d - (1 : Int))))) : Nat) : Int)))))))) ∧
     ((d = d) ∧
     ((x = (Prod.fst (Prod.fst x2))) ∧
     (((0 : Int) = (((List.length (Prod.fst (Prod.snd x2))) : Nat) : Int)) ∧
     (((0 : Int) = (0 : Int)) ∧
     (((0 : Int) = (0 : Int)) ∧
     ((([] : List T) = ([] : List T)) ∧
     ((x = (Prod.fst (Prod.fst x2))) ∧
     ((x1 = (Prod.snd (Prod.fst x2))) ∧
     ((([] : List T) = (Prod.fst (Prod.snd x2))) ∧ ((bs = bs) ∧ ((((p + (1 : Int)) + (1 : Int)) = (Prod.snd (Prod.snd x2))) ∧ True))))))))))))) ∧
     (∀ x2 : (Prod (Prod Int Int) (Prod (List T) Int)),
     ((((sizeL (Prod.fst (Prod.snd x2))) ≤ (lb (List.length (Prod.fst (Prod.snd x2))) (dbnd (Int.toNat (d - (1 : Int)))))) ∧ (((List.length (Prod.fst (Prod.snd x2))) ≤ (4 : Nat)) ∧ (((d < (2 : Int)) → (((arity (Prod.fst (Prod.fst x2))) ≤ (0 : Int)) ∧ ((Prod.fst (Prod.snd x2)) = ([] : List T)))) ∧ ((p ≤ (Prod.snd (Prod.snd x2))) ∧ ((Prod.snd (Prod.snd x2)) ≤ ((p + (3 : Int)) + ((3 : Int) * (((lb (List.length (Prod.fst (Prod.snd x2))) (dbnd (Int.toNat (d - (1 : Int))))) : Nat) : Int)))))))) →
     (True ∧
     (Br (Decidable.decide ((((List.length (Prod.fst (Prod.snd x2))) : Nat) : Int) < (arity (Prod.fst (Prod.fst x2)))))
     ((InR (d - (1 : Int))) ∧
     ((((Int.toNat (d - (1 : Int))) < m) ∧
     ((Bs bs) ∧
     (((0 : Int) ≤ (Prod.snd (Prod.snd x2))) ∧
     ((((Prod.snd (Prod.snd x2)) + ((3 : Int) * (((dbnd (Int.toNat (d - (1 : Int)))) : Nat) : Int))) ≤ (900000 : Int)) ∧
     (((0 : Int) ≤ (d - (1 : Int))) ∧ ((d - (1 : Int)) ≤ (5 : Int))))))) ∧
     (∀ t : T,
     (∀ p' : Int,
     (((T.size t) ≤ (dbnd (Int.toNat (d - (1 : Int))))) →
     ((((Prod.snd (Prod.snd x2)) ≤ p') ∧ (p' ≤ ((Prod.snd (Prod.snd x2)) + ((3 : Int) * (((dbnd (Int.toNat (d - (1 : Int)))) : Nat) : Int))))) →
     (((Prod.fst (Prod.snd x2)) = (Prod.fst (Prod.snd x2))) ∧
     ((((((List.length (Prod.fst (Prod.snd x2))) : Nat) : Int) + (1 : Int)) ≤ (1099511627776 : Int)) ∧
     ((InR ((((List.length (Prod.fst (Prod.snd x2))) : Nat) : Int) + (1 : Int))) ∧
     (∃ y : (Prod (Prod Int Int) (Prod (List T) Int)),
     ((((sizeL (Prod.fst (Prod.snd y))) ≤ (lb (List.length (Prod.fst (Prod.snd y))) (dbnd (Int.toNat (d - (1 : Int)))))) ∧
     (((List.length (Prod.fst (Prod.snd y))) ≤ (4 : Nat)) ∧
     (((d < (2 : Int)) → (((arity (Prod.fst (Prod.fst y))) ≤ (0 : Int)) ∧ ((Prod.fst (Prod.snd y)) = ([] : List T)))) ∧
     ((p ≤ (Prod.snd (Prod.snd y))) ∧
     ((Prod.snd (Prod.snd y)) ≤ ((p + (3 : Int)) + ((3 : Int) * (((lb (List.length (Prod.fst (Prod.snd y))) (dbnd (Int.toNat (d - (1 : Int))))) : Nat) : Int)))))))) ∧
     ((d = d) ∧
     (((Prod.fst (Prod.fst x2)) = (Prod.fst (Prod.fst y))) ∧
     ((((((List.length (Prod.fst (Prod.snd x2))) : Nat) : Int) + (1 : Int)) = (((List.length (Prod.fst (Prod.snd y))) : Nat) : Int)) ∧
     (((0 : Int) = (0 : Int)) ∧
     (((0 : Int) = (0 : Int)) ∧
     ((([] : List T) = ([] : List T)) ∧
     (((Prod.fst (Prod.fst x2)) = (Prod.fst (Prod.fst y))) ∧
     (((Prod.snd (Prod.fst x2)) = (Prod.snd (Prod.fst y))) ∧
     ((((Prod.fst (Prod.snd x2)) ++ [(T.mk (T.k t) (T.n t) (T.kids t))]) = (Prod.fst (Prod.snd y))) ∧
     ((bs = bs) ∧
     ((p' = (Prod.snd (Prod.snd y))) ∧ ((Nat.succ ((4 : Nat) - (List.length (Prod.fst (Prod.snd y))))) ≤ ((4 : Nat) - (List.length (Prod.fst (Prod.snd x2)))))))))))))))))))))))))))
     (Ret K (.st [(.int .i64 (Prod.fst (Prod.fst x2))), (.int .i64 (Prod.snd (Prod.fst x2))), (.slc (Prod.fst (Prod.snd x2)) (.iv 4 4 true (.tok 0)))]) [(.st [(.ints .u8 bs .any), (.int .i64 (Prod.snd (Prod.snd x2)))])])))))))))
     ((∃ x1 : (Prod (Prod Int Int) (Prod (List T) Int)),
     ((((sizeL (Prod.fst (Prod.snd x1))) ≤ (lb (List.length (Prod.fst (Prod.snd x1))) (dbnd (Int.toNat (d - (1 : Int)))))) ∧
     (((List.length (Prod.fst (Prod.snd x1))) ≤ (4 : Nat)) ∧
     (((d < (2 : Int)) → (((arity (Prod.fst (Prod.fst x1))) ≤ (0 : Int)) ∧ ((Prod.fst (Prod.snd x1)) = ([] : List T)))) ∧
     ((p ≤ (Prod.snd (Prod.snd x1))) ∧
     ((Prod.snd (Prod.snd x1)) ≤ ((p + (3 : Int)) + ((3 : Int) * (((lb (List.length (Prod.fst (Prod.snd x1))) (dbnd (Int.toNat (d - (1 : Int))))) : Nat) : Int)))))))) ∧
     ((d = d) ∧
     ((x = (Prod.fst (Prod.fst x1))) ∧
     (((0 : Int) = (((List.length (Prod.fst (Prod.snd x1))) : Nat) : Int)) ∧
     (((0 : Int) = (0 : Int)) ∧
     (((0 : Int) = (0 : Int)) ∧
     ((([] : List T) = ([] : List T)) ∧
     ((x = (Prod.fst (Prod.fst x1))) ∧
     (((0 : Int) = (Prod.snd (Prod.fst x1))) ∧ ((([] : List T) = (Prod.fst (Prod.snd x1))) ∧ ((bs = bs) ∧ (((p + (1 : Int)) = (Prod.snd (Prod.snd x1))) ∧ True))))))))))))) ∧
     (∀ x1 : (Prod (Prod Int Int) (Prod (List T) Int)),
     ((((sizeL (Prod.fst (Prod.snd x1))) ≤ (lb (List.length (Prod.fst (Prod.snd x1))) (dbnd (Int.toNat (d - (1 : Int)))))) ∧ (((List.length (Prod.fst (Prod.snd x1))) ≤ (4 : Nat)) ∧ (((d < (2 : Int)) → (((arity (Prod.fst (Prod.fst x1))) ≤ (0 : Int)) ∧ ((Prod.fst (Prod.snd x1)) = ([] : List T)))) ∧ ((p ≤ (Prod.snd (Prod.snd x1))) ∧ ((Prod.snd (Prod.snd x1)) ≤ ((p + (3 : Int)) + ((3 : Int) * (((lb (List.length (Prod.fst (Prod.snd x1))) (dbnd (Int.toNat (d - (1 : Int))))) : Nat) : Int)))))))) →
     (True ∧
     (Br (Decidable.decide ((((List.length (Prod.fst (Prod.snd x1))) : Nat) : Int) < (arity (Prod.fst (Prod.fst x1)))))
     ((InR (d - (1 : Int))) ∧
     ((((Int.toNat (d - (1 : Int))) < m) ∧
     ((Bs bs) ∧
     (((0 : Int) ≤ (Prod.snd (Prod.snd x1))) ∧
     ((((Prod.snd (Prod.snd x1)) + ((3 : Int) * (((dbnd (Int.toNat (d - (1 : Int)))) : Nat) : Int))) ≤ (900000 : Int)) ∧
     (((0 : Int) ≤ (d - (1 : Int))) ∧ ((d - (1 : Int)) ≤ (5 : Int))))))) ∧
     (∀ t : T,
     (∀ p' : Int,
     (((T.size t) ≤ (dbnd (Int.toNat (d - (1 : Int))))) →
     ((((Prod.snd (Prod.snd x1)) ≤ p') ∧ (p' ≤ ((Prod.snd (Prod.snd x1)) + ((3 : Int) * (((dbnd (Int.toNat (d - (1 : Int)))) : Nat) : Int))))) →
     (((Prod.fst (Prod.snd x1)) = (Prod.fst (Prod.snd x1))) ∧
     ((((((List.length (Prod.fst (Prod.snd x1))) : Nat) : Int) + (1 : Int)) ≤ (1099511627776 : Int)) ∧
     ((InR ((((List.length (Prod.fst (Prod.snd x1))) : Nat) : Int) + (1 : Int))) ∧
     (∃ y : (Prod (Prod Int Int) (Prod (List T) Int)),
     ((((sizeL (Prod.fst (Prod.snd y))) ≤ (lb (List.length (Prod.fst (Prod.snd y))) (dbnd (Int.toNat (d - (1 : Int)))))) ∧
     (((List.length (Prod.fst (Prod.snd y))) ≤ (4 : Nat)) ∧
     (((d < (2 : Int)) → (((arity (Prod.fst (Prod.fst y))) ≤ (0 : Int)) ∧ ((Prod.fst (Prod.snd y)) = ([] : List T)))) ∧
     ((p ≤ (Prod.snd (Prod.snd y))) ∧
     ((Prod.snd (Prod.snd y)) ≤ ((p + (3 : Int)) + ((3 : Int) * (((lb (List.length (Prod.fst (Prod.snd y))) (dbnd (Int.toNat (d - (1 : Int))))) : Nat) : Int)))))))) ∧
     ((d = d) ∧
     (((Prod.fst (Prod.fst x1)) = (Prod.fst (Prod.fst y))) ∧
     ((((((List.length (Prod.fst (Prod.snd x1))) : Nat) : Int) + (1 : Int)) = (((List.length (Prod.fst (Prod.snd y))) : Nat) : Int)) ∧
     (((0 : Int) = (0 : Int)) ∧
     (((0 : Int) = (0 : Int)) ∧
     ((([] : List T) = ([] : List T)) ∧
     (((Prod.fst (Prod.fst x1)) = (Prod.fst (Prod.fst y))) ∧
     (((Prod.snd (Prod.fst x1)) = (Prod.snd (Prod.fst y))) ∧
     ((((Prod.fst (Prod.snd x1)) ++ [(T.mk (T.k t) (T.n t) (T.kids t))]) = (Prod.fst (Prod.snd y))) ∧
     ((bs = bs) ∧
     ((p' = (Prod.snd (Prod.snd y))) ∧ ((Nat.succ ((4 : Nat) - (List.length (Prod.fst (Prod.snd y))))) ≤ ((4 : Nat) - (List.length (Prod.fst (Prod.snd x1)))))))))))))))))))))))))))
     (Ret K (.st [(.int .i64 (Prod.fst (Prod.fst x1))), (.int .i64 (Prod.snd (Prod.fst x1))), (.slc (Prod.fst (Prod.snd x1)) (.iv 4 4 true (.tok 0)))]) [(.st [(.ints .u8 bs .any), (.int .i64 (Prod.snd (Prod.snd x1)))])]))))))))))))) ?_ (by kernel_rfl)
  obtain ⟨hb, p0, p1, d0, d1⟩ := hp
  have hB := dbnd_pos d.toNat
  have hB' := dbnd_pos (d - 1).toNat
  have hstep : d < 2 ∨ dbnd d.toNat = 1 + 4 * dbnd (d - 1).toNat := by
    by_cases h : d < 2
    · exact .inl h
    · right
      have e : d.toNat = (d - 1).toNat + 1 := by omega
      rw [e, dbnd]
  refine ⟨⟨hb, p0, by omega, by simp, by simp⟩, fun x hx => br (fun h => ⟨⟨hb, by omega, by omega, by simp, by simp⟩, fun x1 hx1 => ⟨trivial, br (fun h2 => ⟨⟨hb, by omega, by omega, by simp, by simp⟩, fun x2 hx2 => ⟨⟨((x1, x2), ([], p + 1 + 1 + 1)), ?e1, (by repeat' first | trivial | rfl | (simp; done) | apply And.intro)⟩, fun x hx => ?l1⟩⟩) (fun h2 => ⟨⟨((x1, 0), ([], p + 1 + 1)), ?e2, (by repeat' first | trivial | rfl | (simp; done) | apply And.intro)⟩, fun x hx => ?l2⟩)⟩⟩) (fun h => ⟨trivial, br (fun h2 => ⟨⟨hb, by omega, by omega, by simp, by simp⟩, fun x1 hx1 => ⟨⟨((x, x1), ([], p + 1 + 1)), ?e3, (by repeat' first | trivial | rfl | (simp; done) | apply And.intro)⟩, fun x hx => ?l3⟩⟩) (fun h2 => ⟨⟨((x, 0), ([], p + 1)), ?e4, (by repeat' first | trivial | rfl | (simp; done) | apply And.intro)⟩, fun x hx => ?l4⟩)⟩)⟩
  case e1 | e2 => exact ⟨Nat.zero_le _, by simp, fun _ => ⟨leafKind hx1, rfl⟩, by simp only; omega, by simp only; omega⟩
  case e3 | e4 => exact ⟨Nat.zero_le _, by simp, fun h' => absurd h' (of_decide_eq_false h), by simp only; omega, by simp only; omega⟩
  all_goals
    obtain ⟨⟨k, n⟩, ⟨ts, p2⟩⟩ := x
    obtain ⟨g1, g2, g3, g4, g5⟩ := hx
    simp only at g1 g2 g3 g4 g5
    refine ⟨trivial, br (fun h => ?_) (fun h => ?_)⟩
    · have h := of_decide_eq_true h
      have hk4 := (arity_range k).2
      have hd2 : ¬ d < 2 := fun hd => by have := (g3 hd).1; simp only at h; omega
      have hn : ts.length < 4 := by simp only at h; omega
      have hstep := hstep.resolve_left hd2
      have hl3 := lb_le3 (B := dbnd (d - 1).toNat) hn
      have hl := lb_succ ts.length (dbnd (d - 1).toNat)
      refine ⟨by unfold InR; omega, ⟨by omega, hb, by show 0 ≤ p2; omega, by show p2 + _ ≤ _; omega, by omega, by omega⟩, fun t p' ht hp' => ⟨(by first | trivial | rfl | (simp; done)), by show ((ts.length : Nat) : Int) + 1 ≤ _; omega, by unfold InR; show _ ≤ ((ts.length : Nat) : Int) + 1 ∧ ((ts.length : Nat) : Int) + 1 ≤ _; omega, ((k, n), (ts ++ [t], p')), ⟨?_, ?_, ?_, ?_, ?_⟩, (by first | trivial | rfl | (simp; done)), (by first | trivial | rfl | (simp; done)), by simp, (by first | trivial | rfl | (simp; done)), (by first | trivial | rfl | (simp; done)), (by first | trivial | rfl | (simp; done)), (by first | trivial | rfl | (simp; done)), (by first | trivial | rfl | (simp; done)), by simp only [T.eta], (by first | trivial | rfl | (simp; done)), (by first | trivial | rfl | (simp; done)), by simp; omega⟩⟩
      · show sizeL (ts ++ [t]) ≤ lb (ts ++ [t]).length _
        rw [sizeL_append, List.length_append, List.length_singleton, hl]; simp only [sizeL]; omega
      · show (ts ++ [t]).length ≤ 4
        simp; omega
      · intro hd; exact absurd hd hd2
      · show p ≤ p'
        simp only at hp'; omega
      · show p' ≤ p + 3 + 3 * ((lb (ts ++ [t]).length _ : Nat) : Int)
        rw [List.length_append, List.length_singleton, hl]; simp only at hp'; omega
    · refine retTR (t := .mk k n ts) (hk (.mk k n ts) p2 ?_ ?_) rfl rfl
      · simp only [T.size]
        have hl := lb_le (B := dbnd (d - 1).toNat) g2
        rcases hstep with hs | hs
        · have := (g3 hs).2; subst this; simp only [sizeL]; omega
        · omega
      · have hl := lb_le (B := dbnd (d - 1).toNat) g2
        rcases hstep with hs | hs
        · have := (g3 hs).2; subst this
          have hz := lb_zero (dbnd (d - 1).toNat)
          simp only [List.length_nil] at g5
          omega
        · omega
theorem l1Draw_soundM : ∀ m : Nat, Sound Tryd.prog 66 (cl1DrawM m)
  | 0 => by
      refine soundF (G := []) gnil Tryd.func66 rfl (by kernel_rfl) fun args hs K hCC => ?_
      unfold cl1DrawM at hCC
      split at hCC
      case h_2 => exact hCC.elim
      exact absurd hCC.1.1 (Nat.not_lt_zero _)
  | m + 1 => by
      refine soundF (G := [(66, cl1DrawM m), (57, crnum), (63, csKids), (64, csMost)]) ((gcons (l1Draw_soundM m) (gcons rnum_sound (gcons sKids_sound (gcons sMost_sound gnil))))) Tryd.func66 rfl (by kernel_rfl) fun args hs K hCC => ?_
      unfold cl1DrawM at hCC
      split at hCC
      case h_2 => exact hCC.elim
      rename_i d bs p
      exact ⟨Nat.le_of_ble_eq_true rfl, _, l1Draw_ok m bs p d K hCC.1.1 hCC.1.2 hCC.2⟩
theorem l1Draw_sound : Sound Tryd.prog 66 cl1Draw := by
  refine sound_of_all (c := cl1DrawM) (fun m => (l1Draw_soundM m)) fun args hs K hCC => ?_
  unfold cl1Draw at hCC
  split at hCC
  case h_2 => exact hCC.elim
  exact ⟨_, ⟨Nat.lt_succ_self _, hCC.1⟩, hCC.2⟩
/-- spec.l1Any -/
def cl1Any : Con
  | [.fptr 0], [(.st [.ints .u8 bs .any, .int .i64 (p)])], K => ((Bs bs ∧ 0 ≤ p ∧ p ≤ 800000)) ∧ ((∀ (t : T) (p' : Int), t.valid = true → p ≤ p' ∧ p' ≤ p + 5000 → K t.fr [(.st [.ints .u8 bs .any, .int .i64 (p')])]))
  | _, _, _ => False
theorem l1Any_ok (bs : List Int) (p : Int) (K : AV → List AV → Prop) (hp : ((Bs bs ∧ 0 ≤ p ∧ p ≤ 800000))) (hk : ((∀ (t : T) (p' : Int), t.valid = true → p ≤ p' ∧ p' ≤ p + 5000 → K t.fr [(.st [.ints .u8 bs .any, .int .i64 (p')])]))) :
    bodyQ [(57, crnum), (66, cl1Draw), (17, csTermValid), (45, csLeaf)] TY [] Tryd.f39 (body Tryd.f39) [.fptr 0] [(.st [.ints .u8 bs .any, .int .i64 (p)])] K := by
  refine of_vc (A :=
    (((Bs bs) ∧
     (((0 : Int) ≤ p) ∧ ((p ≤ (1000000 : Int)) ∧ (([(3 : Int), (4 : Int), (2 : Int), (3 : Int), (1 : Int)] ≠ ([] : List Int)) ∧ ((5 : Nat) ≤ (1000 : Nat)))))) ∧
     (∀ x : Int,
     ((Membership.mem [(3 : Int), (4 : Int), (2 : Int), (3 : Int), (1 : Int)] x) →
     (((Bs bs) ∧
     (((0 : Int) ≤ (p + (1 : Int))) ∧
     ((((p + (1 : Int)) + ((3 : Int) * (((dbnd (Int.toNat x)) : Nat) : Int))) ≤ (900000 : Int)) ∧ (((0 : Int) ≤ x) ∧ (x ≤ (5 : Int)))))) ∧
     (∀ t : T,
     (∀ p' : Int,
     (((T.size t) ≤ (dbnd (Int.toNat x))) →
     ((((p + (1 : Int)) ≤ p') ∧ (p' ≤ ((p + (1 : Int)) + ((3 : Int) * (((dbnd (Int.toNat x)) : Nat) : Int))))) →
     (True ∧
     (Br (T.valid (T.mk (T.k t) (T.n t) (T.kids t)))
     (Ret K (.st [(.int .i64 (T.k t)), (.int .i64 (T.n t)), (.slc (T.kids t) (.iv 4 4 true (.tok 0)))]) [(.st [(.ints .u8 bs .any), (.int .i64 p')])])
     (True ∧
     (Ret K (.st [(.int .i64 7), (.int .i64 0), (.slc [] (.iv 0 0 true .full))]) [(.st [(.ints .u8 bs .any), (.int .i64 p')])]))))))))))))) ?_ (by kernel_rfl)
  obtain ⟨hb, p0, p1⟩ := hp
  refine ⟨⟨hb, p0, by omega, by simp, by simp⟩, fun x hx => ?_⟩
  have hx : 1 ≤ x ∧ x ≤ 4 := by simp at hx; omega
  have hd := dbnd_le (d := x.toNat) (by omega)
  refine ⟨⟨hb, by omega, by omega, by omega, by omega⟩, fun t p' ht hp' => ⟨trivial, br (fun h => ?_) (fun h => ⟨trivial, ?_⟩)⟩⟩
  · rw [T.eta] at h
    exact retTR (t := t) (hk t p' h (by omega)) (T.eta t) rfl
  · exact retTR (t := .mk 7 0 []) (hk (.mk 7 0 []) p' (by decide) (by omega)) rfl rfl
theorem l1Any_sound : Sound Tryd.prog 39 cl1Any := by
  refine soundF (G := [(57, crnum), (66, cl1Draw), (17, csTermValid), (45, csLeaf)]) ((gcons rnum_sound (gcons l1Draw_sound (gcons sTermValid_sound (gcons sLeaf_sound gnil))))) Tryd.func39 rfl (by kernel_rfl) fun args hs K hCC => ?_
  unfold cl1Any at hCC
  split at hCC
  case h_2 => exact hCC.elim
  rename_i bs p
  exact ⟨Nat.le_of_ble_eq_true rfl, _, l1Any_ok bs p K hCC.1 hCC.2⟩
/-- spec.l1Mutate -/
def cl1Mutate : Con
  | [.fptr 0, .st [.int .i64 k, .int .i64 n, .slc ts (.arg 1)]], [(.st [.ints .u8 bs .any, .int .i64 (p)])], K => ((Bs bs ∧ 0 ≤ p ∧ p ≤ 800000) ∧ (sizeL ts ≤ 1000000)) ∧ ((∀ (t : T) (p' : Int), t.size ≤ 2 + sizeL ts → p ≤ p' ∧ p' ≤ p + 2 → K (t.av fd) [(.st [.ints .u8 bs .any, .int .i64 (p')])]))
  | _, _, _ => False
theorem l1Mutate_ok (bs : List Int) (p : Int) (k n : Int) (ts : List T) (K : AV → List AV → Prop) (hp : ((Bs bs ∧ 0 ≤ p ∧ p ≤ 800000) ∧ (sizeL ts ≤ 1000000))) (hk : ((∀ (t : T) (p' : Int), t.size ≤ 2 + sizeL ts → p ≤ p' ∧ p' ≤ p + 2 → K (t.av fd) [(.st [.ints .u8 bs .any, .int .i64 (p')])]))) :
    bodyQ [(57, crnum), (40, crpick), (67, csCopy), (48, csNode), (45, csLeaf)] TY [] Tryd.f41 (body Tryd.f41) [.fptr 0, .st [.int .i64 k, .int .i64 n, .slc ts (.arg 1)]] [(.st [.ints .u8 bs .any, .int .i64 (p)])] K := by
  refine of_vc (A :=
    (((sizeL ts) ≤ (1048576 : Nat)) ∧
     (((Bs bs) ∧ (((0 : Int) ≤ p) ∧ ((p ≤ (1000000 : Int)) ∧ ((50 : Int) ≤ (9223372036854775807 : Int))))) ∧
     (∀ x : Int,
     ((((0 : Int) < (50 : Int)) → (((0 : Int) ≤ x) ∧ (x < (50 : Int)))) →
     (Br (Decidable.decide (x = (0 : Int)))
     (((Bs bs) ∧
     (((0 : Int) ≤ (p + (1 : Int))) ∧
     (((p + (1 : Int)) ≤ (1000000 : Int)) ∧ (([(0 : Int), (17 : Int), (1 : Int), (5 : Int), (6 : Int)] ≠ ([] : List Int)) ∧ ((5 : Nat) ≤ (1000 : Nat)))))) ∧
     (∀ x1 : Int,
     ((Membership.mem [(0 : Int), (17 : Int), (1 : Int), (5 : Int), (6 : Int)] x1) →
     (Ret K (.st [(.int .i64 x1), (.int .i64 (T.n (T.mk k n ts))), (.slc (T.kids (T.mk k n ts)) (.iv 4 4 true (.tok 0)))]) [(.st [(.ints .u8 bs .any), (.int .i64 ((p + (1 : Int)) + (1 : Int)))])]))))
     (Br (Decidable.decide (x = (1 : Int)))
     (((Bs bs) ∧
     (((0 : Int) ≤ (p + (1 : Int))) ∧
     (((p + (1 : Int)) ≤ (1000000 : Int)) ∧ (([(21 : Int), (- (1 : Int)), (1 : Int), (9223372036854775807 : Int)] ≠ ([] : List Int)) ∧ ((4 : Nat) ≤ (1000 : Nat)))))) ∧
     (∀ x1 : Int,
     ((Membership.mem [(21 : Int), (- (1 : Int)), (1 : Int), (9223372036854775807 : Int)] x1) →
     (Ret K (.st [(.int .i64 (T.k (T.mk k n ts))), (.int .i64 x1), (.slc (T.kids (T.mk k n ts)) (.iv 4 4 true (.tok 0)))]) [(.st [(.ints .u8 bs .any), (.int .i64 ((p + (1 : Int)) + (1 : Int)))])]))))
     (Br (Decidable.decide (x = (2 : Int)))
     (True ∧
     (((T.kids (T.mk k n ts)) = (T.kids (T.mk k n ts))) ∧
     ((((((List.length (T.kids (T.mk k n ts))) : Nat) : Int) + (1 : Int)) ≤ (1099511627776 : Int)) ∧
     (Ret K (.st [(.int .i64 (T.k (T.mk k n ts))), (.int .i64 (T.n (T.mk k n ts))), (.slc ((T.kids (T.mk k n ts)) ++ [(T.mk (7 : Int) (0 : Int) ([] : List T))]) (.iv 4 4 true (.tok 0)))]) [(.st [(.ints .u8 bs .any), (.int .i64 (p + (1 : Int)))])]))))
     (Br (Decidable.decide (x = (3 : Int)))
     (((1 : Nat) ≤ (1000 : Nat)) ∧
     (Ret K (.st [(.int .i64 8), (.int .i64 0), (.slc [(T.mk (T.k (T.mk k n ts)) (T.n (T.mk k n ts)) (T.kids (T.mk k n ts)))] (.iv 4 4 false (.tok 0)))]) [(.st [(.ints .u8 bs .any), (.int .i64 (p + (1 : Int)))])]))
     (Br (Decidable.decide (x = (4 : Int)))
     (Br (Decidable.decide ((0 : Int) < (((List.length (T.kids (T.mk k n ts))) : Nat) : Int)))
     (True ∧
     (((T.kids (T.mk k n ts)) = (T.kids (T.mk k n ts))) ∧
     ((((0 : Int) ≤ (0 : Int)) ∧ ((0 : Int) < (((List.length (T.kids (T.mk k n ts))) : Nat) : Int))) ∧
     (Ret K (.st [(.int .i64 (T.k (T.mk k n ts))), (.int .i64 (T.n (T.mk k n ts))), (.slc (List.set (T.kids (T.mk k n ts)) (0 : Nat) (T.mk (1 : Int) (25 : Int) ([] : List T))) (.iv 4 4 true (.tok 0)))]) [(.st [(.ints .u8 bs .any), (.int .i64 (p + (1 : Int)))])]))))
     (Ret K (.st [(.int .i64 (T.k (T.mk k n ts))), (.int .i64 (T.n (T.mk k n ts))), (.slc (T.kids (T.mk k n ts)) (.iv 4 4 true (.tok 0)))]) [(.st [(.ints .u8 bs .any), (.int .i64 (p + (1 : Int)))])]))
     (Ret K (.st [(.int .i64 (T.k (T.mk k n ts))), (.int .i64 (T.n (T.mk k n ts))), (.slc (T.kids (T.mk k n ts)) (.iv 4 4 true (.tok 0)))]) [(.st [(.ints .u8 bs .any), (.int .i64 (p + (1 : Int)))])]))))))))))) ?_ (by kernel_rfl)
  obtain ⟨⟨hb, p0, p1⟩, hs⟩ := hp
  have hl := length_le_sizeL ts
  simp only [T.kids, T.k, T.n]
  refine ⟨by omega, ⟨hb, p0, by omega, by omega⟩, fun x hx => br (fun h => ⟨⟨hb, by omega, by omega, by simp, by simp⟩, fun x1 hx1 => ?_⟩) (fun h => br (fun h => ⟨⟨hb, by omega, by omega, by simp, by simp⟩, fun x1 hx1 => ?_⟩) (fun h => br (fun h => ⟨trivial, (by first | trivial | rfl | (simp; done)), by omega, ?_⟩) (fun h => br (fun h => ⟨by omega, ?_⟩) (fun h => br (fun h => br (fun h => ⟨trivial, (by first | trivial | rfl | (simp; done)), ⟨by omega, by simp at h; omega⟩, ?_⟩) (fun h => ?_)) (fun h => ?_)))))⟩
  · exact retTR (t := .mk x1 n ts) (hk _ _ (by simp only [T.size]; omega) (by omega)) rfl rfl
  · exact retTR (t := .mk k x1 ts) (hk _ _ (by simp only [T.size]; omega) (by omega)) rfl rfl
  · exact retTR (t := .mk k n (ts ++ [.mk 7 0 []])) (hk _ _ (by simp only [T.size, sizeL_append, sizeL]; omega) (by omega)) rfl rfl
  · exact retTR (t := .mk 8 0 [.mk k n ts]) (hk _ _ (by simp only [T.size, sizeL]; omega) (by omega)) rfl rfl
  · refine retTR (t := .mk k n (ts.set 0 (.mk 1 25 []))) (hk _ _ ?_ (by omega)) rfl rfl
    cases ts with
    | nil => simp [T.size, sizeL]
    | cons u us => simp only [List.set_cons_zero, T.size, sizeL]; have := u.size_eq; omega
  · exact retTR (t := .mk k n ts) (hk _ _ (by simp only [T.size]; omega) (by omega)) rfl rfl
  · exact retTR (t := .mk k n ts) (hk _ _ (by simp only [T.size]; omega) (by omega)) rfl rfl
theorem l1Mutate_sound : Sound Tryd.prog 41 cl1Mutate := by
  refine soundF (G := [(57, crnum), (40, crpick), (67, csCopy), (48, csNode), (45, csLeaf)]) ((gcons rnum_sound (gcons rpick_sound (gcons sCopy_sound (gcons sNode_sound (gcons sLeaf_sound gnil)))))) Tryd.func41 rfl (by kernel_rfl) fun args hs K hCC => ?_
  unfold cl1Mutate at hCC
  split at hCC
  case h_2 => exact hCC.elim
  rename_i k n ts bs p
  exact ⟨Nat.le_of_ble_eq_true rfl, _, l1Mutate_ok bs p k n ts K hCC.1 hCC.2⟩
/-- spec.DrawTermValid -/
def cdTermValid : Con
  | [.ints .u8 bs (.arg 0)], [], K => ((Bs bs)) ∧ ((∀ t : T, t.size ≤ 1000 → K (t.av fd) []))
  | _, _, _ => False
theorem dTermValid_ok (bs : List Int) (K : AV → List AV → Prop) (hp : ((Bs bs))) (hk : ((∀ t : T, t.size ≤ 1000 → K (t.av fd) []))) :
    bodyQ [(37, cl19Open), (40, crpick), (57, crnum), (56, csnumeral), (41, cl1Mutate), (39, cl1Any)] TY [] Tryd.f31 (body Tryd.f31) [.ints .u8 bs (.arg 0)] [] K := by
  refine of_vc (A :=
    ((Bs bs) ∧
     (∀ bs' : (List Int),
     ((Bs bs') →
     (((Bs bs') ∧ (((0 : Int) ≤ (0 : Int)) ∧ (((0 : Int) ≤ (1000000 : Int)) ∧ ((30 : Int) ≤ (9223372036854775807 : Int))))) ∧
     (∀ x : Int,
     ((((0 : Int) < (30 : Int)) → (((0 : Int) ≤ x) ∧ (x < (30 : Int)))) →
     (Br (Decidable.decide (x = (0 : Int)))
     (((Bs bs') ∧
     (((0 : Int) ≤ (1 : Int)) ∧ (((1 : Int) ≤ (1000000 : Int)) ∧ (([(29 : Int), (30 : Int), (31 : Int)] ≠ ([] : List Int)) ∧ ((3 : Nat) ≤ (1000 : Nat)))))) ∧
     (∀ x1 : Int,
     ((Membership.mem [(29 : Int), (30 : Int), (31 : Int)] x1) →
     ((((0 : Int) ≤ x1) ∧ (x1 ≤ (1000000 : Int))) ∧
     (Ret K (.st [(.int .i64 (T.k (T.num (Int.toNat x1)))), (.int .i64 (T.n (T.num (Int.toNat x1)))), (.slc (T.kids (T.num (Int.toNat x1))) (.iv 4 4 false .no))]) [])))))
     (((Bs bs') ∧ (((0 : Int) ≤ (1 : Int)) ∧ ((1 : Int) ≤ (800000 : Int)))) ∧
     (∀ t : T,
     (∀ p' : Int,
     (((T.valid t) = true) →
     (((((0 : Int) + (1 : Int)) ≤ p') ∧ (p' ≤ (((0 : Int) + (1 : Int)) + (5000 : Int)))) →
     ((((Bs bs') ∧ (((0 : Int) ≤ p') ∧ (p' ≤ (800000 : Int)))) ∧ ((sizeL (T.kids t)) ≤ (1000000 : Nat))) ∧
     (∀ t1 : T,
     (∀ p'1 : Int,
     (((T.size t1) ≤ ((2 : Nat) + (sizeL (T.kids t)))) →
     (((p' ≤ p'1) ∧ (p'1 ≤ (p' + (2 : Int)))) →
     (Ret K (.st [(.int .i64 (T.k t1)), (.int .i64 (T.n t1)), (.slc (T.kids t1) (.iv 4 4 false .no))]) []))))))))))))))))))) ?_ (by kernel_rfl)
  refine ⟨hp, fun bs' hb => ⟨⟨hb, by omega, by omega, by omega⟩, fun x hx => br (fun h => ⟨⟨hb, by omega, by omega, by simp, by simp⟩, fun x1 hx1 => ?_⟩) (fun h => ⟨⟨hb, by omega, by omega⟩, fun t p' ht hp' => ⟨⟨⟨hb, by omega, by omega⟩, ?_⟩, fun t1 p1 ht1 hp1 => ?_⟩⟩)⟩⟩
  · have hx1 : 0 ≤ x1 ∧ x1 ≤ 31 := by simp at hx1; omega
    refine ⟨by omega, retT (hk (T.num x1.toNat) ?_) (T.eta _) rfl⟩
    rw [T.num_size]; omega
  · have := T.valid_size ht; rw [T.size_eq] at this; omega
  · have := T.valid_size ht; rw [T.size_eq] at this
    exact retT (hk t1 (by omega)) (T.eta _) rfl
theorem dTermValid_sound : Sound Tryd.prog 31 cdTermValid := by
  refine soundF (G := [(37, cl19Open), (40, crpick), (57, crnum), (56, csnumeral), (41, cl1Mutate), (39, cl1Any)]) ((gcons l19Open_sound (gcons rpick_sound (gcons rnum_sound (gcons snumeral_sound (gcons l1Mutate_sound (gcons l1Any_sound gnil))))))) Tryd.func31 rfl (by kernel_rfl) fun args hs K hCC => ?_
  unfold cdTermValid at hCC
  split at hCC
  case h_2 => exact hCC.elim
  rename_i bs
  exact ⟨Nat.le_of_ble_eq_true rfl, _, dTermValid_ok bs K hCC.1 hCC.2⟩
/-- spec.DrawFormatTerm -/
def cdFormatTerm : Con
  | [.ints .u8 bs (.arg 0)], [], K => ((Bs bs)) ∧ ((∀ t : T, t.size ≤ 1000 → K (t.av fd) []))
  | _, _, _ => False
theorem dFormatTerm_ok (bs : List Int) (K : AV → List AV → Prop) (hp : ((Bs bs))) (hk : ((∀ t : T, t.size ≤ 1000 → K (t.av fd) []))) :
    bodyQ [(31, cdTermValid)] TY [] Tryd.f13 (body Tryd.f13) [.ints .u8 bs (.arg 0)] [] K := by
  refine of_vc (A :=
    ((Bs bs) ∧
     (∀ t : T, (((T.size t) ≤ (1000 : Nat)) → (Ret K (.st [(.int .i64 (T.k t)), (.int .i64 (T.n t)), (.slc (T.kids t) (.iv 4 4 false .no))]) []))))) ?_ (by kernel_rfl)
  exact ⟨hp, fun t ht => retT (hk t ht) (T.eta _) rfl⟩
theorem dFormatTerm_sound : Sound Tryd.prog 13 cdFormatTerm := by
  refine soundF (G := [(31, cdTermValid)]) ((gcons dTermValid_sound gnil)) Tryd.func13 rfl (by kernel_rfl) fun args hs K hCC => ?_
  unfold cdFormatTerm at hCC
  split at hCC
  case h_2 => exact hCC.elim
  rename_i bs
  exact ⟨Nat.le_of_ble_eq_true rfl, _, dFormatTerm_ok bs K hCC.1 hCC.2⟩
/-- spec.DrawTermSame -/
def cdTermSame : Con
  | [.ints .u8 bs (.arg 0)], [], K => ((Bs bs)) ∧ ((∀ t u : T, t.size ≤ 1000 → u.size ≤ 1000 → K (.tup [t.av .any, u.av .any]) []))
  | _, _, _ => False
theorem dTermSame_ok (bs : List Int) (K : AV → List AV → Prop) (hp : ((Bs bs))) (hk : ((∀ t u : T, t.size ≤ 1000 → u.size ≤ 1000 → K (.tup [t.av .any, u.av .any]) []))) :
    bodyQ [(37, cl19Open), (40, crpick), (39, cl1Any), (41, cl1Mutate)] TY [] Tryd.f20 (body Tryd.f20) [.ints .u8 bs (.arg 0)] [] K := by
  refine of_vc (A :=
    ((Bs bs) ∧
     (∀ bs' : (List Int),
     ((Bs bs') →
     (((Bs bs') ∧ (((0 : Int) ≤ (0 : Int)) ∧ ((0 : Int) ≤ (800000 : Int)))) ∧
     (∀ t : T,
     (∀ p' : Int,
     (((T.valid t) = true) →
     ((((0 : Int) ≤ p') ∧ (p' ≤ ((0 : Int) + (5000 : Int)))) →
     (((Bs bs') ∧ (((0 : Int) ≤ p') ∧ ((p' ≤ (1000000 : Int)) ∧ ((2 : Int) ≤ (9223372036854775807 : Int))))) ∧
     (∀ x : Int,
     ((((0 : Int) < (2 : Int)) → (((0 : Int) ≤ x) ∧ (x < (2 : Int)))) →
     (Br (Decidable.decide (x = (0 : Int)))
     (((Bs bs') ∧ (((0 : Int) ≤ (p' + (1 : Int))) ∧ ((p' + (1 : Int)) ≤ (800000 : Int)))) ∧
     (∀ t1 : T,
     (∀ p'1 : Int,
     (((T.valid t1) = true) →
     ((((p' + (1 : Int)) ≤ p'1) ∧ (p'1 ≤ ((p' + (1 : Int)) + (5000 : Int)))) →
     (((T.k t) = (T.k t)) ∧
     (((T.n t) = (T.n t)) ∧
     (((T.kids t) = (T.kids t)) ∧
     (Ret K (.tup [(.st [(.int .i64 (T.k t)), (.int .i64 (T.n t)), (.slc (T.kids t) (.iv 4 4 true (.tok 0)))]), (.st [(.int .i64 (T.k t1)), (.int .i64 (T.n t1)), (.slc (T.kids t1) (.iv 4 4 true .no))])]) [])))))))))
     ((((Bs bs') ∧ (((0 : Int) ≤ (p' + (1 : Int))) ∧ ((p' + (1 : Int)) ≤ (800000 : Int)))) ∧ ((sizeL (T.kids t)) ≤ (1000000 : Nat))) ∧
     (∀ t1 : T,
     (∀ p'1 : Int,
     (((T.size t1) ≤ ((2 : Nat) + (sizeL (T.kids t)))) →
     ((((p' + (1 : Int)) ≤ p'1) ∧ (p'1 ≤ ((p' + (1 : Int)) + (2 : Int)))) →
     (((T.k t) = (T.k t)) ∧
     (((T.n t) = (T.n t)) ∧
     (((T.kids t) = (T.kids t)) ∧
     ((((Bs bs') ∧ (((0 : Int) ≤ p'1) ∧ (p'1 ≤ (800000 : Int)))) ∧ ((sizeL (T.kids t1)) ≤ (1000000 : Nat))) ∧
     (∀ t2 : T,
     (∀ p'2 : Int,
     (((T.size t2) ≤ ((2 : Nat) + (sizeL (T.kids t1)))) →
     (((p'1 ≤ p'2) ∧ (p'2 ≤ (p'1 + (2 : Int)))) →
     (((T.k t) = (T.k t)) ∧
     (((T.n t) = (T.n t)) ∧
     (((T.kids t) = (T.kids t)) ∧
     (Ret K (.tup [(.st [(.int .i64 (T.k t)), (.int .i64 (T.n t)), (.slc (T.kids t) (.iv 4 4 true (.tok 0)))]), (.st [(.int .i64 (T.k t2)), (.int .i64 (T.n t2)), (.slc (T.kids t2) (.iv 4 4 false .no))])]) [])))))))))))))))))))))))))))))) ?_ (by kernel_rfl)
  refine ⟨hp, fun bs' hb => ⟨⟨hb, by omega, by omega⟩, fun t p' ht hp' => ⟨⟨hb, by omega, by omega, by omega⟩, fun x hx => ?_⟩⟩⟩
  have h1 := T.valid_size ht
  have h1' := h1
  rw [T.size_eq] at h1'
  refine br (fun h => ⟨⟨hb, by omega, by omega⟩, fun t1 p1 ht1 hp1 => ⟨(by first | trivial | rfl | (simp; done)), (by first | trivial | rfl | (simp; done)), (by first | trivial | rfl | (simp; done)), ?_⟩⟩) (fun h => ⟨⟨⟨hb, by omega, by omega⟩, by omega⟩, fun t1 p1 ht1 hp1 => ⟨(by first | trivial | rfl | (simp; done)), (by first | trivial | rfl | (simp; done)), (by first | trivial | rfl | (simp; done)), ⟨⟨hb, by omega, by omega⟩, by rw [T.size_eq] at ht1; omega⟩, fun t2 p2 ht2 hp2 => ⟨(by first | trivial | rfl | (simp; done)), (by first | trivial | rfl | (simp; done)), (by first | trivial | rfl | (simp; done)), ?_⟩⟩⟩)
  · have h2 := T.valid_size ht1
    exact retTT (hk t t1 (by omega) (by omega))
  · rw [T.size_eq] at ht1
    exact retTT (hk t t2 (by omega) (by omega))
theorem dTermSame_sound : Sound Tryd.prog 20 cdTermSame := by
  refine soundF (G := [(37, cl19Open), (40, crpick), (39, cl1Any), (41, cl1Mutate)]) ((gcons l19Open_sound (gcons rpick_sound (gcons l1Any_sound (gcons l1Mutate_sound gnil))))) Tryd.func20 rfl (by kernel_rfl) fun args hs K hCC => ?_
  unfold cdTermSame at hCC
  split at hCC
  case h_2 => exact hCC.elim
  rename_i bs
  exact ⟨Nat.le_of_ble_eq_true rfl, _, dTermSame_ok bs K hCC.1 hCC.2⟩
end Go.Dk
