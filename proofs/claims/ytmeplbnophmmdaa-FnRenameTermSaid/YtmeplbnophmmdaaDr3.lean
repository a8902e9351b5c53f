/- Draws of binding's arguments, on. -/
import Derived.Test.YtmeplbnophmmdaaDr2
namespace Go.Dk
set_option linter.unusedVariables false
open Go.Proofs
/-- spec.DrawRenameTerm -/
def cdRenameTerm : Con
  | [.ints .u8 bs (.arg 0)], [], K => ((Bs bs)) ∧ ((∀ (t : T) (ns : List Int), t.size ≤ 1000 → ns.length ≤ 30 → K (.tup [t.av .any, .ints .i64 ns .any]) []))
  | _, _, _ => False
theorem dRenameTerm_ok (bs : List Int) (K : AV → List AV → Prop) (hp : ((Bs bs))) (hk : ((∀ (t : T) (ns : List Int), t.size ≤ 1000 → ns.length ≤ 30 → K (.tup [t.av .any, .ints .i64 ns .any]) []))) :
    bodyQ [(19, cl19Open), (21, cl1Any), (20, cl1Mutate), (22, crnum), (23, crpick)] TY [(5, { ι := ((List Int × T) × Int) × (List Int × Int), ok := fun x => Bs x.1.1.1 ∧ x.1.1.2.size ≤ 1000 ∧ x.1.2 ≤ 22 ∧ (0 ≤ x.1.2 ∧ x.1.2 + x.2.1.length ≤ 22) ∧ 0 ≤ x.2.2 ∧ x.1.2 + x.2.2 ≤ 990000, tl := fun x => [(2, .ptr 2), (4, .ptr 9), (5, .ptr 5), (6, .ints .i64 x.2.1 (.iv 64 0 true (.tok 27))), (7, .int .i64 (x.1.2))], hl := fun x => [(2, (T.mk 0 0 []).av (.iv 0 0 true .full)), (5, x.1.1.2.av (.iv 32 32 false .no)), (9, .st [.ints .u8 x.1.1.1 .any, .int .i64 (x.2.2)])], fh := fun x => [], μ := fun x => x.1.2.toNat, nw := 4 }), (1000009, retagL 6)] Try.f6 (body Try.f6) [.ints .u8 bs (.arg 0)] [] K := by
  refine of_vc (A :=
    ((Bs bs) ∧
     (∀ bs' : (List Int),
     ((Bs bs') →
     (((Bs bs') ∧ (((0 : Int) ≤ (0 : Int)) ∧ ((0 : Int) ≤ (800000 : Int)))) ∧
     (∀ t : T,
     (∀ p' : Int,
     (((T.valid t) = true) →
     ((((0 : Int) ≤ p') ∧ (p' ≤ ((0 : Int) + (5000 : Int)))) →
     ((((Bs bs') ∧ (((0 : Int) ≤ p') ∧ (p' ≤ (800000 : Int)))) ∧ ((sizeL (T.kids t)) ≤ (1000000 : Nat))) ∧
     (∀ t1 : T,
     (∀ p'1 : Int,
     (((T.size t1) ≤ ((2 : Nat) + (sizeL (T.kids t)))) →
     (((p' ≤ p'1) ∧ (p'1 ≤ (p' + (2 : Int)))) →
     (((Bs bs') ∧
     (((0 : Int) ≤ p'1) ∧
     ((p'1 ≤ (1000000 : Int)) ∧ (([(4 : Int), (5 : Int), (3 : Int), (6 : Int), (0 : Int), (21 : Int), (22 : Int)] ≠ ([] : List Int)) ∧ ((7 : Nat) ≤ (1000 : Nat)))))) ∧
     (∀ x : Int,
     ((Membership.mem [(4 : Int), (5 : Int), (3 : Int), (6 : Int), (0 : Int), (21 : Int), (22 : Int)] x) →
     ((∃ x1 : (Prod (Prod (Prod (List Int) T) Int) (Prod (List Int) Int)),
     (((Bs (Prod.fst (Prod.fst (Prod.fst x1)))) ∧
     (((T.size (Prod.snd (Prod.fst (Prod.fst x1)))) ≤ (1000 : Nat)) ∧
     (((Prod.snd (Prod.fst x1)) ≤ (22 : Int)) ∧
     ((((0 : Int) ≤ (Prod.snd (Prod.fst x1))) ∧ (((Prod.snd (Prod.fst x1)) + (((List.length (Prod.fst (Prod.snd x1))) : Nat) : Int)) ≤ (22 : Int))) ∧
     (((0 : Int) ≤ (Prod.snd (Prod.snd x1))) ∧ (((Prod.snd (Prod.fst x1)) + (Prod.snd (Prod.snd x1))) ≤ (990000 : Int))))))) ∧
     ((([] : List Int) = (Prod.fst (Prod.snd x1))) ∧
     ((x = (Prod.snd (Prod.fst x1))) ∧
     (((0 : Int) = (0 : Int)) ∧
     (((0 : Int) = (0 : Int)) ∧
     ((([] : List T) = ([] : List T)) ∧
     (((T.k t1) = (T.k (Prod.snd (Prod.fst (Prod.fst x1))))) ∧
     (((T.n t1) = (T.n (Prod.snd (Prod.fst (Prod.fst x1))))) ∧
     (((T.kids t1) = (T.kids (Prod.snd (Prod.fst (Prod.fst x1))))) ∧
     ((bs' = (Prod.fst (Prod.fst (Prod.fst x1)))) ∧ (((p'1 + (1 : Int)) = (Prod.snd (Prod.snd x1))) ∧ True)))))))))))) ∧
     (∀ x1 : (Prod (Prod (Prod (List Int) T) Int) (Prod (List Int) Int)),
     (((Bs (Prod.fst (Prod.fst (Prod.fst x1)))) ∧ (((T.size (Prod.snd (Prod.fst (Prod.fst x1)))) ≤ (1000 : Nat)) ∧ (((Prod.snd (Prod.fst x1)) ≤ (22 : Int)) ∧ ((((0 : Int) ≤ (Prod.snd (Prod.fst x1))) ∧ (((Prod.snd (Prod.fst x1)) + (((List.length (Prod.fst (Prod.snd x1))) : Nat) : Int)) ≤ (22 : Int))) ∧ (((0 : Int) ≤ (Prod.snd (Prod.snd x1))) ∧ (((Prod.snd (Prod.fst x1)) + (Prod.snd (Prod.snd x1))) ≤ (990000 : Int))))))) →
     (Br (Decidable.decide ((0 : Int) < (Prod.snd (Prod.fst x1))))
     (((Bs (Prod.fst (Prod.fst (Prod.fst x1)))) ∧
     (((0 : Int) ≤ (Prod.snd (Prod.snd x1))) ∧
     (((Prod.snd (Prod.snd x1)) ≤ (1000000 : Int)) ∧
     (([(0 : Int), (1 : Int), (2 : Int), (3 : Int), (1 : Int), (0 : Int), (17 : Int)] ≠ ([] : List Int)) ∧ ((7 : Nat) ≤ (1000 : Nat)))))) ∧
     (∀ x2 : Int,
     ((Membership.mem [(0 : Int), (1 : Int), (2 : Int), (3 : Int), (1 : Int), (0 : Int), (17 : Int)] x2) →
     ((((((List.length (Prod.fst (Prod.snd x1))) : Nat) : Int) + (1 : Int)) ≤ (1099511627776 : Int)) ∧
     ((InR ((Prod.snd (Prod.fst x1)) - (1 : Int))) ∧
     (∃ y : (Prod (Prod (Prod (List Int) T) Int) (Prod (List Int) Int)),
     (((Bs (Prod.fst (Prod.fst (Prod.fst y)))) ∧
     (((T.size (Prod.snd (Prod.fst (Prod.fst y)))) ≤ (1000 : Nat)) ∧
     (((Prod.snd (Prod.fst y)) ≤ (22 : Int)) ∧
     ((((0 : Int) ≤ (Prod.snd (Prod.fst y))) ∧ (((Prod.snd (Prod.fst y)) + (((List.length (Prod.fst (Prod.snd y))) : Nat) : Int)) ≤ (22 : Int))) ∧
     (((0 : Int) ≤ (Prod.snd (Prod.snd y))) ∧ (((Prod.snd (Prod.fst y)) + (Prod.snd (Prod.snd y))) ≤ (990000 : Int))))))) ∧
     ((((Prod.fst (Prod.snd x1)) ++ [x2]) = (Prod.fst (Prod.snd y))) ∧
     ((((Prod.snd (Prod.fst x1)) - (1 : Int)) = (Prod.snd (Prod.fst y))) ∧
     (((0 : Int) = (0 : Int)) ∧
     (((0 : Int) = (0 : Int)) ∧
     ((([] : List T) = ([] : List T)) ∧
     (((T.k (Prod.snd (Prod.fst (Prod.fst x1)))) = (T.k (Prod.snd (Prod.fst (Prod.fst y))))) ∧
     (((T.n (Prod.snd (Prod.fst (Prod.fst x1)))) = (T.n (Prod.snd (Prod.fst (Prod.fst y))))) ∧
     (((T.kids (Prod.snd (Prod.fst (Prod.fst x1)))) = (T.kids (Prod.snd (Prod.fst (Prod.fst y))))) ∧
     (((Prod.fst (Prod.fst (Prod.fst x1))) = (Prod.fst (Prod.fst (Prod.fst y)))) ∧
     ((((Prod.snd (Prod.snd x1)) + (1 : Int)) = (Prod.snd (Prod.snd y))) ∧ ((Nat.succ (Int.toNat (Prod.snd (Prod.fst y)))) ≤ (Int.toNat (Prod.snd (Prod.fst x1)))))))))))))))))))))
     (Br (Decidable.decide ((0 : Int) < (((List.length (Prod.fst (Prod.snd x1))) : Nat) : Int)))
     (((Bs (Prod.fst (Prod.fst (Prod.fst x1)))) ∧
     (((0 : Int) ≤ (Prod.snd (Prod.snd x1))) ∧ (((Prod.snd (Prod.snd x1)) ≤ (1000000 : Int)) ∧ ((16 : Int) ≤ (9223372036854775807 : Int))))) ∧
     (∀ x2 : Int,
     ((((0 : Int) < (16 : Int)) → (((0 : Int) ≤ x2) ∧ (x2 < (16 : Int)))) →
     (Br (Decidable.decide (x2 = (0 : Int)))
     (((Bs (Prod.fst (Prod.fst (Prod.fst x1)))) ∧
     (((0 : Int) ≤ ((Prod.snd (Prod.snd x1)) + (1 : Int))) ∧
     ((((Prod.snd (Prod.snd x1)) + (1 : Int)) ≤ (1000000 : Int)) ∧ (([(- (1 : Int)), (21 : Int), (20 : Int)] ≠ ([] : List Int)) ∧ ((3 : Nat) ≤ (1000 : Nat)))))) ∧
     (∀ x3 : Int,
     ((Membership.mem [(- (1 : Int)), (21 : Int), (20 : Int)] x3) →
     ((((0 : Int) ≤ (0 : Int)) ∧ ((0 : Int) < (((List.length (Prod.fst (Prod.snd x1))) : Nat) : Int))) ∧
     (Ret K (.tup [(.st [(.int .i64 (T.k (Prod.snd (Prod.fst (Prod.fst x1))))), (.int .i64 (T.n (Prod.snd (Prod.fst (Prod.fst x1))))), (.slc (T.kids (Prod.snd (Prod.fst (Prod.fst x1)))) (.iv 4 4 false .no))]), (.ints .i64 (List.set (Prod.fst (Prod.snd x1)) (0 : Nat) x3) (.iv 4 0 true .no))]) [])))))
     (Ret K (.tup [(.st [(.int .i64 (T.k (Prod.snd (Prod.fst (Prod.fst x1))))), (.int .i64 (T.n (Prod.snd (Prod.fst (Prod.fst x1))))), (.slc (T.kids (Prod.snd (Prod.fst (Prod.fst x1)))) (.iv 4 4 false .no))]), (.ints .i64 (Prod.fst (Prod.snd x1)) (.iv 4 0 true .no))]) [])))))
     (Ret K (.tup [(.st [(.int .i64 (T.k (Prod.snd (Prod.fst (Prod.fst x1))))), (.int .i64 (T.n (Prod.snd (Prod.fst (Prod.fst x1))))), (.slc (T.kids (Prod.snd (Prod.fst (Prod.fst x1)))) (.iv 4 4 false .no))]), (.ints .i64 (Prod.fst (Prod.snd x1)) (.iv 4 0 true .no))]) []))))))))))))))))))))))) ?_ (by kernel_rfl)
  have out : ∀ {k n : Int} {ts : List T} {ns : List Int}, 1 + sizeL ts ≤ 1000 → ns.length ≤ 30 → Ret K (.tup [.st [.int .i64 k, .int .i64 n, .slc ts (.iv 4 4 false .no)], .ints .i64 ns (.iv 4 0 true .no)]) [] := fun {k n ts ns} h1 h2 => fin (hk (.mk k n ts) ns h1 h2) (by repeat' first | trivial | rfl | (simp; done) | apply And.intro) (by repeat' first | trivial | rfl | (simp; done) | apply And.intro)
  clear hk
  refine ⟨hp, fun bs' hb => ⟨⟨hb, by omega, by omega⟩, fun t p' ht hp' => ?_⟩⟩
  have h1 := T.valid_size ht
  have h2 := T.size_eq t
  refine ⟨⟨⟨hb, by omega, by omega⟩, by omega⟩, fun t1 p1 ht1 hp1 => ⟨⟨hb, by omega, by omega, by simp, by omega⟩, fun x hx => ?_⟩⟩
  have hx : 0 ≤ x ∧ x ≤ 22 := by simp at hx; omega
  refine ⟨⟨(((bs', t1), x), ([], p1 + 1)), ⟨hb, by show t1.size ≤ 1000; omega, hx.2, ⟨hx.1, by show x + 0 ≤ 22; omega⟩, by show 0 ≤ p1 + 1; omega, by show x + (p1 + 1) ≤ 990000; omega⟩, rfl, rfl, (by first | trivial | rfl | (simp; done)), (by first | trivial | rfl | (simp; done)), (by first | trivial | rfl | (simp; done)), rfl, rfl, rfl, rfl, rfl, trivial⟩, ?_⟩
  rintro ⟨⟨⟨b, t⟩, i⟩, ⟨ns, p⟩⟩ ⟨g1, g2, g3, ⟨g4, g5⟩, g6, g7⟩
  simp only at g1 g2 g3 g4 g5 g6 g7
  have ht := t.size_eq
  dsimp only
  refine br (fun h => ?_) (fun h => br (fun h0 => ?_) (fun h0 => out (by omega) (by omega)))
  · have h := of_decide_eq_true h
    refine ⟨⟨g1, by omega, by omega, by simp, by omega⟩, fun x2 _ => ⟨by omega, by unfold InR; omega, (((b, t), i - 1), (ns ++ [x2], p + 1)), ⟨g1, g2, by show i - 1 ≤ 22; omega, ⟨by show 0 ≤ i - 1; omega, by show i - 1 + ((ns ++ [x2]).length : Int) ≤ 22; simp; omega⟩, by show 0 ≤ p + 1; omega, by show i - 1 + (p + 1) ≤ 990000; omega⟩, rfl, rfl, (by first | trivial | rfl | (simp; done)), (by first | trivial | rfl | (simp; done)), (by first | trivial | rfl | (simp; done)), rfl, rfl, rfl, rfl, rfl, by show (i - 1).toNat.succ ≤ i.toNat; omega⟩⟩
  · have h0 := of_decide_eq_true h0
    refine ⟨⟨g1, by omega, by omega, by omega⟩, fun x2 _ => br (fun _ => ⟨⟨g1, by omega, by omega, by simp, by omega⟩, fun x3 _ => ⟨⟨by omega, by omega⟩, out (by omega) (by rw [List.length_set]; omega)⟩⟩) (fun _ => out (by omega) (by omega))⟩
theorem dRenameTerm_sound : Sound Try.prog 6 cdRenameTerm := by
  refine soundF (G := [(19, cl19Open), (21, cl1Any), (20, cl1Mutate), (22, crnum), (23, crpick)]) ((gcons l19Open_sound (gcons l1Any_sound (gcons l1Mutate_sound (gcons rnum_sound (gcons rpick_sound gnil)))))) Try.func6 rfl (by kernel_rfl) fun args hs K hCC => ?_
  unfold cdRenameTerm at hCC
  split at hCC
  case h_2 => exact hCC.elim
  rename_i bs
  exact ⟨Nat.le_of_ble_eq_true rfl, _, dRenameTerm_ok bs K hCC.1 hCC.2⟩
end Go.Dk
