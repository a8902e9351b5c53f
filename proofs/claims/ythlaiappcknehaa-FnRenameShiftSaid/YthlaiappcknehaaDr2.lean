/- Draws of binding's arguments: weak contracts. -/
import Derived.Test.YthlaiappcknehaaDr
namespace Go.Dk
set_option linter.unusedVariables false
open Go.Proofs
/-- spec.l2Place -/
def cl2Place : Con
  | [.fptr 0], [(.st [.ints .u8 bs .any, .int .i64 (p)])], K => ((Bs bs ∧ 0 ≤ p ∧ p ≤ 900000)) ∧ ((∀ n, -1 ≤ n ∧ n ≤ 21 → K (.int .i64 n) [(.st [.ints .u8 bs .any, .int .i64 ((p + 1))])]))
  | _, _, _ => False
theorem l2Place_ok (bs : List Int) (p : Int) (K : AV → List AV → Prop) (hp : ((Bs bs ∧ 0 ≤ p ∧ p ≤ 900000))) (hk : ((∀ n, -1 ≤ n ∧ n ≤ 21 → K (.int .i64 n) [(.st [.ints .u8 bs .any, .int .i64 ((p + 1))])]))) :
    bodyQ [(53, crnum)] TY [] Try.f54 (body Try.f54) [.fptr 0] [(.st [.ints .u8 bs .any, .int .i64 (p)])] K := by
  refine of_vc (A :=
      (((Bs bs) ∧
        (((0 : Int) ≤ p) ∧
         ((p ≤ (1000000 : Int)) ∧
          (([(0 : Int), (1 : Int), (0 : Int), (2 : Int), (3 : Int), (20 : Int), (21 : Int), (- (1 : Int))] ≠ ([] : List Int)) ∧ ((8 : Nat) ≤ (1000 : Nat)))))) ∧
       (∀ x : Int,
         ((Membership.mem [(0 : Int), (1 : Int), (0 : Int), (2 : Int), (3 : Int), (20 : Int), (21 : Int), (- (1 : Int))] x) →
          (Ret K (.int .i64 x) [(.st [(.ints .u8 bs .any), (.int .i64 (p + (1 : Int)))])]))))) ?_ (by kernel_rfl)
  obtain ⟨hb, p0, p1⟩ := hp
  exact ⟨⟨hb, p0, by omega, by simp, by simp⟩, fun x hx => fin (hk x (by simp at hx; omega)) (by repeat' first | trivial | rfl | (simp; done) | apply And.intro) (by repeat' first | trivial | rfl | (simp; done) | apply And.intro)⟩
theorem l2Place_sound : Sound Try.prog 54 cl2Place := by
  refine soundF (G := [(53, crnum)]) ((gcons rnum_sound gnil)) Try.func54 rfl (by kernel_rfl) fun args hs K hCC => ?_
  unfold cl2Place at hCC
  split at hCC
  case h_2 => exact hCC.elim
  rename_i bs p
  exact ⟨Nat.le_of_ble_eq_true rfl, _, l2Place_ok bs p K hCC.1 hCC.2⟩
/-- spec.DrawShiftTerm -/
def cdShiftTerm : Con
  | [.ints .u8 bs (.arg 0)], [], K => ((Bs bs)) ∧ ((∀ (t : T) (y c : Int), t.size ≤ 1000 → InR y → -1 ≤ c ∧ c ≤ 21 → K (.tup [t.av .any, .int .i64 y, .int .i64 c]) []))
  | _, _, _ => False
theorem dShiftTerm_ok (bs : List Int) (K : AV → List AV → Prop) (hp : ((Bs bs))) (hk : ((∀ (t : T) (y c : Int), t.size ≤ 1000 → InR y → -1 ≤ c ∧ c ≤ 21 → K (.tup [t.av .any, .int .i64 y, .int .i64 c]) []))) :
    bodyQ [(50, cl19Open), (52, cl1Any), (51, cl1Mutate), (53, crnum), (54, cl2Place)] TY [] Try.f15 (body Try.f15) [.ints .u8 bs (.arg 0)] [] K := by
  refine of_vc (A :=
      ((Bs bs) ∧
       (∀ bs' : (List Int),
         ((Bs bs') →
          (((Bs bs') ∧ (((0 : Int) ≤ (0 : Int)) ∧ ((0 : Int) ≤ (800000 : Int)))) ∧
           (∀ t : T,
             (∀ p' : Int,
               (((T.valid t) = true) →
                ((((0 : Int) ≤ p') ∧ (p' ≤ ((0 : Int) + (5000 : Int)))) →
                 ((((Bs bs') ∧ (((0 : Int) ≤ p') ∧ (p' ≤ (800000 : Int)))) ∧ ((sizeL (T.kids t)) ≤ (1000000 : Nat))) ∧
                  (∀ t1 : T,
                    (∀ p'1 : Int,
                      (((T.size t1) ≤ ((2 : Nat) + (sizeL (T.kids t)))) →
                       (((p' ≤ p'1) ∧ (p'1 ≤ (p' + (2 : Int)))) →
                        (((Bs bs') ∧
                          (((0 : Int) ≤ p'1) ∧
                           ((p'1 ≤ (1000000 : Int)) ∧
                            (([(1 : Int), (2 : Int), (3 : Int), (0 : Int), (- (1 : Int)), (- (2 : Int)), (19 : Int), (20 : Int), (- (20 : Int)), (21 : Int), (- (9223372036854775808 : Int))] ≠ ([] : List Int)) ∧
                             ((11 : Nat) ≤ (1000 : Nat)))))) ∧
                         (∀ x : Int,
                           ((Membership.mem [(1 : Int), (2 : Int), (3 : Int), (0 : Int), (- (1 : Int)), (- (2 : Int)), (19 : Int), (20 : Int), (- (20 : Int)), (21 : Int), (- (9223372036854775808 : Int))] x) →
                            (((Bs bs') ∧ (((0 : Int) ≤ (p'1 + (1 : Int))) ∧ ((p'1 + (1 : Int)) ≤ (900000 : Int)))) ∧
                             (∀ n : Int,
                               ((((- (1 : Int)) ≤ n) ∧ (n ≤ (21 : Int))) →
                                (((T.k t1) = (T.k t1)) ∧
                                 (((T.n t1) = (T.n t1)) ∧
                                  (((T.kids t1) = (T.kids t1)) ∧
                                   ((x = x) ∧
                                    (Ret K (.tup [(.st [(.int .i64 (T.k t1)), (.int .i64 (T.n t1)), (.slc (T.kids t1) (.iv (4 : Nat) (4 : Nat) false .no))]), (.int .i64 x), (.int .i64 n)]) []))))))))))))))))))))))))) ?_ (by kernel_rfl)
  refine ⟨hp, fun bs' hb => ⟨⟨hb, by omega, by omega⟩, fun t p' ht hp' => ?_⟩⟩
  have h1 := T.valid_size ht
  have h2 := T.size_eq t
  refine ⟨⟨⟨hb, by omega, by omega⟩, by omega⟩, fun t1 p1 ht1 hp1 => ⟨⟨hb, by omega, by omega, by simp, by simp⟩, fun x hx => ⟨⟨hb, by omega, by omega⟩, fun n hn => ⟨(by first | trivial | rfl | (simp; done)), (by first | trivial | rfl | (simp; done)), (by first | trivial | rfl | (simp; done)), (by first | trivial | rfl | (simp; done)), ?_⟩⟩⟩⟩
  exact fin (hk t1 x n (by omega) (by simp at hx; unfold InR; omega) hn) (by repeat' first | trivial | rfl | (simp; done) | apply And.intro) (by repeat' first | trivial | rfl | (simp; done) | apply And.intro)
theorem dShiftTerm_sound : Sound Try.prog 15 cdShiftTerm := by
  refine soundF (G := [(50, cl19Open), (52, cl1Any), (51, cl1Mutate), (53, crnum), (54, cl2Place)]) ((gcons l19Open_sound (gcons l1Any_sound (gcons l1Mutate_sound (gcons rnum_sound (gcons l2Place_sound gnil)))))) Try.func15 rfl (by kernel_rfl) fun args hs K hCC => ?_
  unfold cdShiftTerm at hCC
  split at hCC
  case h_2 => exact hCC.elim
  rename_i bs
  exact ⟨Nat.le_of_ble_eq_true rfl, _, dShiftTerm_ok bs K hCC.1 hCC.2⟩
/-- spec.DrawSubstTerm -/
def cdSubstTerm : Con
  | [.ints .u8 bs (.arg 0)], [], K => ((Bs bs)) ∧ ((∀ (t : T) (c : Int) (u : T), t.size ≤ 1000 → -1 ≤ c ∧ c ≤ 21 → u.size ≤ 1000 → K (.tup [t.av .any, .int .i64 c, u.av .any]) []))
  | _, _, _ => False
theorem dSubstTerm_ok (bs : List Int) (K : AV → List AV → Prop) (hp : ((Bs bs))) (hk : ((∀ (t : T) (c : Int) (u : T), t.size ≤ 1000 → -1 ≤ c ∧ c ≤ 21 → u.size ≤ 1000 → K (.tup [t.av .any, .int .i64 c, u.av .any]) []))) :
    bodyQ [(50, cl19Open), (52, cl1Any), (51, cl1Mutate), (54, cl2Place)] TY [] Try.f28 (body Try.f28) [.ints .u8 bs (.arg 0)] [] K := by
  refine of_vc (A :=
      ((Bs bs) ∧
       (∀ bs' : (List Int),
         ((Bs bs') →
          (((Bs bs') ∧ (((0 : Int) ≤ (0 : Int)) ∧ ((0 : Int) ≤ (800000 : Int)))) ∧
           (∀ t : T,
             (∀ p' : Int,
               (((T.valid t) = true) →
                ((((0 : Int) ≤ p') ∧ (p' ≤ ((0 : Int) + (5000 : Int)))) →
                 ((((Bs bs') ∧ (((0 : Int) ≤ p') ∧ (p' ≤ (800000 : Int)))) ∧ ((sizeL (T.kids t)) ≤ (1000000 : Nat))) ∧
                  (∀ t1 : T,
                    (∀ p'1 : Int,
                      (((T.size t1) ≤ ((2 : Nat) + (sizeL (T.kids t)))) →
                       (((p' ≤ p'1) ∧ (p'1 ≤ (p' + (2 : Int)))) →
                        (((Bs bs') ∧ (((0 : Int) ≤ p'1) ∧ (p'1 ≤ (800000 : Int)))) ∧
                         (∀ t2 : T,
                           (∀ p'2 : Int,
                             (((T.valid t2) = true) →
                              (((p'1 ≤ p'2) ∧ (p'2 ≤ (p'1 + (5000 : Int)))) →
                               ((((Bs bs') ∧ (((0 : Int) ≤ p'2) ∧ (p'2 ≤ (800000 : Int)))) ∧ ((sizeL (T.kids t2)) ≤ (1000000 : Nat))) ∧
                                (∀ t3 : T,
                                  (∀ p'3 : Int,
                                    (((T.size t3) ≤ ((2 : Nat) + (sizeL (T.kids t2)))) →
                                     (((p'2 ≤ p'3) ∧ (p'3 ≤ (p'2 + (2 : Int)))) →
                                      (((Bs bs') ∧ (((0 : Int) ≤ p'3) ∧ (p'3 ≤ (900000 : Int)))) ∧
                                       (∀ n : Int,
                                         ((((- (1 : Int)) ≤ n) ∧ (n ≤ (21 : Int))) →
                                          (((T.k t3) = (T.k t3)) ∧
                                           (((T.n t3) = (T.n t3)) ∧
                                            (((T.kids t3) = (T.kids t3)) ∧
                                             (((T.k t1) = (T.k t1)) ∧
                                              (((T.n t1) = (T.n t1)) ∧
                                               (((T.kids t1) = (T.kids t1)) ∧
                                                (((T.k t3) = (T.k t3)) ∧
                                                 (((T.n t3) = (T.n t3)) ∧
                                                  (((T.kids t3) = (T.kids t3)) ∧
                                                   (((T.k t3) = (T.k t3)) ∧
                                                    (((T.n t3) = (T.n t3)) ∧
                                                     (((T.kids t3) = (T.kids t3)) ∧
                                                      (Ret K (.tup [(.st [(.int .i64 (T.k t1)), (.int .i64 (T.n t1)), (.slc (T.kids t1) (.iv (4 : Nat) (4 : Nat) false .no))]), (.int .i64 n), (.st [(.int .i64 (T.k t3)), (.int .i64 (T.n t3)), (.slc (T.kids t3) (.iv (4 : Nat) (4 : Nat) false .no))])]) [])))))))))))))))))))))))))))))))))))))))) ?_ (by kernel_rfl)
  refine ⟨hp, fun bs' hb => ⟨⟨hb, by omega, by omega⟩, fun t p' ht hp' => ?_⟩⟩
  have h1 := T.valid_size ht
  have h2 := T.size_eq t
  refine ⟨⟨⟨hb, by omega, by omega⟩, by omega⟩, fun t1 p1 ht1 hp1 => ⟨⟨hb, by omega, by omega⟩, fun t2 p2 ht2 hp2 => ?_⟩⟩
  have h3 := T.valid_size ht2
  have h4 := T.size_eq t2
  refine ⟨⟨⟨hb, by omega, by omega⟩, by omega⟩, fun t3 p3 ht3 hp3 => ⟨⟨hb, by omega, by omega⟩, fun n hn => ?_⟩⟩
  repeat' first | exact fin (hk t1 n t3 (by omega) hn (by omega)) (by repeat' first | trivial | rfl | (simp; done) | apply And.intro) (by repeat' first | trivial | rfl | (simp; done) | apply And.intro) | trivial | rfl | apply And.intro
theorem dSubstTerm_sound : Sound Try.prog 28 cdSubstTerm := by
  refine soundF (G := [(50, cl19Open), (52, cl1Any), (51, cl1Mutate), (54, cl2Place)]) ((gcons l19Open_sound (gcons l1Any_sound (gcons l1Mutate_sound (gcons l2Place_sound gnil))))) Try.func28 rfl (by kernel_rfl) fun args hs K hCC => ?_
  unfold cdSubstTerm at hCC
  split at hCC
  case h_2 => exact hCC.elim
  rename_i bs
  exact ⟨Nat.le_of_ble_eq_true rfl, _, dSubstTerm_ok bs K hCC.1 hCC.2⟩
/-- spec.DrawInstantiate -/
def cdInstantiate : Con
  | [.ints .u8 bs (.arg 0)], [], K => ((Bs bs)) ∧ ((∀ (t : T) (u : T), t.size ≤ 1000 → u.size ≤ 1000 → K (.tup [t.av .any, u.av .any]) []))
  | _, _, _ => False
theorem dInstantiate_ok (bs : List Int) (K : AV → List AV → Prop) (hp : ((Bs bs))) (hk : ((∀ (t : T) (u : T), t.size ≤ 1000 → u.size ≤ 1000 → K (.tup [t.av .any, u.av .any]) []))) :
    bodyQ [(28, cdSubstTerm)] TY [] Try.f25 (body Try.f25) [.ints .u8 bs (.arg 0)] [] K := by
  refine of_vc (A :=
      ((Bs bs) ∧
       (∀ t : T,
         (∀ c : Int,
           (∀ u : T,
             (((T.size t) ≤ (1000 : Nat)) →
              ((((- (1 : Int)) ≤ c) ∧ (c ≤ (21 : Int))) →
               (((T.size u) ≤ (1000 : Nat)) →
                (((T.k u) = (T.k u)) ∧
                 (((T.n u) = (T.n u)) ∧
                  (((T.kids u) = (T.kids u)) ∧
                   (Ret K (.tup [(.st [(.int .i64 (T.k t)), (.int .i64 (T.n t)), (.slc (T.kids t) .any)]), (.st [(.int .i64 (T.k u)), (.int .i64 (T.n u)), (.slc (T.kids u) .any)])]) [])))))))))))) ?_ (by kernel_rfl)
  refine ⟨hp, fun t c u ht hc hu => ?_⟩
  repeat' first | exact fin (hk t u ht hu) (by repeat' first | trivial | rfl | (simp; done) | apply And.intro) (by repeat' first | trivial | rfl | (simp; done) | apply And.intro) | trivial | rfl | apply And.intro
theorem dInstantiate_sound : Sound Try.prog 25 cdInstantiate := by
  refine soundF (G := [(28, cdSubstTerm)]) ((gcons dSubstTerm_sound gnil)) Try.func25 rfl (by kernel_rfl) fun args hs K hCC => ?_
  unfold cdInstantiate at hCC
  split at hCC
  case h_2 => exact hCC.elim
  rename_i bs
  exact ⟨Nat.le_of_ble_eq_true rfl, _, dInstantiate_ok bs K hCC.1 hCC.2⟩
end Go.Dk
