/- laws.FnShiftFree returns true and leaves its arguments as they were, for all arguments. -/
import Derived.Test.YthlaiappcknehaaLaw
import Derived.Test.YthlaiappcknehaaL0
import Derived.Test.YthlaiappcknehaaDr2
import Derived.Test.YthlaiappcknehaaTh2
namespace Go.Dk
set_option linter.unusedVariables false
open Go.Proofs
/-- laws.FnShiftFree -/
def cFnShiftFree : Con
  | [.ints .u8 bs (.arg 0)], [], K => ((bs.length ≤ 9223372036854775807 ∧ Bs bs)) ∧ ((K (.bool true) []))
  | _, _, _ => False
theorem FnShiftFree_ok (bs : List Int) (K : AV → List AV → Prop) (hp : ((bs.length ≤ 9223372036854775807 ∧ Bs bs))) (hk : ((K (.bool true) []))) :
    bodyQ [(15, cdShiftTerm), (16, cShiftTerm), (17, csShiftTerm), (19, cCountVar), (20, cCountNodes), (18, cTermSame)] TY [(9, { ι := (T × Int × Int) × Nat, ok := fun x => x.1.1.ShO x.1.2.1 x.1.2.2 = true ∧ x.2 ≤ 21, tl := fun x => [(3, .ptr 3), (4, .int .i64 (x.1.2.1)), (5, .int .i64 (x.1.2.2)), (6, .ptr 6), (10, .int .i64 x.2)], hl := fun x => [(3, x.1.1.av .any), (6, (x.1.1.ShR x.1.2.1 x.1.2.2).av .any)], fh := fun _ => [], μ := fun x => 21 - x.2 })] Try.f3 (body Try.f3) [.ints .u8 bs (.arg 0)] [] K := by
  refine of_vc (A :=
      (Br (Decidable.decide ((1048576 : Int) < (((List.length bs) : Nat) : Int)))
        (Ret K (.bool true) [])
        ((Bs bs) ∧
         (∀ t : T,
           (∀ y : Int,
             (∀ c : Int,
               (((T.size t) ≤ (1000 : Nat)) →
                ((InR y) →
                 ((((- (1 : Int)) ≤ c) ∧ (c ≤ (21 : Int))) →
                  (True ∧
                   (True ∧
                    (Br (bne (T.ShO (T.mk (T.k t) (T.n t) (T.kids t)) y c) (T.ShO (T.mk (T.k t) (T.n t) (T.kids t)) y c))
                      (Br (BEq.beq (T.ShO (T.mk (T.k t) (T.n t) (T.kids t)) y c) (T.ShO (T.mk (T.k t) (T.n t) (T.kids t)) y c))
                        (((sizeL (T.kids (T.ShR (T.mk (T.k t) (T.n t) (T.kids t)) y c))) ≤ (1099511627776 : Nat)) ∧
                         (Ret K (.bool (T.same (T.mk (T.k (T.ShR (T.mk (T.k t) (T.n t) (T.kids t)) y c)) (T.n (T.ShR (T.mk (T.k t) (T.n t) (T.kids t)) y c)) (T.kids (T.ShR (T.mk (T.k t) (T.n t) (T.kids t)) y c))) (T.mk (T.k (T.ShR (T.mk (T.k t) (T.n t) (T.kids t)) y c)) (T.n (T.ShR (T.mk (T.k t) (T.n t) (T.kids t)) y c)) (T.kids (T.ShR (T.mk (T.k t) (T.n t) (T.kids t)) y c))))) []))
                        (Ret K (.bool false) []))
                      (((sizeL (T.kids (T.ShR (T.mk (T.k t) (T.n t) (T.kids t)) y c))) ≤ (1099511627776 : Nat)) ∧
                       (Br (Bool.not (T.same (T.mk (T.k (T.ShR (T.mk (T.k t) (T.n t) (T.kids t)) y c)) (T.n (T.ShR (T.mk (T.k t) (T.n t) (T.kids t)) y c)) (T.kids (T.ShR (T.mk (T.k t) (T.n t) (T.kids t)) y c))) (T.mk (T.k (T.ShR (T.mk (T.k t) (T.n t) (T.kids t)) y c)) (T.n (T.ShR (T.mk (T.k t) (T.n t) (T.kids t)) y c)) (T.kids (T.ShR (T.mk (T.k t) (T.n t) (T.kids t)) y c)))))
                         (Br (BEq.beq (T.ShO (T.mk (T.k t) (T.n t) (T.kids t)) y c) (T.ShO (T.mk (T.k t) (T.n t) (T.kids t)) y c))
                           (((sizeL (T.kids (T.ShR (T.mk (T.k t) (T.n t) (T.kids t)) y c))) ≤ (1099511627776 : Nat)) ∧
                            (Ret K (.bool (T.same (T.mk (T.k (T.ShR (T.mk (T.k t) (T.n t) (T.kids t)) y c)) (T.n (T.ShR (T.mk (T.k t) (T.n t) (T.kids t)) y c)) (T.kids (T.ShR (T.mk (T.k t) (T.n t) (T.kids t)) y c))) (T.mk (T.k (T.ShR (T.mk (T.k t) (T.n t) (T.kids t)) y c)) (T.n (T.ShR (T.mk (T.k t) (T.n t) (T.kids t)) y c)) (T.kids (T.ShR (T.mk (T.k t) (T.n t) (T.kids t)) y c))))) []))
                           (Ret K (.bool false) []))
                         (Br (Bool.not (T.ShO (T.mk (T.k t) (T.n t) (T.kids t)) y c))
                           (Br (BEq.beq (T.ShO (T.mk (T.k t) (T.n t) (T.kids t)) y c) (T.ShO (T.mk (T.k t) (T.n t) (T.kids t)) y c))
                             (((sizeL (T.kids (T.ShR (T.mk (T.k t) (T.n t) (T.kids t)) y c))) ≤ (1099511627776 : Nat)) ∧
                              (Ret K (.bool (T.same (T.mk (T.k (T.ShR (T.mk (T.k t) (T.n t) (T.kids t)) y c)) (T.n (T.ShR (T.mk (T.k t) (T.n t) (T.kids t)) y c)) (T.kids (T.ShR (T.mk (T.k t) (T.n t) (T.kids t)) y c))) (T.mk (T.k (T.ShR (T.mk (T.k t) (T.n t) (T.kids t)) y c)) (T.n (T.ShR (T.mk (T.k t) (T.n t) (T.kids t)) y c)) (T.kids (T.ShR (T.mk (T.k t) (T.n t) (T.kids t)) y c))))) []))
                             (Ret K (.bool false) []))
                           ((∃ x : (Prod (Prod T (Prod Int Int)) Nat),
                              ((((T.ShO (Prod.fst (Prod.fst x)) (Prod.fst (Prod.snd (Prod.fst x))) (Prod.snd (Prod.snd (Prod.fst x)))) = true) ∧ ((Prod.snd x) ≤ (21 : Nat))) ∧
                               ((y = (Prod.fst (Prod.snd (Prod.fst x)))) ∧
                                ((c = (Prod.snd (Prod.snd (Prod.fst x)))) ∧
                                 (((0 : Int) = (((Prod.snd x) : Nat) : Int)) ∧
                                  (((T.k t) = (T.k (Prod.fst (Prod.fst x)))) ∧
                                   (((T.n t) = (T.n (Prod.fst (Prod.fst x)))) ∧
                                    (((T.kids t) = (T.kids (Prod.fst (Prod.fst x)))) ∧
                                     (((T.k (T.ShR (T.mk (T.k t) (T.n t) (T.kids t)) y c)) = (T.k (T.ShR (Prod.fst (Prod.fst x)) (Prod.fst (Prod.snd (Prod.fst x))) (Prod.snd (Prod.snd (Prod.fst x)))))) ∧
                                      (((T.n (T.ShR (T.mk (T.k t) (T.n t) (T.kids t)) y c)) = (T.n (T.ShR (Prod.fst (Prod.fst x)) (Prod.fst (Prod.snd (Prod.fst x))) (Prod.snd (Prod.snd (Prod.fst x)))))) ∧
                                       (((T.kids (T.ShR (T.mk (T.k t) (T.n t) (T.kids t)) y c)) = (T.kids (T.ShR (Prod.fst (Prod.fst x)) (Prod.fst (Prod.snd (Prod.fst x))) (Prod.snd (Prod.snd (Prod.fst x)))))) ∧
                                        True))))))))))) ∧
                            (∀ x : (Prod (Prod T (Prod Int Int)) Nat),
                              ((((T.ShO (Prod.fst (Prod.fst x)) (Prod.fst (Prod.snd (Prod.fst x))) (Prod.snd (Prod.snd (Prod.fst x)))) = true) ∧ ((Prod.snd x) ≤ (21 : Nat))) →
                               (Br (Decidable.decide ((((Prod.snd x) : Nat) : Int) ≤ (20 : Int)))
                                 (Br (Decidable.decide ((Prod.snd (Prod.snd (Prod.fst x))) ≤ (((Prod.snd x) : Nat) : Int)))
                                   ((InR ((((Prod.snd x) : Nat) : Int) + (Prod.fst (Prod.snd (Prod.fst x))))) ∧
                                    (True ∧
                                     (Br (Decidable.decide ((0 : Int) < (T.cv (T.mk (T.k (Prod.fst (Prod.fst x))) (T.n (Prod.fst (Prod.fst x))) (T.kids (Prod.fst (Prod.fst x)))) (((Prod.snd x) : Nat) : Int))))
                                       (True ∧
                                        (((T.k (Prod.fst (Prod.fst x))) = (T.k (Prod.fst (Prod.fst x)))) ∧
                                         (((T.n (Prod.fst (Prod.fst x))) = (T.n (Prod.fst (Prod.fst x)))) ∧
                                          (((T.kids (Prod.fst (Prod.fst x))) = (T.kids (Prod.fst (Prod.fst x)))) ∧
                                           (True ∧
                                            (Br (Decidable.decide ((T.cv (T.mk (T.k (T.ShR (Prod.fst (Prod.fst x)) (Prod.fst (Prod.snd (Prod.fst x))) (Prod.snd (Prod.snd (Prod.fst x))))) (T.n (T.ShR (Prod.fst (Prod.fst x)) (Prod.fst (Prod.snd (Prod.fst x))) (Prod.snd (Prod.snd (Prod.fst x))))) (T.kids (T.ShR (Prod.fst (Prod.fst x)) (Prod.fst (Prod.snd (Prod.fst x))) (Prod.snd (Prod.snd (Prod.fst x)))))) ((((Prod.snd x) : Nat) : Int) + (Prod.fst (Prod.snd (Prod.fst x))))) ≠ (T.cv (T.mk (T.k (Prod.fst (Prod.fst x))) (T.n (Prod.fst (Prod.fst x))) (T.kids (Prod.fst (Prod.fst x)))) (((Prod.snd x) : Nat) : Int))))
                                              (Ret K (.bool false) [])
                                              ((InR ((((Prod.snd x) : Nat) : Int) + (1 : Int))) ∧
                                               (∃ y1 : (Prod (Prod T (Prod Int Int)) Nat),
                                                 ((((T.ShO (Prod.fst (Prod.fst y1)) (Prod.fst (Prod.snd (Prod.fst y1))) (Prod.snd (Prod.snd (Prod.fst y1)))) = true) ∧ ((Prod.snd y1) ≤ (21 : Nat))) ∧
                                                  (((Prod.fst (Prod.snd (Prod.fst x))) = (Prod.fst (Prod.snd (Prod.fst y1)))) ∧
                                                   (((Prod.snd (Prod.snd (Prod.fst x))) = (Prod.snd (Prod.snd (Prod.fst y1)))) ∧
                                                    ((((((Prod.snd x) : Nat) : Int) + (1 : Int)) = (((Prod.snd y1) : Nat) : Int)) ∧
                                                     (((T.k (Prod.fst (Prod.fst x))) = (T.k (Prod.fst (Prod.fst y1)))) ∧
                                                      (((T.n (Prod.fst (Prod.fst x))) = (T.n (Prod.fst (Prod.fst y1)))) ∧
                                                       (((T.kids (Prod.fst (Prod.fst x))) = (T.kids (Prod.fst (Prod.fst y1)))) ∧
                                                        (((T.k (T.ShR (Prod.fst (Prod.fst x)) (Prod.fst (Prod.snd (Prod.fst x))) (Prod.snd (Prod.snd (Prod.fst x))))) = (T.k (T.ShR (Prod.fst (Prod.fst y1)) (Prod.fst (Prod.snd (Prod.fst y1))) (Prod.snd (Prod.snd (Prod.fst y1)))))) ∧
                                                         (((T.n (T.ShR (Prod.fst (Prod.fst x)) (Prod.fst (Prod.snd (Prod.fst x))) (Prod.snd (Prod.snd (Prod.fst x))))) = (T.n (T.ShR (Prod.fst (Prod.fst y1)) (Prod.fst (Prod.snd (Prod.fst y1))) (Prod.snd (Prod.snd (Prod.fst y1)))))) ∧
                                                          (((T.kids (T.ShR (Prod.fst (Prod.fst x)) (Prod.fst (Prod.snd (Prod.fst x))) (Prod.snd (Prod.snd (Prod.fst x))))) = (T.kids (T.ShR (Prod.fst (Prod.fst y1)) (Prod.fst (Prod.snd (Prod.fst y1))) (Prod.snd (Prod.snd (Prod.fst y1)))))) ∧
                                                           ((Nat.succ ((21 : Nat) - (Prod.snd y1))) ≤ ((21 : Nat) - (Prod.snd x)))))))))))))))))))))
                                       ((InR ((((Prod.snd x) : Nat) : Int) + (1 : Int))) ∧
                                        (∃ y1 : (Prod (Prod T (Prod Int Int)) Nat),
                                          ((((T.ShO (Prod.fst (Prod.fst y1)) (Prod.fst (Prod.snd (Prod.fst y1))) (Prod.snd (Prod.snd (Prod.fst y1)))) = true) ∧ ((Prod.snd y1) ≤ (21 : Nat))) ∧
                                           (((Prod.fst (Prod.snd (Prod.fst x))) = (Prod.fst (Prod.snd (Prod.fst y1)))) ∧
                                            (((Prod.snd (Prod.snd (Prod.fst x))) = (Prod.snd (Prod.snd (Prod.fst y1)))) ∧
                                             ((((((Prod.snd x) : Nat) : Int) + (1 : Int)) = (((Prod.snd y1) : Nat) : Int)) ∧
                                              (((T.k (Prod.fst (Prod.fst x))) = (T.k (Prod.fst (Prod.fst y1)))) ∧
                                               (((T.n (Prod.fst (Prod.fst x))) = (T.n (Prod.fst (Prod.fst y1)))) ∧
                                                (((T.kids (Prod.fst (Prod.fst x))) = (T.kids (Prod.fst (Prod.fst y1)))) ∧
                                                 (((T.k (T.ShR (Prod.fst (Prod.fst x)) (Prod.fst (Prod.snd (Prod.fst x))) (Prod.snd (Prod.snd (Prod.fst x))))) = (T.k (T.ShR (Prod.fst (Prod.fst y1)) (Prod.fst (Prod.snd (Prod.fst y1))) (Prod.snd (Prod.snd (Prod.fst y1)))))) ∧
                                                  (((T.n (T.ShR (Prod.fst (Prod.fst x)) (Prod.fst (Prod.snd (Prod.fst x))) (Prod.snd (Prod.snd (Prod.fst x))))) = (T.n (T.ShR (Prod.fst (Prod.fst y1)) (Prod.fst (Prod.snd (Prod.fst y1))) (Prod.snd (Prod.snd (Prod.fst y1)))))) ∧
                                                   (((T.kids (T.ShR (Prod.fst (Prod.fst x)) (Prod.fst (Prod.snd (Prod.fst x))) (Prod.snd (Prod.snd (Prod.fst x))))) = (T.kids (T.ShR (Prod.fst (Prod.fst y1)) (Prod.fst (Prod.snd (Prod.fst y1))) (Prod.snd (Prod.snd (Prod.fst y1)))))) ∧
                                                    ((Nat.succ ((21 : Nat) - (Prod.snd y1))) ≤ ((21 : Nat) - (Prod.snd x))))))))))))))))))
                                   (True ∧
                                    (Br (Decidable.decide ((0 : Int) < (T.cv (T.mk (T.k (Prod.fst (Prod.fst x))) (T.n (Prod.fst (Prod.fst x))) (T.kids (Prod.fst (Prod.fst x)))) (((Prod.snd x) : Nat) : Int))))
                                      (True ∧
                                       (((T.k (Prod.fst (Prod.fst x))) = (T.k (Prod.fst (Prod.fst x)))) ∧
                                        (((T.n (Prod.fst (Prod.fst x))) = (T.n (Prod.fst (Prod.fst x)))) ∧
                                         (((T.kids (Prod.fst (Prod.fst x))) = (T.kids (Prod.fst (Prod.fst x)))) ∧
                                          (True ∧
                                           (Br (Decidable.decide ((T.cv (T.mk (T.k (T.ShR (Prod.fst (Prod.fst x)) (Prod.fst (Prod.snd (Prod.fst x))) (Prod.snd (Prod.snd (Prod.fst x))))) (T.n (T.ShR (Prod.fst (Prod.fst x)) (Prod.fst (Prod.snd (Prod.fst x))) (Prod.snd (Prod.snd (Prod.fst x))))) (T.kids (T.ShR (Prod.fst (Prod.fst x)) (Prod.fst (Prod.snd (Prod.fst x))) (Prod.snd (Prod.snd (Prod.fst x)))))) (((Prod.snd x) : Nat) : Int)) ≠ (T.cv (T.mk (T.k (Prod.fst (Prod.fst x))) (T.n (Prod.fst (Prod.fst x))) (T.kids (Prod.fst (Prod.fst x)))) (((Prod.snd x) : Nat) : Int))))
                                             (Ret K (.bool false) [])
                                             ((InR ((((Prod.snd x) : Nat) : Int) + (1 : Int))) ∧
                                              (∃ y1 : (Prod (Prod T (Prod Int Int)) Nat),
                                                ((((T.ShO (Prod.fst (Prod.fst y1)) (Prod.fst (Prod.snd (Prod.fst y1))) (Prod.snd (Prod.snd (Prod.fst y1)))) = true) ∧ ((Prod.snd y1) ≤ (21 : Nat))) ∧
                                                 (((Prod.fst (Prod.snd (Prod.fst x))) = (Prod.fst (Prod.snd (Prod.fst y1)))) ∧
                                                  (((Prod.snd (Prod.snd (Prod.fst x))) = (Prod.snd (Prod.snd (Prod.fst y1)))) ∧
                                                   ((((((Prod.snd x) : Nat) : Int) + (1 : Int)) = (((Prod.snd y1) : Nat) : Int)) ∧
                                                    (((T.k (Prod.fst (Prod.fst x))) = (T.k (Prod.fst (Prod.fst y1)))) ∧
                                                     (((T.n (Prod.fst (Prod.fst x))) = (T.n (Prod.fst (Prod.fst y1)))) ∧
                                                      (((T.kids (Prod.fst (Prod.fst x))) = (T.kids (Prod.fst (Prod.fst y1)))) ∧
                                                       (((T.k (T.ShR (Prod.fst (Prod.fst x)) (Prod.fst (Prod.snd (Prod.fst x))) (Prod.snd (Prod.snd (Prod.fst x))))) = (T.k (T.ShR (Prod.fst (Prod.fst y1)) (Prod.fst (Prod.snd (Prod.fst y1))) (Prod.snd (Prod.snd (Prod.fst y1)))))) ∧
                                                        (((T.n (T.ShR (Prod.fst (Prod.fst x)) (Prod.fst (Prod.snd (Prod.fst x))) (Prod.snd (Prod.snd (Prod.fst x))))) = (T.n (T.ShR (Prod.fst (Prod.fst y1)) (Prod.fst (Prod.snd (Prod.fst y1))) (Prod.snd (Prod.snd (Prod.fst y1)))))) ∧
                                                         (((T.kids (T.ShR (Prod.fst (Prod.fst x)) (Prod.fst (Prod.snd (Prod.fst x))) (Prod.snd (Prod.snd (Prod.fst x))))) = (T.kids (T.ShR (Prod.fst (Prod.fst y1)) (Prod.fst (Prod.snd (Prod.fst y1))) (Prod.snd (Prod.snd (Prod.fst y1)))))) ∧
                                                          ((Nat.succ ((21 : Nat) - (Prod.snd y1))) ≤ ((21 : Nat) - (Prod.snd x)))))))))))))))))))))
                                      ((InR ((((Prod.snd x) : Nat) : Int) + (1 : Int))) ∧
                                       (∃ y1 : (Prod (Prod T (Prod Int Int)) Nat),
                                         ((((T.ShO (Prod.fst (Prod.fst y1)) (Prod.fst (Prod.snd (Prod.fst y1))) (Prod.snd (Prod.snd (Prod.fst y1)))) = true) ∧ ((Prod.snd y1) ≤ (21 : Nat))) ∧
                                          (((Prod.fst (Prod.snd (Prod.fst x))) = (Prod.fst (Prod.snd (Prod.fst y1)))) ∧
                                           (((Prod.snd (Prod.snd (Prod.fst x))) = (Prod.snd (Prod.snd (Prod.fst y1)))) ∧
                                            ((((((Prod.snd x) : Nat) : Int) + (1 : Int)) = (((Prod.snd y1) : Nat) : Int)) ∧
                                             (((T.k (Prod.fst (Prod.fst x))) = (T.k (Prod.fst (Prod.fst y1)))) ∧
                                              (((T.n (Prod.fst (Prod.fst x))) = (T.n (Prod.fst (Prod.fst y1)))) ∧
                                               (((T.kids (Prod.fst (Prod.fst x))) = (T.kids (Prod.fst (Prod.fst y1)))) ∧
                                                (((T.k (T.ShR (Prod.fst (Prod.fst x)) (Prod.fst (Prod.snd (Prod.fst x))) (Prod.snd (Prod.snd (Prod.fst x))))) = (T.k (T.ShR (Prod.fst (Prod.fst y1)) (Prod.fst (Prod.snd (Prod.fst y1))) (Prod.snd (Prod.snd (Prod.fst y1)))))) ∧
                                                 (((T.n (T.ShR (Prod.fst (Prod.fst x)) (Prod.fst (Prod.snd (Prod.fst x))) (Prod.snd (Prod.snd (Prod.fst x))))) = (T.n (T.ShR (Prod.fst (Prod.fst y1)) (Prod.fst (Prod.snd (Prod.fst y1))) (Prod.snd (Prod.snd (Prod.fst y1)))))) ∧
                                                  (((T.kids (T.ShR (Prod.fst (Prod.fst x)) (Prod.fst (Prod.snd (Prod.fst x))) (Prod.snd (Prod.snd (Prod.fst x))))) = (T.kids (T.ShR (Prod.fst (Prod.fst y1)) (Prod.fst (Prod.snd (Prod.fst y1))) (Prod.snd (Prod.snd (Prod.fst y1)))))) ∧
                                                   ((Nat.succ ((21 : Nat) - (Prod.snd y1))) ≤ ((21 : Nat) - (Prod.snd x))))))))))))))))))
                                 (True ∧
                                  (((T.k (Prod.fst (Prod.fst x))) = (T.k (Prod.fst (Prod.fst x)))) ∧
                                   (((T.n (Prod.fst (Prod.fst x))) = (T.n (Prod.fst (Prod.fst x)))) ∧
                                    (((T.kids (Prod.fst (Prod.fst x))) = (T.kids (Prod.fst (Prod.fst x)))) ∧
                                     (True ∧
                                      (Ret K (.bool (Decidable.decide ((if ((T.valid (T.mk (T.k (T.ShR (Prod.fst (Prod.fst x)) (Prod.fst (Prod.snd (Prod.fst x))) (Prod.snd (Prod.snd (Prod.fst x))))) (T.n (T.ShR (Prod.fst (Prod.fst x)) (Prod.fst (Prod.snd (Prod.fst x))) (Prod.snd (Prod.snd (Prod.fst x))))) (T.kids (T.ShR (Prod.fst (Prod.fst x)) (Prod.fst (Prod.snd (Prod.fst x))) (Prod.snd (Prod.snd (Prod.fst x))))))) = true) then (((T.size (T.mk (T.k (T.ShR (Prod.fst (Prod.fst x)) (Prod.fst (Prod.snd (Prod.fst x))) (Prod.snd (Prod.snd (Prod.fst x))))) (T.n (T.ShR (Prod.fst (Prod.fst x)) (Prod.fst (Prod.snd (Prod.fst x))) (Prod.snd (Prod.snd (Prod.fst x))))) (T.kids (T.ShR (Prod.fst (Prod.fst x)) (Prod.fst (Prod.snd (Prod.fst x))) (Prod.snd (Prod.snd (Prod.fst x))))))) : Nat) : Int) else (0 : Int)) = (if ((T.valid (T.mk (T.k (Prod.fst (Prod.fst x))) (T.n (Prod.fst (Prod.fst x))) (T.kids (Prod.fst (Prod.fst x))))) = true) then (((T.size (T.mk (T.k (Prod.fst (Prod.fst x))) (T.n (Prod.fst (Prod.fst x))) (T.kids (Prod.fst (Prod.fst x))))) : Nat) : Int) else (0 : Int))))) []))))))))))))))))))))))))) ?_ (by kernel_rfl)
  refine br (fun _ => retB hk rfl) (fun _ => ⟨hp.2, fun t y c ht hy hc => ?_⟩)
  have same : ∀ t : T, t.same t = true := fun t => T.same_iff.2 rfl
  simp only [T.eta, same]
  have z := ShR_small t y c
  have A : Br (t.ShO y c == t.ShO y c) (sizeL (t.ShR y c).kids ≤ 1099511627776 ∧ Ret K (AV.bool true) []) (Ret K (AV.bool false) []) := br (fun _ => ⟨by omega, retB hk rfl⟩) (fun h => absurd h (by simp))
  refine ⟨trivial, trivial, br (fun h => absurd h (by simp)) (fun _ => ⟨by omega, br (fun h => absurd h (by simp)) (fun _ => br (fun _ => A) (fun h1 => ?_))⟩)⟩
  rw [Bool.not_eq_false'] at h1

  refine ⟨⟨((t, y, c), 0), ⟨h1, by show 0 ≤ 21; omega⟩, (by repeat' first | trivial | rfl | (simp; done) | apply And.intro)⟩, ?_⟩
  rintro ⟨⟨t, y, c⟩, i⟩ ⟨g1, g2⟩
  simp only at g1 g2 ⊢
  have p := ShO_parts g1
  have go : InR ((i : Int) + 1) := by unfold InR; omega
  refine br (fun h2 => ?_) (fun h2 => ?_)
  · have h2 := of_decide_eq_true h2
    have nx : Nat.succ (21 - (i + 1)) ≤ 21 - i := by omega
    refine br (fun h3 => ⟨by unfold InR; omega, trivial, br (fun h4 => ⟨trivial, trivial, trivial, trivial, trivial, br (fun h5 => ?_) (fun _ => ⟨go, ((t, y, c), i + 1), ⟨g1, by show i + 1 ≤ 21; omega⟩, rfl, rfl, by simp, rfl, rfl, rfl, rfl, rfl, rfl, nx⟩)⟩) (fun _ => ⟨go, ((t, y, c), i + 1), ⟨g1, by show i + 1 ≤ 21; omega⟩, rfl, rfl, by simp, rfl, rfl, rfl, rfl, rfl, rfl, nx⟩)⟩)
      (fun h3 => ⟨trivial, br (fun h4 => ⟨trivial, trivial, trivial, trivial, trivial, br (fun h5 => ?_) (fun _ => ⟨go, ((t, y, c), i + 1), ⟨g1, by show i + 1 ≤ 21; omega⟩, rfl, rfl, by simp, rfl, rfl, rfl, rfl, rfl, rfl, nx⟩)⟩) (fun _ => ⟨go, ((t, y, c), i + 1), ⟨g1, by show i + 1 ≤ 21; omega⟩, rfl, rfl, by simp, rfl, rfl, rfl, rfl, rfl, rfl, nx⟩)⟩)
    · have h3 := of_decide_eq_true h3
      have h4 := of_decide_eq_true h4
      have h5 := of_decide_eq_true h5
      have e := cv_sh g1 (i := i) ⟨by omega, h2⟩ h4
      rw [if_pos h3] at e
      exact absurd e h5
    · have h3 := of_decide_eq_false h3
      have h4 := of_decide_eq_true h4
      have h5 := of_decide_eq_true h5
      have e := cv_sh g1 (i := i) ⟨by omega, h2⟩ h4
      rw [if_neg h3] at e
      exact absurd e h5
  · have e := sh_size g1
    have hx : (t.ShR y c).valid = true := by rw [p.2.2.2.2]; exact p.2.2.2.1
    refine ⟨trivial, trivial, trivial, trivial, trivial, retB hk ?_⟩
    simp only [hx, p.1, if_true, e, decide_true]
theorem FnShiftFree_sound : Sound Try.prog 3 cFnShiftFree := by
  refine soundF (G := [(15, cdShiftTerm), (16, cShiftTerm), (17, csShiftTerm), (19, cCountVar), (20, cCountNodes), (18, cTermSame)]) ((gcons dShiftTerm_sound (gcons ShiftTerm_sound (gcons sShiftTerm_sound (gcons CountVar_sound (gcons CountNodes_sound (gcons TermSame_sound gnil))))))) Try.func3 rfl (by kernel_rfl) fun args hs K hCC => ?_
  unfold cFnShiftFree at hCC
  split at hCC
  case h_2 => exact hCC.elim
  rename_i bs
  exact ⟨Nat.le_of_ble_eq_true rfl, _, FnShiftFree_ok bs K hCC.1 hCC.2⟩
end Go.Dk
namespace Go.Proofs.Ythlaiappcknehaa
open Go.ChangeShapes Go.WideShapes Go.RowKit Go.Dk Go.Proofs
set_option linter.unusedVariables false
theorem FnShiftFree_lifted (os : Os) (started : os.Started) (H : Type) (enc : TypeId × Value → H) :
    ReturnsInHanded {} Try.checked os 3 .any (Rows.fnShiftFreeSpec.pre6 enc Try.prog Try.f3 Rows.fnShiftFreeRow.domain false) (Rows.fnShiftFreeSpec.post enc Try.prog Try.f3 false true false false) := by
  refine returnsInHanded_of_change (C := Try.checked) own started (by kernel_rfl) Try.func3
    (ChangeSpec.witness6 (enc := enc) (C := Try.checked) false ⟨#[], #[.slice none 0 0], []⟩ 8 (by kernel_rfl) (by kernel_rfl) (by kernel_rfl) (by kernel_rfl)) ?_
  intro W base args ds gs before hok hW _ _
  have hW' := hW
  obtain ⟨p, q, hA, hV, rfl, hfz, hnd⟩ := hW
  rw [Try.params3] at hA
  obtain ⟨rfl, rfl⟩ := trodVars_none hV
  obtain ⟨v0, vs0, d0, ds0, q0, s0, e0, rfl, rfl, h0, hA⟩ := trodAll_cons hA
  obtain ⟨rfl, rfl, rfl⟩ := trodAll_nil hA
  have ha : args = #[v0] := by cases args; simpa using e0
  subst ha
  obtain ⟨bs0, l0, p0, r0⟩ := open_bytes Try.underlying22 Try.underlying5 (by kernel_rfl) (plain_slice Try.underlying22 (hok 0 _ _ rfl rfl)) h0
  refine (law_call (args := [.ints .u8 bs0 (.arg 0)]) (vals := [v0]) FnShiftFree_sound (fun K hK => ⟨⟨l0, p0⟩, hK⟩) (fun j => slOf ([v0].getD j .nilFunc)) ⟨r0 _ 0 rfl, trivial⟩).mono fun e W' ⟨he, hk⟩ => ?_
  exact ⟨_, he, law_post laidOut (of_decide_eq_true (by kernel_rfl)) rfl rfl Try.underlying4 rfl hW' hk⟩
theorem FnShiftFree_holds : Rows.FnShiftFreeSaid :=
  OpenClaim.holds_of_wide 3 Try.f3 rfl rfl rfl rfl rfl rfl rfl ⟨rfl, rfl, rfl, rfl, rfl⟩ rfl rfl rfl rfl rfl (by kernel_rfl) Try.func3 (by kernel_rfl)
    (of_decide_eq_true (by kernel_rfl)) (by unfold Func.isWrapper; first | (rw [if_pos (by decide +kernel)]; kernel_rfl) | (rw [if_neg (by decide +kernel)]; exact ⟨rfl, rfl⟩))
    (fun os started H enc _ => FnShiftFree_lifted os started H enc)
end Go.Proofs.Ythlaiappcknehaa
namespace Go.Dk
open Go.Proofs
end Go.Dk
