/- laws.FnSameParts returns true and leaves its arguments as they were, for all arguments. -/
import Derived.Test.YtlfddfmoifjenaaDr
import Derived.Test.YtlfddfmoifjenaaL0
namespace Go.Dk
set_option linter.unusedVariables false
open Go.Proofs
/-- laws.FnSameParts -/
def cFnSameParts : Con
  | [.ints .u8 bs (.arg 0)], [], K => ((bs.length ≤ 9223372036854775807 ∧ Bs bs)) ∧ ((K (.bool true) []))
  | _, _, _ => False
theorem FnSameParts_ok (bs : List Int) (K : AV → List AV → Prop) (hp : ((bs.length ≤ 9223372036854775807 ∧ Bs bs))) (hk : ((K (.bool true) []))) :
    bodyP [(31, cdTermSame), (18, cTermSame), (20, csTermSame)] TY [(9, { ι := (T × T) × (Nat × Bool), ok := fun x => x.1.1.size ≤ 1000 ∧ x.2.1 ≤ x.1.1.kids.length ∧ (x.2.2 = true → x.1.1.kids.length = x.1.2.kids.length) ∧ x.1.1.same x.1.2 = (x.2.2 && sameL (x.1.1.kids.drop x.2.1) (x.1.2.kids.drop x.2.1)), tl := fun x => [(3, .ptr 3), (4, .ptr 4), (5, .bool (x.1.1.same x.1.2)), (6, .bool x.2.2), (7, .int .i64 x.2.1)], hl := fun x => [(3, x.1.1.av .any), (4, x.1.2.av .any)], fh := fun _ => [], μ := fun x => x.1.1.kids.length - x.2.1 })] Try.f10 (body Try.f10) [.ints .u8 bs (.arg 0)] [] K := by
  refine of_vc (A :=
      (Br (Decidable.decide ((1048576 : Int) < (((List.length bs) : Nat) : Int)))
        (Ret K (.bool true) [])
        ((Bs bs) ∧
         (∀ t : T,
           (∀ u : T,
             (((T.size t) ≤ (1000 : Nat)) →
              (((T.size u) ≤ (1000 : Nat)) →
               (((sizeL (T.kids t)) ≤ (1099511627776 : Nat)) ∧
                (((sizeL (T.kids t)) ≤ (1099511627776 : Nat)) ∧
                 (Br (bne (T.same (T.mk (T.k t) (T.n t) (T.kids t)) (T.mk (T.k u) (T.n u) (T.kids u))) (T.same (T.mk (T.k t) (T.n t) (T.kids t)) (T.mk (T.k u) (T.n u) (T.kids u))))
                   (Ret K (.bool false) [])
                   (Br (Decidable.decide ((T.k t) = (T.k u)))
                     (Br (Decidable.decide ((T.n t) = (T.n u)))
                       ((∃ x : (Prod (Prod T T) (Prod Nat Bool)),
                          ((((T.size (Prod.fst (Prod.fst x))) ≤ (1000 : Nat)) ∧
                            (((Prod.fst (Prod.snd x)) ≤ (List.length (T.kids (Prod.fst (Prod.fst x))))) ∧
                             ((((Prod.snd (Prod.snd x)) = true) → ((List.length (T.kids (Prod.fst (Prod.fst x)))) = (List.length (T.kids (Prod.snd (Prod.fst x)))))) ∧
                              ((T.same (Prod.fst (Prod.fst x)) (Prod.snd (Prod.fst x))) = (Bool.and (Prod.snd (Prod.snd x)) (sameL (List.drop (Prod.fst (Prod.snd x)) (T.kids (Prod.fst (Prod.fst x)))) (List.drop (Prod.fst (Prod.snd x)) (T.kids (Prod.snd (Prod.fst x)))))))))) ∧
                           (((T.same (T.mk (T.k t) (T.n t) (T.kids t)) (T.mk (T.k u) (T.n u) (T.kids u))) = (T.same (Prod.fst (Prod.fst x)) (Prod.snd (Prod.fst x)))) ∧
                            (((Decidable.decide ((((List.length (T.kids t)) : Nat) : Int) = (((List.length (T.kids u)) : Nat) : Int))) = (Prod.snd (Prod.snd x))) ∧
                             (((0 : Int) = (((Prod.fst (Prod.snd x)) : Nat) : Int)) ∧
                              (((T.k t) = (T.k (Prod.fst (Prod.fst x)))) ∧
                               (((T.n t) = (T.n (Prod.fst (Prod.fst x)))) ∧
                                (((T.kids t) = (T.kids (Prod.fst (Prod.fst x)))) ∧
                                 (((T.k u) = (T.k (Prod.snd (Prod.fst x)))) ∧ (((T.n u) = (T.n (Prod.snd (Prod.fst x)))) ∧ (((T.kids u) = (T.kids (Prod.snd (Prod.fst x)))) ∧ True))))))))))) ∧
                        (∀ x : (Prod (Prod T T) (Prod Nat Bool)),
                          ((((T.size (Prod.fst (Prod.fst x))) ≤ (1000 : Nat)) ∧ (((Prod.fst (Prod.snd x)) ≤ (List.length (T.kids (Prod.fst (Prod.fst x))))) ∧ ((((Prod.snd (Prod.snd x)) = true) → ((List.length (T.kids (Prod.fst (Prod.fst x)))) = (List.length (T.kids (Prod.snd (Prod.fst x)))))) ∧ ((T.same (Prod.fst (Prod.fst x)) (Prod.snd (Prod.fst x))) = (Bool.and (Prod.snd (Prod.snd x)) (sameL (List.drop (Prod.fst (Prod.snd x)) (T.kids (Prod.fst (Prod.fst x)))) (List.drop (Prod.fst (Prod.snd x)) (T.kids (Prod.snd (Prod.fst x)))))))))) →
                           (Br (Decidable.decide ((((Prod.fst (Prod.snd x)) : Nat) : Int) < (((List.length (T.kids (Prod.fst (Prod.fst x)))) : Nat) : Int)))
                             (Br (Prod.snd (Prod.snd x))
                               ((((0 : Int) ≤ (((Prod.fst (Prod.snd x)) : Nat) : Int)) ∧
                                 ((((Prod.fst (Prod.snd x)) : Nat) : Int) < (((List.length (T.kids (Prod.fst (Prod.fst x)))) : Nat) : Int))) ∧
                                ((((0 : Int) ≤ (((Prod.fst (Prod.snd x)) : Nat) : Int)) ∧
                                  ((((Prod.fst (Prod.snd x)) : Nat) : Int) < (((List.length (T.kids (Prod.snd (Prod.fst x)))) : Nat) : Int))) ∧
                                 (((sizeL (T.kids (List.getD (T.kids (Prod.fst (Prod.fst x))) (Int.toNat (((Prod.fst (Prod.snd x)) : Nat) : Int)) (default : T)))) ≤ (1099511627776 : Nat)) ∧
                                  ((InR ((((Prod.fst (Prod.snd x)) : Nat) : Int) + (1 : Int))) ∧
                                   (∃ y : (Prod (Prod T T) (Prod Nat Bool)),
                                     ((((T.size (Prod.fst (Prod.fst y))) ≤ (1000 : Nat)) ∧
                                       (((Prod.fst (Prod.snd y)) ≤ (List.length (T.kids (Prod.fst (Prod.fst y))))) ∧
                                        ((((Prod.snd (Prod.snd y)) = true) → ((List.length (T.kids (Prod.fst (Prod.fst y)))) = (List.length (T.kids (Prod.snd (Prod.fst y)))))) ∧
                                         ((T.same (Prod.fst (Prod.fst y)) (Prod.snd (Prod.fst y))) = (Bool.and (Prod.snd (Prod.snd y)) (sameL (List.drop (Prod.fst (Prod.snd y)) (T.kids (Prod.fst (Prod.fst y)))) (List.drop (Prod.fst (Prod.snd y)) (T.kids (Prod.snd (Prod.fst y)))))))))) ∧
                                      (((T.same (Prod.fst (Prod.fst x)) (Prod.snd (Prod.fst x))) = (T.same (Prod.fst (Prod.fst y)) (Prod.snd (Prod.fst y)))) ∧
                                       (((T.same (T.mk (T.k (List.getD (T.kids (Prod.fst (Prod.fst x))) (Int.toNat (((Prod.fst (Prod.snd x)) : Nat) : Int)) (default : T))) (T.n (List.getD (T.kids (Prod.fst (Prod.fst x))) (Int.toNat (((Prod.fst (Prod.snd x)) : Nat) : Int)) (default : T))) (T.kids (List.getD (T.kids (Prod.fst (Prod.fst x))) (Int.toNat (((Prod.fst (Prod.snd x)) : Nat) : Int)) (default : T)))) (T.mk (T.k (List.getD (T.kids (Prod.snd (Prod.fst x))) (Int.toNat (((Prod.fst (Prod.snd x)) : Nat) : Int)) (default : T))) (T.n (List.getD (T.kids (Prod.snd (Prod.fst x))) (Int.toNat (((Prod.fst (Prod.snd x)) : Nat) : Int)) (default : T))) (T.kids (List.getD (T.kids (Prod.snd (Prod.fst x))) (Int.toNat (((Prod.fst (Prod.snd x)) : Nat) : Int)) (default : T))))) = (Prod.snd (Prod.snd y))) ∧
                                        ((((((Prod.fst (Prod.snd x)) : Nat) : Int) + (1 : Int)) = (((Prod.fst (Prod.snd y)) : Nat) : Int)) ∧
                                         (((T.k (Prod.fst (Prod.fst x))) = (T.k (Prod.fst (Prod.fst y)))) ∧
                                          (((T.n (Prod.fst (Prod.fst x))) = (T.n (Prod.fst (Prod.fst y)))) ∧
                                           (((T.kids (Prod.fst (Prod.fst x))) = (T.kids (Prod.fst (Prod.fst y)))) ∧
                                            (((T.k (Prod.snd (Prod.fst x))) = (T.k (Prod.snd (Prod.fst y)))) ∧
                                             (((T.n (Prod.snd (Prod.fst x))) = (T.n (Prod.snd (Prod.fst y)))) ∧
                                              (((T.kids (Prod.snd (Prod.fst x))) = (T.kids (Prod.snd (Prod.fst y)))) ∧
                                               ((Nat.succ ((List.length (T.kids (Prod.fst (Prod.fst y)))) - (Prod.fst (Prod.snd y)))) ≤ ((List.length (T.kids (Prod.fst (Prod.fst x)))) - (Prod.fst (Prod.snd x)))))))))))))))))))
                               (Ret K (.bool (BEq.beq (T.same (Prod.fst (Prod.fst x)) (Prod.snd (Prod.fst x))) (Prod.snd (Prod.snd x)))) []))
                             (Ret K (.bool (BEq.beq (T.same (Prod.fst (Prod.fst x)) (Prod.snd (Prod.fst x))) (Prod.snd (Prod.snd x)))) [])))))
                       ((∃ x : (Prod (Prod T T) (Prod Nat Bool)),
                          ((((T.size (Prod.fst (Prod.fst x))) ≤ (1000 : Nat)) ∧
                            (((Prod.fst (Prod.snd x)) ≤ (List.length (T.kids (Prod.fst (Prod.fst x))))) ∧
                             ((((Prod.snd (Prod.snd x)) = true) → ((List.length (T.kids (Prod.fst (Prod.fst x)))) = (List.length (T.kids (Prod.snd (Prod.fst x)))))) ∧
                              ((T.same (Prod.fst (Prod.fst x)) (Prod.snd (Prod.fst x))) = (Bool.and (Prod.snd (Prod.snd x)) (sameL (List.drop (Prod.fst (Prod.snd x)) (T.kids (Prod.fst (Prod.fst x)))) (List.drop (Prod.fst (Prod.snd x)) (T.kids (Prod.snd (Prod.fst x)))))))))) ∧
                           (((T.same (T.mk (T.k t) (T.n t) (T.kids t)) (T.mk (T.k u) (T.n u) (T.kids u))) = (T.same (Prod.fst (Prod.fst x)) (Prod.snd (Prod.fst x)))) ∧
                            ((false = (Prod.snd (Prod.snd x))) ∧
                             (((0 : Int) = (((Prod.fst (Prod.snd x)) : Nat) : Int)) ∧
                              (((T.k t) = (T.k (Prod.fst (Prod.fst x)))) ∧
                               (((T.n t) = (T.n (Prod.fst (Prod.fst x)))) ∧
                                (((T.kids t) = (T.kids (Prod.fst (Prod.fst x)))) ∧
                                 (((T.k u) = (T.k (Prod.snd (Prod.fst x)))) ∧ (((T.n u) = (T.n (Prod.snd (Prod.fst x)))) ∧ (((T.kids u) = (T.kids (Prod.snd (Prod.fst x)))) ∧ True))))))))))) ∧
                        (∀ x : (Prod (Prod T T) (Prod Nat Bool)),
                          ((((T.size (Prod.fst (Prod.fst x))) ≤ (1000 : Nat)) ∧ (((Prod.fst (Prod.snd x)) ≤ (List.length (T.kids (Prod.fst (Prod.fst x))))) ∧ ((((Prod.snd (Prod.snd x)) = true) → ((List.length (T.kids (Prod.fst (Prod.fst x)))) = (List.length (T.kids (Prod.snd (Prod.fst x)))))) ∧ ((T.same (Prod.fst (Prod.fst x)) (Prod.snd (Prod.fst x))) = (Bool.and (Prod.snd (Prod.snd x)) (sameL (List.drop (Prod.fst (Prod.snd x)) (T.kids (Prod.fst (Prod.fst x)))) (List.drop (Prod.fst (Prod.snd x)) (T.kids (Prod.snd (Prod.fst x)))))))))) →
                           (Br (Decidable.decide ((((Prod.fst (Prod.snd x)) : Nat) : Int) < (((List.length (T.kids (Prod.fst (Prod.fst x)))) : Nat) : Int)))
                             (Br (Prod.snd (Prod.snd x))
                               ((((0 : Int) ≤ (((Prod.fst (Prod.snd x)) : Nat) : Int)) ∧
                                 ((((Prod.fst (Prod.snd x)) : Nat) : Int) < (((List.length (T.kids (Prod.fst (Prod.fst x)))) : Nat) : Int))) ∧
                                ((((0 : Int) ≤ (((Prod.fst (Prod.snd x)) : Nat) : Int)) ∧
                                  ((((Prod.fst (Prod.snd x)) : Nat) : Int) < (((List.length (T.kids (Prod.snd (Prod.fst x)))) : Nat) : Int))) ∧
                                 (((sizeL (T.kids (List.getD (T.kids (Prod.fst (Prod.fst x))) (Int.toNat (((Prod.fst (Prod.snd x)) : Nat) : Int)) (default : T)))) ≤ (1099511627776 : Nat)) ∧
                                  ((InR ((((Prod.fst (Prod.snd x)) : Nat) : Int) + (1 : Int))) ∧
                                   (∃ y : (Prod (Prod T T) (Prod Nat Bool)),
                                     ((((T.size (Prod.fst (Prod.fst y))) ≤ (1000 : Nat)) ∧
                                       (((Prod.fst (Prod.snd y)) ≤ (List.length (T.kids (Prod.fst (Prod.fst y))))) ∧
                                        ((((Prod.snd (Prod.snd y)) = true) → ((List.length (T.kids (Prod.fst (Prod.fst y)))) = (List.length (T.kids (Prod.snd (Prod.fst y)))))) ∧
                                         ((T.same (Prod.fst (Prod.fst y)) (Prod.snd (Prod.fst y))) = (Bool.and (Prod.snd (Prod.snd y)) (sameL (List.drop (Prod.fst (Prod.snd y)) (T.kids (Prod.fst (Prod.fst y)))) (List.drop (Prod.fst (Prod.snd y)) (T.kids (Prod.snd (Prod.fst y)))))))))) ∧
                                      (((T.same (Prod.fst (Prod.fst x)) (Prod.snd (Prod.fst x))) = (T.same (Prod.fst (Prod.fst y)) (Prod.snd (Prod.fst y)))) ∧
                                       (((T.same (T.mk (T.k (List.getD (T.kids (Prod.fst (Prod.fst x))) (Int.toNat (((Prod.fst (Prod.snd x)) : Nat) : Int)) (default : T))) (T.n (List.getD (T.kids (Prod.fst (Prod.fst x))) (Int.toNat (((Prod.fst (Prod.snd x)) : Nat) : Int)) (default : T))) (T.kids (List.getD (T.kids (Prod.fst (Prod.fst x))) (Int.toNat (((Prod.fst (Prod.snd x)) : Nat) : Int)) (default : T)))) (T.mk (T.k (List.getD (T.kids (Prod.snd (Prod.fst x))) (Int.toNat (((Prod.fst (Prod.snd x)) : Nat) : Int)) (default : T))) (T.n (List.getD (T.kids (Prod.snd (Prod.fst x))) (Int.toNat (((Prod.fst (Prod.snd x)) : Nat) : Int)) (default : T))) (T.kids (List.getD (T.kids (Prod.snd (Prod.fst x))) (Int.toNat (((Prod.fst (Prod.snd x)) : Nat) : Int)) (default : T))))) = (Prod.snd (Prod.snd y))) ∧
                                        ((((((Prod.fst (Prod.snd x)) : Nat) : Int) + (1 : Int)) = (((Prod.fst (Prod.snd y)) : Nat) : Int)) ∧
                                         (((T.k (Prod.fst (Prod.fst x))) = (T.k (Prod.fst (Prod.fst y)))) ∧
                                          (((T.n (Prod.fst (Prod.fst x))) = (T.n (Prod.fst (Prod.fst y)))) ∧
                                           (((T.kids (Prod.fst (Prod.fst x))) = (T.kids (Prod.fst (Prod.fst y)))) ∧
                                            (((T.k (Prod.snd (Prod.fst x))) = (T.k (Prod.snd (Prod.fst y)))) ∧
                                             (((T.n (Prod.snd (Prod.fst x))) = (T.n (Prod.snd (Prod.fst y)))) ∧
                                              (((T.kids (Prod.snd (Prod.fst x))) = (T.kids (Prod.snd (Prod.fst y)))) ∧
                                               ((Nat.succ ((List.length (T.kids (Prod.fst (Prod.fst y)))) - (Prod.fst (Prod.snd y)))) ≤ ((List.length (T.kids (Prod.fst (Prod.fst x)))) - (Prod.fst (Prod.snd x)))))))))))))))))))
                               (Ret K (.bool (BEq.beq (T.same (Prod.fst (Prod.fst x)) (Prod.snd (Prod.fst x))) (Prod.snd (Prod.snd x)))) []))
                             (Ret K (.bool (BEq.beq (T.same (Prod.fst (Prod.fst x)) (Prod.snd (Prod.fst x))) (Prod.snd (Prod.snd x)))) []))))))
                     ((∃ x : (Prod (Prod T T) (Prod Nat Bool)),
                        ((((T.size (Prod.fst (Prod.fst x))) ≤ (1000 : Nat)) ∧
                          (((Prod.fst (Prod.snd x)) ≤ (List.length (T.kids (Prod.fst (Prod.fst x))))) ∧
                           ((((Prod.snd (Prod.snd x)) = true) → ((List.length (T.kids (Prod.fst (Prod.fst x)))) = (List.length (T.kids (Prod.snd (Prod.fst x)))))) ∧
                            ((T.same (Prod.fst (Prod.fst x)) (Prod.snd (Prod.fst x))) = (Bool.and (Prod.snd (Prod.snd x)) (sameL (List.drop (Prod.fst (Prod.snd x)) (T.kids (Prod.fst (Prod.fst x)))) (List.drop (Prod.fst (Prod.snd x)) (T.kids (Prod.snd (Prod.fst x)))))))))) ∧
                         (((T.same (T.mk (T.k t) (T.n t) (T.kids t)) (T.mk (T.k u) (T.n u) (T.kids u))) = (T.same (Prod.fst (Prod.fst x)) (Prod.snd (Prod.fst x)))) ∧
                          ((false = (Prod.snd (Prod.snd x))) ∧
                           (((0 : Int) = (((Prod.fst (Prod.snd x)) : Nat) : Int)) ∧
                            (((T.k t) = (T.k (Prod.fst (Prod.fst x)))) ∧
                             (((T.n t) = (T.n (Prod.fst (Prod.fst x)))) ∧
                              (((T.kids t) = (T.kids (Prod.fst (Prod.fst x)))) ∧
                               (((T.k u) = (T.k (Prod.snd (Prod.fst x)))) ∧ (((T.n u) = (T.n (Prod.snd (Prod.fst x)))) ∧ (((T.kids u) = (T.kids (Prod.snd (Prod.fst x)))) ∧ True))))))))))) ∧
                      (∀ x : (Prod (Prod T T) (Prod Nat Bool)),
                        ((((T.size (Prod.fst (Prod.fst x))) ≤ (1000 : Nat)) ∧ (((Prod.fst (Prod.snd x)) ≤ (List.length (T.kids (Prod.fst (Prod.fst x))))) ∧ ((((Prod.snd (Prod.snd x)) = true) → ((List.length (T.kids (Prod.fst (Prod.fst x)))) = (List.length (T.kids (Prod.snd (Prod.fst x)))))) ∧ ((T.same (Prod.fst (Prod.fst x)) (Prod.snd (Prod.fst x))) = (Bool.and (Prod.snd (Prod.snd x)) (sameL (List.drop (Prod.fst (Prod.snd x)) (T.kids (Prod.fst (Prod.fst x)))) (List.drop (Prod.fst (Prod.snd x)) (T.kids (Prod.snd (Prod.fst x)))))))))) →
                         (Br (Decidable.decide ((((Prod.fst (Prod.snd x)) : Nat) : Int) < (((List.length (T.kids (Prod.fst (Prod.fst x)))) : Nat) : Int)))
                           (Br (Prod.snd (Prod.snd x))
                             ((((0 : Int) ≤ (((Prod.fst (Prod.snd x)) : Nat) : Int)) ∧
                               ((((Prod.fst (Prod.snd x)) : Nat) : Int) < (((List.length (T.kids (Prod.fst (Prod.fst x)))) : Nat) : Int))) ∧
                              ((((0 : Int) ≤ (((Prod.fst (Prod.snd x)) : Nat) : Int)) ∧
                                ((((Prod.fst (Prod.snd x)) : Nat) : Int) < (((List.length (T.kids (Prod.snd (Prod.fst x)))) : Nat) : Int))) ∧
                               (((sizeL (T.kids (List.getD (T.kids (Prod.fst (Prod.fst x))) (Int.toNat (((Prod.fst (Prod.snd x)) : Nat) : Int)) (default : T)))) ≤ (1099511627776 : Nat)) ∧
                                ((InR ((((Prod.fst (Prod.snd x)) : Nat) : Int) + (1 : Int))) ∧
                                 (∃ y : (Prod (Prod T T) (Prod Nat Bool)),
                                   ((((T.size (Prod.fst (Prod.fst y))) ≤ (1000 : Nat)) ∧
                                     (((Prod.fst (Prod.snd y)) ≤ (List.length (T.kids (Prod.fst (Prod.fst y))))) ∧
                                      ((((Prod.snd (Prod.snd y)) = true) → ((List.length (T.kids (Prod.fst (Prod.fst y)))) = (List.length (T.kids (Prod.snd (Prod.fst y)))))) ∧
                                       ((T.same (Prod.fst (Prod.fst y)) (Prod.snd (Prod.fst y))) = (Bool.and (Prod.snd (Prod.snd y)) (sameL (List.drop (Prod.fst (Prod.snd y)) (T.kids (Prod.fst (Prod.fst y)))) (List.drop (Prod.fst (Prod.snd y)) (T.kids (Prod.snd (Prod.fst y)))))))))) ∧
                                    (((T.same (Prod.fst (Prod.fst x)) (Prod.snd (Prod.fst x))) = (T.same (Prod.fst (Prod.fst y)) (Prod.snd (Prod.fst y)))) ∧
                                     (((T.same (T.mk (T.k (List.getD (T.kids (Prod.fst (Prod.fst x))) (Int.toNat (((Prod.fst (Prod.snd x)) : Nat) : Int)) (default : T))) (T.n (List.getD (T.kids (Prod.fst (Prod.fst x))) (Int.toNat (((Prod.fst (Prod.snd x)) : Nat) : Int)) (default : T))) (T.kids (List.getD (T.kids (Prod.fst (Prod.fst x))) (Int.toNat (((Prod.fst (Prod.snd x)) : Nat) : Int)) (default : T)))) (T.mk (T.k (List.getD (T.kids (Prod.snd (Prod.fst x))) (Int.toNat (((Prod.fst (Prod.snd x)) : Nat) : Int)) (default : T))) (T.n (List.getD (T.kids (Prod.snd (Prod.fst x))) (Int.toNat (((Prod.fst (Prod.snd x)) : Nat) : Int)) (default : T))) (T.kids (List.getD (T.kids (Prod.snd (Prod.fst x))) (Int.toNat (((Prod.fst (Prod.snd x)) : Nat) : Int)) (default : T))))) = (Prod.snd (Prod.snd y))) ∧
                                      ((((((Prod.fst (Prod.snd x)) : Nat) : Int) + (1 : Int)) = (((Prod.fst (Prod.snd y)) : Nat) : Int)) ∧
                                       (((T.k (Prod.fst (Prod.fst x))) = (T.k (Prod.fst (Prod.fst y)))) ∧
                                        (((T.n (Prod.fst (Prod.fst x))) = (T.n (Prod.fst (Prod.fst y)))) ∧
                                         (((T.kids (Prod.fst (Prod.fst x))) = (T.kids (Prod.fst (Prod.fst y)))) ∧
                                          (((T.k (Prod.snd (Prod.fst x))) = (T.k (Prod.snd (Prod.fst y)))) ∧
                                           (((T.n (Prod.snd (Prod.fst x))) = (T.n (Prod.snd (Prod.fst y)))) ∧
                                            (((T.kids (Prod.snd (Prod.fst x))) = (T.kids (Prod.snd (Prod.fst y)))) ∧
                                             ((Nat.succ ((List.length (T.kids (Prod.fst (Prod.fst y)))) - (Prod.fst (Prod.snd y)))) ≤ ((List.length (T.kids (Prod.fst (Prod.fst x)))) - (Prod.fst (Prod.snd x)))))))))))))))))))
                             (Ret K (.bool (BEq.beq (T.same (Prod.fst (Prod.fst x)) (Prod.snd (Prod.fst x))) (Prod.snd (Prod.snd x)))) []))
                           (Ret K (.bool (BEq.beq (T.same (Prod.fst (Prod.fst x)) (Prod.snd (Prod.fst x))) (Prod.snd (Prod.snd x)))) [])))))))))))))))) ?_ (by kernel_rfl)
  refine br (fun _ => retB hk rfl) (fun _ => ⟨hp.2, fun t u ht hu => ?_⟩)
  simp only [T.eta]
  have hs := ht
  rw [T.size_eq] at hs
  have eta2 : t.same u = (decide (t.k = u.k) && (decide (t.n = u.n) && sameL t.kids u.kids)) := by cases t; cases u; rfl
  refine ⟨by omega, by omega, br (fun h => absurd h (by simp)) (fun _ => br (fun h1 => br (fun h2 => ⟨⟨((t, u), (0, decide ((t.kids.length : Int) = u.kids.length))), ?e1, (by repeat' first | trivial | rfl | (simp; done) | apply And.intro)⟩, fun x hx => ?l1⟩) (fun h2 => ⟨⟨((t, u), (0, false)), ?e2, (by repeat' first | trivial | rfl | (simp; done) | apply And.intro)⟩, fun x hx => ?l2⟩)) (fun h1 => ⟨⟨((t, u), (0, false)), ?e3, (by repeat' first | trivial | rfl | (simp; done) | apply And.intro)⟩, fun x hx => ?l3⟩))⟩
  case e1 =>
    refine ⟨ht, Nat.zero_le _, fun h => ?_, ?_⟩
    · have := of_decide_eq_true h; show t.kids.length = u.kids.length; omega
    · show t.same u = (decide ((t.kids.length : Int) = u.kids.length) && sameL t.kids u.kids)
      rw [eta2, h1, h2]
      by_cases hl : t.kids.length = u.kids.length
      · simp [hl]
      · rw [sameL_length hl]; simp
  case e2 => exact ⟨ht, Nat.zero_le _, fun h => absurd h (by simp), by show t.same u = (false && _); rw [eta2, h1, h2]; simp⟩
  case e3 => exact ⟨ht, Nat.zero_le _, fun h => absurd h (by simp), by show t.same u = (false && _); rw [eta2, h1]; simp⟩
  all_goals
    obtain ⟨⟨a, b⟩, ⟨i, all⟩⟩ := x
    obtain ⟨g1, g2, g3, g4⟩ := hx
    simp only at g1 g2 g3 g4
    have hs := g1
    rw [T.size_eq] at hs
    have hl := length_le_sizeL a.kids
    refine br (fun h => br (fun ha => ?_) (fun ha => ?_)) (fun h => ?_)
    · have h := of_decide_eq_true h
      have ha : all = true := ha
      subst ha
      simp only at h
      have hi : i < a.kids.length := by omega
      have g3 := g3 rfl
      have hi2 : i < b.kids.length := by omega
      have hm := sizeL_mem (getD_mem hi)
      rw [T.size_eq] at hm
      simp only [Int.toNat_natCast]
      refine ⟨⟨by omega, by omega⟩, ⟨by omega, by show (i : Int) < (b.kids.length : Int); omega⟩, by show sizeL _ ≤ _; omega, by unfold InR; show _ ≤ (i : Int) + 1 ∧ (i : Int) + 1 ≤ _; omega, ((a, b), (i + 1, _)), ⟨g1, by show i + 1 ≤ a.kids.length; omega, fun _ => g3, ?_⟩, (by first | trivial | rfl | (simp; done)), (by first | trivial | rfl | (simp; done)), by simp, (by first | trivial | rfl | (simp; done)), (by first | trivial | rfl | (simp; done)), (by first | trivial | rfl | (simp; done)), (by first | trivial | rfl | (simp; done)), (by first | trivial | rfl | (simp; done)), (by first | trivial | rfl | (simp; done)), by show Nat.succ (a.kids.length - (i + 1)) ≤ a.kids.length - i; omega⟩
      show a.same b = ((a.kids.getD i default).same (b.kids.getD i default) && sameL (a.kids.drop (i + 1)) (b.kids.drop (i + 1)))
      rw [g4, sameL_drop hi hi2]; simp
    · have ha : all = false := ha
      subst ha
      refine retB hk ?_
      show (a.same b == false) = true
      rw [g4]; simp
    · have h := of_decide_eq_false h
      simp only at h
      have hi : ¬ i < a.kids.length := by omega
      refine retB hk ?_
      show (a.same b == all) = true
      rw [g4]
      cases all with
      | false => rfl
      | true => have := g3 rfl; rw [drop_len hi, drop_len (by omega)]; rfl
theorem FnSameParts_sound : Sound Try.prog 10 cFnSameParts := by
  refine soundF (G := [(31, cdTermSame), (18, cTermSame), (20, csTermSame)]) ((gcons dTermSame_sound (gcons TermSame_sound (gcons sTermSame_sound gnil)))) Try.func10 rfl (by kernel_rfl) fun args hs K h => ?_
  unfold cFnSameParts at h
  split at h
  case h_2 => exact h.elim
  rename_i bs
  exact ⟨Nat.le_of_ble_eq_true rfl, _, FnSameParts_ok bs K h.1 h.2⟩
end Go.Dk
namespace Go.Proofs.Ytlfddfmoifjenaa
open Go.ChangeShapes Go.WideShapes Go.RowKit Go.Dk Go.Proofs
set_option linter.unusedVariables false
theorem FnSameParts_lifted (os : Os) (started : os.Started) (H : Type) (enc : TypeId × Value → H) :
    ReturnsInHanded {} Try.checked os 10 .any (Rows.fnSamePartsSpec.pre6 enc Try.prog Try.f10 Rows.fnSamePartsRow.domain false) (Rows.fnSamePartsSpec.post enc Try.prog Try.f10 false true false false) := by
  refine returnsInHanded_of_change (C := Try.checked) own started (by kernel_rfl) Try.func10
    (ChangeSpec.witness6 (enc := enc) (C := Try.checked) false ⟨#[], #[.slice none 0 0], []⟩ 8 (by kernel_rfl) (by kernel_rfl) (by kernel_rfl) (by kernel_rfl)) ?_
  intro W base args ds gs before hok hW _ _
  have hW' := hW
  obtain ⟨p, q, hA, hV, rfl, hfz, hnd⟩ := hW
  rw [Try.params10] at hA
  obtain ⟨rfl, rfl⟩ := trodVars_none hV
  obtain ⟨v0, vs0, d0, ds0, q0, s0, e0, rfl, rfl, h0, hA⟩ := trodAll_cons hA
  obtain ⟨rfl, rfl, rfl⟩ := trodAll_nil hA
  have ha : args = #[v0] := by cases args; simpa using e0
  subst ha
  obtain ⟨bs0, l0, p0, r0⟩ := open_bytes Try.underlying23 Try.underlying5 (by kernel_rfl) (plain_slice Try.underlying23 (hok 0 _ _ rfl rfl)) h0
  refine (law_call (args := [.ints .u8 bs0 (.arg 0)]) (vals := [v0]) FnSameParts_sound (fun K hK => ⟨⟨l0, p0⟩, hK⟩) (fun j => slOf ([v0].getD j .nilFunc)) ⟨r0 _ 0 rfl, trivial⟩).mono fun e W' ⟨he, hk⟩ => ?_
  exact ⟨_, he, law_post laidOut (of_decide_eq_true (by kernel_rfl)) rfl rfl Try.underlying4 rfl hW' hk⟩
theorem FnSameParts_holds : Rows.FnSamePartsSaid :=
  OpenClaim.holds_of_wide 10 Try.f10 rfl rfl rfl rfl rfl rfl rfl ⟨rfl, rfl, rfl, rfl, rfl⟩ rfl rfl rfl rfl rfl (by kernel_rfl) Try.func10 (by kernel_rfl)
    (of_decide_eq_true (by kernel_rfl)) (by unfold Func.isWrapper; first | (rw [if_pos (by decide +kernel)]; kernel_rfl) | (rw [if_neg (by decide +kernel)]; exact ⟨rfl, rfl⟩))
    (fun os started H enc _ => FnSameParts_lifted os started H enc)
end Go.Proofs.Ytlfddfmoifjenaa
namespace Go.Dk
open Go.Proofs
end Go.Dk
