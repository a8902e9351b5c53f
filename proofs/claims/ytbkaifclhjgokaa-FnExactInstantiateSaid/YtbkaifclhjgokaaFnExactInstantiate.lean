/- laws.FnExactInstantiate returns true and leaves its arguments as they were, for all arguments. -/
import Derived.Test.YtbkaifclhjgokaaLaw
import Derived.Test.YtbkaifclhjgokaaMh
import Derived.Test.YtbkaifclhjgokaaL2s
namespace Go.Dk
set_option linter.unusedVariables false
open Go.Proofs
/-- laws.FnExactInstantiate -/
def cFnExactInstantiate : Con
  | [.st [.int .i64 k0, .int .i64 n0, .slc ts0 (.arg 0)], .st [.int .i64 k1, .int .i64 n1, .slc ts1 (.arg 1)]], [], K => (((T.mk k0 n0 ts0).fits) ∧ ((T.mk k1 n1 ts1).fits)) ∧ ((K (.bool true) []))
  | _, _, _ => False
set_option maxHeartbeats 4000000 in
theorem FnExactInstantiate_ok (k0 n0 : Int) (ts0 : List T) (k1 n1 : Int) (ts1 : List T) (K : AV → List AV → Prop) (hp : (((T.mk k0 n0 ts0).fits) ∧ ((T.mk k1 n1 ts1).fits))) (hk : ((K (.bool true) []))) :
    bodyQ [(20, cszTerm), (22, ctoTerm), (38, csInstantiate), (39, cInstantiate), (24, ceqTerm), (34, cheldTerm)] TY [] Try.f13 (body Try.f13) [.st [.int .i64 k0, .int .i64 n0, .slc ts0 (.arg 0)], .st [.int .i64 k1, .int .i64 n1, .slc ts1 (.arg 1)]] [] K := by
  refine of_vc (A :=
      (((((List.length ts0) ≤ (9223372036854775807 : Nat)) ∧ (fitsL ts0)) ∧ (((0 : Int) ≤ (1048576 : Int)) ∧ ((1048576 : Int) ≤ (1048576 : Int)))) ∧
       (Br (Decidable.decide ((szI (sizeL ts0) (1048576 : Int)) < (0 : Int)))
         (Ret K (.bool true) [])
         (((((List.length ts1) ≤ (9223372036854775807 : Nat)) ∧ (fitsL ts1)) ∧
           (((0 : Int) ≤ (szI (sizeL ts0) (1048576 : Int))) ∧ ((szI (sizeL ts0) (1048576 : Int)) ≤ (1048576 : Int)))) ∧
          (Br (Decidable.decide ((szI (sizeL ts1) (szI (sizeL ts0) (1048576 : Int))) < (0 : Int)))
            (Ret K (.bool true) [])
            (((k1 = k1) ∧
              ((n1 = n1) ∧
               ((ts1 = ts1) ∧
                ((k0 = k0) ∧
                 ((n0 = n0) ∧
                  ((ts0 = ts0) ∧
                   (((sizeL ts0) ≤ (1048576 : Nat)) ∧
                    ((k1 = k1) ∧
                     ((n1 = n1) ∧
                      ((ts1 = ts1) ∧
                       (((sizeL ts1) ≤ (1048576 : Nat)) ∧
                        (True ∧
                         (((T.SbO (T.mk k0 n0 ts0) (0 : Int) (T.mk k1 n1 ts1)) = (T.SbO (T.mk k0 n0 ts0) (0 : Int) (T.mk k1 n1 ts1))) ∧
                          (((sizeL ts0) ≤ (1048576 : Nat)) ∧
                           (((sizeL ts1) ≤ (1048576 : Nat)) ∧
                            (True ∧
                             (((sizeL (T.kids (T.SbR (T.mk k0 n0 ts0) (0 : Int) (T.mk k1 n1 ts1)))) ≤ (1099511627776 : Nat)) ∧
                              (Br (Bool.not (T.same (T.mk (T.k (T.SbR (T.mk k0 n0 ts0) (0 : Int) (T.mk k1 n1 ts1))) (T.n (T.SbR (T.mk k0 n0 ts0) (0 : Int) (T.mk k1 n1 ts1))) (T.kids (T.SbR (T.mk k0 n0 ts0) (0 : Int) (T.mk k1 n1 ts1)))) (T.mk (T.k (T.SbR (T.mk k0 n0 ts0) (0 : Int) (T.mk k1 n1 ts1))) (T.n (T.SbR (T.mk k0 n0 ts0) (0 : Int) (T.mk k1 n1 ts1))) (T.kids (T.SbR (T.mk k0 n0 ts0) (0 : Int) (T.mk k1 n1 ts1))))))
                                (Ret K (.bool false) [])
                                (Br (bne (T.SbO (T.mk k0 n0 ts0) (0 : Int) (T.mk k1 n1 ts1)) (T.SbO (T.mk k0 n0 ts0) (0 : Int) (T.mk k1 n1 ts1)))
                                  (Ret K (.bool false) [])
                                  (((sizeL ts0) ≤ (1048576 : Nat)) ∧
                                   ((k0 = k0) ∧
                                    ((n0 = n0) ∧
                                     ((ts0 = ts0) ∧
                                      (((sizeL ts0) ≤ (1099511627776 : Nat)) ∧
                                       (Br (Bool.not (T.same (T.mk k0 n0 ts0) (T.mk k0 n0 ts0)))
                                         (Ret K (.bool false) [])
                                         (((sizeL ts1) ≤ (1048576 : Nat)) ∧
                                          ((k1 = k1) ∧
                                           ((n1 = n1) ∧
                                            ((ts1 = ts1) ∧
                                             (((sizeL ts1) ≤ (1099511627776 : Nat)) ∧
                                              (Br (Bool.not (T.same (T.mk k1 n1 ts1) (T.mk k1 n1 ts1)))
                                                (Ret K (.bool false) [])
                                                ((((0 : Int) ≤ (1 : Int)) ∧ (((1 : Int) + ((2 : Int) * (((sizeL ts0) : Nat) : Int))) ≤ (9223372036854775807 : Int))) ∧
                                                 ((((0 : Int) ≤ ((1 : Int) + ((2 : Int) * (((sizeL ts0) : Nat) : Int)))) ∧
                                                   ((((1 : Int) + ((2 : Int) * (((sizeL ts0) : Nat) : Int))) + ((2 : Int) * (((sizeL ts1) : Nat) : Int))) ≤ (9223372036854775807 : Int))) ∧
                                                  (((sizeL (T.kids (T.SbR (T.mk k0 n0 ts0) (0 : Int) (T.mk k1 n1 ts1)))) ≤ (1099511627776 : Nat)) ∧
                                                   (Br (Bool.not (T.same (T.mk (T.k (T.SbR (T.mk k0 n0 ts0) (0 : Int) (T.mk k1 n1 ts1))) (T.n (T.SbR (T.mk k0 n0 ts0) (0 : Int) (T.mk k1 n1 ts1))) (T.kids (T.SbR (T.mk k0 n0 ts0) (0 : Int) (T.mk k1 n1 ts1)))) (T.mk (T.k (T.SbR (T.mk k0 n0 ts0) (0 : Int) (T.mk k1 n1 ts1))) (T.n (T.SbR (T.mk k0 n0 ts0) (0 : Int) (T.mk k1 n1 ts1))) (T.kids (T.SbR (T.mk k0 n0 ts0) (0 : Int) (T.mk k1 n1 ts1))))))
                                                     (Ret K (.bool false) [])
                                                     (Br (bne (T.SbO (T.mk k0 n0 ts0) (0 : Int) (T.mk k1 n1 ts1)) (T.SbO (T.mk k0 n0 ts0) (0 : Int) (T.mk k1 n1 ts1)))
                                                       (Ret K (.bool false) [])
                                                       ((((0 : Int) ≤ (1 : Int)) ∧
                                                         (((1 : Int) + ((2 : Int) * (((sizeL (T.kids (T.SbR (T.mk k0 n0 ts0) (0 : Int) (T.mk k1 n1 ts1)))) : Nat) : Int))) ≤ (9223372036854775807 : Int))) ∧
                                                        (((((0 : Int) ≤ (1 : Int)) ∧
                                                           (((1 : Int) + ((2 : Int) * (((sizeL (markL (T.kids (T.SbR (T.mk k0 n0 ts0) (0 : Int) (T.mk k1 n1 ts1))) (1 : Int))) : Nat) : Int))) ≤ (1000000000000 : Int))) ∧
                                                          (∃ us : (List T), ((markL (T.kids (T.SbR (T.mk k0 n0 ts0) (0 : Int) (T.mk k1 n1 ts1))) (1 : Int)) = (markL us (1 : Int))))) ∧
                                                         (Br (Decidable.decide (((1 : Int) + ((2 : Int) * (((sizeL (markL (T.kids (T.SbR (T.mk k0 n0 ts0) (0 : Int) (T.mk k1 n1 ts1))) (1 : Int))) : Nat) : Int))) ≠ ((1 : Int) + ((2 : Int) * (((sizeL (T.kids (T.SbR (T.mk k0 n0 ts0) (0 : Int) (T.mk k1 n1 ts1)))) : Nat) : Int)))))
                                                           (Ret K (.bool false) [])
                                                           (((k1 = k1) ∧
                                                             ((n1 = n1) ∧
                                                              ((ts1 = ts1) ∧
                                                               ((k0 = k0) ∧
                                                                ((n0 = n0) ∧
                                                                 ((ts0 = ts0) ∧
                                                                  (((sizeL ts0) ≤ (1048576 : Nat)) ∧
                                                                   ((k1 = k1) ∧
                                                                    ((n1 = n1) ∧
                                                                     ((ts1 = ts1) ∧
                                                                      (((sizeL ts1) ≤ (1048576 : Nat)) ∧
                                                                       (True ∧
                                                                        (((T.SbO (T.mk k0 n0 ts0) (0 : Int) (T.mk k1 n1 ts1)) = (T.SbO (T.mk k0 n0 ts0) (0 : Int) (T.mk k1 n1 ts1))) ∧
                                                                         (((sizeL (T.kids (T.SbR (T.mk k0 n0 ts0) (0 : Int) (T.mk k1 n1 ts1)))) ≤ (1099511627776 : Nat)) ∧
                                                                          (Br (Bool.not (T.same (T.mk (T.k (T.SbR (T.mk k0 n0 ts0) (0 : Int) (T.mk k1 n1 ts1))) (T.n (T.SbR (T.mk k0 n0 ts0) (0 : Int) (T.mk k1 n1 ts1))) (T.kids (T.SbR (T.mk k0 n0 ts0) (0 : Int) (T.mk k1 n1 ts1)))) (T.mk (T.k (T.SbR (T.mk k0 n0 ts0) (0 : Int) (T.mk k1 n1 ts1))) (T.n (T.SbR (T.mk k0 n0 ts0) (0 : Int) (T.mk k1 n1 ts1))) (T.kids (T.SbR (T.mk k0 n0 ts0) (0 : Int) (T.mk k1 n1 ts1))))))
                                                                            (Ret K (.bool false) [])
                                                                            (Br (bne (T.SbO (T.mk k0 n0 ts0) (0 : Int) (T.mk k1 n1 ts1)) (T.SbO (T.mk k0 n0 ts0) (0 : Int) (T.mk k1 n1 ts1)))
                                                                              (Ret K (.bool false) [])
                                                                              (((((0 : Int) ≤ (1 : Int)) ∧
                                                                                 (((1 : Int) + ((2 : Int) * (((sizeL (markL (T.kids (T.SbR (T.mk k0 n0 ts0) (0 : Int) (T.mk k1 n1 ts1))) (1 : Int))) : Nat) : Int))) ≤ (1000000000000 : Int))) ∧
                                                                                (∃ us : (List T), ((markL (T.kids (T.SbR (T.mk k0 n0 ts0) (0 : Int) (T.mk k1 n1 ts1))) (1 : Int)) = (markL us (1 : Int))))) ∧
                                                                               (Br (Decidable.decide (((1 : Int) + ((2 : Int) * (((sizeL (markL (T.kids (T.SbR (T.mk k0 n0 ts0) (0 : Int) (T.mk k1 n1 ts1))) (1 : Int))) : Nat) : Int))) ≠ ((1 : Int) + ((2 : Int) * (((sizeL (T.kids (T.SbR (T.mk k0 n0 ts0) (0 : Int) (T.mk k1 n1 ts1)))) : Nat) : Int)))))
                                                                                 (Ret K (.bool false) [])
                                                                                 (Ret K (.bool true) []))))))))))))))))))) ∧
                                                            ((((sizeL ts0) ≤ (1048576 : Nat)) ∧
                                                              ((k1 = k1) ∧
                                                               ((n1 = n1) ∧
                                                                ((ts1 = ts1) ∧
                                                                 ((k1 = k1) ∧
                                                                  ((n1 = n1) ∧
                                                                   ((ts1 = ts1) ∧
                                                                    (((sizeL ts1) ≤ (1048576 : Nat)) ∧
                                                                     (True ∧
                                                                      (((T.SbO (T.mk k0 n0 ts0) (0 : Int) (T.mk k1 n1 ts1)) = (T.SbO (T.mk k0 n0 ts0) (0 : Int) (T.mk k1 n1 ts1))) ∧
                                                                       (((sizeL (T.kids (T.SbR (T.mk k0 n0 ts0) (0 : Int) (T.mk k1 n1 ts1)))) ≤ (1099511627776 : Nat)) ∧
                                                                        (Br (Bool.not (T.same (T.mk (T.k (T.SbR (T.mk k0 n0 ts0) (0 : Int) (T.mk k1 n1 ts1))) (T.n (T.SbR (T.mk k0 n0 ts0) (0 : Int) (T.mk k1 n1 ts1))) (T.kids (T.SbR (T.mk k0 n0 ts0) (0 : Int) (T.mk k1 n1 ts1)))) (T.mk (T.k (T.SbR (T.mk k0 n0 ts0) (0 : Int) (T.mk k1 n1 ts1))) (T.n (T.SbR (T.mk k0 n0 ts0) (0 : Int) (T.mk k1 n1 ts1))) (T.kids (T.SbR (T.mk k0 n0 ts0) (0 : Int) (T.mk k1 n1 ts1))))))
                                                                          (Ret K (.bool false) [])
                                                                          (Br (bne (T.SbO (T.mk k0 n0 ts0) (0 : Int) (T.mk k1 n1 ts1)) (T.SbO (T.mk k0 n0 ts0) (0 : Int) (T.mk k1 n1 ts1)))
                                                                            (Ret K (.bool false) [])
                                                                            (((((0 : Int) ≤ (1 : Int)) ∧
                                                                               (((1 : Int) + ((2 : Int) * (((sizeL (markL (T.kids (T.SbR (T.mk k0 n0 ts0) (0 : Int) (T.mk k1 n1 ts1))) (1 : Int))) : Nat) : Int))) ≤ (1000000000000 : Int))) ∧
                                                                              (∃ us : (List T), ((markL (T.kids (T.SbR (T.mk k0 n0 ts0) (0 : Int) (T.mk k1 n1 ts1))) (1 : Int)) = (markL us (1 : Int))))) ∧
                                                                             (Br (Decidable.decide (((1 : Int) + ((2 : Int) * (((sizeL (markL (T.kids (T.SbR (T.mk k0 n0 ts0) (0 : Int) (T.mk k1 n1 ts1))) (1 : Int))) : Nat) : Int))) ≠ ((1 : Int) + ((2 : Int) * (((sizeL (T.kids (T.SbR (T.mk k0 n0 ts0) (0 : Int) (T.mk k1 n1 ts1)))) : Nat) : Int)))))
                                                                               (Ret K (.bool false) [])
                                                                               (Ret K (.bool true) [])))))))))))))))) ∧
                                                             ((((sizeL ts0) ≤ (1048576 : Nat)) ∧
                                                               ((k1 = k1) ∧
                                                                ((n1 = n1) ∧
                                                                 ((ts1 = ts1) ∧
                                                                  (((sizeL ts1) ≤ (1048576 : Nat)) ∧
                                                                   (True ∧
                                                                    (((T.SbO (T.mk k0 n0 ts0) (0 : Int) (T.mk k1 n1 ts1)) = (T.SbO (T.mk k0 n0 ts0) (0 : Int) (T.mk k1 n1 ts1))) ∧
                                                                     (((sizeL (T.kids (T.SbR (T.mk k0 n0 ts0) (0 : Int) (T.mk k1 n1 ts1)))) ≤ (1099511627776 : Nat)) ∧
                                                                      (Br (Bool.not (T.same (T.mk (T.k (T.SbR (T.mk k0 n0 ts0) (0 : Int) (T.mk k1 n1 ts1))) (T.n (T.SbR (T.mk k0 n0 ts0) (0 : Int) (T.mk k1 n1 ts1))) (T.kids (T.SbR (T.mk k0 n0 ts0) (0 : Int) (T.mk k1 n1 ts1)))) (T.mk (T.k (T.SbR (T.mk k0 n0 ts0) (0 : Int) (T.mk k1 n1 ts1))) (T.n (T.SbR (T.mk k0 n0 ts0) (0 : Int) (T.mk k1 n1 ts1))) (T.kids (T.SbR (T.mk k0 n0 ts0) (0 : Int) (T.mk k1 n1 ts1))))))
                                                                        (Ret K (.bool false) [])
                                                                        (Br (bne (T.SbO (T.mk k0 n0 ts0) (0 : Int) (T.mk k1 n1 ts1)) (T.SbO (T.mk k0 n0 ts0) (0 : Int) (T.mk k1 n1 ts1)))
                                                                          (Ret K (.bool false) [])
                                                                          (((((0 : Int) ≤ (1 : Int)) ∧
                                                                             (((1 : Int) + ((2 : Int) * (((sizeL (markL (T.kids (T.SbR (T.mk k0 n0 ts0) (0 : Int) (T.mk k1 n1 ts1))) (1 : Int))) : Nat) : Int))) ≤ (1000000000000 : Int))) ∧
                                                                            (∃ us : (List T), ((markL (T.kids (T.SbR (T.mk k0 n0 ts0) (0 : Int) (T.mk k1 n1 ts1))) (1 : Int)) = (markL us (1 : Int))))) ∧
                                                                           (Br (Decidable.decide (((1 : Int) + ((2 : Int) * (((sizeL (markL (T.kids (T.SbR (T.mk k0 n0 ts0) (0 : Int) (T.mk k1 n1 ts1))) (1 : Int))) : Nat) : Int))) ≠ ((1 : Int) + ((2 : Int) * (((sizeL (T.kids (T.SbR (T.mk k0 n0 ts0) (0 : Int) (T.mk k1 n1 ts1)))) : Nat) : Int)))))
                                                                             (Ret K (.bool false) [])
                                                                             (Ret K (.bool true) []))))))))))))) ∧
                                                              (((sizeL ts0) ≤ (1048576 : Nat)) ∧
                                                               ((k1 = k1) ∧
                                                                ((n1 = n1) ∧
                                                                 ((ts1 = ts1) ∧
                                                                  (((sizeL ts1) ≤ (1048576 : Nat)) ∧
                                                                   (True ∧
                                                                    (((T.SbO (T.mk k0 n0 ts0) (0 : Int) (T.mk k1 n1 ts1)) = (T.SbO (T.mk k0 n0 ts0) (0 : Int) (T.mk k1 n1 ts1))) ∧
                                                                     (((T.k (T.SbR (T.mk k0 n0 ts0) (0 : Int) (T.mk k1 n1 ts1))) = (T.k (T.SbR (T.mk k0 n0 ts0) (0 : Int) (T.mk k1 n1 ts1)))) ∧
                                                                      (((T.n (T.SbR (T.mk k0 n0 ts0) (0 : Int) (T.mk k1 n1 ts1))) = (T.n (T.SbR (T.mk k0 n0 ts0) (0 : Int) (T.mk k1 n1 ts1)))) ∧
                                                                       (((T.kids (T.SbR (T.mk k0 n0 ts0) (0 : Int) (T.mk k1 n1 ts1))) = (T.kids (T.SbR (T.mk k0 n0 ts0) (0 : Int) (T.mk k1 n1 ts1)))) ∧
                                                                        (((T.k (T.SbR (T.mk k0 n0 ts0) (0 : Int) (T.mk k1 n1 ts1))) = (T.k (T.SbR (T.mk k0 n0 ts0) (0 : Int) (T.mk k1 n1 ts1)))) ∧
                                                                         (((T.n (T.SbR (T.mk k0 n0 ts0) (0 : Int) (T.mk k1 n1 ts1))) = (T.n (T.SbR (T.mk k0 n0 ts0) (0 : Int) (T.mk k1 n1 ts1)))) ∧
                                                                          (((T.kids (T.SbR (T.mk k0 n0 ts0) (0 : Int) (T.mk k1 n1 ts1))) = (T.kids (T.SbR (T.mk k0 n0 ts0) (0 : Int) (T.mk k1 n1 ts1)))) ∧
                                                                           (((T.SbO (T.mk k0 n0 ts0) (0 : Int) (T.mk k1 n1 ts1)) = (T.SbO (T.mk k0 n0 ts0) (0 : Int) (T.mk k1 n1 ts1))) ∧
                                                                            (((T.SbO (T.mk k0 n0 ts0) (0 : Int) (T.mk k1 n1 ts1)) = (T.SbO (T.mk k0 n0 ts0) (0 : Int) (T.mk k1 n1 ts1))) ∧
                                                                             (((sizeL (T.kids (T.SbR (T.mk k0 n0 ts0) (0 : Int) (T.mk k1 n1 ts1)))) ≤ (1099511627776 : Nat)) ∧
                                                                              (Br (Bool.not (T.same (T.mk (T.k (T.SbR (T.mk k0 n0 ts0) (0 : Int) (T.mk k1 n1 ts1))) (T.n (T.SbR (T.mk k0 n0 ts0) (0 : Int) (T.mk k1 n1 ts1))) (T.kids (T.SbR (T.mk k0 n0 ts0) (0 : Int) (T.mk k1 n1 ts1)))) (T.mk (T.k (T.SbR (T.mk k0 n0 ts0) (0 : Int) (T.mk k1 n1 ts1))) (T.n (T.SbR (T.mk k0 n0 ts0) (0 : Int) (T.mk k1 n1 ts1))) (T.kids (T.SbR (T.mk k0 n0 ts0) (0 : Int) (T.mk k1 n1 ts1))))))
                                                                                (Ret K (.bool false) [])
                                                                                (Br (bne (T.SbO (T.mk k0 n0 ts0) (0 : Int) (T.mk k1 n1 ts1)) (T.SbO (T.mk k0 n0 ts0) (0 : Int) (T.mk k1 n1 ts1)))
                                                                                  (Ret K (.bool false) [])
                                                                                  (((((0 : Int) ≤ (1 : Int)) ∧
                                                                                     (((1 : Int) + ((2 : Int) * (((sizeL (markL (T.kids (T.SbR (T.mk k0 n0 ts0) (0 : Int) (T.mk k1 n1 ts1))) (1 : Int))) : Nat) : Int))) ≤ (1000000000000 : Int))) ∧
                                                                                    (∃ us : (List T), ((markL (T.kids (T.SbR (T.mk k0 n0 ts0) (0 : Int) (T.mk k1 n1 ts1))) (1 : Int)) = (markL us (1 : Int))))) ∧
                                                                                   (Br (Decidable.decide (((1 : Int) + ((2 : Int) * (((sizeL (markL (T.kids (T.SbR (T.mk k0 n0 ts0) (0 : Int) (T.mk k1 n1 ts1))) (1 : Int))) : Nat) : Int))) ≠ ((1 : Int) + ((2 : Int) * (((sizeL (T.kids (T.SbR (T.mk k0 n0 ts0) (0 : Int) (T.mk k1 n1 ts1)))) : Nat) : Int)))))
                                                                                     (Ret K (.bool false) [])
                                                                                     (Ret K (.bool true) []))))))))))))))))))))))))))))))))))))))))))))))))))))))))))))))) ∧
             ((((sizeL ts0) ≤ (1048576 : Nat)) ∧
               ((k1 = k1) ∧
                ((n1 = n1) ∧
                 ((ts1 = ts1) ∧
                  ((k1 = k1) ∧
                   ((n1 = n1) ∧
                    ((ts1 = ts1) ∧
                     (((sizeL ts1) ≤ (1048576 : Nat)) ∧
                      (True ∧
                       (((T.SbO (T.mk k0 n0 ts0) (0 : Int) (T.mk k1 n1 ts1)) = (T.SbO (T.mk k0 n0 ts0) (0 : Int) (T.mk k1 n1 ts1))) ∧
                        (((sizeL ts0) ≤ (1048576 : Nat)) ∧
                         (((sizeL ts1) ≤ (1048576 : Nat)) ∧
                          (True ∧
                           (((sizeL (T.kids (T.SbR (T.mk k0 n0 ts0) (0 : Int) (T.mk k1 n1 ts1)))) ≤ (1099511627776 : Nat)) ∧
                            (Br (Bool.not (T.same (T.mk (T.k (T.SbR (T.mk k0 n0 ts0) (0 : Int) (T.mk k1 n1 ts1))) (T.n (T.SbR (T.mk k0 n0 ts0) (0 : Int) (T.mk k1 n1 ts1))) (T.kids (T.SbR (T.mk k0 n0 ts0) (0 : Int) (T.mk k1 n1 ts1)))) (T.mk (T.k (T.SbR (T.mk k0 n0 ts0) (0 : Int) (T.mk k1 n1 ts1))) (T.n (T.SbR (T.mk k0 n0 ts0) (0 : Int) (T.mk k1 n1 ts1))) (T.kids (T.SbR (T.mk k0 n0 ts0) (0 : Int) (T.mk k1 n1 ts1))))))
                              (Ret K (.bool false) [])
                              (Br (bne (T.SbO (T.mk k0 n0 ts0) (0 : Int) (T.mk k1 n1 ts1)) (T.SbO (T.mk k0 n0 ts0) (0 : Int) (T.mk k1 n1 ts1)))
                                (Ret K (.bool false) [])
                                (((sizeL ts0) ≤ (1048576 : Nat)) ∧
                                 ((k0 = k0) ∧
                                  ((n0 = n0) ∧
                                   ((ts0 = ts0) ∧
                                    (((sizeL ts0) ≤ (1099511627776 : Nat)) ∧
                                     (Br (Bool.not (T.same (T.mk k0 n0 ts0) (T.mk k0 n0 ts0)))
                                       (Ret K (.bool false) [])
                                       (((sizeL ts1) ≤ (1048576 : Nat)) ∧
                                        ((k1 = k1) ∧
                                         ((n1 = n1) ∧
                                          ((ts1 = ts1) ∧
                                           (((sizeL ts1) ≤ (1099511627776 : Nat)) ∧
                                            (Br (Bool.not (T.same (T.mk k1 n1 ts1) (T.mk k1 n1 ts1)))
                                              (Ret K (.bool false) [])
                                              ((((0 : Int) ≤ (1 : Int)) ∧ (((1 : Int) + ((2 : Int) * (((sizeL ts0) : Nat) : Int))) ≤ (9223372036854775807 : Int))) ∧
                                               ((((0 : Int) ≤ ((1 : Int) + ((2 : Int) * (((sizeL ts0) : Nat) : Int)))) ∧
                                                 ((((1 : Int) + ((2 : Int) * (((sizeL ts0) : Nat) : Int))) + ((2 : Int) * (((sizeL ts1) : Nat) : Int))) ≤ (9223372036854775807 : Int))) ∧
                                                (((sizeL (T.kids (T.SbR (T.mk k0 n0 ts0) (0 : Int) (T.mk k1 n1 ts1)))) ≤ (1099511627776 : Nat)) ∧
                                                 (Br (Bool.not (T.same (T.mk (T.k (T.SbR (T.mk k0 n0 ts0) (0 : Int) (T.mk k1 n1 ts1))) (T.n (T.SbR (T.mk k0 n0 ts0) (0 : Int) (T.mk k1 n1 ts1))) (T.kids (T.SbR (T.mk k0 n0 ts0) (0 : Int) (T.mk k1 n1 ts1)))) (T.mk (T.k (T.SbR (T.mk k0 n0 ts0) (0 : Int) (T.mk k1 n1 ts1))) (T.n (T.SbR (T.mk k0 n0 ts0) (0 : Int) (T.mk k1 n1 ts1))) (T.kids (T.SbR (T.mk k0 n0 ts0) (0 : Int) (T.mk k1 n1 ts1))))))
                                                   (Ret K (.bool false) [])
                                                   (Br (bne (T.SbO (T.mk k0 n0 ts0) (0 : Int) (T.mk k1 n1 ts1)) (T.SbO (T.mk k0 n0 ts0) (0 : Int) (T.mk k1 n1 ts1)))
                                                     (Ret K (.bool false) [])
                                                     ((((0 : Int) ≤ (1 : Int)) ∧
                                                       (((1 : Int) + ((2 : Int) * (((sizeL (T.kids (T.SbR (T.mk k0 n0 ts0) (0 : Int) (T.mk k1 n1 ts1)))) : Nat) : Int))) ≤ (9223372036854775807 : Int))) ∧
                                                      (((((0 : Int) ≤ (1 : Int)) ∧
                                                         (((1 : Int) + ((2 : Int) * (((sizeL (markL (T.kids (T.SbR (T.mk k0 n0 ts0) (0 : Int) (T.mk k1 n1 ts1))) (1 : Int))) : Nat) : Int))) ≤ (1000000000000 : Int))) ∧
                                                        (∃ us : (List T), ((markL (T.kids (T.SbR (T.mk k0 n0 ts0) (0 : Int) (T.mk k1 n1 ts1))) (1 : Int)) = (markL us (1 : Int))))) ∧
                                                       (Br (Decidable.decide (((1 : Int) + ((2 : Int) * (((sizeL (markL (T.kids (T.SbR (T.mk k0 n0 ts0) (0 : Int) (T.mk k1 n1 ts1))) (1 : Int))) : Nat) : Int))) ≠ ((1 : Int) + ((2 : Int) * (((sizeL (T.kids (T.SbR (T.mk k0 n0 ts0) (0 : Int) (T.mk k1 n1 ts1)))) : Nat) : Int)))))
                                                         (Ret K (.bool false) [])
                                                         (((k1 = k1) ∧
                                                           ((n1 = n1) ∧
                                                            ((ts1 = ts1) ∧
                                                             ((k0 = k0) ∧
                                                              ((n0 = n0) ∧
                                                               ((ts0 = ts0) ∧
                                                                (((sizeL ts0) ≤ (1048576 : Nat)) ∧
                                                                 ((k1 = k1) ∧
                                                                  ((n1 = n1) ∧
                                                                   ((ts1 = ts1) ∧
                                                                    (((sizeL ts1) ≤ (1048576 : Nat)) ∧
                                                                     (True ∧
                                                                      (((T.SbO (T.mk k0 n0 ts0) (0 : Int) (T.mk k1 n1 ts1)) = (T.SbO (T.mk k0 n0 ts0) (0 : Int) (T.mk k1 n1 ts1))) ∧
                                                                       (((sizeL (T.kids (T.SbR (T.mk k0 n0 ts0) (0 : Int) (T.mk k1 n1 ts1)))) ≤ (1099511627776 : Nat)) ∧
                                                                        (Br (Bool.not (T.same (T.mk (T.k (T.SbR (T.mk k0 n0 ts0) (0 : Int) (T.mk k1 n1 ts1))) (T.n (T.SbR (T.mk k0 n0 ts0) (0 : Int) (T.mk k1 n1 ts1))) (T.kids (T.SbR (T.mk k0 n0 ts0) (0 : Int) (T.mk k1 n1 ts1)))) (T.mk (T.k (T.SbR (T.mk k0 n0 ts0) (0 : Int) (T.mk k1 n1 ts1))) (T.n (T.SbR (T.mk k0 n0 ts0) (0 : Int) (T.mk k1 n1 ts1))) (T.kids (T.SbR (T.mk k0 n0 ts0) (0 : Int) (T.mk k1 n1 ts1))))))
                                                                          (Ret K (.bool false) [])
                                                                          (Br (bne (T.SbO (T.mk k0 n0 ts0) (0 : Int) (T.mk k1 n1 ts1)) (T.SbO (T.mk k0 n0 ts0) (0 : Int) (T.mk k1 n1 ts1)))
                                                                            (Ret K (.bool false) [])
                                                                            (((((0 : Int) ≤ (1 : Int)) ∧
                                                                               (((1 : Int) + ((2 : Int) * (((sizeL (markL (T.kids (T.SbR (T.mk k0 n0 ts0) (0 : Int) (T.mk k1 n1 ts1))) (1 : Int))) : Nat) : Int))) ≤ (1000000000000 : Int))) ∧
                                                                              (∃ us : (List T), ((markL (T.kids (T.SbR (T.mk k0 n0 ts0) (0 : Int) (T.mk k1 n1 ts1))) (1 : Int)) = (markL us (1 : Int))))) ∧
                                                                             (Br (Decidable.decide (((1 : Int) + ((2 : Int) * (((sizeL (markL (T.kids (T.SbR (T.mk k0 n0 ts0) (0 : Int) (T.mk k1 n1 ts1))) (1 : Int))) : Nat) : Int))) ≠ ((1 : Int) + ((2 : Int) * (((sizeL (T.kids (T.SbR (T.mk k0 n0 ts0) (0 : Int) (T.mk k1 n1 ts1)))) : Nat) : Int)))))
                                                                               (Ret K (.bool false) [])
                                                                               (Ret K (.bool true) []))))))))))))))))))) ∧
                                                          ((((sizeL ts0) ≤ (1048576 : Nat)) ∧
                                                            ((k1 = k1) ∧
                                                             ((n1 = n1) ∧
                                                              ((ts1 = ts1) ∧
                                                               ((k1 = k1) ∧
                                                                ((n1 = n1) ∧
                                                                 ((ts1 = ts1) ∧
                                                                  (((sizeL ts1) ≤ (1048576 : Nat)) ∧
                                                                   (True ∧
                                                                    (((T.SbO (T.mk k0 n0 ts0) (0 : Int) (T.mk k1 n1 ts1)) = (T.SbO (T.mk k0 n0 ts0) (0 : Int) (T.mk k1 n1 ts1))) ∧
                                                                     (((sizeL (T.kids (T.SbR (T.mk k0 n0 ts0) (0 : Int) (T.mk k1 n1 ts1)))) ≤ (1099511627776 : Nat)) ∧
                                                                      (Br (Bool.not (T.same (T.mk (T.k (T.SbR (T.mk k0 n0 ts0) (0 : Int) (T.mk k1 n1 ts1))) (T.n (T.SbR (T.mk k0 n0 ts0) (0 : Int) (T.mk k1 n1 ts1))) (T.kids (T.SbR (T.mk k0 n0 ts0) (0 : Int) (T.mk k1 n1 ts1)))) (T.mk (T.k (T.SbR (T.mk k0 n0 ts0) (0 : Int) (T.mk k1 n1 ts1))) (T.n (T.SbR (T.mk k0 n0 ts0) (0 : Int) (T.mk k1 n1 ts1))) (T.kids (T.SbR (T.mk k0 n0 ts0) (0 : Int) (T.mk k1 n1 ts1))))))
                                                                        (Ret K (.bool false) [])
                                                                        (Br (bne (T.SbO (T.mk k0 n0 ts0) (0 : Int) (T.mk k1 n1 ts1)) (T.SbO (T.mk k0 n0 ts0) (0 : Int) (T.mk k1 n1 ts1)))
                                                                          (Ret K (.bool false) [])
                                                                          (((((0 : Int) ≤ (1 : Int)) ∧
                                                                             (((1 : Int) + ((2 : Int) * (((sizeL (markL (T.kids (T.SbR (T.mk k0 n0 ts0) (0 : Int) (T.mk k1 n1 ts1))) (1 : Int))) : Nat) : Int))) ≤ (1000000000000 : Int))) ∧
                                                                            (∃ us : (List T), ((markL (T.kids (T.SbR (T.mk k0 n0 ts0) (0 : Int) (T.mk k1 n1 ts1))) (1 : Int)) = (markL us (1 : Int))))) ∧
                                                                           (Br (Decidable.decide (((1 : Int) + ((2 : Int) * (((sizeL (markL (T.kids (T.SbR (T.mk k0 n0 ts0) (0 : Int) (T.mk k1 n1 ts1))) (1 : Int))) : Nat) : Int))) ≠ ((1 : Int) + ((2 : Int) * (((sizeL (T.kids (T.SbR (T.mk k0 n0 ts0) (0 : Int) (T.mk k1 n1 ts1)))) : Nat) : Int)))))
                                                                             (Ret K (.bool false) [])
                                                                             (Ret K (.bool true) [])))))))))))))))) ∧
                                                           ((((sizeL ts0) ≤ (1048576 : Nat)) ∧
                                                             ((k1 = k1) ∧
                                                              ((n1 = n1) ∧
                                                               ((ts1 = ts1) ∧
                                                                (((sizeL ts1) ≤ (1048576 : Nat)) ∧
                                                                 (True ∧
                                                                  (((T.SbO (T.mk k0 n0 ts0) (0 : Int) (T.mk k1 n1 ts1)) = (T.SbO (T.mk k0 n0 ts0) (0 : Int) (T.mk k1 n1 ts1))) ∧
                                                                   (((sizeL (T.kids (T.SbR (T.mk k0 n0 ts0) (0 : Int) (T.mk k1 n1 ts1)))) ≤ (1099511627776 : Nat)) ∧
                                                                    (Br (Bool.not (T.same (T.mk (T.k (T.SbR (T.mk k0 n0 ts0) (0 : Int) (T.mk k1 n1 ts1))) (T.n (T.SbR (T.mk k0 n0 ts0) (0 : Int) (T.mk k1 n1 ts1))) (T.kids (T.SbR (T.mk k0 n0 ts0) (0 : Int) (T.mk k1 n1 ts1)))) (T.mk (T.k (T.SbR (T.mk k0 n0 ts0) (0 : Int) (T.mk k1 n1 ts1))) (T.n (T.SbR (T.mk k0 n0 ts0) (0 : Int) (T.mk k1 n1 ts1))) (T.kids (T.SbR (T.mk k0 n0 ts0) (0 : Int) (T.mk k1 n1 ts1))))))
                                                                      (Ret K (.bool false) [])
                                                                      (Br (bne (T.SbO (T.mk k0 n0 ts0) (0 : Int) (T.mk k1 n1 ts1)) (T.SbO (T.mk k0 n0 ts0) (0 : Int) (T.mk k1 n1 ts1)))
                                                                        (Ret K (.bool false) [])
                                                                        (((((0 : Int) ≤ (1 : Int)) ∧
                                                                           (((1 : Int) + ((2 : Int) * (((sizeL (markL (T.kids (T.SbR (T.mk k0 n0 ts0) (0 : Int) (T.mk k1 n1 ts1))) (1 : Int))) : Nat) : Int))) ≤ (1000000000000 : Int))) ∧
                                                                          (∃ us : (List T), ((markL (T.kids (T.SbR (T.mk k0 n0 ts0) (0 : Int) (T.mk k1 n1 ts1))) (1 : Int)) = (markL us (1 : Int))))) ∧
                                                                         (Br (Decidable.decide (((1 : Int) + ((2 : Int) * (((sizeL (markL (T.kids (T.SbR (T.mk k0 n0 ts0) (0 : Int) (T.mk k1 n1 ts1))) (1 : Int))) : Nat) : Int))) ≠ ((1 : Int) + ((2 : Int) * (((sizeL (T.kids (T.SbR (T.mk k0 n0 ts0) (0 : Int) (T.mk k1 n1 ts1)))) : Nat) : Int)))))
                                                                           (Ret K (.bool false) [])
                                                                           (Ret K (.bool true) []))))))))))))) ∧
                                                            (((sizeL ts0) ≤ (1048576 : Nat)) ∧
                                                             ((k1 = k1) ∧
                                                              ((n1 = n1) ∧
                                                               ((ts1 = ts1) ∧
                                                                (((sizeL ts1) ≤ (1048576 : Nat)) ∧
                                                                 (True ∧
                                                                  (((T.SbO (T.mk k0 n0 ts0) (0 : Int) (T.mk k1 n1 ts1)) = (T.SbO (T.mk k0 n0 ts0) (0 : Int) (T.mk k1 n1 ts1))) ∧
                                                                   (((T.k (T.SbR (T.mk k0 n0 ts0) (0 : Int) (T.mk k1 n1 ts1))) = (T.k (T.SbR (T.mk k0 n0 ts0) (0 : Int) (T.mk k1 n1 ts1)))) ∧
                                                                    (((T.n (T.SbR (T.mk k0 n0 ts0) (0 : Int) (T.mk k1 n1 ts1))) = (T.n (T.SbR (T.mk k0 n0 ts0) (0 : Int) (T.mk k1 n1 ts1)))) ∧
                                                                     (((T.kids (T.SbR (T.mk k0 n0 ts0) (0 : Int) (T.mk k1 n1 ts1))) = (T.kids (T.SbR (T.mk k0 n0 ts0) (0 : Int) (T.mk k1 n1 ts1)))) ∧
                                                                      (((T.k (T.SbR (T.mk k0 n0 ts0) (0 : Int) (T.mk k1 n1 ts1))) = (T.k (T.SbR (T.mk k0 n0 ts0) (0 : Int) (T.mk k1 n1 ts1)))) ∧
                                                                       (((T.n (T.SbR (T.mk k0 n0 ts0) (0 : Int) (T.mk k1 n1 ts1))) = (T.n (T.SbR (T.mk k0 n0 ts0) (0 : Int) (T.mk k1 n1 ts1)))) ∧
                                                                        (((T.kids (T.SbR (T.mk k0 n0 ts0) (0 : Int) (T.mk k1 n1 ts1))) = (T.kids (T.SbR (T.mk k0 n0 ts0) (0 : Int) (T.mk k1 n1 ts1)))) ∧
                                                                         (((T.SbO (T.mk k0 n0 ts0) (0 : Int) (T.mk k1 n1 ts1)) = (T.SbO (T.mk k0 n0 ts0) (0 : Int) (T.mk k1 n1 ts1))) ∧
                                                                          (((T.SbO (T.mk k0 n0 ts0) (0 : Int) (T.mk k1 n1 ts1)) = (T.SbO (T.mk k0 n0 ts0) (0 : Int) (T.mk k1 n1 ts1))) ∧
                                                                           (((sizeL (T.kids (T.SbR (T.mk k0 n0 ts0) (0 : Int) (T.mk k1 n1 ts1)))) ≤ (1099511627776 : Nat)) ∧
                                                                            (Br (Bool.not (T.same (T.mk (T.k (T.SbR (T.mk k0 n0 ts0) (0 : Int) (T.mk k1 n1 ts1))) (T.n (T.SbR (T.mk k0 n0 ts0) (0 : Int) (T.mk k1 n1 ts1))) (T.kids (T.SbR (T.mk k0 n0 ts0) (0 : Int) (T.mk k1 n1 ts1)))) (T.mk (T.k (T.SbR (T.mk k0 n0 ts0) (0 : Int) (T.mk k1 n1 ts1))) (T.n (T.SbR (T.mk k0 n0 ts0) (0 : Int) (T.mk k1 n1 ts1))) (T.kids (T.SbR (T.mk k0 n0 ts0) (0 : Int) (T.mk k1 n1 ts1))))))
                                                                              (Ret K (.bool false) [])
                                                                              (Br (bne (T.SbO (T.mk k0 n0 ts0) (0 : Int) (T.mk k1 n1 ts1)) (T.SbO (T.mk k0 n0 ts0) (0 : Int) (T.mk k1 n1 ts1)))
                                                                                (Ret K (.bool false) [])
                                                                                (((((0 : Int) ≤ (1 : Int)) ∧
                                                                                   (((1 : Int) + ((2 : Int) * (((sizeL (markL (T.kids (T.SbR (T.mk k0 n0 ts0) (0 : Int) (T.mk k1 n1 ts1))) (1 : Int))) : Nat) : Int))) ≤ (1000000000000 : Int))) ∧
                                                                                  (∃ us : (List T), ((markL (T.kids (T.SbR (T.mk k0 n0 ts0) (0 : Int) (T.mk k1 n1 ts1))) (1 : Int)) = (markL us (1 : Int))))) ∧
                                                                                 (Br (Decidable.decide (((1 : Int) + ((2 : Int) * (((sizeL (markL (T.kids (T.SbR (T.mk k0 n0 ts0) (0 : Int) (T.mk k1 n1 ts1))) (1 : Int))) : Nat) : Int))) ≠ ((1 : Int) + ((2 : Int) * (((sizeL (T.kids (T.SbR (T.mk k0 n0 ts0) (0 : Int) (T.mk k1 n1 ts1)))) : Nat) : Int)))))
                                                                                   (Ret K (.bool false) [])
                                                                                   (Ret K (.bool true) [])))))))))))))))))))))))))))))))))))))))))))))))))))))))))))) ∧
              ((((sizeL ts0) ≤ (1048576 : Nat)) ∧
                ((k1 = k1) ∧
                 ((n1 = n1) ∧
                  ((ts1 = ts1) ∧
                   (((sizeL ts1) ≤ (1048576 : Nat)) ∧
                    (True ∧
                     (((T.SbO (T.mk k0 n0 ts0) (0 : Int) (T.mk k1 n1 ts1)) = (T.SbO (T.mk k0 n0 ts0) (0 : Int) (T.mk k1 n1 ts1))) ∧
                      (((sizeL ts0) ≤ (1048576 : Nat)) ∧
                       (((sizeL ts1) ≤ (1048576 : Nat)) ∧
                        (True ∧
                         (((sizeL (T.kids (T.SbR (T.mk k0 n0 ts0) (0 : Int) (T.mk k1 n1 ts1)))) ≤ (1099511627776 : Nat)) ∧
                          (Br (Bool.not (T.same (T.mk (T.k (T.SbR (T.mk k0 n0 ts0) (0 : Int) (T.mk k1 n1 ts1))) (T.n (T.SbR (T.mk k0 n0 ts0) (0 : Int) (T.mk k1 n1 ts1))) (T.kids (T.SbR (T.mk k0 n0 ts0) (0 : Int) (T.mk k1 n1 ts1)))) (T.mk (T.k (T.SbR (T.mk k0 n0 ts0) (0 : Int) (T.mk k1 n1 ts1))) (T.n (T.SbR (T.mk k0 n0 ts0) (0 : Int) (T.mk k1 n1 ts1))) (T.kids (T.SbR (T.mk k0 n0 ts0) (0 : Int) (T.mk k1 n1 ts1))))))
                            (Ret K (.bool false) [])
                            (Br (bne (T.SbO (T.mk k0 n0 ts0) (0 : Int) (T.mk k1 n1 ts1)) (T.SbO (T.mk k0 n0 ts0) (0 : Int) (T.mk k1 n1 ts1)))
                              (Ret K (.bool false) [])
                              (((sizeL ts0) ≤ (1048576 : Nat)) ∧
                               ((k0 = k0) ∧
                                ((n0 = n0) ∧
                                 ((ts0 = ts0) ∧
                                  (((sizeL ts0) ≤ (1099511627776 : Nat)) ∧
                                   (Br (Bool.not (T.same (T.mk k0 n0 ts0) (T.mk k0 n0 ts0)))
                                     (Ret K (.bool false) [])
                                     (((sizeL ts1) ≤ (1048576 : Nat)) ∧
                                      ((k1 = k1) ∧
                                       ((n1 = n1) ∧
                                        ((ts1 = ts1) ∧
                                         (((sizeL ts1) ≤ (1099511627776 : Nat)) ∧
                                          (Br (Bool.not (T.same (T.mk k1 n1 ts1) (T.mk k1 n1 ts1)))
                                            (Ret K (.bool false) [])
                                            ((((0 : Int) ≤ (1 : Int)) ∧ (((1 : Int) + ((2 : Int) * (((sizeL ts0) : Nat) : Int))) ≤ (9223372036854775807 : Int))) ∧
                                             ((((0 : Int) ≤ ((1 : Int) + ((2 : Int) * (((sizeL ts0) : Nat) : Int)))) ∧
                                               ((((1 : Int) + ((2 : Int) * (((sizeL ts0) : Nat) : Int))) + ((2 : Int) * (((sizeL ts1) : Nat) : Int))) ≤ (9223372036854775807 : Int))) ∧
                                              (((sizeL (T.kids (T.SbR (T.mk k0 n0 ts0) (0 : Int) (T.mk k1 n1 ts1)))) ≤ (1099511627776 : Nat)) ∧
                                               (Br (Bool.not (T.same (T.mk (T.k (T.SbR (T.mk k0 n0 ts0) (0 : Int) (T.mk k1 n1 ts1))) (T.n (T.SbR (T.mk k0 n0 ts0) (0 : Int) (T.mk k1 n1 ts1))) (T.kids (T.SbR (T.mk k0 n0 ts0) (0 : Int) (T.mk k1 n1 ts1)))) (T.mk (T.k (T.SbR (T.mk k0 n0 ts0) (0 : Int) (T.mk k1 n1 ts1))) (T.n (T.SbR (T.mk k0 n0 ts0) (0 : Int) (T.mk k1 n1 ts1))) (T.kids (T.SbR (T.mk k0 n0 ts0) (0 : Int) (T.mk k1 n1 ts1))))))
                                                 (Ret K (.bool false) [])
                                                 (Br (bne (T.SbO (T.mk k0 n0 ts0) (0 : Int) (T.mk k1 n1 ts1)) (T.SbO (T.mk k0 n0 ts0) (0 : Int) (T.mk k1 n1 ts1)))
                                                   (Ret K (.bool false) [])
                                                   ((((0 : Int) ≤ (1 : Int)) ∧
                                                     (((1 : Int) + ((2 : Int) * (((sizeL (T.kids (T.SbR (T.mk k0 n0 ts0) (0 : Int) (T.mk k1 n1 ts1)))) : Nat) : Int))) ≤ (9223372036854775807 : Int))) ∧
                                                    (((((0 : Int) ≤ (1 : Int)) ∧
                                                       (((1 : Int) + ((2 : Int) * (((sizeL (markL (T.kids (T.SbR (T.mk k0 n0 ts0) (0 : Int) (T.mk k1 n1 ts1))) (1 : Int))) : Nat) : Int))) ≤ (1000000000000 : Int))) ∧
                                                      (∃ us : (List T), ((markL (T.kids (T.SbR (T.mk k0 n0 ts0) (0 : Int) (T.mk k1 n1 ts1))) (1 : Int)) = (markL us (1 : Int))))) ∧
                                                     (Br (Decidable.decide (((1 : Int) + ((2 : Int) * (((sizeL (markL (T.kids (T.SbR (T.mk k0 n0 ts0) (0 : Int) (T.mk k1 n1 ts1))) (1 : Int))) : Nat) : Int))) ≠ ((1 : Int) + ((2 : Int) * (((sizeL (T.kids (T.SbR (T.mk k0 n0 ts0) (0 : Int) (T.mk k1 n1 ts1)))) : Nat) : Int)))))
                                                       (Ret K (.bool false) [])
                                                       (((k1 = k1) ∧
                                                         ((n1 = n1) ∧
                                                          ((ts1 = ts1) ∧
                                                           ((k0 = k0) ∧
                                                            ((n0 = n0) ∧
                                                             ((ts0 = ts0) ∧
                                                              (((sizeL ts0) ≤ (1048576 : Nat)) ∧
                                                               ((k1 = k1) ∧
                                                                ((n1 = n1) ∧
                                                                 ((ts1 = ts1) ∧
                                                                  (((sizeL ts1) ≤ (1048576 : Nat)) ∧
                                                                   (True ∧
                                                                    (((T.SbO (T.mk k0 n0 ts0) (0 : Int) (T.mk k1 n1 ts1)) = (T.SbO (T.mk k0 n0 ts0) (0 : Int) (T.mk k1 n1 ts1))) ∧
                                                                     (((sizeL (T.kids (T.SbR (T.mk k0 n0 ts0) (0 : Int) (T.mk k1 n1 ts1)))) ≤ (1099511627776 : Nat)) ∧
                                                                      (Br (Bool.not (T.same (T.mk (T.k (T.SbR (T.mk k0 n0 ts0) (0 : Int) (T.mk k1 n1 ts1))) (T.n (T.SbR (T.mk k0 n0 ts0) (0 : Int) (T.mk k1 n1 ts1))) (T.kids (T.SbR (T.mk k0 n0 ts0) (0 : Int) (T.mk k1 n1 ts1)))) (T.mk (T.k (T.SbR (T.mk k0 n0 ts0) (0 : Int) (T.mk k1 n1 ts1))) (T.n (T.SbR (T.mk k0 n0 ts0) (0 : Int) (T.mk k1 n1 ts1))) (T.kids (T.SbR (T.mk k0 n0 ts0) (0 : Int) (T.mk k1 n1 ts1))))))
                                                                        (Ret K (.bool false) [])
                                                                        (Br (bne (T.SbO (T.mk k0 n0 ts0) (0 : Int) (T.mk k1 n1 ts1)) (T.SbO (T.mk k0 n0 ts0) (0 : Int) (T.mk k1 n1 ts1)))
                                                                          (Ret K (.bool false) [])
                                                                          (((((0 : Int) ≤ (1 : Int)) ∧
                                                                             (((1 : Int) + ((2 : Int) * (((sizeL (markL (T.kids (T.SbR (T.mk k0 n0 ts0) (0 : Int) (T.mk k1 n1 ts1))) (1 : Int))) : Nat) : Int))) ≤ (1000000000000 : Int))) ∧
                                                                            (∃ us : (List T), ((markL (T.kids (T.SbR (T.mk k0 n0 ts0) (0 : Int) (T.mk k1 n1 ts1))) (1 : Int)) = (markL us (1 : Int))))) ∧
                                                                           (Br (Decidable.decide (((1 : Int) + ((2 : Int) * (((sizeL (markL (T.kids (T.SbR (T.mk k0 n0 ts0) (0 : Int) (T.mk k1 n1 ts1))) (1 : Int))) : Nat) : Int))) ≠ ((1 : Int) + ((2 : Int) * (((sizeL (T.kids (T.SbR (T.mk k0 n0 ts0) (0 : Int) (T.mk k1 n1 ts1)))) : Nat) : Int)))))
                                                                             (Ret K (.bool false) [])
                                                                             (Ret K (.bool true) []))))))))))))))))))) ∧
                                                        ((((sizeL ts0) ≤ (1048576 : Nat)) ∧
                                                          ((k1 = k1) ∧
                                                           ((n1 = n1) ∧
                                                            ((ts1 = ts1) ∧
                                                             ((k1 = k1) ∧
                                                              ((n1 = n1) ∧
                                                               ((ts1 = ts1) ∧
                                                                (((sizeL ts1) ≤ (1048576 : Nat)) ∧
                                                                 (True ∧
                                                                  (((T.SbO (T.mk k0 n0 ts0) (0 : Int) (T.mk k1 n1 ts1)) = (T.SbO (T.mk k0 n0 ts0) (0 : Int) (T.mk k1 n1 ts1))) ∧
                                                                   (((sizeL (T.kids (T.SbR (T.mk k0 n0 ts0) (0 : Int) (T.mk k1 n1 ts1)))) ≤ (1099511627776 : Nat)) ∧
                                                                    (Br (Bool.not (T.same (T.mk (T.k (T.SbR (T.mk k0 n0 ts0) (0 : Int) (T.mk k1 n1 ts1))) (T.n (T.SbR (T.mk k0 n0 ts0) (0 : Int) (T.mk k1 n1 ts1))) (T.kids (T.SbR (T.mk k0 n0 ts0) (0 : Int) (T.mk k1 n1 ts1)))) (T.mk (T.k (T.SbR (T.mk k0 n0 ts0) (0 : Int) (T.mk k1 n1 ts1))) (T.n (T.SbR (T.mk k0 n0 ts0) (0 : Int) (T.mk k1 n1 ts1))) (T.kids (T.SbR (T.mk k0 n0 ts0) (0 : Int) (T.mk k1 n1 ts1))))))
                                                                      (Ret K (.bool false) [])
                                                                      (Br (bne (T.SbO (T.mk k0 n0 ts0) (0 : Int) (T.mk k1 n1 ts1)) (T.SbO (T.mk k0 n0 ts0) (0 : Int) (T.mk k1 n1 ts1)))
                                                                        (Ret K (.bool false) [])
                                                                        (((((0 : Int) ≤ (1 : Int)) ∧
                                                                           (((1 : Int) + ((2 : Int) * (((sizeL (markL (T.kids (T.SbR (T.mk k0 n0 ts0) (0 : Int) (T.mk k1 n1 ts1))) (1 : Int))) : Nat) : Int))) ≤ (1000000000000 : Int))) ∧
                                                                          (∃ us : (List T), ((markL (T.kids (T.SbR (T.mk k0 n0 ts0) (0 : Int) (T.mk k1 n1 ts1))) (1 : Int)) = (markL us (1 : Int))))) ∧
                                                                         (Br (Decidable.decide (((1 : Int) + ((2 : Int) * (((sizeL (markL (T.kids (T.SbR (T.mk k0 n0 ts0) (0 : Int) (T.mk k1 n1 ts1))) (1 : Int))) : Nat) : Int))) ≠ ((1 : Int) + ((2 : Int) * (((sizeL (T.kids (T.SbR (T.mk k0 n0 ts0) (0 : Int) (T.mk k1 n1 ts1)))) : Nat) : Int)))))
                                                                           (Ret K (.bool false) [])
                                                                           (Ret K (.bool true) [])))))))))))))))) ∧
                                                         ((((sizeL ts0) ≤ (1048576 : Nat)) ∧
                                                           ((k1 = k1) ∧
                                                            ((n1 = n1) ∧
                                                             ((ts1 = ts1) ∧
                                                              (((sizeL ts1) ≤ (1048576 : Nat)) ∧
                                                               (True ∧
                                                                (((T.SbO (T.mk k0 n0 ts0) (0 : Int) (T.mk k1 n1 ts1)) = (T.SbO (T.mk k0 n0 ts0) (0 : Int) (T.mk k1 n1 ts1))) ∧
                                                                 (((sizeL (T.kids (T.SbR (T.mk k0 n0 ts0) (0 : Int) (T.mk k1 n1 ts1)))) ≤ (1099511627776 : Nat)) ∧
                                                                  (Br (Bool.not (T.same (T.mk (T.k (T.SbR (T.mk k0 n0 ts0) (0 : Int) (T.mk k1 n1 ts1))) (T.n (T.SbR (T.mk k0 n0 ts0) (0 : Int) (T.mk k1 n1 ts1))) (T.kids (T.SbR (T.mk k0 n0 ts0) (0 : Int) (T.mk k1 n1 ts1)))) (T.mk (T.k (T.SbR (T.mk k0 n0 ts0) (0 : Int) (T.mk k1 n1 ts1))) (T.n (T.SbR (T.mk k0 n0 ts0) (0 : Int) (T.mk k1 n1 ts1))) (T.kids (T.SbR (T.mk k0 n0 ts0) (0 : Int) (T.mk k1 n1 ts1))))))
                                                                    (Ret K (.bool false) [])
                                                                    (Br (bne (T.SbO (T.mk k0 n0 ts0) (0 : Int) (T.mk k1 n1 ts1)) (T.SbO (T.mk k0 n0 ts0) (0 : Int) (T.mk k1 n1 ts1)))
                                                                      (Ret K (.bool false) [])
                                                                      (((((0 : Int) ≤ (1 : Int)) ∧
                                                                         (((1 : Int) + ((2 : Int) * (((sizeL (markL (T.kids (T.SbR (T.mk k0 n0 ts0) (0 : Int) (T.mk k1 n1 ts1))) (1 : Int))) : Nat) : Int))) ≤ (1000000000000 : Int))) ∧
                                                                        (∃ us : (List T), ((markL (T.kids (T.SbR (T.mk k0 n0 ts0) (0 : Int) (T.mk k1 n1 ts1))) (1 : Int)) = (markL us (1 : Int))))) ∧
                                                                       (Br (Decidable.decide (((1 : Int) + ((2 : Int) * (((sizeL (markL (T.kids (T.SbR (T.mk k0 n0 ts0) (0 : Int) (T.mk k1 n1 ts1))) (1 : Int))) : Nat) : Int))) ≠ ((1 : Int) + ((2 : Int) * (((sizeL (T.kids (T.SbR (T.mk k0 n0 ts0) (0 : Int) (T.mk k1 n1 ts1)))) : Nat) : Int)))))
                                                                         (Ret K (.bool false) [])
                                                                         (Ret K (.bool true) []))))))))))))) ∧
                                                          (((sizeL ts0) ≤ (1048576 : Nat)) ∧
                                                           ((k1 = k1) ∧
                                                            ((n1 = n1) ∧
                                                             ((ts1 = ts1) ∧
                                                              (((sizeL ts1) ≤ (1048576 : Nat)) ∧
                                                               (True ∧
                                                                (((T.SbO (T.mk k0 n0 ts0) (0 : Int) (T.mk k1 n1 ts1)) = (T.SbO (T.mk k0 n0 ts0) (0 : Int) (T.mk k1 n1 ts1))) ∧
                                                                 (((T.k (T.SbR (T.mk k0 n0 ts0) (0 : Int) (T.mk k1 n1 ts1))) = (T.k (T.SbR (T.mk k0 n0 ts0) (0 : Int) (T.mk k1 n1 ts1)))) ∧
                                                                  (((T.n (T.SbR (T.mk k0 n0 ts0) (0 : Int) (T.mk k1 n1 ts1))) = (T.n (T.SbR (T.mk k0 n0 ts0) (0 : Int) (T.mk k1 n1 ts1)))) ∧
                                                                   (((T.kids (T.SbR (T.mk k0 n0 ts0) (0 : Int) (T.mk k1 n1 ts1))) = (T.kids (T.SbR (T.mk k0 n0 ts0) (0 : Int) (T.mk k1 n1 ts1)))) ∧
                                                                    (((T.k (T.SbR (T.mk k0 n0 ts0) (0 : Int) (T.mk k1 n1 ts1))) = (T.k (T.SbR (T.mk k0 n0 ts0) (0 : Int) (T.mk k1 n1 ts1)))) ∧
                                                                     (((T.n (T.SbR (T.mk k0 n0 ts0) (0 : Int) (T.mk k1 n1 ts1))) = (T.n (T.SbR (T.mk k0 n0 ts0) (0 : Int) (T.mk k1 n1 ts1)))) ∧
                                                                      (((T.kids (T.SbR (T.mk k0 n0 ts0) (0 : Int) (T.mk k1 n1 ts1))) = (T.kids (T.SbR (T.mk k0 n0 ts0) (0 : Int) (T.mk k1 n1 ts1)))) ∧
                                                                       (((T.SbO (T.mk k0 n0 ts0) (0 : Int) (T.mk k1 n1 ts1)) = (T.SbO (T.mk k0 n0 ts0) (0 : Int) (T.mk k1 n1 ts1))) ∧
                                                                        (((T.SbO (T.mk k0 n0 ts0) (0 : Int) (T.mk k1 n1 ts1)) = (T.SbO (T.mk k0 n0 ts0) (0 : Int) (T.mk k1 n1 ts1))) ∧
                                                                         (((sizeL (T.kids (T.SbR (T.mk k0 n0 ts0) (0 : Int) (T.mk k1 n1 ts1)))) ≤ (1099511627776 : Nat)) ∧
                                                                          (Br (Bool.not (T.same (T.mk (T.k (T.SbR (T.mk k0 n0 ts0) (0 : Int) (T.mk k1 n1 ts1))) (T.n (T.SbR (T.mk k0 n0 ts0) (0 : Int) (T.mk k1 n1 ts1))) (T.kids (T.SbR (T.mk k0 n0 ts0) (0 : Int) (T.mk k1 n1 ts1)))) (T.mk (T.k (T.SbR (T.mk k0 n0 ts0) (0 : Int) (T.mk k1 n1 ts1))) (T.n (T.SbR (T.mk k0 n0 ts0) (0 : Int) (T.mk k1 n1 ts1))) (T.kids (T.SbR (T.mk k0 n0 ts0) (0 : Int) (T.mk k1 n1 ts1))))))
                                                                            (Ret K (.bool false) [])
                                                                            (Br (bne (T.SbO (T.mk k0 n0 ts0) (0 : Int) (T.mk k1 n1 ts1)) (T.SbO (T.mk k0 n0 ts0) (0 : Int) (T.mk k1 n1 ts1)))
                                                                              (Ret K (.bool false) [])
                                                                              (((((0 : Int) ≤ (1 : Int)) ∧
                                                                                 (((1 : Int) + ((2 : Int) * (((sizeL (markL (T.kids (T.SbR (T.mk k0 n0 ts0) (0 : Int) (T.mk k1 n1 ts1))) (1 : Int))) : Nat) : Int))) ≤ (1000000000000 : Int))) ∧
                                                                                (∃ us : (List T), ((markL (T.kids (T.SbR (T.mk k0 n0 ts0) (0 : Int) (T.mk k1 n1 ts1))) (1 : Int)) = (markL us (1 : Int))))) ∧
                                                                               (Br (Decidable.decide (((1 : Int) + ((2 : Int) * (((sizeL (markL (T.kids (T.SbR (T.mk k0 n0 ts0) (0 : Int) (T.mk k1 n1 ts1))) (1 : Int))) : Nat) : Int))) ≠ ((1 : Int) + ((2 : Int) * (((sizeL (T.kids (T.SbR (T.mk k0 n0 ts0) (0 : Int) (T.mk k1 n1 ts1)))) : Nat) : Int)))))
                                                                                 (Ret K (.bool false) [])
                                                                                 (Ret K (.bool true) []))))))))))))))))))))))))))))))))))))))))))))))))))))))))) ∧
               (((sizeL ts0) ≤ (1048576 : Nat)) ∧
                ((k1 = k1) ∧
                 ((n1 = n1) ∧
                  ((ts1 = ts1) ∧
                   (((sizeL ts1) ≤ (1048576 : Nat)) ∧
                    (True ∧
                     (((T.SbO (T.mk k0 n0 ts0) (0 : Int) (T.mk k1 n1 ts1)) = (T.SbO (T.mk k0 n0 ts0) (0 : Int) (T.mk k1 n1 ts1))) ∧
                      (((T.k (T.SbR (T.mk k0 n0 ts0) (0 : Int) (T.mk k1 n1 ts1))) = (T.k (T.SbR (T.mk k0 n0 ts0) (0 : Int) (T.mk k1 n1 ts1)))) ∧
                       (((T.n (T.SbR (T.mk k0 n0 ts0) (0 : Int) (T.mk k1 n1 ts1))) = (T.n (T.SbR (T.mk k0 n0 ts0) (0 : Int) (T.mk k1 n1 ts1)))) ∧
                        (((T.kids (T.SbR (T.mk k0 n0 ts0) (0 : Int) (T.mk k1 n1 ts1))) = (T.kids (T.SbR (T.mk k0 n0 ts0) (0 : Int) (T.mk k1 n1 ts1)))) ∧
                         (((T.k (T.SbR (T.mk k0 n0 ts0) (0 : Int) (T.mk k1 n1 ts1))) = (T.k (T.SbR (T.mk k0 n0 ts0) (0 : Int) (T.mk k1 n1 ts1)))) ∧
                          (((T.n (T.SbR (T.mk k0 n0 ts0) (0 : Int) (T.mk k1 n1 ts1))) = (T.n (T.SbR (T.mk k0 n0 ts0) (0 : Int) (T.mk k1 n1 ts1)))) ∧
                           (((T.kids (T.SbR (T.mk k0 n0 ts0) (0 : Int) (T.mk k1 n1 ts1))) = (T.kids (T.SbR (T.mk k0 n0 ts0) (0 : Int) (T.mk k1 n1 ts1)))) ∧
                            (((T.SbO (T.mk k0 n0 ts0) (0 : Int) (T.mk k1 n1 ts1)) = (T.SbO (T.mk k0 n0 ts0) (0 : Int) (T.mk k1 n1 ts1))) ∧
                             (((T.SbO (T.mk k0 n0 ts0) (0 : Int) (T.mk k1 n1 ts1)) = (T.SbO (T.mk k0 n0 ts0) (0 : Int) (T.mk k1 n1 ts1))) ∧
                              (((sizeL ts0) ≤ (1048576 : Nat)) ∧
                               (((sizeL ts1) ≤ (1048576 : Nat)) ∧
                                (True ∧
                                 (((sizeL (T.kids (T.SbR (T.mk k0 n0 ts0) (0 : Int) (T.mk k1 n1 ts1)))) ≤ (1099511627776 : Nat)) ∧
                                  (Br (Bool.not (T.same (T.mk (T.k (T.SbR (T.mk k0 n0 ts0) (0 : Int) (T.mk k1 n1 ts1))) (T.n (T.SbR (T.mk k0 n0 ts0) (0 : Int) (T.mk k1 n1 ts1))) (T.kids (T.SbR (T.mk k0 n0 ts0) (0 : Int) (T.mk k1 n1 ts1)))) (T.mk (T.k (T.SbR (T.mk k0 n0 ts0) (0 : Int) (T.mk k1 n1 ts1))) (T.n (T.SbR (T.mk k0 n0 ts0) (0 : Int) (T.mk k1 n1 ts1))) (T.kids (T.SbR (T.mk k0 n0 ts0) (0 : Int) (T.mk k1 n1 ts1))))))
                                    (Ret K (.bool false) [])
                                    (Br (bne (T.SbO (T.mk k0 n0 ts0) (0 : Int) (T.mk k1 n1 ts1)) (T.SbO (T.mk k0 n0 ts0) (0 : Int) (T.mk k1 n1 ts1)))
                                      (Ret K (.bool false) [])
                                      (((sizeL ts0) ≤ (1048576 : Nat)) ∧
                                       ((k0 = k0) ∧
                                        ((n0 = n0) ∧
                                         ((ts0 = ts0) ∧
                                          (((sizeL ts0) ≤ (1099511627776 : Nat)) ∧
                                           (Br (Bool.not (T.same (T.mk k0 n0 ts0) (T.mk k0 n0 ts0)))
                                             (Ret K (.bool false) [])
                                             (((sizeL ts1) ≤ (1048576 : Nat)) ∧
                                              ((k1 = k1) ∧
                                               ((n1 = n1) ∧
                                                ((ts1 = ts1) ∧
                                                 (((sizeL ts1) ≤ (1099511627776 : Nat)) ∧
                                                  (Br (Bool.not (T.same (T.mk k1 n1 ts1) (T.mk k1 n1 ts1)))
                                                    (Ret K (.bool false) [])
                                                    ((((0 : Int) ≤ (1 : Int)) ∧ (((1 : Int) + ((2 : Int) * (((sizeL ts0) : Nat) : Int))) ≤ (9223372036854775807 : Int))) ∧
                                                     ((((0 : Int) ≤ ((1 : Int) + ((2 : Int) * (((sizeL ts0) : Nat) : Int)))) ∧
                                                       ((((1 : Int) + ((2 : Int) * (((sizeL ts0) : Nat) : Int))) + ((2 : Int) * (((sizeL ts1) : Nat) : Int))) ≤ (9223372036854775807 : Int))) ∧
                                                      (((sizeL (T.kids (T.SbR (T.mk k0 n0 ts0) (0 : Int) (T.mk k1 n1 ts1)))) ≤ (1099511627776 : Nat)) ∧
                                                       (Br (Bool.not (T.same (T.mk (T.k (T.SbR (T.mk k0 n0 ts0) (0 : Int) (T.mk k1 n1 ts1))) (T.n (T.SbR (T.mk k0 n0 ts0) (0 : Int) (T.mk k1 n1 ts1))) (T.kids (T.SbR (T.mk k0 n0 ts0) (0 : Int) (T.mk k1 n1 ts1)))) (T.mk (T.k (T.SbR (T.mk k0 n0 ts0) (0 : Int) (T.mk k1 n1 ts1))) (T.n (T.SbR (T.mk k0 n0 ts0) (0 : Int) (T.mk k1 n1 ts1))) (T.kids (T.SbR (T.mk k0 n0 ts0) (0 : Int) (T.mk k1 n1 ts1))))))
                                                         (Ret K (.bool false) [])
                                                         (Br (bne (T.SbO (T.mk k0 n0 ts0) (0 : Int) (T.mk k1 n1 ts1)) (T.SbO (T.mk k0 n0 ts0) (0 : Int) (T.mk k1 n1 ts1)))
                                                           (Ret K (.bool false) [])
                                                           ((((0 : Int) ≤ (1 : Int)) ∧
                                                             (((1 : Int) + ((2 : Int) * (((sizeL (T.kids (T.SbR (T.mk k0 n0 ts0) (0 : Int) (T.mk k1 n1 ts1)))) : Nat) : Int))) ≤ (9223372036854775807 : Int))) ∧
                                                            (((((0 : Int) ≤ (1 : Int)) ∧
                                                               (((1 : Int) + ((2 : Int) * (((sizeL (markL (T.kids (T.SbR (T.mk k0 n0 ts0) (0 : Int) (T.mk k1 n1 ts1))) (1 : Int))) : Nat) : Int))) ≤ (1000000000000 : Int))) ∧
                                                              (∃ us : (List T), ((markL (T.kids (T.SbR (T.mk k0 n0 ts0) (0 : Int) (T.mk k1 n1 ts1))) (1 : Int)) = (markL us (1 : Int))))) ∧
                                                             (Br (Decidable.decide (((1 : Int) + ((2 : Int) * (((sizeL (markL (T.kids (T.SbR (T.mk k0 n0 ts0) (0 : Int) (T.mk k1 n1 ts1))) (1 : Int))) : Nat) : Int))) ≠ ((1 : Int) + ((2 : Int) * (((sizeL (T.kids (T.SbR (T.mk k0 n0 ts0) (0 : Int) (T.mk k1 n1 ts1)))) : Nat) : Int)))))
                                                               (Ret K (.bool false) [])
                                                               (((k1 = k1) ∧
                                                                 ((n1 = n1) ∧
                                                                  ((ts1 = ts1) ∧
                                                                   ((k0 = k0) ∧
                                                                    ((n0 = n0) ∧
                                                                     ((ts0 = ts0) ∧
                                                                      (((sizeL ts0) ≤ (1048576 : Nat)) ∧
                                                                       ((k1 = k1) ∧
                                                                        ((n1 = n1) ∧
                                                                         ((ts1 = ts1) ∧
                                                                          (((sizeL ts1) ≤ (1048576 : Nat)) ∧
                                                                           (True ∧
                                                                            (((T.SbO (T.mk k0 n0 ts0) (0 : Int) (T.mk k1 n1 ts1)) = (T.SbO (T.mk k0 n0 ts0) (0 : Int) (T.mk k1 n1 ts1))) ∧
                                                                             (((sizeL (T.kids (T.SbR (T.mk k0 n0 ts0) (0 : Int) (T.mk k1 n1 ts1)))) ≤ (1099511627776 : Nat)) ∧
                                                                              (Br (Bool.not (T.same (T.mk (T.k (T.SbR (T.mk k0 n0 ts0) (0 : Int) (T.mk k1 n1 ts1))) (T.n (T.SbR (T.mk k0 n0 ts0) (0 : Int) (T.mk k1 n1 ts1))) (T.kids (T.SbR (T.mk k0 n0 ts0) (0 : Int) (T.mk k1 n1 ts1)))) (T.mk (T.k (T.SbR (T.mk k0 n0 ts0) (0 : Int) (T.mk k1 n1 ts1))) (T.n (T.SbR (T.mk k0 n0 ts0) (0 : Int) (T.mk k1 n1 ts1))) (T.kids (T.SbR (T.mk k0 n0 ts0) (0 : Int) (T.mk k1 n1 ts1))))))
                                                                                (Ret K (.bool false) [])
                                                                                (Br (bne (T.SbO (T.mk k0 n0 ts0) (0 : Int) (T.mk k1 n1 ts1)) (T.SbO (T.mk k0 n0 ts0) (0 : Int) (T.mk k1 n1 ts1)))
                                                                                  (Ret K (.bool false) [])
                                                                                  (((((0 : Int) ≤ (1 : Int)) ∧
                                                                                     (((1 : Int) + ((2 : Int) * (((sizeL (markL (T.kids (T.SbR (T.mk k0 n0 ts0) (0 : Int) (T.mk k1 n1 ts1))) (1 : Int))) : Nat) : Int))) ≤ (1000000000000 : Int))) ∧
                                                                                    (∃ us : (List T), ((markL (T.kids (T.SbR (T.mk k0 n0 ts0) (0 : Int) (T.mk k1 n1 ts1))) (1 : Int)) = (markL us (1 : Int))))) ∧
                                                                                   (Br (Decidable.decide (((1 : Int) + ((2 : Int) * (((sizeL (markL (T.kids (T.SbR (T.mk k0 n0 ts0) (0 : Int) (T.mk k1 n1 ts1))) (1 : Int))) : Nat) : Int))) ≠ ((1 : Int) + ((2 : Int) * (((sizeL (T.kids (T.SbR (T.mk k0 n0 ts0) (0 : Int) (T.mk k1 n1 ts1)))) : Nat) : Int)))))
                                                                                     (Ret K (.bool false) [])
                                                                                     (Ret K (.bool true) []))))))))))))))))))) ∧
                                                                ((((sizeL ts0) ≤ (1048576 : Nat)) ∧
                                                                  ((k1 = k1) ∧
                                                                   ((n1 = n1) ∧
                                                                    ((ts1 = ts1) ∧
                                                                     ((k1 = k1) ∧
                                                                      ((n1 = n1) ∧
                                                                       ((ts1 = ts1) ∧
                                                                        (((sizeL ts1) ≤ (1048576 : Nat)) ∧
                                                                         (True ∧
                                                                          (((T.SbO (T.mk k0 n0 ts0) (0 : Int) (T.mk k1 n1 ts1)) = (T.SbO (T.mk k0 n0 ts0) (0 : Int) (T.mk k1 n1 ts1))) ∧
                                                                           (((sizeL (T.kids (T.SbR (T.mk k0 n0 ts0) (0 : Int) (T.mk k1 n1 ts1)))) ≤ (1099511627776 : Nat)) ∧
                                                                            (Br (Bool.not (T.same (T.mk (T.k (T.SbR (T.mk k0 n0 ts0) (0 : Int) (T.mk k1 n1 ts1))) (T.n (T.SbR (T.mk k0 n0 ts0) (0 : Int) (T.mk k1 n1 ts1))) (T.kids (T.SbR (T.mk k0 n0 ts0) (0 : Int) (T.mk k1 n1 ts1)))) (T.mk (T.k (T.SbR (T.mk k0 n0 ts0) (0 : Int) (T.mk k1 n1 ts1))) (T.n (T.SbR (T.mk k0 n0 ts0) (0 : Int) (T.mk k1 n1 ts1))) (T.kids (T.SbR (T.mk k0 n0 ts0) (0 : Int) (T.mk k1 n1 ts1))))))
                                                                              (Ret K (.bool false) [])
                                                                              (Br (bne (T.SbO (T.mk k0 n0 ts0) (0 : Int) (T.mk k1 n1 ts1)) (T.SbO (T.mk k0 n0 ts0) (0 : Int) (T.mk k1 n1 ts1)))
                                                                                (Ret K (.bool false) [])
                                                                                (((((0 : Int) ≤ (1 : Int)) ∧
                                                                                   (((1 : Int) + ((2 : Int) * (((sizeL (markL (T.kids (T.SbR (T.mk k0 n0 ts0) (0 : Int) (T.mk k1 n1 ts1))) (1 : Int))) : Nat) : Int))) ≤ (1000000000000 : Int))) ∧
                                                                                  (∃ us : (List T), ((markL (T.kids (T.SbR (T.mk k0 n0 ts0) (0 : Int) (T.mk k1 n1 ts1))) (1 : Int)) = (markL us (1 : Int))))) ∧
                                                                                 (Br (Decidable.decide (((1 : Int) + ((2 : Int) * (((sizeL (markL (T.kids (T.SbR (T.mk k0 n0 ts0) (0 : Int) (T.mk k1 n1 ts1))) (1 : Int))) : Nat) : Int))) ≠ ((1 : Int) + ((2 : Int) * (((sizeL (T.kids (T.SbR (T.mk k0 n0 ts0) (0 : Int) (T.mk k1 n1 ts1)))) : Nat) : Int)))))
                                                                                   (Ret K (.bool false) [])
                                                                                   (Ret K (.bool true) [])))))))))))))))) ∧
                                                                 ((((sizeL ts0) ≤ (1048576 : Nat)) ∧
                                                                   ((k1 = k1) ∧
                                                                    ((n1 = n1) ∧
                                                                     ((ts1 = ts1) ∧
                                                                      (((sizeL ts1) ≤ (1048576 : Nat)) ∧
                                                                       (True ∧
                                                                        (((T.SbO (T.mk k0 n0 ts0) (0 : Int) (T.mk k1 n1 ts1)) = (T.SbO (T.mk k0 n0 ts0) (0 : Int) (T.mk k1 n1 ts1))) ∧
                                                                         (((sizeL (T.kids (T.SbR (T.mk k0 n0 ts0) (0 : Int) (T.mk k1 n1 ts1)))) ≤ (1099511627776 : Nat)) ∧
                                                                          (Br (Bool.not (T.same (T.mk (T.k (T.SbR (T.mk k0 n0 ts0) (0 : Int) (T.mk k1 n1 ts1))) (T.n (T.SbR (T.mk k0 n0 ts0) (0 : Int) (T.mk k1 n1 ts1))) (T.kids (T.SbR (T.mk k0 n0 ts0) (0 : Int) (T.mk k1 n1 ts1)))) (T.mk (T.k (T.SbR (T.mk k0 n0 ts0) (0 : Int) (T.mk k1 n1 ts1))) (T.n (T.SbR (T.mk k0 n0 ts0) (0 : Int) (T.mk k1 n1 ts1))) (T.kids (T.SbR (T.mk k0 n0 ts0) (0 : Int) (T.mk k1 n1 ts1))))))
                                                                            (Ret K (.bool false) [])
                                                                            (Br (bne (T.SbO (T.mk k0 n0 ts0) (0 : Int) (T.mk k1 n1 ts1)) (T.SbO (T.mk k0 n0 ts0) (0 : Int) (T.mk k1 n1 ts1)))
                                                                              (Ret K (.bool false) [])
                                                                              (((((0 : Int) ≤ (1 : Int)) ∧
                                                                                 (((1 : Int) + ((2 : Int) * (((sizeL (markL (T.kids (T.SbR (T.mk k0 n0 ts0) (0 : Int) (T.mk k1 n1 ts1))) (1 : Int))) : Nat) : Int))) ≤ (1000000000000 : Int))) ∧
                                                                                (∃ us : (List T), ((markL (T.kids (T.SbR (T.mk k0 n0 ts0) (0 : Int) (T.mk k1 n1 ts1))) (1 : Int)) = (markL us (1 : Int))))) ∧
                                                                               (Br (Decidable.decide (((1 : Int) + ((2 : Int) * (((sizeL (markL (T.kids (T.SbR (T.mk k0 n0 ts0) (0 : Int) (T.mk k1 n1 ts1))) (1 : Int))) : Nat) : Int))) ≠ ((1 : Int) + ((2 : Int) * (((sizeL (T.kids (T.SbR (T.mk k0 n0 ts0) (0 : Int) (T.mk k1 n1 ts1)))) : Nat) : Int)))))
                                                                                 (Ret K (.bool false) [])
                                                                                 (Ret K (.bool true) []))))))))))))) ∧
                                                                  (((sizeL ts0) ≤ (1048576 : Nat)) ∧
                                                                   ((k1 = k1) ∧
                                                                    ((n1 = n1) ∧
                                                                     ((ts1 = ts1) ∧
                                                                      (((sizeL ts1) ≤ (1048576 : Nat)) ∧
                                                                       (True ∧
                                                                        (((T.SbO (T.mk k0 n0 ts0) (0 : Int) (T.mk k1 n1 ts1)) = (T.SbO (T.mk k0 n0 ts0) (0 : Int) (T.mk k1 n1 ts1))) ∧
                                                                         (((T.k (T.SbR (T.mk k0 n0 ts0) (0 : Int) (T.mk k1 n1 ts1))) = (T.k (T.SbR (T.mk k0 n0 ts0) (0 : Int) (T.mk k1 n1 ts1)))) ∧
                                                                          (((T.n (T.SbR (T.mk k0 n0 ts0) (0 : Int) (T.mk k1 n1 ts1))) = (T.n (T.SbR (T.mk k0 n0 ts0) (0 : Int) (T.mk k1 n1 ts1)))) ∧
                                                                           (((T.kids (T.SbR (T.mk k0 n0 ts0) (0 : Int) (T.mk k1 n1 ts1))) = (T.kids (T.SbR (T.mk k0 n0 ts0) (0 : Int) (T.mk k1 n1 ts1)))) ∧
                                                                            (((T.k (T.SbR (T.mk k0 n0 ts0) (0 : Int) (T.mk k1 n1 ts1))) = (T.k (T.SbR (T.mk k0 n0 ts0) (0 : Int) (T.mk k1 n1 ts1)))) ∧
                                                                             (((T.n (T.SbR (T.mk k0 n0 ts0) (0 : Int) (T.mk k1 n1 ts1))) = (T.n (T.SbR (T.mk k0 n0 ts0) (0 : Int) (T.mk k1 n1 ts1)))) ∧
                                                                              (((T.kids (T.SbR (T.mk k0 n0 ts0) (0 : Int) (T.mk k1 n1 ts1))) = (T.kids (T.SbR (T.mk k0 n0 ts0) (0 : Int) (T.mk k1 n1 ts1)))) ∧
                                                                               (((T.SbO (T.mk k0 n0 ts0) (0 : Int) (T.mk k1 n1 ts1)) = (T.SbO (T.mk k0 n0 ts0) (0 : Int) (T.mk k1 n1 ts1))) ∧
                                                                                (((T.SbO (T.mk k0 n0 ts0) (0 : Int) (T.mk k1 n1 ts1)) = (T.SbO (T.mk k0 n0 ts0) (0 : Int) (T.mk k1 n1 ts1))) ∧
                                                                                 (((sizeL (T.kids (T.SbR (T.mk k0 n0 ts0) (0 : Int) (T.mk k1 n1 ts1)))) ≤ (1099511627776 : Nat)) ∧
                                                                                  (Br (Bool.not (T.same (T.mk (T.k (T.SbR (T.mk k0 n0 ts0) (0 : Int) (T.mk k1 n1 ts1))) (T.n (T.SbR (T.mk k0 n0 ts0) (0 : Int) (T.mk k1 n1 ts1))) (T.kids (T.SbR (T.mk k0 n0 ts0) (0 : Int) (T.mk k1 n1 ts1)))) (T.mk (T.k (T.SbR (T.mk k0 n0 ts0) (0 : Int) (T.mk k1 n1 ts1))) (T.n (T.SbR (T.mk k0 n0 ts0) (0 : Int) (T.mk k1 n1 ts1))) (T.kids (T.SbR (T.mk k0 n0 ts0) (0 : Int) (T.mk k1 n1 ts1))))))
                                                                                    (Ret K (.bool false) [])
                                                                                    (Br (bne (T.SbO (T.mk k0 n0 ts0) (0 : Int) (T.mk k1 n1 ts1)) (T.SbO (T.mk k0 n0 ts0) (0 : Int) (T.mk k1 n1 ts1)))
                                                                                      (Ret K (.bool false) [])
                                                                                      (((((0 : Int) ≤ (1 : Int)) ∧
                                                                                         (((1 : Int) + ((2 : Int) * (((sizeL (markL (T.kids (T.SbR (T.mk k0 n0 ts0) (0 : Int) (T.mk k1 n1 ts1))) (1 : Int))) : Nat) : Int))) ≤ (1000000000000 : Int))) ∧
                                                                                        (∃ us : (List T), ((markL (T.kids (T.SbR (T.mk k0 n0 ts0) (0 : Int) (T.mk k1 n1 ts1))) (1 : Int)) = (markL us (1 : Int))))) ∧
                                                                                       (Br (Decidable.decide (((1 : Int) + ((2 : Int) * (((sizeL (markL (T.kids (T.SbR (T.mk k0 n0 ts0) (0 : Int) (T.mk k1 n1 ts1))) (1 : Int))) : Nat) : Int))) ≠ ((1 : Int) + ((2 : Int) * (((sizeL (T.kids (T.SbR (T.mk k0 n0 ts0) (0 : Int) (T.mk k1 n1 ts1)))) : Nat) : Int)))))
                                                                                         (Ret K (.bool false) [])
                                                                                         (Ret K (.bool true) []))))))))))))))))))))))))))))))))))))))))))))))))))))))))))))))))))))))))) ?_ (by kernel_rfl)
  obtain ⟨hp0, hp1⟩ := hp
  obtain ⟨-, -, l0', f0⟩ := hp0
  obtain ⟨-, -, l1', f1⟩ := hp1
  have same : ∀ t : T, t.same t = true := fun t => T.same_iff.2 rfl
  simp only [T.eta, same, markL_size]
  refine ⟨⟨⟨l0', f0⟩, by omega, by omega⟩, br (fun _ => retB hk rfl) (fun h => ?_)⟩
  have ⟨s0, e0⟩ := szI_ok (of_decide_eq_false h) (by omega)
  try rw [e0]
  refine ⟨⟨⟨l1', f1⟩, by omega, by omega⟩, br (fun _ => retB hk rfl) (fun h => ?_)⟩
  have ⟨s1, e1⟩ := szI_ok (of_decide_eq_false h) (by omega)
  try rw [e1]
  have z := SbR_small (.mk k0 n0 ts0) 0 (.mk k1 n1 ts1)
  repeat' first | trivial | rfl | omega | exact retB hk rfl | exact ⟨_, rfl⟩ | refine br (fun h => absurd h (by simp)) (fun _ => ?_) | apply And.intro
theorem FnExactInstantiate_sound : Sound Try.prog 13 cFnExactInstantiate := by
  refine soundF (G := [(20, cszTerm), (22, ctoTerm), (38, csInstantiate), (39, cInstantiate), (24, ceqTerm), (34, cheldTerm)]) ((gcons szTerm_sound (gcons toTerm_sound (gcons sInstantiate_sound (gcons Instantiate_sound (gcons eqTerm_sound (gcons heldTerm_sound gnil))))))) Try.func13 rfl (by kernel_rfl) fun args hs K hCC => ?_
  unfold cFnExactInstantiate at hCC
  split at hCC
  case h_2 => exact hCC.elim
  rename_i k0 n0 ts0 k1 n1 ts1
  exact ⟨Nat.le_of_ble_eq_true rfl, _, FnExactInstantiate_ok k0 n0 ts0 k1 n1 ts1 K hCC.1 hCC.2⟩
end Go.Dk
namespace Go.Proofs.Ytbkaifclhjgokaa
open Go.ChangeShapes Go.WideShapes Go.RowKit Go.Dk Go.Proofs
set_option linter.unusedVariables false
theorem FnExactInstantiate_lifted (os : Os) (started : os.Started) (H : Type) (enc : TypeId × Value → H) :
    ReturnsInHanded {} Try.checked os 13 .any (Rows.fnExactInstantiateSpec.pre6 enc Try.prog Try.f13 Rows.fnExactInstantiateRow.domain false) (Rows.fnExactInstantiateSpec.post enc Try.prog Try.f13 false true false false) := by
  refine returnsInHanded_of_change (C := Try.checked) own started (by kernel_rfl) Try.func13
    (ChangeSpec.witness6 (enc := enc) (C := Try.checked) false ⟨#[], #[.agg #[.int .i64 0, .int .i64 0, .slice none 0 0], .agg #[.int .i64 0, .int .i64 0, .slice none 0 0]], []⟩ 8 (by kernel_rfl) (by kernel_rfl) (by kernel_rfl) (by kernel_rfl)) ?_
  intro W base args ds gs before hok hW _ _
  have hW' := hW
  obtain ⟨p, q, hA, hV, rfl, hfz, hnd⟩ := hW
  rw [Try.params13] at hA
  obtain ⟨rfl, rfl⟩ := trodVars_none hV
  obtain ⟨v0, vs0, d0, ds0, q0, s0, e0, rfl, rfl, h0, hA⟩ := trodAll_cons hA
  obtain ⟨v1, vs1, d1, ds1, q1, s1, e1, rfl, rfl, h1, hA⟩ := trodAll_cons hA
  obtain ⟨rfl, rfl, rfl⟩ := trodAll_nil hA
  subst e1
  have ha : args = #[v0, v1] := by cases args; simpa using e0
  subst ha
  obtain ⟨k0, n0, ts0, p0, r0⟩ := open_term tmT h0
  obtain ⟨k1, n1, ts1, p1, r1⟩ := open_term tmT h1
  refine (law_call (args := [.st [.int .i64 k0, .int .i64 n0, .slc ts0 (.arg 0)], .st [.int .i64 k1, .int .i64 n1, .slc ts1 (.arg 1)]]) (vals := [v0, v1]) FnExactInstantiate_sound (fun K hK => ⟨⟨p0, p1⟩, hK⟩) (fun j => slOf ([v0, v1].getD j .nilFunc)) ⟨r0 _ 0 rfl, r1 _ 1 rfl, trivial⟩).mono fun e W' ⟨he, hk⟩ => ?_
  exact ⟨_, he, law_post laidOut (of_decide_eq_true (by kernel_rfl)) rfl rfl Try.underlying4 rfl hW' hk⟩
theorem FnExactInstantiate_holds : Rows.FnExactInstantiateSaid :=
  OpenClaim.holds_of_wide 13 Try.f13 rfl rfl rfl rfl rfl rfl rfl ⟨rfl, rfl, rfl, rfl, rfl⟩ rfl rfl rfl rfl rfl (by kernel_rfl) Try.func13 (by kernel_rfl)
    (of_decide_eq_true (by kernel_rfl)) (by unfold Func.isWrapper; first | (rw [if_pos (by decide +kernel)]; kernel_rfl) | (rw [if_neg (by decide +kernel)]; exact ⟨rfl, rfl⟩))
    (fun os started H enc _ => FnExactInstantiate_lifted os started H enc)
end Go.Proofs.Ytbkaifclhjgokaa
namespace Go.Dk
open Go.Proofs
end Go.Dk
