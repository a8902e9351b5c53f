/- laws.FnShiftBack returns true and leaves its arguments as they were, for all arguments. -/
import Derived.Test.YtbkaifclhjgokaaLaw
import Derived.Test.YtbkaifclhjgokaaL0
import Derived.Test.YtbkaifclhjgokaaDr2
import Derived.Test.YtbkaifclhjgokaaTh
namespace Go.Dk
set_option linter.unusedVariables false
open Go.Proofs
/-- laws.FnShiftBack -/
def cFnShiftBack : Con
  | [.ints .u8 bs (.arg 0), .ints .u8 cs (.arg 1)], [], K => ((bs.length ≤ 9223372036854775807 ∧ Bs bs) ∧ (cs.length ≤ 9223372036854775807 ∧ Bs cs)) ∧ ((K (.bool true) []))
  | _, _, _ => False
theorem FnShiftBack_ok (bs : List Int) (cs : List Int) (K : AV → List AV → Prop) (hp : ((bs.length ≤ 9223372036854775807 ∧ Bs bs) ∧ (cs.length ≤ 9223372036854775807 ∧ Bs cs))) (hk : ((K (.bool true) []))) :
    bodyQ [(30, cdShiftTerm), (31, cShiftTerm), (32, csShiftTerm), (19, cTermSame)] TY [] Try.f8 (body Try.f8) [.ints .u8 bs (.arg 0), .ints .u8 cs (.arg 1)] [] K := by
  refine of_vc (A :=
      (Br (Decidable.decide ((1048576 : Int) < (((List.length bs) : Nat) : Int)))
        (Ret K (.bool true) [])
        (Br (Decidable.decide ((1048576 : Int) < (((List.length cs) : Nat) : Int)))
          (Ret K (.bool true) [])
          ((Bs bs) ∧
           (∀ t : T,
             (∀ y : Int,
               (∀ c : Int,
                 (((T.size t) ≤ (1000 : Nat)) →
                  ((InR y) →
                   ((((- (1 : Int)) ≤ c) ∧ (c ≤ (21 : Int))) →
                    (True ∧
                     (True ∧
                      (Br (bne (T.ShO (T.mk (T.k t) (T.n t) (T.kids t)) y c) (T.ShO (T.mk (T.k t) (T.n t) (T.kids t)) y c))
                        (Br (BEq.beq (T.ShO (T.mk (T.k t) (T.n t) (T.kids t)) y c) (T.ShO (T.mk (T.k t) (T.n t) (T.kids t)) y c))
                          (((sizeL (T.kids (T.ShR (T.mk (T.k t) (T.n t) (T.kids t)) y c))) ≤ (1099511627776 : Nat)) ∧
                           (Ret K (.bool (T.same (T.mk (T.k (T.ShR (T.mk (T.k t) (T.n t) (T.kids t)) y c)) (T.n (T.ShR (T.mk (T.k t) (T.n t) (T.kids t)) y c)) (T.kids (T.ShR (T.mk (T.k t) (T.n t) (T.kids t)) y c))) (T.mk (T.k (T.ShR (T.mk (T.k t) (T.n t) (T.kids t)) y c)) (T.n (T.ShR (T.mk (T.k t) (T.n t) (T.kids t)) y c)) (T.kids (T.ShR (T.mk (T.k t) (T.n t) (T.kids t)) y c))))) []))
                          (Ret K (.bool false) []))
                        (((sizeL (T.kids (T.ShR (T.mk (T.k t) (T.n t) (T.kids t)) y c))) ≤ (1099511627776 : Nat)) ∧
                         (Br (Bool.not (T.same (T.mk (T.k (T.ShR (T.mk (T.k t) (T.n t) (T.kids t)) y c)) (T.n (T.ShR (T.mk (T.k t) (T.n t) (T.kids t)) y c)) (T.kids (T.ShR (T.mk (T.k t) (T.n t) (T.kids t)) y c))) (T.mk (T.k (T.ShR (T.mk (T.k t) (T.n t) (T.kids t)) y c)) (T.n (T.ShR (T.mk (T.k t) (T.n t) (T.kids t)) y c)) (T.kids (T.ShR (T.mk (T.k t) (T.n t) (T.kids t)) y c)))))
                           (Br (BEq.beq (T.ShO (T.mk (T.k t) (T.n t) (T.kids t)) y c) (T.ShO (T.mk (T.k t) (T.n t) (T.kids t)) y c))
                             (((sizeL (T.kids (T.ShR (T.mk (T.k t) (T.n t) (T.kids t)) y c))) ≤ (1099511627776 : Nat)) ∧
                              (Ret K (.bool (T.same (T.mk (T.k (T.ShR (T.mk (T.k t) (T.n t) (T.kids t)) y c)) (T.n (T.ShR (T.mk (T.k t) (T.n t) (T.kids t)) y c)) (T.kids (T.ShR (T.mk (T.k t) (T.n t) (T.kids t)) y c))) (T.mk (T.k (T.ShR (T.mk (T.k t) (T.n t) (T.kids t)) y c)) (T.n (T.ShR (T.mk (T.k t) (T.n t) (T.kids t)) y c)) (T.kids (T.ShR (T.mk (T.k t) (T.n t) (T.kids t)) y c))))) []))
                             (Ret K (.bool false) []))
                           (Br (Bool.not (T.ShO (T.mk (T.k t) (T.n t) (T.kids t)) y c))
                             (Br (BEq.beq (T.ShO (T.mk (T.k t) (T.n t) (T.kids t)) y c) (T.ShO (T.mk (T.k t) (T.n t) (T.kids t)) y c))
                               (((sizeL (T.kids (T.ShR (T.mk (T.k t) (T.n t) (T.kids t)) y c))) ≤ (1099511627776 : Nat)) ∧
                                (Ret K (.bool (T.same (T.mk (T.k (T.ShR (T.mk (T.k t) (T.n t) (T.kids t)) y c)) (T.n (T.ShR (T.mk (T.k t) (T.n t) (T.kids t)) y c)) (T.kids (T.ShR (T.mk (T.k t) (T.n t) (T.kids t)) y c))) (T.mk (T.k (T.ShR (T.mk (T.k t) (T.n t) (T.kids t)) y c)) (T.n (T.ShR (T.mk (T.k t) (T.n t) (T.kids t)) y c)) (T.kids (T.ShR (T.mk (T.k t) (T.n t) (T.kids t)) y c))))) []))
                               (Ret K (.bool false) []))
                             ((InR (- y)) ∧
                              (True ∧
                               ((((0 : Int) ≤ (((List.length cs) : Nat) : Int)) ∧ (((0 : Int) < (3 : Int)) ∧ ((3 : Int) ≤ (9223372036854775807 : Int)))) ∧
                                (True ∧
                                 ((InR (y + ((((List.length cs) : Nat) : Int) % (3 : Int)))) ∧
                                  (True ∧
                                   (Br (Decidable.decide (y < (0 : Int)))
                                     (Br (Bool.not (T.ShO (T.mk (T.k (T.ShR (T.mk (T.k t) (T.n t) (T.kids t)) y c)) (T.n (T.ShR (T.mk (T.k t) (T.n t) (T.kids t)) y c)) (T.kids (T.ShR (T.mk (T.k t) (T.n t) (T.kids t)) y c))) (- y) c))
                                       (Br (Bool.not (T.ShO (T.mk (T.k (T.ShR (T.mk (T.k t) (T.n t) (T.kids t)) y c)) (T.n (T.ShR (T.mk (T.k t) (T.n t) (T.kids t)) y c)) (T.kids (T.ShR (T.mk (T.k t) (T.n t) (T.kids t)) y c))) ((((List.length cs) : Nat) : Int) % (3 : Int)) c))
                                         (Ret K (.bool true) [])
                                         (Br (Bool.not (T.ShO (T.mk (T.k t) (T.n t) (T.kids t)) (y + ((((List.length cs) : Nat) : Int) % (3 : Int))) c))
                                           (Ret K (.bool true) [])
                                           (((sizeL (T.kids (T.ShR (T.mk (T.k (T.ShR (T.mk (T.k t) (T.n t) (T.kids t)) y c)) (T.n (T.ShR (T.mk (T.k t) (T.n t) (T.kids t)) y c)) (T.kids (T.ShR (T.mk (T.k t) (T.n t) (T.kids t)) y c))) ((((List.length cs) : Nat) : Int) % (3 : Int)) c))) ≤ (1099511627776 : Nat)) ∧
                                            (Ret K (.bool (T.same (T.mk (T.k (T.ShR (T.mk (T.k (T.ShR (T.mk (T.k t) (T.n t) (T.kids t)) y c)) (T.n (T.ShR (T.mk (T.k t) (T.n t) (T.kids t)) y c)) (T.kids (T.ShR (T.mk (T.k t) (T.n t) (T.kids t)) y c))) ((((List.length cs) : Nat) : Int) % (3 : Int)) c)) (T.n (T.ShR (T.mk (T.k (T.ShR (T.mk (T.k t) (T.n t) (T.kids t)) y c)) (T.n (T.ShR (T.mk (T.k t) (T.n t) (T.kids t)) y c)) (T.kids (T.ShR (T.mk (T.k t) (T.n t) (T.kids t)) y c))) ((((List.length cs) : Nat) : Int) % (3 : Int)) c)) (T.kids (T.ShR (T.mk (T.k (T.ShR (T.mk (T.k t) (T.n t) (T.kids t)) y c)) (T.n (T.ShR (T.mk (T.k t) (T.n t) (T.kids t)) y c)) (T.kids (T.ShR (T.mk (T.k t) (T.n t) (T.kids t)) y c))) ((((List.length cs) : Nat) : Int) % (3 : Int)) c))) (T.mk (T.k (T.ShR (T.mk (T.k t) (T.n t) (T.kids t)) (y + ((((List.length cs) : Nat) : Int) % (3 : Int))) c)) (T.n (T.ShR (T.mk (T.k t) (T.n t) (T.kids t)) (y + ((((List.length cs) : Nat) : Int) % (3 : Int))) c)) (T.kids (T.ShR (T.mk (T.k t) (T.n t) (T.kids t)) (y + ((((List.length cs) : Nat) : Int) % (3 : Int))) c))))) []))))
                                       (((sizeL (T.kids (T.ShR (T.mk (T.k (T.ShR (T.mk (T.k t) (T.n t) (T.kids t)) y c)) (T.n (T.ShR (T.mk (T.k t) (T.n t) (T.kids t)) y c)) (T.kids (T.ShR (T.mk (T.k t) (T.n t) (T.kids t)) y c))) (- y) c))) ≤ (1099511627776 : Nat)) ∧
                                        (Br (T.same (T.mk (T.k (T.ShR (T.mk (T.k (T.ShR (T.mk (T.k t) (T.n t) (T.kids t)) y c)) (T.n (T.ShR (T.mk (T.k t) (T.n t) (T.kids t)) y c)) (T.kids (T.ShR (T.mk (T.k t) (T.n t) (T.kids t)) y c))) (- y) c)) (T.n (T.ShR (T.mk (T.k (T.ShR (T.mk (T.k t) (T.n t) (T.kids t)) y c)) (T.n (T.ShR (T.mk (T.k t) (T.n t) (T.kids t)) y c)) (T.kids (T.ShR (T.mk (T.k t) (T.n t) (T.kids t)) y c))) (- y) c)) (T.kids (T.ShR (T.mk (T.k (T.ShR (T.mk (T.k t) (T.n t) (T.kids t)) y c)) (T.n (T.ShR (T.mk (T.k t) (T.n t) (T.kids t)) y c)) (T.kids (T.ShR (T.mk (T.k t) (T.n t) (T.kids t)) y c))) (- y) c))) (T.mk (T.k t) (T.n t) (T.kids t)))
                                          (Br (Bool.not (T.ShO (T.mk (T.k (T.ShR (T.mk (T.k t) (T.n t) (T.kids t)) y c)) (T.n (T.ShR (T.mk (T.k t) (T.n t) (T.kids t)) y c)) (T.kids (T.ShR (T.mk (T.k t) (T.n t) (T.kids t)) y c))) ((((List.length cs) : Nat) : Int) % (3 : Int)) c))
                                            (Ret K (.bool true) [])
                                            (Br (Bool.not (T.ShO (T.mk (T.k t) (T.n t) (T.kids t)) (y + ((((List.length cs) : Nat) : Int) % (3 : Int))) c))
                                              (Ret K (.bool true) [])
                                              (((sizeL (T.kids (T.ShR (T.mk (T.k (T.ShR (T.mk (T.k t) (T.n t) (T.kids t)) y c)) (T.n (T.ShR (T.mk (T.k t) (T.n t) (T.kids t)) y c)) (T.kids (T.ShR (T.mk (T.k t) (T.n t) (T.kids t)) y c))) ((((List.length cs) : Nat) : Int) % (3 : Int)) c))) ≤ (1099511627776 : Nat)) ∧
                                               (Ret K (.bool (T.same (T.mk (T.k (T.ShR (T.mk (T.k (T.ShR (T.mk (T.k t) (T.n t) (T.kids t)) y c)) (T.n (T.ShR (T.mk (T.k t) (T.n t) (T.kids t)) y c)) (T.kids (T.ShR (T.mk (T.k t) (T.n t) (T.kids t)) y c))) ((((List.length cs) : Nat) : Int) % (3 : Int)) c)) (T.n (T.ShR (T.mk (T.k (T.ShR (T.mk (T.k t) (T.n t) (T.kids t)) y c)) (T.n (T.ShR (T.mk (T.k t) (T.n t) (T.kids t)) y c)) (T.kids (T.ShR (T.mk (T.k t) (T.n t) (T.kids t)) y c))) ((((List.length cs) : Nat) : Int) % (3 : Int)) c)) (T.kids (T.ShR (T.mk (T.k (T.ShR (T.mk (T.k t) (T.n t) (T.kids t)) y c)) (T.n (T.ShR (T.mk (T.k t) (T.n t) (T.kids t)) y c)) (T.kids (T.ShR (T.mk (T.k t) (T.n t) (T.kids t)) y c))) ((((List.length cs) : Nat) : Int) % (3 : Int)) c))) (T.mk (T.k (T.ShR (T.mk (T.k t) (T.n t) (T.kids t)) (y + ((((List.length cs) : Nat) : Int) % (3 : Int))) c)) (T.n (T.ShR (T.mk (T.k t) (T.n t) (T.kids t)) (y + ((((List.length cs) : Nat) : Int) % (3 : Int))) c)) (T.kids (T.ShR (T.mk (T.k t) (T.n t) (T.kids t)) (y + ((((List.length cs) : Nat) : Int) % (3 : Int))) c))))) []))))
                                          (Ret K (.bool false) []))))
                                     (Br (T.ShO (T.mk (T.k (T.ShR (T.mk (T.k t) (T.n t) (T.kids t)) y c)) (T.n (T.ShR (T.mk (T.k t) (T.n t) (T.kids t)) y c)) (T.kids (T.ShR (T.mk (T.k t) (T.n t) (T.kids t)) y c))) (- y) c)
                                       (((sizeL (T.kids (T.ShR (T.mk (T.k (T.ShR (T.mk (T.k t) (T.n t) (T.kids t)) y c)) (T.n (T.ShR (T.mk (T.k t) (T.n t) (T.kids t)) y c)) (T.kids (T.ShR (T.mk (T.k t) (T.n t) (T.kids t)) y c))) (- y) c))) ≤ (1099511627776 : Nat)) ∧
                                        (Br (T.same (T.mk (T.k (T.ShR (T.mk (T.k (T.ShR (T.mk (T.k t) (T.n t) (T.kids t)) y c)) (T.n (T.ShR (T.mk (T.k t) (T.n t) (T.kids t)) y c)) (T.kids (T.ShR (T.mk (T.k t) (T.n t) (T.kids t)) y c))) (- y) c)) (T.n (T.ShR (T.mk (T.k (T.ShR (T.mk (T.k t) (T.n t) (T.kids t)) y c)) (T.n (T.ShR (T.mk (T.k t) (T.n t) (T.kids t)) y c)) (T.kids (T.ShR (T.mk (T.k t) (T.n t) (T.kids t)) y c))) (- y) c)) (T.kids (T.ShR (T.mk (T.k (T.ShR (T.mk (T.k t) (T.n t) (T.kids t)) y c)) (T.n (T.ShR (T.mk (T.k t) (T.n t) (T.kids t)) y c)) (T.kids (T.ShR (T.mk (T.k t) (T.n t) (T.kids t)) y c))) (- y) c))) (T.mk (T.k t) (T.n t) (T.kids t)))
                                          (Br (Bool.not (T.ShO (T.mk (T.k (T.ShR (T.mk (T.k t) (T.n t) (T.kids t)) y c)) (T.n (T.ShR (T.mk (T.k t) (T.n t) (T.kids t)) y c)) (T.kids (T.ShR (T.mk (T.k t) (T.n t) (T.kids t)) y c))) (- y) c))
                                            (Br (Bool.not (T.ShO (T.mk (T.k (T.ShR (T.mk (T.k t) (T.n t) (T.kids t)) y c)) (T.n (T.ShR (T.mk (T.k t) (T.n t) (T.kids t)) y c)) (T.kids (T.ShR (T.mk (T.k t) (T.n t) (T.kids t)) y c))) ((((List.length cs) : Nat) : Int) % (3 : Int)) c))
                                              (Ret K (.bool true) [])
                                              (Br (Bool.not (T.ShO (T.mk (T.k t) (T.n t) (T.kids t)) (y + ((((List.length cs) : Nat) : Int) % (3 : Int))) c))
                                                (Ret K (.bool true) [])
                                                (((sizeL (T.kids (T.ShR (T.mk (T.k (T.ShR (T.mk (T.k t) (T.n t) (T.kids t)) y c)) (T.n (T.ShR (T.mk (T.k t) (T.n t) (T.kids t)) y c)) (T.kids (T.ShR (T.mk (T.k t) (T.n t) (T.kids t)) y c))) ((((List.length cs) : Nat) : Int) % (3 : Int)) c))) ≤ (1099511627776 : Nat)) ∧
                                                 (Ret K (.bool (T.same (T.mk (T.k (T.ShR (T.mk (T.k (T.ShR (T.mk (T.k t) (T.n t) (T.kids t)) y c)) (T.n (T.ShR (T.mk (T.k t) (T.n t) (T.kids t)) y c)) (T.kids (T.ShR (T.mk (T.k t) (T.n t) (T.kids t)) y c))) ((((List.length cs) : Nat) : Int) % (3 : Int)) c)) (T.n (T.ShR (T.mk (T.k (T.ShR (T.mk (T.k t) (T.n t) (T.kids t)) y c)) (T.n (T.ShR (T.mk (T.k t) (T.n t) (T.kids t)) y c)) (T.kids (T.ShR (T.mk (T.k t) (T.n t) (T.kids t)) y c))) ((((List.length cs) : Nat) : Int) % (3 : Int)) c)) (T.kids (T.ShR (T.mk (T.k (T.ShR (T.mk (T.k t) (T.n t) (T.kids t)) y c)) (T.n (T.ShR (T.mk (T.k t) (T.n t) (T.kids t)) y c)) (T.kids (T.ShR (T.mk (T.k t) (T.n t) (T.kids t)) y c))) ((((List.length cs) : Nat) : Int) % (3 : Int)) c))) (T.mk (T.k (T.ShR (T.mk (T.k t) (T.n t) (T.kids t)) (y + ((((List.length cs) : Nat) : Int) % (3 : Int))) c)) (T.n (T.ShR (T.mk (T.k t) (T.n t) (T.kids t)) (y + ((((List.length cs) : Nat) : Int) % (3 : Int))) c)) (T.kids (T.ShR (T.mk (T.k t) (T.n t) (T.kids t)) (y + ((((List.length cs) : Nat) : Int) % (3 : Int))) c))))) []))))
                                            (((sizeL (T.kids (T.ShR (T.mk (T.k (T.ShR (T.mk (T.k t) (T.n t) (T.kids t)) y c)) (T.n (T.ShR (T.mk (T.k t) (T.n t) (T.kids t)) y c)) (T.kids (T.ShR (T.mk (T.k t) (T.n t) (T.kids t)) y c))) (- y) c))) ≤ (1099511627776 : Nat)) ∧
                                             (Br (T.same (T.mk (T.k (T.ShR (T.mk (T.k (T.ShR (T.mk (T.k t) (T.n t) (T.kids t)) y c)) (T.n (T.ShR (T.mk (T.k t) (T.n t) (T.kids t)) y c)) (T.kids (T.ShR (T.mk (T.k t) (T.n t) (T.kids t)) y c))) (- y) c)) (T.n (T.ShR (T.mk (T.k (T.ShR (T.mk (T.k t) (T.n t) (T.kids t)) y c)) (T.n (T.ShR (T.mk (T.k t) (T.n t) (T.kids t)) y c)) (T.kids (T.ShR (T.mk (T.k t) (T.n t) (T.kids t)) y c))) (- y) c)) (T.kids (T.ShR (T.mk (T.k (T.ShR (T.mk (T.k t) (T.n t) (T.kids t)) y c)) (T.n (T.ShR (T.mk (T.k t) (T.n t) (T.kids t)) y c)) (T.kids (T.ShR (T.mk (T.k t) (T.n t) (T.kids t)) y c))) (- y) c))) (T.mk (T.k t) (T.n t) (T.kids t)))
                                               (Br (Bool.not (T.ShO (T.mk (T.k (T.ShR (T.mk (T.k t) (T.n t) (T.kids t)) y c)) (T.n (T.ShR (T.mk (T.k t) (T.n t) (T.kids t)) y c)) (T.kids (T.ShR (T.mk (T.k t) (T.n t) (T.kids t)) y c))) ((((List.length cs) : Nat) : Int) % (3 : Int)) c))
                                                 (Ret K (.bool true) [])
                                                 (Br (Bool.not (T.ShO (T.mk (T.k t) (T.n t) (T.kids t)) (y + ((((List.length cs) : Nat) : Int) % (3 : Int))) c))
                                                   (Ret K (.bool true) [])
                                                   (((sizeL (T.kids (T.ShR (T.mk (T.k (T.ShR (T.mk (T.k t) (T.n t) (T.kids t)) y c)) (T.n (T.ShR (T.mk (T.k t) (T.n t) (T.kids t)) y c)) (T.kids (T.ShR (T.mk (T.k t) (T.n t) (T.kids t)) y c))) ((((List.length cs) : Nat) : Int) % (3 : Int)) c))) ≤ (1099511627776 : Nat)) ∧
                                                    (Ret K (.bool (T.same (T.mk (T.k (T.ShR (T.mk (T.k (T.ShR (T.mk (T.k t) (T.n t) (T.kids t)) y c)) (T.n (T.ShR (T.mk (T.k t) (T.n t) (T.kids t)) y c)) (T.kids (T.ShR (T.mk (T.k t) (T.n t) (T.kids t)) y c))) ((((List.length cs) : Nat) : Int) % (3 : Int)) c)) (T.n (T.ShR (T.mk (T.k (T.ShR (T.mk (T.k t) (T.n t) (T.kids t)) y c)) (T.n (T.ShR (T.mk (T.k t) (T.n t) (T.kids t)) y c)) (T.kids (T.ShR (T.mk (T.k t) (T.n t) (T.kids t)) y c))) ((((List.length cs) : Nat) : Int) % (3 : Int)) c)) (T.kids (T.ShR (T.mk (T.k (T.ShR (T.mk (T.k t) (T.n t) (T.kids t)) y c)) (T.n (T.ShR (T.mk (T.k t) (T.n t) (T.kids t)) y c)) (T.kids (T.ShR (T.mk (T.k t) (T.n t) (T.kids t)) y c))) ((((List.length cs) : Nat) : Int) % (3 : Int)) c))) (T.mk (T.k (T.ShR (T.mk (T.k t) (T.n t) (T.kids t)) (y + ((((List.length cs) : Nat) : Int) % (3 : Int))) c)) (T.n (T.ShR (T.mk (T.k t) (T.n t) (T.kids t)) (y + ((((List.length cs) : Nat) : Int) % (3 : Int))) c)) (T.kids (T.ShR (T.mk (T.k t) (T.n t) (T.kids t)) (y + ((((List.length cs) : Nat) : Int) % (3 : Int))) c))))) []))))
                                               (Ret K (.bool false) []))))
                                          (Ret K (.bool false) [])))
                                       (Ret K (.bool false) []))))))))))))))))))))))))) ?_ (by kernel_rfl)
  refine br (fun _ => retB hk rfl) (fun _ => br (fun _ => retB hk rfl) (fun _ => ⟨hp.1.2, fun t y c ht hy hc => ?_⟩))
  have same : ∀ t : T, t.same t = true := fun t => T.same_iff.2 rfl
  simp only [T.eta, same, bne_self_eq_false, beq_self_eq_true, Bool.not_true, Br_f, Br_t, true_and]
  have z1 := ShR_small t y c
  refine ⟨by omega, ?_⟩
  cases hO : t.ShO y c with
  | false => exact ⟨by omega, retB hk rfl⟩
  | true =>
    obtain ⟨h1, h2, h3, h4, h5⟩ := ShO_parts hO
    have hc0 : (0 : Int) ≤ (cs.length : Int) % 3 := Int.emod_nonneg _ (by decide)
    have hc1 : (cs.length : Int) % 3 < 3 := Int.emod_lt_of_pos _ (by decide)
    generalize (cs.length : Int) % 3 = n at *
    have F1 : (t.ShR y c).ShO (-y) c = true → (t.ShR y c).ShR (-y) c = t := fun h => by rw [(ShO_parts h).2.2.2.2, h5]; exact sh_back hO
    have F2 : ¬ y < 0 → (t.ShR y c).ShO (-y) c = true := fun h => sh_back_ok hO (by omega)
    have F3 : (t.ShR y c).ShO n c = true → t.ShO (y + n) c = true → (t.ShR y c).ShR n c = t.ShR (y + n) c := fun h g => by rw [(ShO_parts h).2.2.2.2, (ShO_parts g).2.2.2.2, h5]; exact sh_add hO
    have z2 := ShR_small (t.ShR y c) (-y) c
    have z3 := ShR_small (t.ShR y c) n c
    have z4 := ShR_small t (y + n) c
    have z5 : sizeL t.kids ≤ 400 := small_of h1
    refine br (fun h => absurd h (by simp)) (fun _ => ?_)
    refine ⟨by unfold InR; omega, ⟨by omega, by omega, by omega⟩, by unfold InR; omega, ?_⟩
    cases g1 : (t.ShR y c).ShO (-y) c <;> cases g2 : (t.ShR y c).ShO n c <;> cases g3 : t.ShO (y + n) c <;> by_cases g4 : y < 0
    all_goals first
      | (rw [F2 g4] at g1; contradiction)
      | skip
    all_goals (try rw [F1 g1])
    all_goals (try rw [F3 g2 g3])
    all_goals simp only [g4, same, decide_true, decide_false, Bool.not_true, Bool.not_false, Br_f, Br_t]
    all_goals (repeat' first | exact retB hk rfl | omega | apply And.intro)
theorem FnShiftBack_sound : Sound Try.prog 8 cFnShiftBack := by
  refine soundF (G := [(30, cdShiftTerm), (31, cShiftTerm), (32, csShiftTerm), (19, cTermSame)]) ((gcons dShiftTerm_sound (gcons ShiftTerm_sound (gcons sShiftTerm_sound (gcons TermSame_sound gnil))))) Try.func8 rfl (by kernel_rfl) fun args hs K hCC => ?_
  unfold cFnShiftBack at hCC
  split at hCC
  case h_2 => exact hCC.elim
  rename_i bs cs
  exact ⟨Nat.le_of_ble_eq_true rfl, _, FnShiftBack_ok bs cs K hCC.1 hCC.2⟩
end Go.Dk
namespace Go.Proofs.Ytbkaifclhjgokaa
open Go.ChangeShapes Go.WideShapes Go.RowKit Go.Dk Go.Proofs
set_option linter.unusedVariables false
theorem FnShiftBack_lifted (os : Os) (started : os.Started) (H : Type) (enc : TypeId × Value → H) :
    ReturnsInHanded {} Try.checked os 8 .any (Rows.fnShiftBackSpec.pre6 enc Try.prog Try.f8 Rows.fnShiftBackRow.domain false) (Rows.fnShiftBackSpec.post enc Try.prog Try.f8 false true false false) := by
  refine returnsInHanded_of_change (C := Try.checked) own started (by kernel_rfl) Try.func8
    (ChangeSpec.witness6 (enc := enc) (C := Try.checked) false ⟨#[], #[.slice none 0 0, .slice none 0 0], []⟩ 8 (by kernel_rfl) (by kernel_rfl) (by kernel_rfl) (by kernel_rfl)) ?_
  intro W base args ds gs before hok hW _ _
  have hW' := hW
  obtain ⟨p, q, hA, hV, rfl, hfz, hnd⟩ := hW
  rw [Try.params8] at hA
  obtain ⟨rfl, rfl⟩ := trodVars_none hV
  obtain ⟨v0, vs0, d0, ds0, q0, s0, e0, rfl, rfl, h0, hA⟩ := trodAll_cons hA
  obtain ⟨v1, vs1, d1, ds1, q1, s1, e1, rfl, rfl, h1, hA⟩ := trodAll_cons hA
  obtain ⟨rfl, rfl, rfl⟩ := trodAll_nil hA
  subst e1
  have ha : args = #[v0, v1] := by cases args; simpa using e0
  subst ha
  obtain ⟨bs0, l0, p0, r0⟩ := open_bytes Try.underlying22 Try.underlying5 (by kernel_rfl) (plain_slice Try.underlying22 (hok 0 _ _ rfl rfl)) h0
  obtain ⟨bs1, l1, p1, r1⟩ := open_bytes Try.underlying22 Try.underlying5 (by kernel_rfl) (plain_slice Try.underlying22 (hok 1 _ _ rfl rfl)) h1
  refine (law_call (args := [.ints .u8 bs0 (.arg 0), .ints .u8 bs1 (.arg 1)]) (vals := [v0, v1]) FnShiftBack_sound (fun K hK => ⟨⟨⟨l0, p0⟩, ⟨l1, p1⟩⟩, hK⟩) (fun j => slOf ([v0, v1].getD j .nilFunc)) ⟨r0 _ 0 rfl, r1 _ 1 rfl, trivial⟩).mono fun e W' ⟨he, hk⟩ => ?_
  exact ⟨_, he, law_post laidOut (of_decide_eq_true (by kernel_rfl)) rfl rfl Try.underlying4 rfl hW' hk⟩
theorem FnShiftBack_holds : Rows.FnShiftBackSaid :=
  OpenClaim.holds_of_wide 8 Try.f8 rfl rfl rfl rfl rfl rfl rfl ⟨rfl, rfl, rfl, rfl, rfl⟩ rfl rfl rfl rfl rfl (by kernel_rfl) Try.func8 (by kernel_rfl)
    (of_decide_eq_true (by kernel_rfl)) (by unfold Func.isWrapper; first | (rw [if_pos (by decide +kernel)]; kernel_rfl) | (rw [if_neg (by decide +kernel)]; exact ⟨rfl, rfl⟩))
    (fun os started H enc _ => FnShiftBack_lifted os started H enc)
end Go.Proofs.Ytbkaifclhjgokaa
namespace Go.Dk
open Go.Proofs
end Go.Dk
