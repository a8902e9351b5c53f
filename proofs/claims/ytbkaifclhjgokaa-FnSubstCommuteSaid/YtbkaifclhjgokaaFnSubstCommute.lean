/- laws.FnSubstCommute returns true and leaves its arguments as they were, for all arguments. -/
import Derived.Test.YtbkaifclhjgokaaLaw
import Derived.Test.YtbkaifclhjgokaaL0
import Derived.Test.YtbkaifclhjgokaaDr2
import Derived.Test.YtbkaifclhjgokaaTh
namespace Go.Dk
set_option linter.unusedVariables false
open Go.Proofs
/-- laws.FnSubstCommute -/
def cFnSubstCommute : Con
  | [.ints .u8 bs (.arg 0), .ints .u8 cs (.arg 1)], [], K => ((bs.length ≤ 9223372036854775807 ∧ Bs bs) ∧ (cs.length ≤ 9223372036854775807 ∧ Bs cs)) ∧ ((K (.bool true) []))
  | _, _, _ => False
theorem FnSubstCommute_ok (bs : List Int) (cs : List Int) (K : AV → List AV → Prop) (hp : ((bs.length ≤ 9223372036854775807 ∧ Bs bs) ∧ (cs.length ≤ 9223372036854775807 ∧ Bs cs))) (hk : ((K (.bool true) []))) :
    bodyQ [(40, cdSubstTerm), (37, cSubstTerm), (36, csSubstTerm), (31, cShiftTerm), (19, cTermSame)] TY [] Try.f14 (body Try.f14) [.ints .u8 bs (.arg 0), .ints .u8 cs (.arg 1)] [] K := by
  refine of_vc (A :=
      (Br (Decidable.decide ((1048576 : Int) < (((List.length bs) : Nat) : Int)))
        (Ret K (.bool true) [])
        (Br (Decidable.decide ((1048576 : Int) < (((List.length cs) : Nat) : Int)))
          (Ret K (.bool true) [])
          ((Bs bs) ∧
           (∀ t : T,
             (∀ c : Int,
               (∀ u : T,
                 (((T.size t) ≤ (1000 : Nat)) →
                  ((((- (1 : Int)) ≤ c) ∧ (c ≤ (21 : Int))) →
                   (((T.size u) ≤ (1000 : Nat)) →
                    ((Bs cs) ∧
                     (∀ t1 : T,
                       (∀ c1 : Int,
                         (∀ u1 : T,
                           (((T.size t1) ≤ (1000 : Nat)) →
                            ((((- (1 : Int)) ≤ c1) ∧ (c1 ≤ (21 : Int))) →
                             (((T.size u1) ≤ (1000 : Nat)) →
                              (True ∧
                               (True ∧
                                (Br (bne (T.SbO (T.mk (T.k t) (T.n t) (T.kids t)) (0 : Int) (T.mk (T.k u) (T.n u) (T.kids u))) (T.SbO (T.mk (T.k t) (T.n t) (T.kids t)) (0 : Int) (T.mk (T.k u) (T.n u) (T.kids u))))
                                  (Br (BEq.beq (T.SbO (T.mk (T.k t) (T.n t) (T.kids t)) (0 : Int) (T.mk (T.k u) (T.n u) (T.kids u))) (T.SbO (T.mk (T.k t) (T.n t) (T.kids t)) (0 : Int) (T.mk (T.k u) (T.n u) (T.kids u))))
                                    (((sizeL (T.kids (T.SbR (T.mk (T.k t) (T.n t) (T.kids t)) (0 : Int) (T.mk (T.k u) (T.n u) (T.kids u))))) ≤ (1099511627776 : Nat)) ∧
                                     (Ret K (.bool (T.same (T.mk (T.k (T.SbR (T.mk (T.k t) (T.n t) (T.kids t)) (0 : Int) (T.mk (T.k u) (T.n u) (T.kids u)))) (T.n (T.SbR (T.mk (T.k t) (T.n t) (T.kids t)) (0 : Int) (T.mk (T.k u) (T.n u) (T.kids u)))) (T.kids (T.SbR (T.mk (T.k t) (T.n t) (T.kids t)) (0 : Int) (T.mk (T.k u) (T.n u) (T.kids u))))) (T.mk (T.k (T.SbR (T.mk (T.k t) (T.n t) (T.kids t)) (0 : Int) (T.mk (T.k u) (T.n u) (T.kids u)))) (T.n (T.SbR (T.mk (T.k t) (T.n t) (T.kids t)) (0 : Int) (T.mk (T.k u) (T.n u) (T.kids u)))) (T.kids (T.SbR (T.mk (T.k t) (T.n t) (T.kids t)) (0 : Int) (T.mk (T.k u) (T.n u) (T.kids u))))))) []))
                                    (Ret K (.bool false) []))
                                  (((sizeL (T.kids (T.SbR (T.mk (T.k t) (T.n t) (T.kids t)) (0 : Int) (T.mk (T.k u) (T.n u) (T.kids u))))) ≤ (1099511627776 : Nat)) ∧
                                   (Br (Bool.not (T.same (T.mk (T.k (T.SbR (T.mk (T.k t) (T.n t) (T.kids t)) (0 : Int) (T.mk (T.k u) (T.n u) (T.kids u)))) (T.n (T.SbR (T.mk (T.k t) (T.n t) (T.kids t)) (0 : Int) (T.mk (T.k u) (T.n u) (T.kids u)))) (T.kids (T.SbR (T.mk (T.k t) (T.n t) (T.kids t)) (0 : Int) (T.mk (T.k u) (T.n u) (T.kids u))))) (T.mk (T.k (T.SbR (T.mk (T.k t) (T.n t) (T.kids t)) (0 : Int) (T.mk (T.k u) (T.n u) (T.kids u)))) (T.n (T.SbR (T.mk (T.k t) (T.n t) (T.kids t)) (0 : Int) (T.mk (T.k u) (T.n u) (T.kids u)))) (T.kids (T.SbR (T.mk (T.k t) (T.n t) (T.kids t)) (0 : Int) (T.mk (T.k u) (T.n u) (T.kids u)))))))
                                     (Br (BEq.beq (T.SbO (T.mk (T.k t) (T.n t) (T.kids t)) (0 : Int) (T.mk (T.k u) (T.n u) (T.kids u))) (T.SbO (T.mk (T.k t) (T.n t) (T.kids t)) (0 : Int) (T.mk (T.k u) (T.n u) (T.kids u))))
                                       (((sizeL (T.kids (T.SbR (T.mk (T.k t) (T.n t) (T.kids t)) (0 : Int) (T.mk (T.k u) (T.n u) (T.kids u))))) ≤ (1099511627776 : Nat)) ∧
                                        (Ret K (.bool (T.same (T.mk (T.k (T.SbR (T.mk (T.k t) (T.n t) (T.kids t)) (0 : Int) (T.mk (T.k u) (T.n u) (T.kids u)))) (T.n (T.SbR (T.mk (T.k t) (T.n t) (T.kids t)) (0 : Int) (T.mk (T.k u) (T.n u) (T.kids u)))) (T.kids (T.SbR (T.mk (T.k t) (T.n t) (T.kids t)) (0 : Int) (T.mk (T.k u) (T.n u) (T.kids u))))) (T.mk (T.k (T.SbR (T.mk (T.k t) (T.n t) (T.kids t)) (0 : Int) (T.mk (T.k u) (T.n u) (T.kids u)))) (T.n (T.SbR (T.mk (T.k t) (T.n t) (T.kids t)) (0 : Int) (T.mk (T.k u) (T.n u) (T.kids u)))) (T.kids (T.SbR (T.mk (T.k t) (T.n t) (T.kids t)) (0 : Int) (T.mk (T.k u) (T.n u) (T.kids u))))))) []))
                                       (Ret K (.bool false) []))
                                     (Br (Bool.not (T.SbO (T.mk (T.k t) (T.n t) (T.kids t)) (0 : Int) (T.mk (T.k u) (T.n u) (T.kids u))))
                                       (Br (BEq.beq (T.SbO (T.mk (T.k t) (T.n t) (T.kids t)) (0 : Int) (T.mk (T.k u) (T.n u) (T.kids u))) (T.SbO (T.mk (T.k t) (T.n t) (T.kids t)) (0 : Int) (T.mk (T.k u) (T.n u) (T.kids u))))
                                         (((sizeL (T.kids (T.SbR (T.mk (T.k t) (T.n t) (T.kids t)) (0 : Int) (T.mk (T.k u) (T.n u) (T.kids u))))) ≤ (1099511627776 : Nat)) ∧
                                          (Ret K (.bool (T.same (T.mk (T.k (T.SbR (T.mk (T.k t) (T.n t) (T.kids t)) (0 : Int) (T.mk (T.k u) (T.n u) (T.kids u)))) (T.n (T.SbR (T.mk (T.k t) (T.n t) (T.kids t)) (0 : Int) (T.mk (T.k u) (T.n u) (T.kids u)))) (T.kids (T.SbR (T.mk (T.k t) (T.n t) (T.kids t)) (0 : Int) (T.mk (T.k u) (T.n u) (T.kids u))))) (T.mk (T.k (T.SbR (T.mk (T.k t) (T.n t) (T.kids t)) (0 : Int) (T.mk (T.k u) (T.n u) (T.kids u)))) (T.n (T.SbR (T.mk (T.k t) (T.n t) (T.kids t)) (0 : Int) (T.mk (T.k u) (T.n u) (T.kids u)))) (T.kids (T.SbR (T.mk (T.k t) (T.n t) (T.kids t)) (0 : Int) (T.mk (T.k u) (T.n u) (T.kids u))))))) []))
                                         (Ret K (.bool false) []))
                                       (Br (Decidable.decide (c1 < (0 : Int)))
                                         (Br (BEq.beq (T.SbO (T.mk (T.k t) (T.n t) (T.kids t)) (0 : Int) (T.mk (T.k u) (T.n u) (T.kids u))) (T.SbO (T.mk (T.k t) (T.n t) (T.kids t)) (0 : Int) (T.mk (T.k u) (T.n u) (T.kids u))))
                                           (((sizeL (T.kids (T.SbR (T.mk (T.k t) (T.n t) (T.kids t)) (0 : Int) (T.mk (T.k u) (T.n u) (T.kids u))))) ≤ (1099511627776 : Nat)) ∧
                                            (Ret K (.bool (T.same (T.mk (T.k (T.SbR (T.mk (T.k t) (T.n t) (T.kids t)) (0 : Int) (T.mk (T.k u) (T.n u) (T.kids u)))) (T.n (T.SbR (T.mk (T.k t) (T.n t) (T.kids t)) (0 : Int) (T.mk (T.k u) (T.n u) (T.kids u)))) (T.kids (T.SbR (T.mk (T.k t) (T.n t) (T.kids t)) (0 : Int) (T.mk (T.k u) (T.n u) (T.kids u))))) (T.mk (T.k (T.SbR (T.mk (T.k t) (T.n t) (T.kids t)) (0 : Int) (T.mk (T.k u) (T.n u) (T.kids u)))) (T.n (T.SbR (T.mk (T.k t) (T.n t) (T.kids t)) (0 : Int) (T.mk (T.k u) (T.n u) (T.kids u)))) (T.kids (T.SbR (T.mk (T.k t) (T.n t) (T.kids t)) (0 : Int) (T.mk (T.k u) (T.n u) (T.kids u))))))) []))
                                           (Ret K (.bool false) []))
                                         (Br (Decidable.decide ((20 : Int) ≤ c1))
                                           (Br (BEq.beq (T.SbO (T.mk (T.k t) (T.n t) (T.kids t)) (0 : Int) (T.mk (T.k u) (T.n u) (T.kids u))) (T.SbO (T.mk (T.k t) (T.n t) (T.kids t)) (0 : Int) (T.mk (T.k u) (T.n u) (T.kids u))))
                                             (((sizeL (T.kids (T.SbR (T.mk (T.k t) (T.n t) (T.kids t)) (0 : Int) (T.mk (T.k u) (T.n u) (T.kids u))))) ≤ (1099511627776 : Nat)) ∧
                                              (Ret K (.bool (T.same (T.mk (T.k (T.SbR (T.mk (T.k t) (T.n t) (T.kids t)) (0 : Int) (T.mk (T.k u) (T.n u) (T.kids u)))) (T.n (T.SbR (T.mk (T.k t) (T.n t) (T.kids t)) (0 : Int) (T.mk (T.k u) (T.n u) (T.kids u)))) (T.kids (T.SbR (T.mk (T.k t) (T.n t) (T.kids t)) (0 : Int) (T.mk (T.k u) (T.n u) (T.kids u))))) (T.mk (T.k (T.SbR (T.mk (T.k t) (T.n t) (T.kids t)) (0 : Int) (T.mk (T.k u) (T.n u) (T.kids u)))) (T.n (T.SbR (T.mk (T.k t) (T.n t) (T.kids t)) (0 : Int) (T.mk (T.k u) (T.n u) (T.kids u)))) (T.kids (T.SbR (T.mk (T.k t) (T.n t) (T.kids t)) (0 : Int) (T.mk (T.k u) (T.n u) (T.kids u))))))) []))
                                             (Ret K (.bool false) []))
                                           (True ∧
                                            (True ∧
                                             ((InR (c1 + (1 : Int))) ∧
                                              (True ∧
                                               (True ∧
                                                (True ∧
                                                 (Br (Bool.not (T.SbO (T.mk (T.k (T.SbR (T.mk (T.k t) (T.n t) (T.kids t)) (0 : Int) (T.mk (T.k u) (T.n u) (T.kids u)))) (T.n (T.SbR (T.mk (T.k t) (T.n t) (T.kids t)) (0 : Int) (T.mk (T.k u) (T.n u) (T.kids u)))) (T.kids (T.SbR (T.mk (T.k t) (T.n t) (T.kids t)) (0 : Int) (T.mk (T.k u) (T.n u) (T.kids u))))) c1 (T.mk (T.k u1) (T.n u1) (T.kids u1))))
                                                   (Ret K (.bool true) [])
                                                   (Br (Bool.not (T.ShO (T.mk (T.k u1) (T.n u1) (T.kids u1)) (1 : Int) (0 : Int)))
                                                     (Ret K (.bool true) [])
                                                     (Br (Bool.not (T.SbO (T.mk (T.k t) (T.n t) (T.kids t)) (c1 + (1 : Int)) (T.mk (T.k (T.ShR (T.mk (T.k u1) (T.n u1) (T.kids u1)) (1 : Int) (0 : Int))) (T.n (T.ShR (T.mk (T.k u1) (T.n u1) (T.kids u1)) (1 : Int) (0 : Int))) (T.kids (T.ShR (T.mk (T.k u1) (T.n u1) (T.kids u1)) (1 : Int) (0 : Int))))))
                                                       (Ret K (.bool true) [])
                                                       (Br (Bool.not (T.SbO (T.mk (T.k u) (T.n u) (T.kids u)) c1 (T.mk (T.k u1) (T.n u1) (T.kids u1))))
                                                         (Ret K (.bool true) [])
                                                         (Br (T.SbO (T.mk (T.k (T.SbR (T.mk (T.k t) (T.n t) (T.kids t)) (c1 + (1 : Int)) (T.mk (T.k (T.ShR (T.mk (T.k u1) (T.n u1) (T.kids u1)) (1 : Int) (0 : Int))) (T.n (T.ShR (T.mk (T.k u1) (T.n u1) (T.kids u1)) (1 : Int) (0 : Int))) (T.kids (T.ShR (T.mk (T.k u1) (T.n u1) (T.kids u1)) (1 : Int) (0 : Int)))))) (T.n (T.SbR (T.mk (T.k t) (T.n t) (T.kids t)) (c1 + (1 : Int)) (T.mk (T.k (T.ShR (T.mk (T.k u1) (T.n u1) (T.kids u1)) (1 : Int) (0 : Int))) (T.n (T.ShR (T.mk (T.k u1) (T.n u1) (T.kids u1)) (1 : Int) (0 : Int))) (T.kids (T.ShR (T.mk (T.k u1) (T.n u1) (T.kids u1)) (1 : Int) (0 : Int)))))) (T.kids (T.SbR (T.mk (T.k t) (T.n t) (T.kids t)) (c1 + (1 : Int)) (T.mk (T.k (T.ShR (T.mk (T.k u1) (T.n u1) (T.kids u1)) (1 : Int) (0 : Int))) (T.n (T.ShR (T.mk (T.k u1) (T.n u1) (T.kids u1)) (1 : Int) (0 : Int))) (T.kids (T.ShR (T.mk (T.k u1) (T.n u1) (T.kids u1)) (1 : Int) (0 : Int))))))) (0 : Int) (T.mk (T.k (T.SbR (T.mk (T.k u) (T.n u) (T.kids u)) c1 (T.mk (T.k u1) (T.n u1) (T.kids u1)))) (T.n (T.SbR (T.mk (T.k u) (T.n u) (T.kids u)) c1 (T.mk (T.k u1) (T.n u1) (T.kids u1)))) (T.kids (T.SbR (T.mk (T.k u) (T.n u) (T.kids u)) c1 (T.mk (T.k u1) (T.n u1) (T.kids u1))))))
                                                           (((sizeL (T.kids (T.SbR (T.mk (T.k (T.SbR (T.mk (T.k t) (T.n t) (T.kids t)) (0 : Int) (T.mk (T.k u) (T.n u) (T.kids u)))) (T.n (T.SbR (T.mk (T.k t) (T.n t) (T.kids t)) (0 : Int) (T.mk (T.k u) (T.n u) (T.kids u)))) (T.kids (T.SbR (T.mk (T.k t) (T.n t) (T.kids t)) (0 : Int) (T.mk (T.k u) (T.n u) (T.kids u))))) c1 (T.mk (T.k u1) (T.n u1) (T.kids u1))))) ≤ (1099511627776 : Nat)) ∧
                                                            (Ret K (.bool (T.same (T.mk (T.k (T.SbR (T.mk (T.k (T.SbR (T.mk (T.k t) (T.n t) (T.kids t)) (0 : Int) (T.mk (T.k u) (T.n u) (T.kids u)))) (T.n (T.SbR (T.mk (T.k t) (T.n t) (T.kids t)) (0 : Int) (T.mk (T.k u) (T.n u) (T.kids u)))) (T.kids (T.SbR (T.mk (T.k t) (T.n t) (T.kids t)) (0 : Int) (T.mk (T.k u) (T.n u) (T.kids u))))) c1 (T.mk (T.k u1) (T.n u1) (T.kids u1)))) (T.n (T.SbR (T.mk (T.k (T.SbR (T.mk (T.k t) (T.n t) (T.kids t)) (0 : Int) (T.mk (T.k u) (T.n u) (T.kids u)))) (T.n (T.SbR (T.mk (T.k t) (T.n t) (T.kids t)) (0 : Int) (T.mk (T.k u) (T.n u) (T.kids u)))) (T.kids (T.SbR (T.mk (T.k t) (T.n t) (T.kids t)) (0 : Int) (T.mk (T.k u) (T.n u) (T.kids u))))) c1 (T.mk (T.k u1) (T.n u1) (T.kids u1)))) (T.kids (T.SbR (T.mk (T.k (T.SbR (T.mk (T.k t) (T.n t) (T.kids t)) (0 : Int) (T.mk (T.k u) (T.n u) (T.kids u)))) (T.n (T.SbR (T.mk (T.k t) (T.n t) (T.kids t)) (0 : Int) (T.mk (T.k u) (T.n u) (T.kids u)))) (T.kids (T.SbR (T.mk (T.k t) (T.n t) (T.kids t)) (0 : Int) (T.mk (T.k u) (T.n u) (T.kids u))))) c1 (T.mk (T.k u1) (T.n u1) (T.kids u1))))) (T.mk (T.k (T.SbR (T.mk (T.k (T.SbR (T.mk (T.k t) (T.n t) (T.kids t)) (c1 + (1 : Int)) (T.mk (T.k (T.ShR (T.mk (T.k u1) (T.n u1) (T.kids u1)) (1 : Int) (0 : Int))) (T.n (T.ShR (T.mk (T.k u1) (T.n u1) (T.kids u1)) (1 : Int) (0 : Int))) (T.kids (T.ShR (T.mk (T.k u1) (T.n u1) (T.kids u1)) (1 : Int) (0 : Int)))))) (T.n (T.SbR (T.mk (T.k t) (T.n t) (T.kids t)) (c1 + (1 : Int)) (T.mk (T.k (T.ShR (T.mk (T.k u1) (T.n u1) (T.kids u1)) (1 : Int) (0 : Int))) (T.n (T.ShR (T.mk (T.k u1) (T.n u1) (T.kids u1)) (1 : Int) (0 : Int))) (T.kids (T.ShR (T.mk (T.k u1) (T.n u1) (T.kids u1)) (1 : Int) (0 : Int)))))) (T.kids (T.SbR (T.mk (T.k t) (T.n t) (T.kids t)) (c1 + (1 : Int)) (T.mk (T.k (T.ShR (T.mk (T.k u1) (T.n u1) (T.kids u1)) (1 : Int) (0 : Int))) (T.n (T.ShR (T.mk (T.k u1) (T.n u1) (T.kids u1)) (1 : Int) (0 : Int))) (T.kids (T.ShR (T.mk (T.k u1) (T.n u1) (T.kids u1)) (1 : Int) (0 : Int))))))) (0 : Int) (T.mk (T.k (T.SbR (T.mk (T.k u) (T.n u) (T.kids u)) c1 (T.mk (T.k u1) (T.n u1) (T.kids u1)))) (T.n (T.SbR (T.mk (T.k u) (T.n u) (T.kids u)) c1 (T.mk (T.k u1) (T.n u1) (T.kids u1)))) (T.kids (T.SbR (T.mk (T.k u) (T.n u) (T.kids u)) c1 (T.mk (T.k u1) (T.n u1) (T.kids u1))))))) (T.n (T.SbR (T.mk (T.k (T.SbR (T.mk (T.k t) (T.n t) (T.kids t)) (c1 + (1 : Int)) (T.mk (T.k (T.ShR (T.mk (T.k u1) (T.n u1) (T.kids u1)) (1 : Int) (0 : Int))) (T.n (T.ShR (T.mk (T.k u1) (T.n u1) (T.kids u1)) (1 : Int) (0 : Int))) (T.kids (T.ShR (T.mk (T.k u1) (T.n u1) (T.kids u1)) (1 : Int) (0 : Int)))))) (T.n (T.SbR (T.mk (T.k t) (T.n t) (T.kids t)) (c1 + (1 : Int)) (T.mk (T.k (T.ShR (T.mk (T.k u1) (T.n u1) (T.kids u1)) (1 : Int) (0 : Int))) (T.n (T.ShR (T.mk (T.k u1) (T.n u1) (T.kids u1)) (1 : Int) (0 : Int))) (T.kids (T.ShR (T.mk (T.k u1) (T.n u1) (T.kids u1)) (1 : Int) (0 : Int)))))) (T.kids (T.SbR (T.mk (T.k t) (T.n t) (T.kids t)) (c1 + (1 : Int)) (T.mk (T.k (T.ShR (T.mk (T.k u1) (T.n u1) (T.kids u1)) (1 : Int) (0 : Int))) (T.n (T.ShR (T.mk (T.k u1) (T.n u1) (T.kids u1)) (1 : Int) (0 : Int))) (T.kids (T.ShR (T.mk (T.k u1) (T.n u1) (T.kids u1)) (1 : Int) (0 : Int))))))) (0 : Int) (T.mk (T.k (T.SbR (T.mk (T.k u) (T.n u) (T.kids u)) c1 (T.mk (T.k u1) (T.n u1) (T.kids u1)))) (T.n (T.SbR (T.mk (T.k u) (T.n u) (T.kids u)) c1 (T.mk (T.k u1) (T.n u1) (T.kids u1)))) (T.kids (T.SbR (T.mk (T.k u) (T.n u) (T.kids u)) c1 (T.mk (T.k u1) (T.n u1) (T.kids u1))))))) (T.kids (T.SbR (T.mk (T.k (T.SbR (T.mk (T.k t) (T.n t) (T.kids t)) (c1 + (1 : Int)) (T.mk (T.k (T.ShR (T.mk (T.k u1) (T.n u1) (T.kids u1)) (1 : Int) (0 : Int))) (T.n (T.ShR (T.mk (T.k u1) (T.n u1) (T.kids u1)) (1 : Int) (0 : Int))) (T.kids (T.ShR (T.mk (T.k u1) (T.n u1) (T.kids u1)) (1 : Int) (0 : Int)))))) (T.n (T.SbR (T.mk (T.k t) (T.n t) (T.kids t)) (c1 + (1 : Int)) (T.mk (T.k (T.ShR (T.mk (T.k u1) (T.n u1) (T.kids u1)) (1 : Int) (0 : Int))) (T.n (T.ShR (T.mk (T.k u1) (T.n u1) (T.kids u1)) (1 : Int) (0 : Int))) (T.kids (T.ShR (T.mk (T.k u1) (T.n u1) (T.kids u1)) (1 : Int) (0 : Int)))))) (T.kids (T.SbR (T.mk (T.k t) (T.n t) (T.kids t)) (c1 + (1 : Int)) (T.mk (T.k (T.ShR (T.mk (T.k u1) (T.n u1) (T.kids u1)) (1 : Int) (0 : Int))) (T.n (T.ShR (T.mk (T.k u1) (T.n u1) (T.kids u1)) (1 : Int) (0 : Int))) (T.kids (T.ShR (T.mk (T.k u1) (T.n u1) (T.kids u1)) (1 : Int) (0 : Int))))))) (0 : Int) (T.mk (T.k (T.SbR (T.mk (T.k u) (T.n u) (T.kids u)) c1 (T.mk (T.k u1) (T.n u1) (T.kids u1)))) (T.n (T.SbR (T.mk (T.k u) (T.n u) (T.kids u)) c1 (T.mk (T.k u1) (T.n u1) (T.kids u1)))) (T.kids (T.SbR (T.mk (T.k u) (T.n u) (T.kids u)) c1 (T.mk (T.k u1) (T.n u1) (T.kids u1)))))))))) []))
                                                           (Ret K (.bool false) []))))))))))))))))))))))))))))))))))))) ?_ (by kernel_rfl)
  refine br (fun _ => retB hk rfl) (fun _ => br (fun _ => retB hk rfl) (fun _ => ⟨hp.1.2, fun t c0 u ht hc0 hu => ⟨hp.2.2, fun t' j v ht' hj hv => ?_⟩⟩))
  have same : ∀ t : T, t.same t = true := fun t => T.same_iff.2 rfl
  simp only [T.eta, same]
  have z1 := SbR_small t 0 u
  have A : Br (t.SbO 0 u == t.SbO 0 u) (sizeL (t.SbR 0 u).kids ≤ 1099511627776 ∧ Ret K (AV.bool true) []) (Ret K (AV.bool false) []) := br (fun _ => ⟨by omega, retB hk rfl⟩) (fun h => absurd h (by simp))
  refine ⟨trivial, trivial, br (fun h => absurd h (by simp)) (fun _ => ⟨by omega, br (fun h => absurd h (by simp)) (fun _ => br (fun _ => A) (fun h1 => br (fun _ => A) (fun _ => br (fun _ => A) (fun _ => ⟨trivial, trivial, by unfold InR; omega, trivial, trivial, trivial, br (fun _ => retB hk rfl) (fun h2 => br (fun _ => retB hk rfl) (fun h3 => br (fun _ => retB hk rfl) (fun h4 => br (fun _ => retB hk rfl) (fun h5 => ?_))))⟩))))⟩)⟩
  rw [Bool.not_eq_false'] at h1 h2 h3 h4 h5
  obtain ⟨q1, q2⟩ := Sb_Sb h1 h2 h3 h4 h5
  have z2 := SbR_small (t.SbR 0 u) j v
  rw [q1, ← q2]
  exact br (fun _ => ⟨by omega, retB hk (same _)⟩) (fun h => absurd h (by simp))
theorem FnSubstCommute_sound : Sound Try.prog 14 cFnSubstCommute := by
  refine soundF (G := [(40, cdSubstTerm), (37, cSubstTerm), (36, csSubstTerm), (31, cShiftTerm), (19, cTermSame)]) ((gcons dSubstTerm_sound (gcons SubstTerm_sound (gcons sSubstTerm_sound (gcons ShiftTerm_sound (gcons TermSame_sound gnil)))))) Try.func14 rfl (by kernel_rfl) fun args hs K hCC => ?_
  unfold cFnSubstCommute at hCC
  split at hCC
  case h_2 => exact hCC.elim
  rename_i bs cs
  exact ⟨Nat.le_of_ble_eq_true rfl, _, FnSubstCommute_ok bs cs K hCC.1 hCC.2⟩
end Go.Dk
namespace Go.Proofs.Ytbkaifclhjgokaa
open Go.ChangeShapes Go.WideShapes Go.RowKit Go.Dk Go.Proofs
set_option linter.unusedVariables false
theorem FnSubstCommute_lifted (os : Os) (started : os.Started) (H : Type) (enc : TypeId × Value → H) :
    ReturnsInHanded {} Try.checked os 14 .any (Rows.fnSubstCommuteSpec.pre6 enc Try.prog Try.f14 Rows.fnSubstCommuteRow.domain false) (Rows.fnSubstCommuteSpec.post enc Try.prog Try.f14 false true false false) := by
  refine returnsInHanded_of_change (C := Try.checked) own started (by kernel_rfl) Try.func14
    (ChangeSpec.witness6 (enc := enc) (C := Try.checked) false ⟨#[], #[.slice none 0 0, .slice none 0 0], []⟩ 8 (by kernel_rfl) (by kernel_rfl) (by kernel_rfl) (by kernel_rfl)) ?_
  intro W base args ds gs before hok hW _ _
  have hW' := hW
  obtain ⟨p, q, hA, hV, rfl, hfz, hnd⟩ := hW
  rw [Try.params14] at hA
  obtain ⟨rfl, rfl⟩ := trodVars_none hV
  obtain ⟨v0, vs0, d0, ds0, q0, s0, e0, rfl, rfl, h0, hA⟩ := trodAll_cons hA
  obtain ⟨v1, vs1, d1, ds1, q1, s1, e1, rfl, rfl, h1, hA⟩ := trodAll_cons hA
  obtain ⟨rfl, rfl, rfl⟩ := trodAll_nil hA
  subst e1
  have ha : args = #[v0, v1] := by cases args; simpa using e0
  subst ha
  obtain ⟨bs0, l0, p0, r0⟩ := open_bytes Try.underlying22 Try.underlying5 (by kernel_rfl) (plain_slice Try.underlying22 (hok 0 _ _ rfl rfl)) h0
  obtain ⟨bs1, l1, p1, r1⟩ := open_bytes Try.underlying22 Try.underlying5 (by kernel_rfl) (plain_slice Try.underlying22 (hok 1 _ _ rfl rfl)) h1
  refine (law_call (args := [.ints .u8 bs0 (.arg 0), .ints .u8 bs1 (.arg 1)]) (vals := [v0, v1]) FnSubstCommute_sound (fun K hK => ⟨⟨⟨l0, p0⟩, ⟨l1, p1⟩⟩, hK⟩) (fun j => slOf ([v0, v1].getD j .nilFunc)) ⟨r0 _ 0 rfl, r1 _ 1 rfl, trivial⟩).mono fun e W' ⟨he, hk⟩ => ?_
  exact ⟨_, he, law_post laidOut (of_decide_eq_true (by kernel_rfl)) rfl rfl Try.underlying4 rfl hW' hk⟩
theorem FnSubstCommute_holds : Rows.FnSubstCommuteSaid :=
  OpenClaim.holds_of_wide 14 Try.f14 rfl rfl rfl rfl rfl rfl rfl ⟨rfl, rfl, rfl, rfl, rfl⟩ rfl rfl rfl rfl rfl (by kernel_rfl) Try.func14 (by kernel_rfl)
    (of_decide_eq_true (by kernel_rfl)) (by unfold Func.isWrapper; first | (rw [if_pos (by decide +kernel)]; kernel_rfl) | (rw [if_neg (by decide +kernel)]; exact ⟨rfl, rfl⟩))
    (fun os started H enc _ => FnSubstCommute_lifted os started H enc)
end Go.Proofs.Ytbkaifclhjgokaa
namespace Go.Dk
open Go.Proofs
end Go.Dk
