/- laws.FnRenameShift returns true and leaves its arguments as they were, for all arguments. -/
import Derived.Test.YthlaiappcknehaaLaw
import Derived.Test.YthlaiappcknehaaL0
import Derived.Test.YthlaiappcknehaaDr2
import Derived.Test.YthlaiappcknehaaTh2
namespace Go.Dk
set_option linter.unusedVariables false
open Go.Proofs
/-- A shift as a list of names. -/
def shn (y c : Int) (n : Nat) : List Int := (List.range n).map fun (k : Nat) => if c ≤ (k : Int) then (k : Int) + y else k
theorem shn_len (y c : Int) (n : Nat) : (shn y c n).length = n := by simp [shn]
theorem shn_succ (y c : Int) (n : Nat) : shn y c n ++ [if c ≤ (n : Int) then (n : Int) + y else n] = shn y c (n + 1) := by simp [shn, List.range_succ]
theorem shn_get {y c : Int} {n i : Nat} (h : i < n) : (shn y c n).getD i 0 = if c ≤ (i : Int) then (i : Int) + y else i := by
  simp [shn, List.getD_eq_getElem?_getD, h]
/-- laws.FnRenameShift -/
def cFnRenameShift : Con
  | [.ints .u8 bs (.arg 0)], [], K => ((bs.length ≤ 9223372036854775807 ∧ Bs bs)) ∧ ((K (.bool true) []))
  | _, _, _ => False
theorem FnRenameShift_ok (bs : List Int) (K : AV → List AV → Prop) (hp : ((bs.length ≤ 9223372036854775807 ∧ Bs bs))) (hk : ((K (.bool true) []))) :
    bodyQ [(15, cdShiftTerm), (16, cShiftTerm), (17, csShiftTerm), (22, cRenameTerm), (24, cMaxFree), (18, cTermSame)] TY [(10, { ι := (T × Int × Int) × Nat, ok := fun x => x.1.1.ShO x.1.2.1 x.1.2.2 = true ∧ (x.2 : Int) ≤ mfL (x.1.1.vs 0) ∧ ∀ z ∈ shn x.1.2.1 x.1.2.2 x.2, 0 ≤ z ∧ z ≤ 20, tl := fun x => [(3, .ptr 3), (4, .int .i64 (x.1.2.1)), (5, .int .i64 (x.1.2.2)), (6, .ptr 6), (10, .ints .i64 (shn x.1.2.1 x.1.2.2 x.2) (.iv 4 0 true (.tok 82))), (11, .int .i64 x.2)], hl := fun x => [(3, x.1.1.av .any), (6, (x.1.1.ShR x.1.2.1 x.1.2.2).av .any)], fh := fun _ => [], μ := fun x => (mfL (x.1.1.vs 0)).toNat - x.2 })] Try.f5 (body Try.f5) [.ints .u8 bs (.arg 0)] [] K := by
  refine of_vc (A :=
      (Br (Decidable.decide ((1048576 : Int) < (((List.length bs) : Nat) : Int)))
        (Ret K (.bool true) [])
        ((Bs bs) ∧
         (∀ t : T,
           (∀ y : Int,
             (∀ c : Int,
               (((T.size t) ≤ (1000 : Nat)) →
                ((InR y) →
                 ((((- (1 : Int)) ≤ c) ∧ (c ≤ (21 : Int))) →
                  (True ∧
                   (True ∧
                    (Br (bne (T.ShO (T.mk (T.k t) (T.n t) (T.kids t)) y c) (T.ShO (T.mk (T.k t) (T.n t) (T.kids t)) y c))
                      (Br (BEq.beq (T.ShO (T.mk (T.k t) (T.n t) (T.kids t)) y c) (T.ShO (T.mk (T.k t) (T.n t) (T.kids t)) y c))
                        (((sizeL (T.kids (T.ShR (T.mk (T.k t) (T.n t) (T.kids t)) y c))) ≤ (1099511627776 : Nat)) ∧
                         (Ret K (.bool (T.same (T.mk (T.k (T.ShR (T.mk (T.k t) (T.n t) (T.kids t)) y c)) (T.n (T.ShR (T.mk (T.k t) (T.n t) (T.kids t)) y c)) (T.kids (T.ShR (T.mk (T.k t) (T.n t) (T.kids t)) y c))) (T.mk (T.k (T.ShR (T.mk (T.k t) (T.n t) (T.kids t)) y c)) (T.n (T.ShR (T.mk (T.k t) (T.n t) (T.kids t)) y c)) (T.kids (T.ShR (T.mk (T.k t) (T.n t) (T.kids t)) y c))))) []))
                        (Ret K (.bool false) []))
                      (((sizeL (T.kids (T.ShR (T.mk (T.k t) (T.n t) (T.kids t)) y c))) ≤ (1099511627776 : Nat)) ∧
                       (Br (Bool.not (T.same (T.mk (T.k (T.ShR (T.mk (T.k t) (T.n t) (T.kids t)) y c)) (T.n (T.ShR (T.mk (T.k t) (T.n t) (T.kids t)) y c)) (T.kids (T.ShR (T.mk (T.k t) (T.n t) (T.kids t)) y c))) (T.mk (T.k (T.ShR (T.mk (T.k t) (T.n t) (T.kids t)) y c)) (T.n (T.ShR (T.mk (T.k t) (T.n t) (T.kids t)) y c)) (T.kids (T.ShR (T.mk (T.k t) (T.n t) (T.kids t)) y c)))))
                         (Br (BEq.beq (T.ShO (T.mk (T.k t) (T.n t) (T.kids t)) y c) (T.ShO (T.mk (T.k t) (T.n t) (T.kids t)) y c))
                           (((sizeL (T.kids (T.ShR (T.mk (T.k t) (T.n t) (T.kids t)) y c))) ≤ (1099511627776 : Nat)) ∧
                            (Ret K (.bool (T.same (T.mk (T.k (T.ShR (T.mk (T.k t) (T.n t) (T.kids t)) y c)) (T.n (T.ShR (T.mk (T.k t) (T.n t) (T.kids t)) y c)) (T.kids (T.ShR (T.mk (T.k t) (T.n t) (T.kids t)) y c))) (T.mk (T.k (T.ShR (T.mk (T.k t) (T.n t) (T.kids t)) y c)) (T.n (T.ShR (T.mk (T.k t) (T.n t) (T.kids t)) y c)) (T.kids (T.ShR (T.mk (T.k t) (T.n t) (T.kids t)) y c))))) []))
                           (Ret K (.bool false) []))
                         (Br (Bool.not (T.ShO (T.mk (T.k t) (T.n t) (T.kids t)) y c))
                           (Br (BEq.beq (T.ShO (T.mk (T.k t) (T.n t) (T.kids t)) y c) (T.ShO (T.mk (T.k t) (T.n t) (T.kids t)) y c))
                             (((sizeL (T.kids (T.ShR (T.mk (T.k t) (T.n t) (T.kids t)) y c))) ≤ (1099511627776 : Nat)) ∧
                              (Ret K (.bool (T.same (T.mk (T.k (T.ShR (T.mk (T.k t) (T.n t) (T.kids t)) y c)) (T.n (T.ShR (T.mk (T.k t) (T.n t) (T.kids t)) y c)) (T.kids (T.ShR (T.mk (T.k t) (T.n t) (T.kids t)) y c))) (T.mk (T.k (T.ShR (T.mk (T.k t) (T.n t) (T.kids t)) y c)) (T.n (T.ShR (T.mk (T.k t) (T.n t) (T.kids t)) y c)) (T.kids (T.ShR (T.mk (T.k t) (T.n t) (T.kids t)) y c))))) []))
                             (Ret K (.bool false) []))
                           ((∃ x : (Prod (Prod T (Prod Int Int)) Nat),
                              ((((T.ShO (Prod.fst (Prod.fst x)) (Prod.fst (Prod.snd (Prod.fst x))) (Prod.snd (Prod.snd (Prod.fst x)))) = true) ∧
                                (((((Prod.snd x) : Nat) : Int) ≤ (mfL (T.vs (0 : Int) (Prod.fst (Prod.fst x))))) ∧
                                 (∀ z : Int,
                                   ((Membership.mem (shn (Prod.fst (Prod.snd (Prod.fst x))) (Prod.snd (Prod.snd (Prod.fst x))) (Prod.snd x)) z) → (((0 : Int) ≤ z) ∧ (z ≤ (20 : Int))))))) ∧
                               ((y = (Prod.fst (Prod.snd (Prod.fst x)))) ∧
                                ((c = (Prod.snd (Prod.snd (Prod.fst x)))) ∧
                                 ((([] : List Int) = (shn (Prod.fst (Prod.snd (Prod.fst x))) (Prod.snd (Prod.snd (Prod.fst x))) (Prod.snd x))) ∧
                                  (((0 : Int) = (((Prod.snd x) : Nat) : Int)) ∧
                                   (((T.k t) = (T.k (Prod.fst (Prod.fst x)))) ∧
                                    (((T.n t) = (T.n (Prod.fst (Prod.fst x)))) ∧
                                     (((T.kids t) = (T.kids (Prod.fst (Prod.fst x)))) ∧
                                      (((T.k (T.ShR (T.mk (T.k t) (T.n t) (T.kids t)) y c)) = (T.k (T.ShR (Prod.fst (Prod.fst x)) (Prod.fst (Prod.snd (Prod.fst x))) (Prod.snd (Prod.snd (Prod.fst x)))))) ∧
                                       (((T.n (T.ShR (T.mk (T.k t) (T.n t) (T.kids t)) y c)) = (T.n (T.ShR (Prod.fst (Prod.fst x)) (Prod.fst (Prod.snd (Prod.fst x))) (Prod.snd (Prod.snd (Prod.fst x)))))) ∧
                                        (((T.kids (T.ShR (T.mk (T.k t) (T.n t) (T.kids t)) y c)) = (T.kids (T.ShR (Prod.fst (Prod.fst x)) (Prod.fst (Prod.snd (Prod.fst x))) (Prod.snd (Prod.snd (Prod.fst x)))))) ∧
                                         True)))))))))))) ∧
                            (∀ x : (Prod (Prod T (Prod Int Int)) Nat),
                              ((((T.ShO (Prod.fst (Prod.fst x)) (Prod.fst (Prod.snd (Prod.fst x))) (Prod.snd (Prod.snd (Prod.fst x)))) = true) ∧ (((((Prod.snd x) : Nat) : Int) ≤ (mfL (T.vs (0 : Int) (Prod.fst (Prod.fst x))))) ∧ (∀ z : Int, ((Membership.mem (shn (Prod.fst (Prod.snd (Prod.fst x))) (Prod.snd (Prod.snd (Prod.fst x))) (Prod.snd x)) z) → (((0 : Int) ≤ z) ∧ (z ≤ (20 : Int))))))) →
                               (True ∧
                                (Br (Decidable.decide ((((Prod.snd x) : Nat) : Int) < (T.mf (T.mk (T.k (Prod.fst (Prod.fst x))) (T.n (Prod.fst (Prod.fst x))) (T.kids (Prod.fst (Prod.fst x)))))))
                                  (Br (Decidable.decide ((Prod.snd (Prod.snd (Prod.fst x))) ≤ (((Prod.snd x) : Nat) : Int)))
                                    ((InR ((((Prod.snd x) : Nat) : Int) + (Prod.fst (Prod.snd (Prod.fst x))))) ∧
                                     (Br (Decidable.decide (((((Prod.snd x) : Nat) : Int) + (Prod.fst (Prod.snd (Prod.fst x)))) < (0 : Int)))
                                       (Ret K (.bool true) [])
                                       (Br (Decidable.decide ((20 : Int) < ((((Prod.snd x) : Nat) : Int) + (Prod.fst (Prod.snd (Prod.fst x))))))
                                         (Ret K (.bool true) [])
                                         ((((((List.length (shn (Prod.fst (Prod.snd (Prod.fst x))) (Prod.snd (Prod.snd (Prod.fst x))) (Prod.snd x))) : Nat) : Int) + (1 : Int)) ≤ (1099511627776 : Int)) ∧
                                          ((InR ((((Prod.snd x) : Nat) : Int) + (1 : Int))) ∧
                                           (∃ y1 : (Prod (Prod T (Prod Int Int)) Nat),
                                             ((((T.ShO (Prod.fst (Prod.fst y1)) (Prod.fst (Prod.snd (Prod.fst y1))) (Prod.snd (Prod.snd (Prod.fst y1)))) = true) ∧
                                               (((((Prod.snd y1) : Nat) : Int) ≤ (mfL (T.vs (0 : Int) (Prod.fst (Prod.fst y1))))) ∧
                                                (∀ z : Int,
                                                  ((Membership.mem (shn (Prod.fst (Prod.snd (Prod.fst y1))) (Prod.snd (Prod.snd (Prod.fst y1))) (Prod.snd y1)) z) → (((0 : Int) ≤ z) ∧ (z ≤ (20 : Int))))))) ∧
                                              (((Prod.fst (Prod.snd (Prod.fst x))) = (Prod.fst (Prod.snd (Prod.fst y1)))) ∧
                                               (((Prod.snd (Prod.snd (Prod.fst x))) = (Prod.snd (Prod.snd (Prod.fst y1)))) ∧
                                                ((((shn (Prod.fst (Prod.snd (Prod.fst x))) (Prod.snd (Prod.snd (Prod.fst x))) (Prod.snd x)) ++ [((((Prod.snd x) : Nat) : Int) + (Prod.fst (Prod.snd (Prod.fst x))))]) = (shn (Prod.fst (Prod.snd (Prod.fst y1))) (Prod.snd (Prod.snd (Prod.fst y1))) (Prod.snd y1))) ∧
                                                 ((((((Prod.snd x) : Nat) : Int) + (1 : Int)) = (((Prod.snd y1) : Nat) : Int)) ∧
                                                  (((T.k (Prod.fst (Prod.fst x))) = (T.k (Prod.fst (Prod.fst y1)))) ∧
                                                   (((T.n (Prod.fst (Prod.fst x))) = (T.n (Prod.fst (Prod.fst y1)))) ∧
                                                    (((T.kids (Prod.fst (Prod.fst x))) = (T.kids (Prod.fst (Prod.fst y1)))) ∧
                                                     (((T.k (T.ShR (Prod.fst (Prod.fst x)) (Prod.fst (Prod.snd (Prod.fst x))) (Prod.snd (Prod.snd (Prod.fst x))))) = (T.k (T.ShR (Prod.fst (Prod.fst y1)) (Prod.fst (Prod.snd (Prod.fst y1))) (Prod.snd (Prod.snd (Prod.fst y1)))))) ∧
                                                      (((T.n (T.ShR (Prod.fst (Prod.fst x)) (Prod.fst (Prod.snd (Prod.fst x))) (Prod.snd (Prod.snd (Prod.fst x))))) = (T.n (T.ShR (Prod.fst (Prod.fst y1)) (Prod.fst (Prod.snd (Prod.fst y1))) (Prod.snd (Prod.snd (Prod.fst y1)))))) ∧
                                                       (((T.kids (T.ShR (Prod.fst (Prod.fst x)) (Prod.fst (Prod.snd (Prod.fst x))) (Prod.snd (Prod.snd (Prod.fst x))))) = (T.kids (T.ShR (Prod.fst (Prod.fst y1)) (Prod.fst (Prod.snd (Prod.fst y1))) (Prod.snd (Prod.snd (Prod.fst y1)))))) ∧
                                                        ((Nat.succ ((Int.toNat (mfL (T.vs (0 : Int) (Prod.fst (Prod.fst y1))))) - (Prod.snd y1))) ≤ ((Int.toNat (mfL (T.vs (0 : Int) (Prod.fst (Prod.fst x))))) - (Prod.snd x))))))))))))))))))))
                                    (Br (Decidable.decide ((20 : Int) < (((Prod.snd x) : Nat) : Int)))
                                      (Ret K (.bool true) [])
                                      ((((((List.length (shn (Prod.fst (Prod.snd (Prod.fst x))) (Prod.snd (Prod.snd (Prod.fst x))) (Prod.snd x))) : Nat) : Int) + (1 : Int)) ≤ (1099511627776 : Int)) ∧
                                       ((InR ((((Prod.snd x) : Nat) : Int) + (1 : Int))) ∧
                                        (∃ y1 : (Prod (Prod T (Prod Int Int)) Nat),
                                          ((((T.ShO (Prod.fst (Prod.fst y1)) (Prod.fst (Prod.snd (Prod.fst y1))) (Prod.snd (Prod.snd (Prod.fst y1)))) = true) ∧
                                            (((((Prod.snd y1) : Nat) : Int) ≤ (mfL (T.vs (0 : Int) (Prod.fst (Prod.fst y1))))) ∧
                                             (∀ z : Int,
                                               ((Membership.mem (shn (Prod.fst (Prod.snd (Prod.fst y1))) (Prod.snd (Prod.snd (Prod.fst y1))) (Prod.snd y1)) z) → (((0 : Int) ≤ z) ∧ (z ≤ (20 : Int))))))) ∧
                                           (((Prod.fst (Prod.snd (Prod.fst x))) = (Prod.fst (Prod.snd (Prod.fst y1)))) ∧
                                            (((Prod.snd (Prod.snd (Prod.fst x))) = (Prod.snd (Prod.snd (Prod.fst y1)))) ∧
                                             ((((shn (Prod.fst (Prod.snd (Prod.fst x))) (Prod.snd (Prod.snd (Prod.fst x))) (Prod.snd x)) ++ [(((Prod.snd x) : Nat) : Int)]) = (shn (Prod.fst (Prod.snd (Prod.fst y1))) (Prod.snd (Prod.snd (Prod.fst y1))) (Prod.snd y1))) ∧
                                              ((((((Prod.snd x) : Nat) : Int) + (1 : Int)) = (((Prod.snd y1) : Nat) : Int)) ∧
                                               (((T.k (Prod.fst (Prod.fst x))) = (T.k (Prod.fst (Prod.fst y1)))) ∧
                                                (((T.n (Prod.fst (Prod.fst x))) = (T.n (Prod.fst (Prod.fst y1)))) ∧
                                                 (((T.kids (Prod.fst (Prod.fst x))) = (T.kids (Prod.fst (Prod.fst y1)))) ∧
                                                  (((T.k (T.ShR (Prod.fst (Prod.fst x)) (Prod.fst (Prod.snd (Prod.fst x))) (Prod.snd (Prod.snd (Prod.fst x))))) = (T.k (T.ShR (Prod.fst (Prod.fst y1)) (Prod.fst (Prod.snd (Prod.fst y1))) (Prod.snd (Prod.snd (Prod.fst y1)))))) ∧
                                                   (((T.n (T.ShR (Prod.fst (Prod.fst x)) (Prod.fst (Prod.snd (Prod.fst x))) (Prod.snd (Prod.snd (Prod.fst x))))) = (T.n (T.ShR (Prod.fst (Prod.fst y1)) (Prod.fst (Prod.snd (Prod.fst y1))) (Prod.snd (Prod.snd (Prod.fst y1)))))) ∧
                                                    (((T.kids (T.ShR (Prod.fst (Prod.fst x)) (Prod.fst (Prod.snd (Prod.fst x))) (Prod.snd (Prod.snd (Prod.fst x))))) = (T.kids (T.ShR (Prod.fst (Prod.fst y1)) (Prod.fst (Prod.snd (Prod.fst y1))) (Prod.snd (Prod.snd (Prod.fst y1)))))) ∧
                                                     ((Nat.succ ((Int.toNat (mfL (T.vs (0 : Int) (Prod.fst (Prod.fst y1))))) - (Prod.snd y1))) ≤ ((Int.toNat (mfL (T.vs (0 : Int) (Prod.fst (Prod.fst x))))) - (Prod.snd x)))))))))))))))))))
                                  (True ∧
                                   (Br (T.RnO (T.mk (T.k (Prod.fst (Prod.fst x))) (T.n (Prod.fst (Prod.fst x))) (T.kids (Prod.fst (Prod.fst x)))) (shn (Prod.fst (Prod.snd (Prod.fst x))) (Prod.snd (Prod.snd (Prod.fst x))) (Prod.snd x)))
                                     (((sizeL (T.kids (T.RnR (T.mk (T.k (Prod.fst (Prod.fst x))) (T.n (Prod.fst (Prod.fst x))) (T.kids (Prod.fst (Prod.fst x)))) (shn (Prod.fst (Prod.snd (Prod.fst x))) (Prod.snd (Prod.snd (Prod.fst x))) (Prod.snd x))))) ≤ (1099511627776 : Nat)) ∧
                                      (Ret K (.bool (T.same (T.mk (T.k (T.RnR (T.mk (T.k (Prod.fst (Prod.fst x))) (T.n (Prod.fst (Prod.fst x))) (T.kids (Prod.fst (Prod.fst x)))) (shn (Prod.fst (Prod.snd (Prod.fst x))) (Prod.snd (Prod.snd (Prod.fst x))) (Prod.snd x)))) (T.n (T.RnR (T.mk (T.k (Prod.fst (Prod.fst x))) (T.n (Prod.fst (Prod.fst x))) (T.kids (Prod.fst (Prod.fst x)))) (shn (Prod.fst (Prod.snd (Prod.fst x))) (Prod.snd (Prod.snd (Prod.fst x))) (Prod.snd x)))) (T.kids (T.RnR (T.mk (T.k (Prod.fst (Prod.fst x))) (T.n (Prod.fst (Prod.fst x))) (T.kids (Prod.fst (Prod.fst x)))) (shn (Prod.fst (Prod.snd (Prod.fst x))) (Prod.snd (Prod.snd (Prod.fst x))) (Prod.snd x))))) (T.mk (T.k (T.ShR (Prod.fst (Prod.fst x)) (Prod.fst (Prod.snd (Prod.fst x))) (Prod.snd (Prod.snd (Prod.fst x))))) (T.n (T.ShR (Prod.fst (Prod.fst x)) (Prod.fst (Prod.snd (Prod.fst x))) (Prod.snd (Prod.snd (Prod.fst x))))) (T.kids (T.ShR (Prod.fst (Prod.fst x)) (Prod.fst (Prod.snd (Prod.fst x))) (Prod.snd (Prod.snd (Prod.fst x)))))))) []))
                                     (Ret K (.bool false) []))))))))))))))))))))))) ?_ (by kernel_rfl)
  refine br (fun _ => retB hk rfl) (fun _ => ⟨hp.2, fun t y c ht hy hc => ?_⟩)
  have same : ∀ t : T, t.same t = true := fun t => T.same_iff.2 rfl
  simp only [T.eta, same]
  have z := ShR_small t y c
  have A : Br (t.ShO y c == t.ShO y c) (sizeL (t.ShR y c).kids ≤ 1099511627776 ∧ Ret K (AV.bool true) []) (Ret K (AV.bool false) []) := br (fun _ => ⟨by omega, retB hk rfl⟩) (fun h => absurd h (by simp))
  refine ⟨trivial, trivial, br (fun h => absurd h (by simp)) (fun _ => ⟨by omega, br (fun h => absurd h (by simp)) (fun _ => br (fun _ => A) (fun h1 => ?_))⟩)⟩
  rw [Bool.not_eq_false'] at h1

  refine ⟨⟨((t, y, c), 0), ⟨h1, mfL_nonneg _, by intro z hz; simp [shn] at hz⟩, (by repeat' first | trivial | rfl | (simp; done) | apply And.intro)⟩, ?_⟩
  rintro ⟨⟨t, y, c⟩, i⟩ ⟨g1, g2, g3⟩
  simp only at g1 g2 g3 ⊢
  have p := ShO_parts g1
  have em : t.mf = mfL (t.vs 0) := by unfold T.mf; rw [if_pos p.1]
  have hl := mfL_le p.1
  have go : InR ((i : Int) + 1) := by unfold InR; omega
  have ln : ((shn y c i).length : Int) + 1 ≤ 1099511627776 := by rw [shn_len]; omega
  refine ⟨trivial, br (fun h2 => ?_) (fun h2 => ?_)⟩
  · have h2 := of_decide_eq_true h2
    rw [em] at h2
    have nx : Nat.succ ((mfL (t.vs 0)).toNat - (i + 1)) ≤ (mfL (t.vs 0)).toNat - i := by omega
    refine br (fun h3 => ⟨by unfold InR; omega, br (fun _ => retB hk rfl) (fun h4 => br (fun _ => retB hk rfl) (fun h5 => ⟨ln, go, ((t, y, c), i + 1), ⟨g1, by show ((i + 1 : Nat) : Int) ≤ mfL (t.vs 0); omega, ?_⟩, rfl, rfl, ?_, by simp, rfl, rfl, rfl, rfl, rfl, rfl, nx⟩))⟩)
      (fun h3 => br (fun _ => retB hk rfl) (fun h5 => ⟨ln, go, ((t, y, c), i + 1), ⟨g1, by show ((i + 1 : Nat) : Int) ≤ mfL (t.vs 0); omega, ?_⟩, rfl, rfl, ?_, by simp, rfl, rfl, rfl, rfl, rfl, rfl, nx⟩))
    · have h3 := of_decide_eq_true h3
      have h4 := of_decide_eq_false h4
      have h5 := of_decide_eq_false h5
      intro z hz
      have hz : z ∈ shn y c (i + 1) := hz
      rw [← shn_succ, if_pos h3] at hz
      rcases List.mem_append.1 hz with hz | hz
      · exact g3 z hz
      · simp at hz; omega
    · have h3 := of_decide_eq_true h3
      have := shn_succ y c i
      rw [if_pos h3] at this
      exact this
    · have h3 := of_decide_eq_false h3
      have h5 := of_decide_eq_false h5
      intro z hz
      have hz : z ∈ shn y c (i + 1) := hz
      rw [← shn_succ, if_neg h3] at hz
      rcases List.mem_append.1 hz with hz | hz
      · exact g3 z hz
      · simp at hz; omega
    · have h3 := of_decide_eq_false h3
      have := shn_succ y c i
      rw [if_neg h3] at this
      exact this
  · have h2 := of_decide_eq_false h2
    rw [em] at h2
    obtain ⟨q1, q2⟩ := rn_sh g1 (ns := shn y c i) (by rw [shn_len]; omega) (fun j hj => shn_get (by rw [shn_len] at hj; exact hj)) g3
    have z2 := RnR_small t (shn y c i)
    rw [q1]
    refine ⟨trivial, br (fun _ => ⟨by omega, retB hk ?_⟩) (fun h => absurd h (by simp))⟩
    rw [q2]; exact same _
theorem FnRenameShift_sound : Sound Try.prog 5 cFnRenameShift := by
  refine soundF (G := [(15, cdShiftTerm), (16, cShiftTerm), (17, csShiftTerm), (22, cRenameTerm), (24, cMaxFree), (18, cTermSame)]) ((gcons dShiftTerm_sound (gcons ShiftTerm_sound (gcons sShiftTerm_sound (gcons RenameTerm_sound (gcons MaxFree_sound (gcons TermSame_sound gnil))))))) Try.func5 rfl (by kernel_rfl) fun args hs K hCC => ?_
  unfold cFnRenameShift at hCC
  split at hCC
  case h_2 => exact hCC.elim
  rename_i bs
  exact ⟨Nat.le_of_ble_eq_true rfl, _, FnRenameShift_ok bs K hCC.1 hCC.2⟩
end Go.Dk
namespace Go.Proofs.Ythlaiappcknehaa
open Go.ChangeShapes Go.WideShapes Go.RowKit Go.Dk Go.Proofs
set_option linter.unusedVariables false
theorem FnRenameShift_lifted (os : Os) (started : os.Started) (H : Type) (enc : TypeId × Value → H) :
    ReturnsInHanded {} Try.checked os 5 .any (Rows.fnRenameShiftSpec.pre6 enc Try.prog Try.f5 Rows.fnRenameShiftRow.domain false) (Rows.fnRenameShiftSpec.post enc Try.prog Try.f5 false true false false) := by
  refine returnsInHanded_of_change (C := Try.checked) own started (by kernel_rfl) Try.func5
    (ChangeSpec.witness6 (enc := enc) (C := Try.checked) false ⟨#[], #[.slice none 0 0], []⟩ 8 (by kernel_rfl) (by kernel_rfl) (by kernel_rfl) (by kernel_rfl)) ?_
  intro W base args ds gs before hok hW _ _
  have hW' := hW
  obtain ⟨p, q, hA, hV, rfl, hfz, hnd⟩ := hW
  rw [Try.params5] at hA
  obtain ⟨rfl, rfl⟩ := trodVars_none hV
  obtain ⟨v0, vs0, d0, ds0, q0, s0, e0, rfl, rfl, h0, hA⟩ := trodAll_cons hA
  obtain ⟨rfl, rfl, rfl⟩ := trodAll_nil hA
  have ha : args = #[v0] := by cases args; simpa using e0
  subst ha
  obtain ⟨bs0, l0, p0, r0⟩ := open_bytes Try.underlying22 Try.underlying5 (by kernel_rfl) (plain_slice Try.underlying22 (hok 0 _ _ rfl rfl)) h0
  refine (law_call (args := [.ints .u8 bs0 (.arg 0)]) (vals := [v0]) FnRenameShift_sound (fun K hK => ⟨⟨l0, p0⟩, hK⟩) (fun j => slOf ([v0].getD j .nilFunc)) ⟨r0 _ 0 rfl, trivial⟩).mono fun e W' ⟨he, hk⟩ => ?_
  exact ⟨_, he, law_post laidOut (of_decide_eq_true (by kernel_rfl)) rfl rfl Try.underlying4 rfl hW' hk⟩
theorem FnRenameShift_holds : Rows.FnRenameShiftSaid :=
  OpenClaim.holds_of_wide 5 Try.f5 rfl rfl rfl rfl rfl rfl rfl ⟨rfl, rfl, rfl, rfl, rfl⟩ rfl rfl rfl rfl rfl (by kernel_rfl) Try.func5 (by kernel_rfl)
    (of_decide_eq_true (by kernel_rfl)) (by unfold Func.isWrapper; first | (rw [if_pos (by decide +kernel)]; kernel_rfl) | (rw [if_neg (by decide +kernel)]; exact ⟨rfl, rfl⟩))
    (fun os started H enc _ => FnRenameShift_lifted os started H enc)
end Go.Proofs.Ythlaiappcknehaa
namespace Go.Dk
open Go.Proofs
end Go.Dk
