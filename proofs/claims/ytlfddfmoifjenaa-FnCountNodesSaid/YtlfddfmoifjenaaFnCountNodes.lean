/- laws.FnCountNodes returns true and leaves its arguments as they were, for all arguments. -/
import Derived.Test.YtlfddfmoifjenaaDr
import Derived.Test.YtlfddfmoifjenaaL0
namespace Go.Dk
set_option linter.unusedVariables false
open Go.Proofs
/-- laws.FnCountNodes -/
def cFnCountNodes : Con
  | [.ints .u8 bs (.arg 0)], [], K => ((bs.length ≤ 9223372036854775807 ∧ Bs bs)) ∧ ((K (.bool true) []))
  | _, _, _ => False
theorem FnCountNodes_ok (bs : List Int) (K : AV → List AV → Prop) (hp : ((bs.length ≤ 9223372036854775807 ∧ Bs bs))) (hk : ((K (.bool true) []))) :
    bodyP [(35, cdCountNodes), (26, cTermValid), (28, cCountNodes), (30, csCountNodes), (29, cTermDepth), (33, csTermDepth)] TY [(11, { ι := T × Nat × Int × Int, ok := fun x => x.1.valid = true ∧ x.2.1 ≤ x.1.kids.length ∧ 0 ≤ x.2.2.1 ∧ x.2.2.1 + sizeL (x.1.kids.drop x.2.1) = x.1.size ∧ 0 ≤ x.2.2.2 ∧ max x.2.2.2 (depL (x.1.kids.drop x.2.1)) = depL x.1.kids, tl := fun x => [(3, .ptr 3), (4, .int .i64 x.1.size), (5, .int .i64 x.1.dep), (6, .int .i64 x.2.2.1), (7, .int .i64 x.2.2.2), (8, .int .i64 x.2.1)], hl := fun x => [(3, x.1.av .any)], fh := fun _ => [], μ := fun x => x.1.kids.length - x.2.1 })] Try.f14 (body Try.f14) [.ints .u8 bs (.arg 0)] [] K := by
  refine of_vc (A :=
      (Br (Decidable.decide ((1048576 : Int) < (((List.length bs) : Nat) : Int)))
        (Ret K (.bool true) [])
        ((Bs bs) ∧
         (∀ t : T,
           (((T.size t) ≤ (1000 : Nat)) →
            (True ∧
             (True ∧
              (True ∧
               (Br (Decidable.decide ((if ((T.valid (T.mk (T.k t) (T.n t) (T.kids t))) = true) then (((T.size (T.mk (T.k t) (T.n t) (T.kids t))) : Nat) : Int) else (0 : Int)) ≠ (if ((T.valid (T.mk (T.k t) (T.n t) (T.kids t))) = true) then (((T.size (T.mk (T.k t) (T.n t) (T.kids t))) : Nat) : Int) else (0 : Int))))
                 (True ∧
                  (Br (Decidable.decide ((if ((T.valid (T.mk (T.k t) (T.n t) (T.kids t))) = true) then (((T.size (T.mk (T.k t) (T.n t) (T.kids t))) : Nat) : Int) else (0 : Int)) = (if ((T.valid (T.mk (T.k t) (T.n t) (T.kids t))) = true) then (((T.size (T.mk (T.k t) (T.n t) (T.kids t))) : Nat) : Int) else (0 : Int))))
                    (True ∧
                     (Ret K (.bool (Decidable.decide ((if ((T.valid (T.mk (T.k t) (T.n t) (T.kids t))) = true) then (T.dep (T.mk (T.k t) (T.n t) (T.kids t))) else (0 : Int)) = (if ((T.valid (T.mk (T.k t) (T.n t) (T.kids t))) = true) then (T.dep (T.mk (T.k t) (T.n t) (T.kids t))) else (0 : Int))))) []))
                    (Ret K (.bool false) [])))
                 (True ∧
                  (Br (Decidable.decide ((if ((T.valid (T.mk (T.k t) (T.n t) (T.kids t))) = true) then (T.dep (T.mk (T.k t) (T.n t) (T.kids t))) else (0 : Int)) ≠ (if ((T.valid (T.mk (T.k t) (T.n t) (T.kids t))) = true) then (T.dep (T.mk (T.k t) (T.n t) (T.kids t))) else (0 : Int))))
                    (True ∧
                     (Br (Decidable.decide ((if ((T.valid (T.mk (T.k t) (T.n t) (T.kids t))) = true) then (((T.size (T.mk (T.k t) (T.n t) (T.kids t))) : Nat) : Int) else (0 : Int)) = (if ((T.valid (T.mk (T.k t) (T.n t) (T.kids t))) = true) then (((T.size (T.mk (T.k t) (T.n t) (T.kids t))) : Nat) : Int) else (0 : Int))))
                       (True ∧
                        (Ret K (.bool (Decidable.decide ((if ((T.valid (T.mk (T.k t) (T.n t) (T.kids t))) = true) then (T.dep (T.mk (T.k t) (T.n t) (T.kids t))) else (0 : Int)) = (if ((T.valid (T.mk (T.k t) (T.n t) (T.kids t))) = true) then (T.dep (T.mk (T.k t) (T.n t) (T.kids t))) else (0 : Int))))) []))
                       (Ret K (.bool false) [])))
                    (True ∧
                     (Br (Bool.not (T.valid (T.mk (T.k t) (T.n t) (T.kids t))))
                       (True ∧
                        (Br (Decidable.decide ((if ((T.valid (T.mk (T.k t) (T.n t) (T.kids t))) = true) then (((T.size (T.mk (T.k t) (T.n t) (T.kids t))) : Nat) : Int) else (0 : Int)) = (if ((T.valid (T.mk (T.k t) (T.n t) (T.kids t))) = true) then (((T.size (T.mk (T.k t) (T.n t) (T.kids t))) : Nat) : Int) else (0 : Int))))
                          (True ∧
                           (Ret K (.bool (Decidable.decide ((if ((T.valid (T.mk (T.k t) (T.n t) (T.kids t))) = true) then (T.dep (T.mk (T.k t) (T.n t) (T.kids t))) else (0 : Int)) = (if ((T.valid (T.mk (T.k t) (T.n t) (T.kids t))) = true) then (T.dep (T.mk (T.k t) (T.n t) (T.kids t))) else (0 : Int))))) []))
                          (Ret K (.bool false) [])))
                       ((∃ x : (Prod T (Prod Nat (Prod Int Int))),
                          ((((T.valid (Prod.fst x)) = true) ∧
                            (((Prod.fst (Prod.snd x)) ≤ (List.length (T.kids (Prod.fst x)))) ∧
                             (((0 : Int) ≤ (Prod.fst (Prod.snd (Prod.snd x)))) ∧
                              ((((Prod.fst (Prod.snd (Prod.snd x))) + (((sizeL (List.drop (Prod.fst (Prod.snd x)) (T.kids (Prod.fst x)))) : Nat) : Int)) = (((T.size (Prod.fst x)) : Nat) : Int)) ∧
                               (((0 : Int) ≤ (Prod.snd (Prod.snd (Prod.snd x)))) ∧
                                ((Max.max (Prod.snd (Prod.snd (Prod.snd x))) (depL (List.drop (Prod.fst (Prod.snd x)) (T.kids (Prod.fst x))))) = (depL (T.kids (Prod.fst x))))))))) ∧
                           (((if ((T.valid (T.mk (T.k t) (T.n t) (T.kids t))) = true) then (((T.size (T.mk (T.k t) (T.n t) (T.kids t))) : Nat) : Int) else (0 : Int)) = (((T.size (Prod.fst x)) : Nat) : Int)) ∧
                            (((if ((T.valid (T.mk (T.k t) (T.n t) (T.kids t))) = true) then (T.dep (T.mk (T.k t) (T.n t) (T.kids t))) else (0 : Int)) = (T.dep (Prod.fst x))) ∧
                             (((1 : Int) = (Prod.fst (Prod.snd (Prod.snd x)))) ∧
                              (((0 : Int) = (Prod.snd (Prod.snd (Prod.snd x)))) ∧
                               (((0 : Int) = (((Prod.fst (Prod.snd x)) : Nat) : Int)) ∧
                                (((T.k t) = (T.k (Prod.fst x))) ∧ (((T.n t) = (T.n (Prod.fst x))) ∧ (((T.kids t) = (T.kids (Prod.fst x))) ∧ True)))))))))) ∧
                        (∀ x : (Prod T (Prod Nat (Prod Int Int))),
                          ((((T.valid (Prod.fst x)) = true) ∧ (((Prod.fst (Prod.snd x)) ≤ (List.length (T.kids (Prod.fst x)))) ∧ (((0 : Int) ≤ (Prod.fst (Prod.snd (Prod.snd x)))) ∧ ((((Prod.fst (Prod.snd (Prod.snd x))) + (((sizeL (List.drop (Prod.fst (Prod.snd x)) (T.kids (Prod.fst x)))) : Nat) : Int)) = (((T.size (Prod.fst x)) : Nat) : Int)) ∧ (((0 : Int) ≤ (Prod.snd (Prod.snd (Prod.snd x)))) ∧ ((Max.max (Prod.snd (Prod.snd (Prod.snd x))) (depL (List.drop (Prod.fst (Prod.snd x)) (T.kids (Prod.fst x))))) = (depL (T.kids (Prod.fst x))))))))) →
                           (Br (Decidable.decide ((((Prod.fst (Prod.snd x)) : Nat) : Int) < (((List.length (T.kids (Prod.fst x))) : Nat) : Int)))
                             ((((0 : Int) ≤ (((Prod.fst (Prod.snd x)) : Nat) : Int)) ∧ ((((Prod.fst (Prod.snd x)) : Nat) : Int) < (((List.length (T.kids (Prod.fst x))) : Nat) : Int))) ∧
                              (True ∧
                               ((InR ((Prod.fst (Prod.snd (Prod.snd x))) + (if ((T.valid (T.mk (T.k (List.getD (T.kids (Prod.fst x)) (Int.toNat (((Prod.fst (Prod.snd x)) : Nat) : Int)) (default : T))) (T.n (List.getD (T.kids (Prod.fst x)) (Int.toNat (((Prod.fst (Prod.snd x)) : Nat) : Int)) (default : T))) (T.kids (List.getD (T.kids (Prod.fst x)) (Int.toNat (((Prod.fst (Prod.snd x)) : Nat) : Int)) (default : T))))) = true) then (((T.size (T.mk (T.k (List.getD (T.kids (Prod.fst x)) (Int.toNat (((Prod.fst (Prod.snd x)) : Nat) : Int)) (default : T))) (T.n (List.getD (T.kids (Prod.fst x)) (Int.toNat (((Prod.fst (Prod.snd x)) : Nat) : Int)) (default : T))) (T.kids (List.getD (T.kids (Prod.fst x)) (Int.toNat (((Prod.fst (Prod.snd x)) : Nat) : Int)) (default : T))))) : Nat) : Int) else (0 : Int)))) ∧
                                ((((0 : Int) ≤ (((Prod.fst (Prod.snd x)) : Nat) : Int)) ∧ ((((Prod.fst (Prod.snd x)) : Nat) : Int) < (((List.length (T.kids (Prod.fst x))) : Nat) : Int))) ∧
                                 (True ∧
                                  (Br (Decidable.decide ((Prod.snd (Prod.snd (Prod.snd x))) < (if ((T.valid (T.mk (T.k (List.getD (T.kids (Prod.fst x)) (Int.toNat (((Prod.fst (Prod.snd x)) : Nat) : Int)) (default : T))) (T.n (List.getD (T.kids (Prod.fst x)) (Int.toNat (((Prod.fst (Prod.snd x)) : Nat) : Int)) (default : T))) (T.kids (List.getD (T.kids (Prod.fst x)) (Int.toNat (((Prod.fst (Prod.snd x)) : Nat) : Int)) (default : T))))) = true) then (T.dep (T.mk (T.k (List.getD (T.kids (Prod.fst x)) (Int.toNat (((Prod.fst (Prod.snd x)) : Nat) : Int)) (default : T))) (T.n (List.getD (T.kids (Prod.fst x)) (Int.toNat (((Prod.fst (Prod.snd x)) : Nat) : Int)) (default : T))) (T.kids (List.getD (T.kids (Prod.fst x)) (Int.toNat (((Prod.fst (Prod.snd x)) : Nat) : Int)) (default : T))))) else (0 : Int))))
                                    ((((0 : Int) ≤ (((Prod.fst (Prod.snd x)) : Nat) : Int)) ∧ ((((Prod.fst (Prod.snd x)) : Nat) : Int) < (((List.length (T.kids (Prod.fst x))) : Nat) : Int))) ∧
                                     (True ∧
                                      ((InR ((((Prod.fst (Prod.snd x)) : Nat) : Int) + (1 : Int))) ∧
                                       (∃ y : (Prod T (Prod Nat (Prod Int Int))),
                                         ((((T.valid (Prod.fst y)) = true) ∧
                                           (((Prod.fst (Prod.snd y)) ≤ (List.length (T.kids (Prod.fst y)))) ∧
                                            (((0 : Int) ≤ (Prod.fst (Prod.snd (Prod.snd y)))) ∧
                                             ((((Prod.fst (Prod.snd (Prod.snd y))) + (((sizeL (List.drop (Prod.fst (Prod.snd y)) (T.kids (Prod.fst y)))) : Nat) : Int)) = (((T.size (Prod.fst y)) : Nat) : Int)) ∧
                                              (((0 : Int) ≤ (Prod.snd (Prod.snd (Prod.snd y)))) ∧
                                               ((Max.max (Prod.snd (Prod.snd (Prod.snd y))) (depL (List.drop (Prod.fst (Prod.snd y)) (T.kids (Prod.fst y))))) = (depL (T.kids (Prod.fst y))))))))) ∧
                                          (((((T.size (Prod.fst x)) : Nat) : Int) = (((T.size (Prod.fst y)) : Nat) : Int)) ∧
                                           (((T.dep (Prod.fst x)) = (T.dep (Prod.fst y))) ∧
                                            ((((Prod.fst (Prod.snd (Prod.snd x))) + (if ((T.valid (T.mk (T.k (List.getD (T.kids (Prod.fst x)) (Int.toNat (((Prod.fst (Prod.snd x)) : Nat) : Int)) (default : T))) (T.n (List.getD (T.kids (Prod.fst x)) (Int.toNat (((Prod.fst (Prod.snd x)) : Nat) : Int)) (default : T))) (T.kids (List.getD (T.kids (Prod.fst x)) (Int.toNat (((Prod.fst (Prod.snd x)) : Nat) : Int)) (default : T))))) = true) then (((T.size (T.mk (T.k (List.getD (T.kids (Prod.fst x)) (Int.toNat (((Prod.fst (Prod.snd x)) : Nat) : Int)) (default : T))) (T.n (List.getD (T.kids (Prod.fst x)) (Int.toNat (((Prod.fst (Prod.snd x)) : Nat) : Int)) (default : T))) (T.kids (List.getD (T.kids (Prod.fst x)) (Int.toNat (((Prod.fst (Prod.snd x)) : Nat) : Int)) (default : T))))) : Nat) : Int) else (0 : Int))) = (Prod.fst (Prod.snd (Prod.snd y)))) ∧
                                             (((if ((T.valid (T.mk (T.k (List.getD (T.kids (Prod.fst x)) (Int.toNat (((Prod.fst (Prod.snd x)) : Nat) : Int)) (default : T))) (T.n (List.getD (T.kids (Prod.fst x)) (Int.toNat (((Prod.fst (Prod.snd x)) : Nat) : Int)) (default : T))) (T.kids (List.getD (T.kids (Prod.fst x)) (Int.toNat (((Prod.fst (Prod.snd x)) : Nat) : Int)) (default : T))))) = true) then (T.dep (T.mk (T.k (List.getD (T.kids (Prod.fst x)) (Int.toNat (((Prod.fst (Prod.snd x)) : Nat) : Int)) (default : T))) (T.n (List.getD (T.kids (Prod.fst x)) (Int.toNat (((Prod.fst (Prod.snd x)) : Nat) : Int)) (default : T))) (T.kids (List.getD (T.kids (Prod.fst x)) (Int.toNat (((Prod.fst (Prod.snd x)) : Nat) : Int)) (default : T))))) else (0 : Int)) = (Prod.snd (Prod.snd (Prod.snd y)))) ∧
                                              ((((((Prod.fst (Prod.snd x)) : Nat) : Int) + (1 : Int)) = (((Prod.fst (Prod.snd y)) : Nat) : Int)) ∧
                                               (((T.k (Prod.fst x)) = (T.k (Prod.fst y))) ∧
                                                (((T.n (Prod.fst x)) = (T.n (Prod.fst y))) ∧
                                                 (((T.kids (Prod.fst x)) = (T.kids (Prod.fst y))) ∧
                                                  ((Nat.succ ((List.length (T.kids (Prod.fst y))) - (Prod.fst (Prod.snd y)))) ≤ ((List.length (T.kids (Prod.fst x))) - (Prod.fst (Prod.snd x)))))))))))))))))
                                    ((InR ((((Prod.fst (Prod.snd x)) : Nat) : Int) + (1 : Int))) ∧
                                     (∃ y : (Prod T (Prod Nat (Prod Int Int))),
                                       ((((T.valid (Prod.fst y)) = true) ∧
                                         (((Prod.fst (Prod.snd y)) ≤ (List.length (T.kids (Prod.fst y)))) ∧
                                          (((0 : Int) ≤ (Prod.fst (Prod.snd (Prod.snd y)))) ∧
                                           ((((Prod.fst (Prod.snd (Prod.snd y))) + (((sizeL (List.drop (Prod.fst (Prod.snd y)) (T.kids (Prod.fst y)))) : Nat) : Int)) = (((T.size (Prod.fst y)) : Nat) : Int)) ∧
                                            (((0 : Int) ≤ (Prod.snd (Prod.snd (Prod.snd y)))) ∧
                                             ((Max.max (Prod.snd (Prod.snd (Prod.snd y))) (depL (List.drop (Prod.fst (Prod.snd y)) (T.kids (Prod.fst y))))) = (depL (T.kids (Prod.fst y))))))))) ∧
                                        (((((T.size (Prod.fst x)) : Nat) : Int) = (((T.size (Prod.fst y)) : Nat) : Int)) ∧
                                         (((T.dep (Prod.fst x)) = (T.dep (Prod.fst y))) ∧
                                          ((((Prod.fst (Prod.snd (Prod.snd x))) + (if ((T.valid (T.mk (T.k (List.getD (T.kids (Prod.fst x)) (Int.toNat (((Prod.fst (Prod.snd x)) : Nat) : Int)) (default : T))) (T.n (List.getD (T.kids (Prod.fst x)) (Int.toNat (((Prod.fst (Prod.snd x)) : Nat) : Int)) (default : T))) (T.kids (List.getD (T.kids (Prod.fst x)) (Int.toNat (((Prod.fst (Prod.snd x)) : Nat) : Int)) (default : T))))) = true) then (((T.size (T.mk (T.k (List.getD (T.kids (Prod.fst x)) (Int.toNat (((Prod.fst (Prod.snd x)) : Nat) : Int)) (default : T))) (T.n (List.getD (T.kids (Prod.fst x)) (Int.toNat (((Prod.fst (Prod.snd x)) : Nat) : Int)) (default : T))) (T.kids (List.getD (T.kids (Prod.fst x)) (Int.toNat (((Prod.fst (Prod.snd x)) : Nat) : Int)) (default : T))))) : Nat) : Int) else (0 : Int))) = (Prod.fst (Prod.snd (Prod.snd y)))) ∧
                                           (((Prod.snd (Prod.snd (Prod.snd x))) = (Prod.snd (Prod.snd (Prod.snd y)))) ∧
                                            ((((((Prod.fst (Prod.snd x)) : Nat) : Int) + (1 : Int)) = (((Prod.fst (Prod.snd y)) : Nat) : Int)) ∧
                                             (((T.k (Prod.fst x)) = (T.k (Prod.fst y))) ∧
                                              (((T.n (Prod.fst x)) = (T.n (Prod.fst y))) ∧
                                               (((T.kids (Prod.fst x)) = (T.kids (Prod.fst y))) ∧
                                                ((Nat.succ ((List.length (T.kids (Prod.fst y))) - (Prod.fst (Prod.snd y)))) ≤ ((List.length (T.kids (Prod.fst x))) - (Prod.fst (Prod.snd x)))))))))))))))))))))
                             (Br (Decidable.decide ((((T.size (Prod.fst x)) : Nat) : Int) = (Prod.fst (Prod.snd (Prod.snd x)))))
                               ((InR ((Prod.snd (Prod.snd (Prod.snd x))) + (1 : Int))) ∧
                                (Br (Decidable.decide ((T.dep (Prod.fst x)) = ((Prod.snd (Prod.snd (Prod.snd x))) + (1 : Int))))
                                  (Ret K (.bool (Decidable.decide ((T.dep (Prod.fst x)) ≤ (((T.size (Prod.fst x)) : Nat) : Int)))) [])
                                  (Ret K (.bool false) [])))
                               (Ret K (.bool false) []))))))))))))))))))) ?_ (by kernel_rfl)
  refine br (fun _ => retB hk rfl) (fun _ => ⟨hp.2, fun t ht => ⟨trivial, trivial, trivial, br (fun h => absurd h (by simp)) (fun _ => ⟨trivial, br (fun h => absurd h (by simp)) (fun _ => ⟨trivial, br (fun _ => ⟨trivial, br (fun _ => ⟨trivial, retB hk (by simp)⟩) (fun h => absurd h (by simp))⟩) (fun hv => ?_)⟩)⟩)⟩⟩)
  rw [T.eta] at hv ⊢
  have hv : t.valid = true := by simpa using hv
  simp only [hv, if_true]
  have hb := depL_bound t.kids
  refine ⟨⟨(t, 0, 1, 0), ⟨hv, Nat.zero_le _, by show (0 : Int) ≤ 1; omega, ?_, by show (0 : Int) ≤ 0; omega, ?_⟩, (by repeat' first | trivial | rfl | (simp; done) | apply And.intro)⟩, ?_⟩
  · show (1 : Int) + (sizeL t.kids : Int) = (t.size : Int)
    rw [T.size_eq]; omega
  · show max 0 (depL t.kids) = depL t.kids
    omega
  rintro ⟨u, i, sum, deep⟩ ⟨g1, g2, g3, g4, g5, g6⟩
  simp only at g1 g2 g3 g4 g5 g6
  have hz := T.valid_size g1
  have hl := length_le_sizeL u.kids
  have hu := u.size_eq
  refine br (fun h => ?_) (fun h => ?_)
  · have h := of_decide_eq_true h
    simp only at h
    have hi : i < u.kids.length := by omega
    have hk' := T.valid_kid g1 (getD_mem hi)
    have hd := sizeL_drop hi
    have hd2 : depL (u.kids.drop i) = max (u.kids.getD i default).dep (depL (u.kids.drop (i + 1))) := by rw [drop_getD hi, depL]
    have hb2 := T.dep_bound (u.kids.getD i default)
    simp only [Int.toNat_natCast, T.eta, hk', if_true]
    refine ⟨⟨by omega, by omega⟩, trivial, by unfold InR; omega, ⟨by omega, by omega⟩, trivial, br (fun h => ⟨⟨by omega, by omega⟩, trivial, by unfold InR; omega, (u, i + 1, _, _), ⟨g1, by show i + 1 ≤ u.kids.length; omega, ?_, ?_, ?_, ?_⟩, (by first | trivial | rfl | (simp; done)), (by first | trivial | rfl | (simp; done)), (by first | trivial | rfl | (simp; done)), (by first | trivial | rfl | (simp; done)), by simp, (by first | trivial | rfl | (simp; done)), (by first | trivial | rfl | (simp; done)), (by first | trivial | rfl | (simp; done)), by show Nat.succ (u.kids.length - (i + 1)) ≤ u.kids.length - i; omega⟩) (fun h => ⟨by unfold InR; omega, (u, i + 1, _, _), ⟨g1, by show i + 1 ≤ u.kids.length; omega, ?_, ?_, ?_, ?_⟩, (by first | trivial | rfl | (simp; done)), (by first | trivial | rfl | (simp; done)), (by first | trivial | rfl | (simp; done)), (by first | trivial | rfl | (simp; done)), by simp, (by first | trivial | rfl | (simp; done)), (by first | trivial | rfl | (simp; done)), (by first | trivial | rfl | (simp; done)), by show Nat.succ (u.kids.length - (i + 1)) ≤ u.kids.length - i; omega⟩)⟩
    · show 0 ≤ sum + ((u.kids.getD i default).size : Int); omega
    · show sum + ((u.kids.getD i default).size : Int) + (sizeL (u.kids.drop (i + 1)) : Int) = u.size; omega
    · show 0 ≤ (u.kids.getD i default).dep; omega
    · have h := of_decide_eq_true h
      show max (u.kids.getD i default).dep (depL (u.kids.drop (i + 1))) = depL u.kids; omega
    · show 0 ≤ sum + ((u.kids.getD i default).size : Int); omega
    · show sum + ((u.kids.getD i default).size : Int) + (sizeL (u.kids.drop (i + 1)) : Int) = u.size; omega
    · exact g5
    · have h := of_decide_eq_false h
      show max deep (depL (u.kids.drop (i + 1))) = depL u.kids; omega
  · have h := of_decide_eq_false h
    simp only at h
    have hi : ¬ i < u.kids.length := by omega
    rw [drop_len hi] at g4 g6
    simp only [sizeL, depL] at g4 g6
    have hb := T.dep_bound u
    have hb2 := depL_bound u.kids
    have hdep : u.dep = depL u.kids + 1 := by cases u; rfl
    refine br (fun _ => ⟨by unfold InR; show _ ≤ deep + 1 ∧ deep + 1 ≤ _; omega, br (fun _ => retB hk ?_) (fun h => ?_)⟩) (fun h => ?_)
    · exact decide_eq_true (show u.dep ≤ (u.size : Int) by omega)
    · have h : ¬ u.dep = deep + 1 := of_decide_eq_false h
      omega
    · have h : ¬ (u.size : Int) = sum := of_decide_eq_false h
      omega
theorem FnCountNodes_sound : Sound Try.prog 14 cFnCountNodes := by
  refine soundF (G := [(35, cdCountNodes), (26, cTermValid), (28, cCountNodes), (30, csCountNodes), (29, cTermDepth), (33, csTermDepth)]) ((gcons dCountNodes_sound (gcons TermValid_sound (gcons CountNodes_sound (gcons sCountNodes_sound (gcons TermDepth_sound (gcons sTermDepth_sound gnil))))))) Try.func14 rfl (by kernel_rfl) fun args hs K h => ?_
  unfold cFnCountNodes at h
  split at h
  case h_2 => exact h.elim
  rename_i bs
  exact ⟨Nat.le_of_ble_eq_true rfl, _, FnCountNodes_ok bs K h.1 h.2⟩
end Go.Dk
namespace Go.Proofs.Ytlfddfmoifjenaa
open Go.ChangeShapes Go.WideShapes Go.RowKit Go.Dk Go.Proofs
set_option linter.unusedVariables false
theorem FnCountNodes_lifted (os : Os) (started : os.Started) (H : Type) (enc : TypeId × Value → H) :
    ReturnsInHanded {} Try.checked os 14 .any (Rows.fnCountNodesSpec.pre6 enc Try.prog Try.f14 Rows.fnCountNodesRow.domain false) (Rows.fnCountNodesSpec.post enc Try.prog Try.f14 false true false false) := by
  refine returnsInHanded_of_change (C := Try.checked) own started (by kernel_rfl) Try.func14
    (ChangeSpec.witness6 (enc := enc) (C := Try.checked) false ⟨#[], #[.slice none 0 0], []⟩ 8 (by kernel_rfl) (by kernel_rfl) (by kernel_rfl) (by kernel_rfl)) ?_
  intro W base args ds gs before hok hW _ _
  have hW' := hW
  obtain ⟨p, q, hA, hV, rfl, hfz, hnd⟩ := hW
  rw [Try.params14] at hA
  obtain ⟨rfl, rfl⟩ := trodVars_none hV
  obtain ⟨v0, vs0, d0, ds0, q0, s0, e0, rfl, rfl, h0, hA⟩ := trodAll_cons hA
  obtain ⟨rfl, rfl, rfl⟩ := trodAll_nil hA
  have ha : args = #[v0] := by cases args; simpa using e0
  subst ha
  obtain ⟨bs0, l0, p0, r0⟩ := open_bytes Try.underlying23 Try.underlying5 (by kernel_rfl) (plain_slice Try.underlying23 (hok 0 _ _ rfl rfl)) h0
  refine (law_call (args := [.ints .u8 bs0 (.arg 0)]) (vals := [v0]) FnCountNodes_sound (fun K hK => ⟨⟨l0, p0⟩, hK⟩) (fun j => slOf ([v0].getD j .nilFunc)) ⟨r0 _ 0 rfl, trivial⟩).mono fun e W' ⟨he, hk⟩ => ?_
  exact ⟨_, he, law_post laidOut (of_decide_eq_true (by kernel_rfl)) rfl rfl Try.underlying4 rfl hW' hk⟩
theorem FnCountNodes_holds : Rows.FnCountNodesSaid :=
  OpenClaim.holds_of_wide 14 Try.f14 rfl rfl rfl rfl rfl rfl rfl ⟨rfl, rfl, rfl, rfl, rfl⟩ rfl rfl rfl rfl rfl (by kernel_rfl) Try.func14 (by kernel_rfl)
    (of_decide_eq_true (by kernel_rfl)) (by unfold Func.isWrapper; first | (rw [if_pos (by decide +kernel)]; kernel_rfl) | (rw [if_neg (by decide +kernel)]; exact ⟨rfl, rfl⟩))
    (fun os started H enc _ => FnCountNodes_lifted os started H enc)
end Go.Proofs.Ytlfddfmoifjenaa
namespace Go.Dk
open Go.Proofs
end Go.Dk
