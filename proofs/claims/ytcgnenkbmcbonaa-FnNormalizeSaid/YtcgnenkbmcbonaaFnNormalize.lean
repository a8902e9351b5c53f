/- laws.FnNormalize returns true and leaves its arguments as they were, for all arguments. -/
import Derived.Test.YtcgnenkbmcbonaaLaw
import Derived.Test.YtcgnenkbmcbonaaLw2
import Derived.Test.YtcgnenkbmcbonaaDr4
import Derived.Test.YtcgnenkbmcbonaaL3
import Derived.Test.YtcgnenkbmcbonaaL4
import Derived.Test.YtcgnenkbmcbonaaL4s
namespace Go.Dk
set_option linter.unusedVariables false
set_option linter.unusedSimpArgs false
open Go.Proofs
/-- laws.FnNormalize -/
def cFnNormalize : Con
  | [.ints .u8 bs (.arg 0)], [], K => ((bs.length ≤ 9223372036854775807 ∧ Bs bs)) ∧ ((K (.bool true) []))
  | _, _, _ => False
theorem FnNormalize_ok (bs : List Int) (K : AV → List AV → Prop) (hp : ((bs.length ≤ 9223372036854775807 ∧ Bs bs))) (hk : ((K (.bool true) []))) :
    bodyQ [(32, cdNormalize), (18, cNormalize), (33, csNormalize), (24, cStepTerm), (20, cNormalTerm), (17, cTermSame)] TY [(10, { ι := T × Int × T × Nat, ok := fun x => x.2.1 ≤ 200 ∧ (x.2.2.2 : Int) ≤ x.2.1 ∧ x.2.2.1.valid = true ∧ (x.2.2.1.red plO (x.2.1 - x.2.2.2)).2.2 = 0 ∧ (x.2.2.1.red plO (x.2.1 - x.2.2.2)).1 = x.1 ∧ sizeL x.1.kids ≤ 400, tl := fun x => [(4, .int .i64 x.2.1), (5, .ptr 5), (9, .ptr 9), (10, .int .i64 x.2.2.2)], hl := fun x => [(5, x.1.av .any), (9, x.2.2.1.av .any)], fh := fun _ => [], μ := fun x => (x.2.1 - x.2.2.2).toNat })] Try.f13 (body Try.f13) [.ints .u8 bs (.arg 0)] [] K := by
  refine of_vc (A :=
    (Br (Decidable.decide ((1048576 : Int) < (((List.length bs) : Nat) : Int)))
     (Ret K (.bool true) [])
     ((Bs bs) ∧
     (∀ t : T,
     (∀ f : Int,
     (((T.size t) ≤ (3000 : Nat)) →
     ((((- (1 : Int)) ≤ f) ∧ (f ≤ (201 : Int))) →
     (True ∧
     (((sizeL (T.kids t)) ≤ (1048576 : Nat)) ∧
     (Br (Decidable.decide ((Prod.snd (Prod.snd (T.red (T.mk (T.k t) (T.n t) (T.kids t)) plO f))) ≠ (Prod.snd (Prod.snd (T.red (T.mk (T.k t) (T.n t) (T.kids t)) plO f)))))
     (Br (Decidable.decide ((Prod.snd (Prod.snd (T.red (T.mk (T.k t) (T.n t) (T.kids t)) plO f))) = (Prod.snd (Prod.snd (T.red (T.mk (T.k t) (T.n t) (T.kids t)) plO f)))))
     (((sizeL (T.kids (Prod.fst (T.red (T.mk (T.k t) (T.n t) (T.kids t)) plO f)))) ≤ (1099511627776 : Nat)) ∧
     (Br (T.same (T.mk (T.k (Prod.fst (T.red (T.mk (T.k t) (T.n t) (T.kids t)) plO f))) (T.n (Prod.fst (T.red (T.mk (T.k t) (T.n t) (T.kids t)) plO f))) (T.kids (Prod.fst (T.red (T.mk (T.k t) (T.n t) (T.kids t)) plO f)))) (T.mk (T.k (Prod.fst (T.red (T.mk (T.k t) (T.n t) (T.kids t)) plO f))) (T.n (Prod.fst (T.red (T.mk (T.k t) (T.n t) (T.kids t)) plO f))) (T.kids (Prod.fst (T.red (T.mk (T.k t) (T.n t) (T.kids t)) plO f)))))
     (Br (Decidable.decide ((Prod.snd (Prod.snd (T.red (T.mk (T.k t) (T.n t) (T.kids t)) plO f))) = (0 : Int)))
     (Ret K (.bool true) [])
     (((sizeL (T.kids (Prod.fst (T.red (T.mk (T.k t) (T.n t) (T.kids t)) plO f)))) ≤ (1099511627776 : Nat)) ∧
     (Ret K (.bool (T.same (T.mk (T.k (Prod.fst (T.red (T.mk (T.k t) (T.n t) (T.kids t)) plO f))) (T.n (Prod.fst (T.red (T.mk (T.k t) (T.n t) (T.kids t)) plO f))) (T.kids (Prod.fst (T.red (T.mk (T.k t) (T.n t) (T.kids t)) plO f)))) (T.mk (0 : Int) (0 : Int) ([] : List T)))) [])))
     (Ret K (.bool false) [])))
     (Ret K (.bool false) []))
     (((sizeL (T.kids (Prod.fst (T.red (T.mk (T.k t) (T.n t) (T.kids t)) plO f)))) ≤ (1099511627776 : Nat)) ∧
     (Br (Bool.not (T.same (T.mk (T.k (Prod.fst (T.red (T.mk (T.k t) (T.n t) (T.kids t)) plO f))) (T.n (Prod.fst (T.red (T.mk (T.k t) (T.n t) (T.kids t)) plO f))) (T.kids (Prod.fst (T.red (T.mk (T.k t) (T.n t) (T.kids t)) plO f)))) (T.mk (T.k (Prod.fst (T.red (T.mk (T.k t) (T.n t) (T.kids t)) plO f))) (T.n (Prod.fst (T.red (T.mk (T.k t) (T.n t) (T.kids t)) plO f))) (T.kids (Prod.fst (T.red (T.mk (T.k t) (T.n t) (T.kids t)) plO f))))))
     (Br (Decidable.decide ((Prod.snd (Prod.snd (T.red (T.mk (T.k t) (T.n t) (T.kids t)) plO f))) = (Prod.snd (Prod.snd (T.red (T.mk (T.k t) (T.n t) (T.kids t)) plO f)))))
     (((sizeL (T.kids (Prod.fst (T.red (T.mk (T.k t) (T.n t) (T.kids t)) plO f)))) ≤ (1099511627776 : Nat)) ∧
     (Br (T.same (T.mk (T.k (Prod.fst (T.red (T.mk (T.k t) (T.n t) (T.kids t)) plO f))) (T.n (Prod.fst (T.red (T.mk (T.k t) (T.n t) (T.kids t)) plO f))) (T.kids (Prod.fst (T.red (T.mk (T.k t) (T.n t) (T.kids t)) plO f)))) (T.mk (T.k (Prod.fst (T.red (T.mk (T.k t) (T.n t) (T.kids t)) plO f))) (T.n (Prod.fst (T.red (T.mk (T.k t) (T.n t) (T.kids t)) plO f))) (T.kids (Prod.fst (T.red (T.mk (T.k t) (T.n t) (T.kids t)) plO f)))))
     (Br (Decidable.decide ((Prod.snd (Prod.snd (T.red (T.mk (T.k t) (T.n t) (T.kids t)) plO f))) = (0 : Int)))
     (Ret K (.bool true) [])
     (((sizeL (T.kids (Prod.fst (T.red (T.mk (T.k t) (T.n t) (T.kids t)) plO f)))) ≤ (1099511627776 : Nat)) ∧
     (Ret K (.bool (T.same (T.mk (T.k (Prod.fst (T.red (T.mk (T.k t) (T.n t) (T.kids t)) plO f))) (T.n (Prod.fst (T.red (T.mk (T.k t) (T.n t) (T.kids t)) plO f))) (T.kids (Prod.fst (T.red (T.mk (T.k t) (T.n t) (T.kids t)) plO f)))) (T.mk (0 : Int) (0 : Int) ([] : List T)))) [])))
     (Ret K (.bool false) [])))
     (Ret K (.bool false) []))
     (Br (Decidable.decide ((Prod.snd (Prod.snd (T.red (T.mk (T.k t) (T.n t) (T.kids t)) plO f))) ≠ (0 : Int)))
     (Br (Decidable.decide ((Prod.snd (Prod.snd (T.red (T.mk (T.k t) (T.n t) (T.kids t)) plO f))) = (Prod.snd (Prod.snd (T.red (T.mk (T.k t) (T.n t) (T.kids t)) plO f)))))
     (((sizeL (T.kids (Prod.fst (T.red (T.mk (T.k t) (T.n t) (T.kids t)) plO f)))) ≤ (1099511627776 : Nat)) ∧
     (Br (T.same (T.mk (T.k (Prod.fst (T.red (T.mk (T.k t) (T.n t) (T.kids t)) plO f))) (T.n (Prod.fst (T.red (T.mk (T.k t) (T.n t) (T.kids t)) plO f))) (T.kids (Prod.fst (T.red (T.mk (T.k t) (T.n t) (T.kids t)) plO f)))) (T.mk (T.k (Prod.fst (T.red (T.mk (T.k t) (T.n t) (T.kids t)) plO f))) (T.n (Prod.fst (T.red (T.mk (T.k t) (T.n t) (T.kids t)) plO f))) (T.kids (Prod.fst (T.red (T.mk (T.k t) (T.n t) (T.kids t)) plO f)))))
     (Br (Decidable.decide ((Prod.snd (Prod.snd (T.red (T.mk (T.k t) (T.n t) (T.kids t)) plO f))) = (0 : Int)))
     (Ret K (.bool true) [])
     (((sizeL (T.kids (Prod.fst (T.red (T.mk (T.k t) (T.n t) (T.kids t)) plO f)))) ≤ (1099511627776 : Nat)) ∧
     (Ret K (.bool (T.same (T.mk (T.k (Prod.fst (T.red (T.mk (T.k t) (T.n t) (T.kids t)) plO f))) (T.n (Prod.fst (T.red (T.mk (T.k t) (T.n t) (T.kids t)) plO f))) (T.kids (Prod.fst (T.red (T.mk (T.k t) (T.n t) (T.kids t)) plO f)))) (T.mk (0 : Int) (0 : Int) ([] : List T)))) [])))
     (Ret K (.bool false) [])))
     (Ret K (.bool false) []))
     ((∃ x : (Prod T (Prod Int (Prod T Nat))),
     ((((Prod.fst (Prod.snd x)) ≤ (200 : Int)) ∧
     (((((Prod.snd (Prod.snd (Prod.snd x))) : Nat) : Int) ≤ (Prod.fst (Prod.snd x))) ∧
     (((T.valid (Prod.fst (Prod.snd (Prod.snd x)))) = true) ∧
     (((Prod.snd (Prod.snd (T.red (Prod.fst (Prod.snd (Prod.snd x))) plO ((Prod.fst (Prod.snd x)) - (((Prod.snd (Prod.snd (Prod.snd x))) : Nat) : Int))))) = (0 : Int)) ∧
     (((Prod.fst (T.red (Prod.fst (Prod.snd (Prod.snd x))) plO ((Prod.fst (Prod.snd x)) - (((Prod.snd (Prod.snd (Prod.snd x))) : Nat) : Int)))) = (Prod.fst x)) ∧
     ((sizeL (T.kids (Prod.fst x))) ≤ (400 : Nat))))))) ∧
     ((f = (Prod.fst (Prod.snd x))) ∧
     (((0 : Int) = (((Prod.snd (Prod.snd (Prod.snd x))) : Nat) : Int)) ∧
     (((T.k (Prod.fst (T.red (T.mk (T.k t) (T.n t) (T.kids t)) plO f))) = (T.k (Prod.fst x))) ∧
     (((T.n (Prod.fst (T.red (T.mk (T.k t) (T.n t) (T.kids t)) plO f))) = (T.n (Prod.fst x))) ∧
     (((T.kids (Prod.fst (T.red (T.mk (T.k t) (T.n t) (T.kids t)) plO f))) = (T.kids (Prod.fst x))) ∧
     (((T.k t) = (T.k (Prod.fst (Prod.snd (Prod.snd x))))) ∧
     (((T.n t) = (T.n (Prod.fst (Prod.snd (Prod.snd x))))) ∧ (((T.kids t) = (T.kids (Prod.fst (Prod.snd (Prod.snd x))))) ∧ True)))))))))) ∧
     (∀ x : (Prod T (Prod Int (Prod T Nat))),
     ((((Prod.fst (Prod.snd x)) ≤ (200 : Int)) ∧ (((((Prod.snd (Prod.snd (Prod.snd x))) : Nat) : Int) ≤ (Prod.fst (Prod.snd x))) ∧ (((T.valid (Prod.fst (Prod.snd (Prod.snd x)))) = true) ∧ (((Prod.snd (Prod.snd (T.red (Prod.fst (Prod.snd (Prod.snd x))) plO ((Prod.fst (Prod.snd x)) - (((Prod.snd (Prod.snd (Prod.snd x))) : Nat) : Int))))) = (0 : Int)) ∧ (((Prod.fst (T.red (Prod.fst (Prod.snd (Prod.snd x))) plO ((Prod.fst (Prod.snd x)) - (((Prod.snd (Prod.snd (Prod.snd x))) : Nat) : Int)))) = (Prod.fst x)) ∧ ((sizeL (T.kids (Prod.fst x))) ≤ (400 : Nat))))))) →
     (Br (Decidable.decide ((((Prod.snd (Prod.snd (Prod.snd x))) : Nat) : Int) < (Prod.fst (Prod.snd x))))
     (True ∧
     (Br (Decidable.decide ((T.stC (T.mk (T.k (Prod.fst (Prod.snd (Prod.snd x)))) (T.n (Prod.fst (Prod.snd (Prod.snd x)))) (T.kids (Prod.fst (Prod.snd (Prod.snd x))))) plO) = (1 : Int)))
     ((InR ((((Prod.snd (Prod.snd (Prod.snd x))) : Nat) : Int) + (1 : Int))) ∧
     (∃ y : (Prod T (Prod Int (Prod T Nat))),
     ((((Prod.fst (Prod.snd y)) ≤ (200 : Int)) ∧
     (((((Prod.snd (Prod.snd (Prod.snd y))) : Nat) : Int) ≤ (Prod.fst (Prod.snd y))) ∧
     (((T.valid (Prod.fst (Prod.snd (Prod.snd y)))) = true) ∧
     (((Prod.snd (Prod.snd (T.red (Prod.fst (Prod.snd (Prod.snd y))) plO ((Prod.fst (Prod.snd y)) - (((Prod.snd (Prod.snd (Prod.snd y))) : Nat) : Int))))) = (0 : Int)) ∧
     (((Prod.fst (T.red (Prod.fst (Prod.snd (Prod.snd y))) plO ((Prod.fst (Prod.snd y)) - (((Prod.snd (Prod.snd (Prod.snd y))) : Nat) : Int)))) = (Prod.fst y)) ∧
     ((sizeL (T.kids (Prod.fst y))) ≤ (400 : Nat))))))) ∧
     (((Prod.fst (Prod.snd x)) = (Prod.fst (Prod.snd y))) ∧
     ((((((Prod.snd (Prod.snd (Prod.snd x))) : Nat) : Int) + (1 : Int)) = (((Prod.snd (Prod.snd (Prod.snd y))) : Nat) : Int)) ∧
     (((T.k (Prod.fst x)) = (T.k (Prod.fst y))) ∧
     (((T.n (Prod.fst x)) = (T.n (Prod.fst y))) ∧
     (((T.kids (Prod.fst x)) = (T.kids (Prod.fst y))) ∧
     (((T.k (T.stR (T.mk (T.k (Prod.fst (Prod.snd (Prod.snd x)))) (T.n (Prod.fst (Prod.snd (Prod.snd x)))) (T.kids (Prod.fst (Prod.snd (Prod.snd x))))) plO)) = (T.k (Prod.fst (Prod.snd (Prod.snd y))))) ∧
     (((T.n (T.stR (T.mk (T.k (Prod.fst (Prod.snd (Prod.snd x)))) (T.n (Prod.fst (Prod.snd (Prod.snd x)))) (T.kids (Prod.fst (Prod.snd (Prod.snd x))))) plO)) = (T.n (Prod.fst (Prod.snd (Prod.snd y))))) ∧
     (((T.kids (T.stR (T.mk (T.k (Prod.fst (Prod.snd (Prod.snd x)))) (T.n (Prod.fst (Prod.snd (Prod.snd x)))) (T.kids (Prod.fst (Prod.snd (Prod.snd x))))) plO)) = (T.kids (Prod.fst (Prod.snd (Prod.snd y))))) ∧
     ((Nat.succ (Int.toNat ((Prod.fst (Prod.snd y)) - (((Prod.snd (Prod.snd (Prod.snd y))) : Nat) : Int)))) ≤ (Int.toNat ((Prod.fst (Prod.snd x)) - (((Prod.snd (Prod.snd (Prod.snd x))) : Nat) : Int)))))))))))))))
     ((InR ((((Prod.snd (Prod.snd (Prod.snd x))) : Nat) : Int) + (1 : Int))) ∧
     (∃ y : (Prod T (Prod Int (Prod T Nat))),
     ((((Prod.fst (Prod.snd y)) ≤ (200 : Int)) ∧
     (((((Prod.snd (Prod.snd (Prod.snd y))) : Nat) : Int) ≤ (Prod.fst (Prod.snd y))) ∧
     (((T.valid (Prod.fst (Prod.snd (Prod.snd y)))) = true) ∧
     (((Prod.snd (Prod.snd (T.red (Prod.fst (Prod.snd (Prod.snd y))) plO ((Prod.fst (Prod.snd y)) - (((Prod.snd (Prod.snd (Prod.snd y))) : Nat) : Int))))) = (0 : Int)) ∧
     (((Prod.fst (T.red (Prod.fst (Prod.snd (Prod.snd y))) plO ((Prod.fst (Prod.snd y)) - (((Prod.snd (Prod.snd (Prod.snd y))) : Nat) : Int)))) = (Prod.fst y)) ∧
     ((sizeL (T.kids (Prod.fst y))) ≤ (400 : Nat))))))) ∧
     (((Prod.fst (Prod.snd x)) = (Prod.fst (Prod.snd y))) ∧
     ((((((Prod.snd (Prod.snd (Prod.snd x))) : Nat) : Int) + (1 : Int)) = (((Prod.snd (Prod.snd (Prod.snd y))) : Nat) : Int)) ∧
     (((T.k (Prod.fst x)) = (T.k (Prod.fst y))) ∧
     (((T.n (Prod.fst x)) = (T.n (Prod.fst y))) ∧
     (((T.kids (Prod.fst x)) = (T.kids (Prod.fst y))) ∧
     (((T.k (Prod.fst (Prod.snd (Prod.snd x)))) = (T.k (Prod.fst (Prod.snd (Prod.snd y))))) ∧
     (((T.n (Prod.fst (Prod.snd (Prod.snd x)))) = (T.n (Prod.fst (Prod.snd (Prod.snd y))))) ∧
     (((T.kids (Prod.fst (Prod.snd (Prod.snd x)))) = (T.kids (Prod.fst (Prod.snd (Prod.snd y))))) ∧
     ((Nat.succ (Int.toNat ((Prod.fst (Prod.snd y)) - (((Prod.snd (Prod.snd (Prod.snd y))) : Nat) : Int)))) ≤ (Int.toNat ((Prod.fst (Prod.snd x)) - (((Prod.snd (Prod.snd (Prod.snd x))) : Nat) : Int)))))))))))))))))
     (True ∧
     (True ∧
     (Br (Bool.and (T.valid (T.mk (T.k (Prod.fst x)) (T.n (Prod.fst x)) (T.kids (Prod.fst x)))) (T.nrm (T.mk (T.k (Prod.fst x)) (T.n (Prod.fst x)) (T.kids (Prod.fst x)))))
     (((sizeL (T.kids (Prod.fst (Prod.snd (Prod.snd x))))) ≤ (1099511627776 : Nat)) ∧
     (Br (T.same (T.mk (T.k (Prod.fst (Prod.snd (Prod.snd x)))) (T.n (Prod.fst (Prod.snd (Prod.snd x)))) (T.kids (Prod.fst (Prod.snd (Prod.snd x))))) (T.mk (T.k (Prod.fst x)) (T.n (Prod.fst x)) (T.kids (Prod.fst x))))
     (Br (Decidable.decide ((Prod.snd (Prod.snd (T.red (T.mk (T.k (Prod.fst x)) (T.n (Prod.fst x)) (T.kids (Prod.fst x))) plO (0 : Int)))) = (0 : Int)))
     (((sizeL (T.kids (Prod.fst (T.red (T.mk (T.k (Prod.fst x)) (T.n (Prod.fst x)) (T.kids (Prod.fst x))) plO (0 : Int))))) ≤ (1099511627776 : Nat)) ∧
     (Ret K (.bool (T.same (T.mk (T.k (Prod.fst (T.red (T.mk (T.k (Prod.fst x)) (T.n (Prod.fst x)) (T.kids (Prod.fst x))) plO (0 : Int)))) (T.n (Prod.fst (T.red (T.mk (T.k (Prod.fst x)) (T.n (Prod.fst x)) (T.kids (Prod.fst x))) plO (0 : Int)))) (T.kids (Prod.fst (T.red (T.mk (T.k (Prod.fst x)) (T.n (Prod.fst x)) (T.kids (Prod.fst x))) plO (0 : Int))))) (T.mk (T.k (Prod.fst x)) (T.n (Prod.fst x)) (T.kids (Prod.fst x))))) []))
     (Ret K (.bool false) []))
     (Ret K (.bool false) [])))
     (Ret K (.bool false) []))))))))))))))))))))) ?_ (by kernel_rfl)
  refine br (fun _ => retB hk rfl) (fun _ => ⟨hp.2, fun t f ht hf => ?_⟩)
  have z1 := red_small t plO f
  have z2 := red_small t plI f
  have z3 := red_small t plH f
  have st := T.size_eq t
  have same : ∀ t : T, t.same t = true := fun t => T.same_iff.2 rfl
  simp only [T.eta, same, ne_eq, not_true_eq_false, not_false_eq_true, decide_true, decide_false, Bool.not_true, Bool.not_false, bne_self_eq_false]
  repeat' first
    | exact retB hk rfl
    | exact trivial
    | with_reducible refine brt ?_
    | with_reducible refine brf ?_
    | refine brd (fun _ => ?_) (fun _ => ?_)
    | refine brn (fun _ => ?_) (fun _ => ?_)
    | refine br (fun _ => ?_) (fun _ => ?_)
    | apply And.intro
    | omega
  · rename_i a _
    exact retB hk (by rw [red_bad a]; exact same _)
  · rename_i a
    have c : (t.red plO f).2.2 = 0 := Decidable.byContradiction a
    have v := red_val (t := t) (P := plO) (f := f) (by omega)
    exact ⟨((t.red plO f).1, f, t, 0), ⟨v.2.2, v.2.1, v.1, by show (t.red plO (f - 0)).2.2 = 0; rw [Int.sub_zero]; exact c, by show (t.red plO (f - 0)).1 = _; rw [Int.sub_zero], z1⟩, rfl, rfl, rfl, rfl, rfl, rfl, rfl, rfl, trivial⟩
  · rintro ⟨u, g, y, i⟩ ⟨h1, h2, h3, h4, h5, h6⟩
    simp only at h1 h2 h3 h4 h5 h6
    refine brd (fun q => ?_) (fun q => ?_)
    · simp only at q
      have e : g - (i : Int) = (g - ((i + 1 : Nat) : Int)) + 1 := by omega
      have pos : 0 ≤ g - ((i + 1 : Nat) : Int) := by omega
      rw [e] at h4 h5
      refine ⟨trivial, brd (fun s => ?_) (fun s => ?_)⟩
      · obtain ⟨n1, n2, n3⟩ := red_next pos h4 s
        exact ⟨by unfold InR; show _ ≤ (i : Int) + 1 ∧ (i : Int) + 1 ≤ _; omega, (u, g, y.stR plO, i + 1), ⟨h1, by show ((i + 1 : Nat) : Int) ≤ g; omega, n1, n2, n3.trans h5, h6⟩, rfl, rfl, rfl, rfl, rfl, rfl, rfl, rfl, by show (g - ((i + 1 : Nat) : Int)).toNat + 1 ≤ (g - (i : Int)).toNat; omega⟩
      · obtain ⟨n1, n2⟩ := red_stay pos h4 s
        exact ⟨by unfold InR; show _ ≤ (i : Int) + 1 ∧ (i : Int) + 1 ≤ _; omega, (u, g, y, i + 1), ⟨h1, by show ((i + 1 : Nat) : Int) ≤ g; omega, h3, by show (y.red plO (g - ((i + 1 : Nat) : Int))).2.2 = 0; rw [n1], by show (y.red plO (g - ((i + 1 : Nat) : Int))).1 = u; rw [n1, ← h5, n2], h6⟩, rfl, rfl, rfl, rfl, rfl, rfl, rfl, rfl, by show (g - ((i + 1 : Nat) : Int)).toNat + 1 ≤ (g - (i : Int)).toNat; omega⟩
    · simp only at q
      have e : g - (i : Int) = 0 := by omega
      rw [e] at h4 h5
      obtain ⟨o1, o2, -⟩ := red_ok h4
      rw [h5] at o1 o2
      have en := red_no (P := plO) (f := 0) ⟨o1, by omega, by omega⟩ o2
      have yo : plO.o y = false := by
        cases o : plO.o y with
        | false => rfl
        | true =>
          have b := red_val (t := y) (P := plO) (f := 0) (by omega)
          rw [red_eq b, show (0 : Int).toNat = 0 from rfl, rdc_zero o] at h4
          exact absurd h4 (by decide)
      have yu : y = u := by
        rw [red_no (P := plO) (f := 0) ⟨h3, by omega, by omega⟩ yo] at h5
        exact h5
      subst yu
      refine ⟨trivial, trivial, br (fun _ => ⟨by show sizeL y.kids ≤ _; omega, br (fun _ => ?_) (fun b => ?_)⟩) (fun b => ?_)⟩
      · rw [en]
        exact brd (fun _ => ⟨by show sizeL y.kids ≤ _; omega, retB hk (same _)⟩) (fun b => absurd rfl b)
      · have b : y.same y = false := b
        rw [same] at b; cases b
      · have b : (y.valid && y.nrm) = false := b
        rw [o1, plO_nrm o2] at b; cases b
theorem FnNormalize_sound : Sound Try.prog 13 cFnNormalize := by
  refine soundF (G := [(32, cdNormalize), (18, cNormalize), (33, csNormalize), (24, cStepTerm), (20, cNormalTerm), (17, cTermSame)]) ((gcons dNormalize_sound (gcons Normalize_sound (gcons sNormalize_sound (gcons StepTerm_sound (gcons NormalTerm_sound (gcons TermSame_sound gnil))))))) Try.func13 rfl (by kernel_rfl) fun args hs K hCC => ?_
  unfold cFnNormalize at hCC
  split at hCC
  case h_2 => exact hCC.elim
  rename_i bs
  exact ⟨Nat.le_of_ble_eq_true rfl, _, FnNormalize_ok bs K hCC.1 hCC.2⟩
end Go.Dk
namespace Go.Proofs.Ytcgnenkbmcbonaa
open Go.ChangeShapes Go.WideShapes Go.RowKit Go.Dk Go.Proofs
set_option linter.unusedVariables false
set_option maxRecDepth 100000 in
theorem FnNormalize_lifted (os : Os) (started : os.Started) (H : Type) (enc : TypeId × Value → H) :
    ReturnsInHanded {} Try.checked os 13 .any (Rows.fnNormalizeSpec.pre6 enc Try.prog Try.f13 Rows.fnNormalizeRow.domain false) (Rows.fnNormalizeSpec.post enc Try.prog Try.f13 false true false false) := by
  refine returnsInHanded_of_change (C := Try.checked) own started (by kernel_rfl) Try.func13
    (ChangeSpec.witness6 (enc := enc) (C := Try.checked) false ⟨#[], #[.slice none 0 0], []⟩ 8 (by kernel_rfl) (by kernel_rfl) (by kernel_rfl) (by kernel_rfl)) ?_
  intro W base args ds gs before hok hW _ _
  have hW' := hW
  obtain ⟨p, q, hA, hV, rfl, hfz, hnd⟩ := hW
  rw [Try.params13] at hA
  obtain ⟨rfl, rfl⟩ := trodVars_none hV
  obtain ⟨v0, vs0, d0, ds0, q0, s0, e0, rfl, rfl, h0, hA⟩ := trodAll_cons hA
  obtain ⟨rfl, rfl, rfl⟩ := trodAll_nil hA
  have ha : args = #[v0] := by cases args; simpa using e0
  subst ha
  obtain ⟨bs0, l0, p0, r0⟩ := open_bytes Try.underlying22 Try.underlying5 (by kernel_rfl) (plain_slice Try.underlying22 (hok 0 _ _ rfl rfl)) h0
  refine (law_call (args := [.ints .u8 bs0 (.arg 0)]) (vals := [v0]) FnNormalize_sound (fun K hK => ⟨⟨l0, p0⟩, hK⟩) (fun j => slOf ([v0].getD j .nilFunc)) ⟨r0 _ 0 rfl, trivial⟩).mono fun e W' ⟨he, hk⟩ => ?_
  exact ⟨_, he, law_post laidOut (of_decide_eq_true (by kernel_rfl)) rfl rfl Try.underlying4 rfl hW' hk⟩
theorem FnNormalize_holds : Rows.FnNormalizeSaid :=
  OpenClaim.holds_of_wide 13 Try.f13 rfl rfl rfl rfl rfl rfl rfl ⟨rfl, rfl, rfl, rfl, rfl⟩ rfl rfl rfl rfl rfl (by kernel_rfl) Try.func13 (by kernel_rfl)
    (of_decide_eq_true (by kernel_rfl)) (by unfold Func.isWrapper; first | (rw [if_pos (by decide +kernel)]; kernel_rfl) | (rw [if_neg (by decide +kernel)]; exact ⟨rfl, rfl⟩))
    (fun os started H enc _ => FnNormalize_lifted os started H enc)
end Go.Proofs.Ytcgnenkbmcbonaa
namespace Go.Dk
open Go.Proofs
end Go.Dk
