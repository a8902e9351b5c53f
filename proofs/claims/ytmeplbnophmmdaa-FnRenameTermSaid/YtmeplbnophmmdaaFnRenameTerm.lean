/- laws.FnRenameTerm returns true and leaves its arguments as they were, for all arguments. -/
import Derived.Test.YtmeplbnophmmdaaLaw
import Derived.Test.YtmeplbnophmmdaaDr3
import Derived.Test.YtmeplbnophmmdaaTh2
namespace Go.Dk
set_option linter.unusedVariables false
open Go.Proofs
/-- The second list, and the two lists' composition, as far as they are made. -/
def oth (m : Int) (n : Nat) : List Int := (List.range n).map fun (k : Nat) => ((k : Int) * 5 + m) % 7
def IsOth (m : Int) (l : List Int) : Prop := l = oth m 21
def bth (ns other : List Int) (n : Nat) : List Int := (ns.take n).map fun x => other.getD x.toNat 0
theorem oth_len (m : Int) (n : Nat) : (oth m n).length = n := by simp [oth]
theorem oth_succ (m : Int) (n : Nat) : oth m n ++ [((n : Int) * 5 + m) % 7] = oth m (n + 1) := by simp [oth, List.range_succ]
theorem oth_range {m : Int} {n : Nat} : ∀ x ∈ oth m n, 0 ≤ x ∧ x ≤ 20 := fun x hx => by
  simp only [oth, List.mem_map] at hx
  obtain ⟨k, _, rfl⟩ := hx
  omega
theorem bth_len {ns other : List Int} {n : Nat} (h : n ≤ ns.length) : (bth ns other n).length = n := by simp [bth, h]
theorem bth_succ {ns other : List Int} {n : Nat} (h : n < ns.length) : bth ns other n ++ [other.getD (ns.getD n 0).toNat 0] = bth ns other (n + 1) := by
  have e : ns.getD n 0 = ns[n] := by rw [List.getD_eq_getElem?_getD, List.getElem?_eq_getElem h]; rfl
  unfold bth
  rw [List.take_succ_eq_append_getElem h, List.map_append, e]; rfl
theorem bth_get {ns other : List Int} {i : Nat} (h : i < ns.length) : (bth ns other ns.length).getD i 0 = other.getD (ns.getD i 0).toNat 0 := by
  unfold bth
  rw [List.take_length, List.getD_eq_getElem?_getD, List.getElem?_map, List.getElem?_eq_getElem h]
  simp [List.getD_eq_getElem?_getD, h]
/-- laws.FnRenameTerm -/
def cFnRenameTerm : Con
  | [.ints .u8 bs (.arg 0), .ints .u8 cs (.arg 1)], [], K => ((bs.length ≤ 9223372036854775807 ∧ Bs bs) ∧ (cs.length ≤ 9223372036854775807 ∧ Bs cs)) ∧ ((K (.bool true) []))
  | _, _, _ => False
theorem FnRenameTerm_ok (bs : List Int) (cs : List Int) (K : AV → List AV → Prop) (hp : ((bs.length ≤ 9223372036854775807 ∧ Bs bs) ∧ (cs.length ≤ 9223372036854775807 ∧ Bs cs))) (hk : ((K (.bool true) []))) :
    bodyQ [(6, cdRenameTerm), (7, cRenameTerm), (8, csRenameTerm), (10, cCountNodes), (9, cTermSame)] TY [(10, { ι := (T × List Int) × Nat, ok := fun x => x.1.1.RnO x.1.2 = true ∧ x.2 ≤ 21, tl := fun x => [(1, .ints .u8 cs (.arg 1)), (5, .ptr 5), (6, .ints .i64 x.1.2 .any), (7, .ptr 7), (11, .ints .i64 (oth cs.length x.2) (.iv 4 0 true (.tok 78))), (12, .int .i64 x.2)], hl := fun x => [(5, x.1.1.av .any), (7, (x.1.1.RnR x.1.2).av .any)], fh := fun _ => [], μ := fun x => 21 - x.2 }), (15, { ι := (T × List Int) × (List Int × Nat), ok := fun x => x.1.1.RnO x.1.2 = true ∧ x.2.2 ≤ x.1.2.length ∧ IsOth cs.length x.2.1, tl := fun x => [(5, .ptr 5), (6, .ints .i64 x.1.2 .any), (7, .ptr 7), (11, .ints .i64 x.2.1 .any), (13, .ints .i64 (bth x.1.2 x.2.1 x.2.2) (.iv 4 0 true (.tok 95))), (14, .int .i64 x.2.2)], hl := fun x => [(5, x.1.1.av .any), (7, (x.1.1.RnR x.1.2).av .any)], fh := fun _ => [], μ := fun x => x.1.2.length - x.2.2 })] Try.f3 (body Try.f3) [.ints .u8 bs (.arg 0), .ints .u8 cs (.arg 1)] [] K := by
  refine of_vc (A :=
    (Br (Decidable.decide ((1048576 : Int) < (((List.length bs) : Nat) : Int)))
     (Ret K (.bool true) [])
     (Br (Decidable.decide ((1048576 : Int) < (((List.length cs) : Nat) : Int)))
     (Ret K (.bool true) [])
     ((Bs bs) ∧
     (∀ t : T,
     (∀ ns : (List Int),
     (((T.size t) ≤ (1000 : Nat)) →
     (((List.length ns) ≤ (30 : Nat)) →
     (True ∧
     (((List.length ns) ≤ (9223372036854775807 : Nat)) ∧
     (Br (bne (T.RnO (T.mk (T.k t) (T.n t) (T.kids t)) ns) (T.RnO (T.mk (T.k t) (T.n t) (T.kids t)) ns))
     (Br (BEq.beq (T.RnO (T.mk (T.k t) (T.n t) (T.kids t)) ns) (T.RnO (T.mk (T.k t) (T.n t) (T.kids t)) ns))
     (((sizeL (T.kids (T.RnR (T.mk (T.k t) (T.n t) (T.kids t)) ns))) ≤ (1099511627776 : Nat)) ∧
     (Ret K (.bool (T.same (T.mk (T.k (T.RnR (T.mk (T.k t) (T.n t) (T.kids t)) ns)) (T.n (T.RnR (T.mk (T.k t) (T.n t) (T.kids t)) ns)) (T.kids (T.RnR (T.mk (T.k t) (T.n t) (T.kids t)) ns))) (T.mk (T.k (T.RnR (T.mk (T.k t) (T.n t) (T.kids t)) ns)) (T.n (T.RnR (T.mk (T.k t) (T.n t) (T.kids t)) ns)) (T.kids (T.RnR (T.mk (T.k t) (T.n t) (T.kids t)) ns))))) []))
     (Ret K (.bool false) []))
     (((sizeL (T.kids (T.RnR (T.mk (T.k t) (T.n t) (T.kids t)) ns))) ≤ (1099511627776 : Nat)) ∧
     (Br (Bool.not (T.same (T.mk (T.k (T.RnR (T.mk (T.k t) (T.n t) (T.kids t)) ns)) (T.n (T.RnR (T.mk (T.k t) (T.n t) (T.kids t)) ns)) (T.kids (T.RnR (T.mk (T.k t) (T.n t) (T.kids t)) ns))) (T.mk (T.k (T.RnR (T.mk (T.k t) (T.n t) (T.kids t)) ns)) (T.n (T.RnR (T.mk (T.k t) (T.n t) (T.kids t)) ns)) (T.kids (T.RnR (T.mk (T.k t) (T.n t) (T.kids t)) ns)))))
     (Br (BEq.beq (T.RnO (T.mk (T.k t) (T.n t) (T.kids t)) ns) (T.RnO (T.mk (T.k t) (T.n t) (T.kids t)) ns))
     (((sizeL (T.kids (T.RnR (T.mk (T.k t) (T.n t) (T.kids t)) ns))) ≤ (1099511627776 : Nat)) ∧
     (Ret K (.bool (T.same (T.mk (T.k (T.RnR (T.mk (T.k t) (T.n t) (T.kids t)) ns)) (T.n (T.RnR (T.mk (T.k t) (T.n t) (T.kids t)) ns)) (T.kids (T.RnR (T.mk (T.k t) (T.n t) (T.kids t)) ns))) (T.mk (T.k (T.RnR (T.mk (T.k t) (T.n t) (T.kids t)) ns)) (T.n (T.RnR (T.mk (T.k t) (T.n t) (T.kids t)) ns)) (T.kids (T.RnR (T.mk (T.k t) (T.n t) (T.kids t)) ns))))) []))
     (Ret K (.bool false) []))
     (Br (Bool.not (T.RnO (T.mk (T.k t) (T.n t) (T.kids t)) ns))
     (Br (BEq.beq (T.RnO (T.mk (T.k t) (T.n t) (T.kids t)) ns) (T.RnO (T.mk (T.k t) (T.n t) (T.kids t)) ns))
     (((sizeL (T.kids (T.RnR (T.mk (T.k t) (T.n t) (T.kids t)) ns))) ≤ (1099511627776 : Nat)) ∧
     (Ret K (.bool (T.same (T.mk (T.k (T.RnR (T.mk (T.k t) (T.n t) (T.kids t)) ns)) (T.n (T.RnR (T.mk (T.k t) (T.n t) (T.kids t)) ns)) (T.kids (T.RnR (T.mk (T.k t) (T.n t) (T.kids t)) ns))) (T.mk (T.k (T.RnR (T.mk (T.k t) (T.n t) (T.kids t)) ns)) (T.n (T.RnR (T.mk (T.k t) (T.n t) (T.kids t)) ns)) (T.kids (T.RnR (T.mk (T.k t) (T.n t) (T.kids t)) ns))))) []))
     (Ret K (.bool false) []))
     ((∃ x : (Prod (Prod T (List Int)) Nat),
     ((((T.RnO (Prod.fst (Prod.fst x)) (Prod.snd (Prod.fst x))) = true) ∧ ((Prod.snd x) ≤ (21 : Nat))) ∧
     ((cs = cs) ∧
     ((ns = (Prod.snd (Prod.fst x))) ∧
     ((([] : List Int) = (oth (((List.length cs) : Nat) : Int) (Prod.snd x))) ∧
     (((0 : Int) = (((Prod.snd x) : Nat) : Int)) ∧
     (((T.k t) = (T.k (Prod.fst (Prod.fst x)))) ∧
     (((T.n t) = (T.n (Prod.fst (Prod.fst x)))) ∧
     (((T.kids t) = (T.kids (Prod.fst (Prod.fst x)))) ∧
     (((T.k (T.RnR (T.mk (T.k t) (T.n t) (T.kids t)) ns)) = (T.k (T.RnR (Prod.fst (Prod.fst x)) (Prod.snd (Prod.fst x))))) ∧
     (((T.n (T.RnR (T.mk (T.k t) (T.n t) (T.kids t)) ns)) = (T.n (T.RnR (Prod.fst (Prod.fst x)) (Prod.snd (Prod.fst x))))) ∧
     (((T.kids (T.RnR (T.mk (T.k t) (T.n t) (T.kids t)) ns)) = (T.kids (T.RnR (Prod.fst (Prod.fst x)) (Prod.snd (Prod.fst x))))) ∧ True)))))))))))) ∧
     (∀ x : (Prod (Prod T (List Int)) Nat),
     ((((T.RnO (Prod.fst (Prod.fst x)) (Prod.snd (Prod.fst x))) = true) ∧ ((Prod.snd x) ≤ (21 : Nat))) →
     (Br (Decidable.decide ((((Prod.snd x) : Nat) : Int) ≤ (20 : Int)))
     ((InR ((((Prod.snd x) : Nat) : Int) * (5 : Int))) ∧
     ((InR (((((Prod.snd x) : Nat) : Int) * (5 : Int)) + (((List.length cs) : Nat) : Int))) ∧
     ((((0 : Int) ≤ (((((Prod.snd x) : Nat) : Int) * (5 : Int)) + (((List.length cs) : Nat) : Int))) ∧
     (((0 : Int) < (7 : Int)) ∧ ((7 : Int) ≤ (9223372036854775807 : Int)))) ∧
     ((((((List.length (oth (((List.length cs) : Nat) : Int) (Prod.snd x))) : Nat) : Int) + (1 : Int)) ≤ (1099511627776 : Int)) ∧
     ((InR ((((Prod.snd x) : Nat) : Int) + (1 : Int))) ∧
     (∃ y : (Prod (Prod T (List Int)) Nat),
     ((((T.RnO (Prod.fst (Prod.fst y)) (Prod.snd (Prod.fst y))) = true) ∧ ((Prod.snd y) ≤ (21 : Nat))) ∧
     ((cs = cs) ∧
     (((Prod.snd (Prod.fst x)) = (Prod.snd (Prod.fst y))) ∧
     ((((oth (((List.length cs) : Nat) : Int) (Prod.snd x)) ++ [((((((Prod.snd x) : Nat) : Int) * (5 : Int)) + (((List.length cs) : Nat) : Int)) % (7 : Int))]) = (oth (((List.length cs) : Nat) : Int) (Prod.snd y))) ∧
     ((((((Prod.snd x) : Nat) : Int) + (1 : Int)) = (((Prod.snd y) : Nat) : Int)) ∧
     (((T.k (Prod.fst (Prod.fst x))) = (T.k (Prod.fst (Prod.fst y)))) ∧
     (((T.n (Prod.fst (Prod.fst x))) = (T.n (Prod.fst (Prod.fst y)))) ∧
     (((T.kids (Prod.fst (Prod.fst x))) = (T.kids (Prod.fst (Prod.fst y)))) ∧
     (((T.k (T.RnR (Prod.fst (Prod.fst x)) (Prod.snd (Prod.fst x)))) = (T.k (T.RnR (Prod.fst (Prod.fst y)) (Prod.snd (Prod.fst y))))) ∧
     (((T.n (T.RnR (Prod.fst (Prod.fst x)) (Prod.snd (Prod.fst x)))) = (T.n (T.RnR (Prod.fst (Prod.fst y)) (Prod.snd (Prod.fst y))))) ∧
     (((T.kids (T.RnR (Prod.fst (Prod.fst x)) (Prod.snd (Prod.fst x)))) = (T.kids (T.RnR (Prod.fst (Prod.fst y)) (Prod.snd (Prod.fst y))))) ∧
     ((Nat.succ ((21 : Nat) - (Prod.snd y))) ≤ ((21 : Nat) - (Prod.snd x))))))))))))))))))))
     ((∃ x1 : (Prod (Prod T (List Int)) (Prod (List Int) Nat)),
     ((((T.RnO (Prod.fst (Prod.fst x1)) (Prod.snd (Prod.fst x1))) = true) ∧
     (((Prod.snd (Prod.snd x1)) ≤ (List.length (Prod.snd (Prod.fst x1)))) ∧ (IsOth (((List.length cs) : Nat) : Int) (Prod.fst (Prod.snd x1))))) ∧
     (((Prod.snd (Prod.fst x)) = (Prod.snd (Prod.fst x1))) ∧
     (((oth (((List.length cs) : Nat) : Int) (Prod.snd x)) = (Prod.fst (Prod.snd x1))) ∧
     ((([] : List Int) = (bth (Prod.snd (Prod.fst x1)) (Prod.fst (Prod.snd x1)) (Prod.snd (Prod.snd x1)))) ∧
     (((0 : Int) = (((Prod.snd (Prod.snd x1)) : Nat) : Int)) ∧
     (((T.k (Prod.fst (Prod.fst x))) = (T.k (Prod.fst (Prod.fst x1)))) ∧
     (((T.n (Prod.fst (Prod.fst x))) = (T.n (Prod.fst (Prod.fst x1)))) ∧
     (((T.kids (Prod.fst (Prod.fst x))) = (T.kids (Prod.fst (Prod.fst x1)))) ∧
     (((T.k (T.RnR (Prod.fst (Prod.fst x)) (Prod.snd (Prod.fst x)))) = (T.k (T.RnR (Prod.fst (Prod.fst x1)) (Prod.snd (Prod.fst x1))))) ∧
     (((T.n (T.RnR (Prod.fst (Prod.fst x)) (Prod.snd (Prod.fst x)))) = (T.n (T.RnR (Prod.fst (Prod.fst x1)) (Prod.snd (Prod.fst x1))))) ∧
     (((T.kids (T.RnR (Prod.fst (Prod.fst x)) (Prod.snd (Prod.fst x)))) = (T.kids (T.RnR (Prod.fst (Prod.fst x1)) (Prod.snd (Prod.fst x1))))) ∧ True)))))))))))) ∧
     (∀ x1 : (Prod (Prod T (List Int)) (Prod (List Int) Nat)),
     ((((T.RnO (Prod.fst (Prod.fst x1)) (Prod.snd (Prod.fst x1))) = true) ∧ (((Prod.snd (Prod.snd x1)) ≤ (List.length (Prod.snd (Prod.fst x1)))) ∧ (IsOth (((List.length cs) : Nat) : Int) (Prod.fst (Prod.snd x1))))) →
     (Br (Decidable.decide ((((Prod.snd (Prod.snd x1)) : Nat) : Int) < (((List.length (Prod.snd (Prod.fst x1))) : Nat) : Int)))
     ((((0 : Int) ≤ (((Prod.snd (Prod.snd x1)) : Nat) : Int)) ∧ ((((Prod.snd (Prod.snd x1)) : Nat) : Int) < (((List.length (Prod.snd (Prod.fst x1))) : Nat) : Int))) ∧
     ((((0 : Int) ≤ (List.getD (Prod.snd (Prod.fst x1)) (Int.toNat (((Prod.snd (Prod.snd x1)) : Nat) : Int)) (0 : Int))) ∧
     ((List.getD (Prod.snd (Prod.fst x1)) (Int.toNat (((Prod.snd (Prod.snd x1)) : Nat) : Int)) (0 : Int)) < (((List.length (Prod.fst (Prod.snd x1))) : Nat) : Int))) ∧
     ((((((List.length (bth (Prod.snd (Prod.fst x1)) (Prod.fst (Prod.snd x1)) (Prod.snd (Prod.snd x1)))) : Nat) : Int) + (1 : Int)) ≤ (1099511627776 : Int)) ∧
     ((InR ((((Prod.snd (Prod.snd x1)) : Nat) : Int) + (1 : Int))) ∧
     (∃ y : (Prod (Prod T (List Int)) (Prod (List Int) Nat)),
     ((((T.RnO (Prod.fst (Prod.fst y)) (Prod.snd (Prod.fst y))) = true) ∧
     (((Prod.snd (Prod.snd y)) ≤ (List.length (Prod.snd (Prod.fst y)))) ∧ (IsOth (((List.length cs) : Nat) : Int) (Prod.fst (Prod.snd y))))) ∧
     (((Prod.snd (Prod.fst x1)) = (Prod.snd (Prod.fst y))) ∧
     (((Prod.fst (Prod.snd x1)) = (Prod.fst (Prod.snd y))) ∧
     ((((bth (Prod.snd (Prod.fst x1)) (Prod.fst (Prod.snd x1)) (Prod.snd (Prod.snd x1))) ++ [(List.getD (Prod.fst (Prod.snd x1)) (Int.toNat (List.getD (Prod.snd (Prod.fst x1)) (Int.toNat (((Prod.snd (Prod.snd x1)) : Nat) : Int)) (0 : Int))) (0 : Int))]) = (bth (Prod.snd (Prod.fst y)) (Prod.fst (Prod.snd y)) (Prod.snd (Prod.snd y)))) ∧
     ((((((Prod.snd (Prod.snd x1)) : Nat) : Int) + (1 : Int)) = (((Prod.snd (Prod.snd y)) : Nat) : Int)) ∧
     (((T.k (Prod.fst (Prod.fst x1))) = (T.k (Prod.fst (Prod.fst y)))) ∧
     (((T.n (Prod.fst (Prod.fst x1))) = (T.n (Prod.fst (Prod.fst y)))) ∧
     (((T.kids (Prod.fst (Prod.fst x1))) = (T.kids (Prod.fst (Prod.fst y)))) ∧
     (((T.k (T.RnR (Prod.fst (Prod.fst x1)) (Prod.snd (Prod.fst x1)))) = (T.k (T.RnR (Prod.fst (Prod.fst y)) (Prod.snd (Prod.fst y))))) ∧
     (((T.n (T.RnR (Prod.fst (Prod.fst x1)) (Prod.snd (Prod.fst x1)))) = (T.n (T.RnR (Prod.fst (Prod.fst y)) (Prod.snd (Prod.fst y))))) ∧
     (((T.kids (T.RnR (Prod.fst (Prod.fst x1)) (Prod.snd (Prod.fst x1)))) = (T.kids (T.RnR (Prod.fst (Prod.fst y)) (Prod.snd (Prod.fst y))))) ∧
     ((Nat.succ ((List.length (Prod.snd (Prod.fst y))) - (Prod.snd (Prod.snd y)))) ≤ ((List.length (Prod.snd (Prod.fst x1))) - (Prod.snd (Prod.snd x1))))))))))))))))))))
     (True ∧
     (True ∧
     (True ∧
     (((T.k (Prod.fst (Prod.fst x1))) = (T.k (Prod.fst (Prod.fst x1)))) ∧
     (((T.n (Prod.fst (Prod.fst x1))) = (T.n (Prod.fst (Prod.fst x1)))) ∧
     (((T.kids (Prod.fst (Prod.fst x1))) = (T.kids (Prod.fst (Prod.fst x1)))) ∧
     (True ∧
     (Br (Decidable.decide ((if ((T.valid (T.mk (T.k (T.RnR (Prod.fst (Prod.fst x1)) (Prod.snd (Prod.fst x1)))) (T.n (T.RnR (Prod.fst (Prod.fst x1)) (Prod.snd (Prod.fst x1)))) (T.kids (T.RnR (Prod.fst (Prod.fst x1)) (Prod.snd (Prod.fst x1)))))) = true) then (((T.size (T.mk (T.k (T.RnR (Prod.fst (Prod.fst x1)) (Prod.snd (Prod.fst x1)))) (T.n (T.RnR (Prod.fst (Prod.fst x1)) (Prod.snd (Prod.fst x1)))) (T.kids (T.RnR (Prod.fst (Prod.fst x1)) (Prod.snd (Prod.fst x1)))))) : Nat) : Int) else (0 : Int)) = (if ((T.valid (T.mk (T.k (Prod.fst (Prod.fst x1))) (T.n (Prod.fst (Prod.fst x1))) (T.kids (Prod.fst (Prod.fst x1))))) = true) then (((T.size (T.mk (T.k (Prod.fst (Prod.fst x1))) (T.n (Prod.fst (Prod.fst x1))) (T.kids (Prod.fst (Prod.fst x1))))) : Nat) : Int) else (0 : Int))))
     (Br (Bool.not (T.RnO (T.mk (T.k (T.RnR (Prod.fst (Prod.fst x1)) (Prod.snd (Prod.fst x1)))) (T.n (T.RnR (Prod.fst (Prod.fst x1)) (Prod.snd (Prod.fst x1)))) (T.kids (T.RnR (Prod.fst (Prod.fst x1)) (Prod.snd (Prod.fst x1))))) (Prod.fst (Prod.snd x1))))
     (Ret K (.bool true) [])
     (Br (T.RnO (T.mk (T.k (Prod.fst (Prod.fst x1))) (T.n (Prod.fst (Prod.fst x1))) (T.kids (Prod.fst (Prod.fst x1)))) (bth (Prod.snd (Prod.fst x1)) (Prod.fst (Prod.snd x1)) (Prod.snd (Prod.snd x1))))
     (((sizeL (T.kids (T.RnR (T.mk (T.k (T.RnR (Prod.fst (Prod.fst x1)) (Prod.snd (Prod.fst x1)))) (T.n (T.RnR (Prod.fst (Prod.fst x1)) (Prod.snd (Prod.fst x1)))) (T.kids (T.RnR (Prod.fst (Prod.fst x1)) (Prod.snd (Prod.fst x1))))) (Prod.fst (Prod.snd x1))))) ≤ (1099511627776 : Nat)) ∧
     (Ret K (.bool (T.same (T.mk (T.k (T.RnR (T.mk (T.k (T.RnR (Prod.fst (Prod.fst x1)) (Prod.snd (Prod.fst x1)))) (T.n (T.RnR (Prod.fst (Prod.fst x1)) (Prod.snd (Prod.fst x1)))) (T.kids (T.RnR (Prod.fst (Prod.fst x1)) (Prod.snd (Prod.fst x1))))) (Prod.fst (Prod.snd x1)))) (T.n (T.RnR (T.mk (T.k (T.RnR (Prod.fst (Prod.fst x1)) (Prod.snd (Prod.fst x1)))) (T.n (T.RnR (Prod.fst (Prod.fst x1)) (Prod.snd (Prod.fst x1)))) (T.kids (T.RnR (Prod.fst (Prod.fst x1)) (Prod.snd (Prod.fst x1))))) (Prod.fst (Prod.snd x1)))) (T.kids (T.RnR (T.mk (T.k (T.RnR (Prod.fst (Prod.fst x1)) (Prod.snd (Prod.fst x1)))) (T.n (T.RnR (Prod.fst (Prod.fst x1)) (Prod.snd (Prod.fst x1)))) (T.kids (T.RnR (Prod.fst (Prod.fst x1)) (Prod.snd (Prod.fst x1))))) (Prod.fst (Prod.snd x1))))) (T.mk (T.k (T.RnR (T.mk (T.k (Prod.fst (Prod.fst x1))) (T.n (Prod.fst (Prod.fst x1))) (T.kids (Prod.fst (Prod.fst x1)))) (bth (Prod.snd (Prod.fst x1)) (Prod.fst (Prod.snd x1)) (Prod.snd (Prod.snd x1))))) (T.n (T.RnR (T.mk (T.k (Prod.fst (Prod.fst x1))) (T.n (Prod.fst (Prod.fst x1))) (T.kids (Prod.fst (Prod.fst x1)))) (bth (Prod.snd (Prod.fst x1)) (Prod.fst (Prod.snd x1)) (Prod.snd (Prod.snd x1))))) (T.kids (T.RnR (T.mk (T.k (Prod.fst (Prod.fst x1))) (T.n (Prod.fst (Prod.fst x1))) (T.kids (Prod.fst (Prod.fst x1)))) (bth (Prod.snd (Prod.fst x1)) (Prod.fst (Prod.snd x1)) (Prod.snd (Prod.snd x1)))))))) []))
     (Ret K (.bool false) [])))
     (Ret K (.bool false) []))))))))))))))))))))))))))))))) ?_ (by kernel_rfl)
  refine br (fun _ => retB hk rfl) (fun _ => br (fun _ => retB hk rfl) (fun hc => ⟨hp.1.2, fun t ns ht hn => ?_⟩))
  have hc := of_decide_eq_false hc
  have same : ∀ t : T, t.same t = true := fun t => T.same_iff.2 rfl
  simp only [T.eta, same, bne_self_eq_false, beq_self_eq_true]
  have z := RnR_small t ns
  refine ⟨trivial, by omega, br (fun h => nomatch h) (fun _ => ⟨by omega, br (fun h => nomatch h) (fun _ => br (fun _ => br (fun _ => ⟨by omega, retB hk rfl⟩) (fun h => nomatch h)) (fun h1 => ?_))⟩)⟩
  have h1 : t.RnO ns = true := by simpa using h1
  refine ⟨⟨((t, ns), 0), ⟨h1, Nat.zero_le _⟩, (by first | exact True.intro | exact rfl), rfl, rfl, rfl, rfl, rfl, rfl, rfl, rfl, rfl, trivial⟩, ?_⟩
  rintro ⟨⟨t, ns⟩, i⟩ ⟨g1, g2⟩
  simp only at g1 g2
  dsimp only
  refine br (fun h => ?_) (fun h => ?_)
  · have h := of_decide_eq_true h
    exact ⟨by unfold InR; omega, by unfold InR; omega, by omega, by rw [oth_len]; omega, by unfold InR; omega, ((t, ns), i + 1), ⟨g1, by show i + 1 ≤ 21; omega⟩, (by first | exact True.intro | exact rfl), rfl, oth_succ _ _, rfl, rfl, rfl, rfl, rfl, rfl, rfl, by show Nat.succ (21 - (i + 1)) ≤ 21 - i; omega⟩
  have h := of_decide_eq_false h
  have hi : i = 21 := by omega
  subst hi
  refine ⟨⟨((t, ns), (oth cs.length 21, 0)), ⟨g1, Nat.zero_le _, rfl⟩, rfl, rfl, rfl, rfl, rfl, rfl, rfl, rfl, rfl, rfl, trivial⟩, ?_⟩
  clear g1 g2 h
  rintro ⟨⟨t, ns⟩, ⟨o, j⟩⟩ ⟨q1, q2, q3⟩
  simp only at q1 q2 q3
  have q3 : o = oth cs.length 21 := q3
  obtain ⟨a1, a2, a3, a4, a5, a6⟩ := RnO_parts q1
  have hol : o.length = 21 := by rw [q3, oth_len]
  dsimp only
  simp only [Int.toNat_natCast]
  refine br (fun h => ?_) (fun h => ?_)
  · have h := of_decide_eq_true h
    have hj : j < ns.length := by omega
    have hm : 0 ≤ ns.getD j 0 ∧ ns.getD j 0 ≤ 20 := a4 _ (getD_mem hj)
    exact ⟨⟨by omega, by omega⟩, ⟨hm.1, by omega⟩, by rw [bth_len q2]; omega, by unfold InR; omega, ((t, ns), (o, j + 1)), ⟨q1, hj, q3⟩, rfl, rfl, bth_succ hj, rfl, rfl, rfl, rfl, rfl, rfl, rfl, by show Nat.succ (ns.length - (j + 1)) ≤ ns.length - j; omega⟩
  have h := of_decide_eq_false h
  have hj : j = ns.length := by omega
  subst hj
  have hsz := rn_size q1
  have hv : (t.RnR ns).valid = true := by rw [a6]; exact a5
  have z := RnR_small (t.RnR ns) o
  have hob : ∀ x ∈ bth ns o ns.length, 0 ≤ x ∧ x ≤ 20 := fun x hx => by
    simp only [bth, List.mem_map] at hx
    obtain ⟨y, hy, rfl⟩ := hx
    have hy := a4 y (List.mem_of_mem_take hy)
    rw [q3]
    refine oth_range _ (getD_mem (i := y.toNat) ?_)
    rw [oth_len]; omega
  refine ⟨trivial, trivial, trivial, (by first | exact True.intro | exact rfl), (by first | exact True.intro | exact rfl), (by first | exact True.intro | exact rfl), trivial, br (fun _ => br (fun _ => retB hk rfl) (fun h2 => ?_)) (fun h2 => ?_)⟩
  · have h2 : (t.RnR ns).RnO o = true := by simpa using h2
    obtain ⟨r1, r2⟩ := rn_rn q1 h2 hob (bth_len (Nat.le_refl _)) (fun i hi => bth_get hi)
    refine br (fun _ => ⟨by omega, retB hk (by rw [r2]; exact same _)⟩) (fun h3 => ?_)
    rw [r1] at h3; cases h3
  · have h2 := of_decide_eq_false h2
    rw [if_pos hv, if_pos a1, hsz] at h2
    exact absurd rfl h2
theorem FnRenameTerm_sound : Sound Try.prog 3 cFnRenameTerm := by
  refine soundF (G := [(6, cdRenameTerm), (7, cRenameTerm), (8, csRenameTerm), (10, cCountNodes), (9, cTermSame)]) ((gcons dRenameTerm_sound (gcons RenameTerm_sound (gcons sRenameTerm_sound (gcons CountNodes_sound (gcons TermSame_sound gnil)))))) Try.func3 rfl (by kernel_rfl) fun args hs K hCC => ?_
  unfold cFnRenameTerm at hCC
  split at hCC
  case h_2 => exact hCC.elim
  rename_i bs cs
  exact ⟨Nat.le_of_ble_eq_true rfl, _, FnRenameTerm_ok bs cs K hCC.1 hCC.2⟩
end Go.Dk
namespace Go.Proofs.Ytmeplbnophmmdaa
open Go.ChangeShapes Go.WideShapes Go.RowKit Go.Dk Go.Proofs
set_option linter.unusedVariables false
set_option maxRecDepth 100000 in
theorem FnRenameTerm_lifted (os : Os) (started : os.Started) (H : Type) (enc : TypeId × Value → H) :
    ReturnsInHanded {} Try.checked os 3 .any (Rows.fnRenameTermSpec.pre6 enc Try.prog Try.f3 Rows.fnRenameTermRow.domain false) (Rows.fnRenameTermSpec.post enc Try.prog Try.f3 false true false false) := by
  refine returnsInHanded_of_change (C := Try.checked) own started (by kernel_rfl) Try.func3
    (ChangeSpec.witness6 (enc := enc) (C := Try.checked) false ⟨#[], #[.slice none 0 0, .slice none 0 0], []⟩ 8 (by kernel_rfl) (by kernel_rfl) (by kernel_rfl) (by kernel_rfl)) ?_
  intro W base args ds gs before hok hW _ _
  have hW' := hW
  obtain ⟨p, q, hA, hV, rfl, hfz, hnd⟩ := hW
  rw [Try.params3] at hA
  obtain ⟨rfl, rfl⟩ := trodVars_none hV
  obtain ⟨v0, vs0, d0, ds0, q0, s0, e0, rfl, rfl, h0, hA⟩ := trodAll_cons hA
  obtain ⟨v1, vs1, d1, ds1, q1, s1, e1, rfl, rfl, h1, hA⟩ := trodAll_cons hA
  obtain ⟨rfl, rfl, rfl⟩ := trodAll_nil hA
  subst e1
  have ha : args = #[v0, v1] := by cases args; simpa using e0
  subst ha
  obtain ⟨bs0, l0, p0, r0⟩ := open_bytes Try.underlying22 Try.underlying5 (by kernel_rfl) (plain_slice Try.underlying22 (hok 0 _ _ rfl rfl)) h0
  obtain ⟨bs1, l1, p1, r1⟩ := open_bytes Try.underlying22 Try.underlying5 (by kernel_rfl) (plain_slice Try.underlying22 (hok 1 _ _ rfl rfl)) h1
  refine (law_call (hI := ⟨True.intro, Nat.zero_le _⟩) (args := [.ints .u8 bs0 (.arg 0), .ints .u8 bs1 (.arg 1)]) (vals := [v0, v1]) FnRenameTerm_sound (fun K hK => ⟨⟨⟨l0, p0⟩, ⟨l1, p1⟩⟩, hK⟩) (fun j => slOf ([v0, v1].getD j .nilFunc)) ⟨r0 _ _ 0 rfl, r1 _ _ 1 rfl, trivial⟩).mono fun e W' ⟨he, hk⟩ => ?_
  exact ⟨_, he, law_post laidOut (of_decide_eq_true (by kernel_rfl)) rfl rfl Try.underlying4 rfl hW' hk⟩
theorem FnRenameTerm_holds : Rows.FnRenameTermSaid :=
  OpenClaim.holds_of_wide 3 Try.f3 rfl rfl rfl rfl rfl rfl rfl ⟨rfl, rfl, rfl, rfl, rfl⟩ rfl rfl rfl rfl rfl (by kernel_rfl) Try.func3 (by kernel_rfl)
    (of_decide_eq_true (by kernel_rfl)) (by unfold Func.isWrapper; first | (rw [if_pos (by decide +kernel)]; kernel_rfl) | (rw [if_neg (by decide +kernel)]; exact ⟨rfl, rfl⟩))
    (fun os started H enc _ => FnRenameTerm_lifted os started H enc)
end Go.Proofs.Ytmeplbnophmmdaa
namespace Go.Dk
open Go.Proofs
end Go.Dk
