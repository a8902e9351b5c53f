/- Texts: the reference's reader. -/
import Derived.Test.YteamklllllembaaDoorSs
import Derived.Test.YteamklllllembaaDoorTq
namespace Go.Dk
set_option linter.unusedVariables false
set_option linter.unusedSimpArgs false
open Go.Proofs
/-- spec.l19Num -/
def csNum : Con
  | [.str l], [], K => ((l.length ≤ 2)) ∧ ((∀ (n : Int) (b : Bool), InR n → (∀ m, 0 ≤ m → m ≤ 99 → l = decD m → n = m ∧ b = true) → K (.tup [.int .i64 n, .bool b]) []))
  | _, _, _ => False
set_option maxHeartbeats 4000000 in
theorem sNum_ok (l : List UInt8) (K : AV → List AV → Prop) (hp : ((l.length ≤ 2))) (hk : ((∀ (n : Int) (b : Bool), InR n → (∀ m, 0 ≤ m → m ≤ 99 → l = decD m → n = m ∧ b = true) → K (.tup [.int .i64 n, .bool b]) []))) :
    bodyQ [] TY [(8, { ι := List UInt8 × Bool × Int × Int, ok := fun x => x.1.length ≤ 2 ∧ 0 ≤ x.2.2.2 ∧ x.2.2.2 ≤ x.1.length ∧ 0 ≤ x.2.2.1 ∧ (x.2.2.2 = 0 ∧ x.2.2.1 = 0 ∨ x.2.2.2 = 1 ∧ x.2.2.1 ≤ 9 ∨ x.2.2.2 = 2 ∧ x.2.2.1 ≤ 99) ∧ (∀ m, 0 ≤ m → m ≤ 99 → l = decD m → x.1 = l ∧ x.2.1 = false ∧ (x.2.2.2 = 0 ∧ x.2.2.1 = 0 ∨ x.2.2.2 = 1 ∧ (m ≤ 9 ∧ x.2.2.1 = m ∨ 9 < m ∧ x.2.2.1 = m / 10) ∨ x.2.2.2 = 2 ∧ x.2.2.1 = m ∧ 9 < m)), tl := fun x => [(0, .str x.1), (4, .bool x.2.1), (5, .int .i64 x.2.2.1), (6, .int .i64 x.2.2.2)], hl := fun _ => [], fh := fun _ => [], μ := fun x => (x.1.length - x.2.2.2).toNat })] Tryd.f68 (body Tryd.f68) [.str l] [] K := by
  refine of_vc (A :=
    (Br (Decidable.decide ((0 : Int) < (((List.length l) : Nat) : Int)))
     ((((0 : Int) ≤ (0 : Int)) ∧ ((0 : Int) < (((List.length l) : Nat) : Int))) ∧
     (Br (Decidable.decide ((((UInt8.toNat (List.getD l (Int.toNat (0 : Int)) (0 : UInt8))) : Nat) : Int) = (45 : Int)))
     ((((0 : Int) ≤ (1 : Int)) ∧ ((1 : Int) ≤ (((List.length l) : Nat) : Int))) ∧
     (Br (Decidable.decide ((((List.length (List.drop (Int.toNat (1 : Int)) l)) : Nat) : Int) = (0 : Int)))
     (Ret K (.tup [(.int .i64 0), (.bool false)]) [])
     (Br (Decidable.decide ((17 : Int) < (((List.length (List.drop (Int.toNat (1 : Int)) l)) : Nat) : Int)))
     (Ret K (.tup [(.int .i64 0), (.bool false)]) [])
     ((((0 : Int) ≤ (0 : Int)) ∧ ((0 : Int) < (((List.length (List.drop (1 : Nat) l)) : Nat) : Int))) ∧
     (Br (Decidable.decide ((((UInt8.toNat (List.getD (List.drop (Int.toNat (1 : Int)) l) (Int.toNat (0 : Int)) (0 : UInt8))) : Nat) : Int) = (48 : Int)))
     (Br (Decidable.decide ((1 : Int) < (((List.length (List.drop (Int.toNat (1 : Int)) l)) : Nat) : Int)))
     (Ret K (.tup [(.int .i64 0), (.bool false)]) [])
     (Br (Decidable.decide ((((UInt8.toNat (List.getD l (Int.toNat (0 : Int)) (0 : UInt8))) : Nat) : Int) = (45 : Int)))
     (Ret K (.tup [(.int .i64 0), (.bool false)]) [])
     ((∃ x : (Prod (List UInt8) (Prod Bool (Prod Int Int))),
     ((((List.length (Prod.fst x)) ≤ (2 : Nat)) ∧
     (((0 : Int) ≤ (Prod.snd (Prod.snd (Prod.snd x)))) ∧
     (((Prod.snd (Prod.snd (Prod.snd x))) ≤ (((List.length (Prod.fst x)) : Nat) : Int)) ∧
     (((0 : Int) ≤ (Prod.fst (Prod.snd (Prod.snd x)))) ∧
     (((((Prod.snd (Prod.snd (Prod.snd x))) = (0 : Int)) ∧ ((Prod.fst (Prod.snd (Prod.snd x))) = (0 : Int))) ∨ ((((Prod.snd (Prod.snd (Prod.snd x))) = (1 : Int)) ∧ ((Prod.fst (Prod.snd (Prod.snd x))) ≤ (9 : Int))) ∨ (((Prod.snd (Prod.snd (Prod.snd x))) = (2 : Int)) ∧ ((Prod.fst (Prod.snd (Prod.snd x))) ≤ (99 : Int))))) ∧
     (∀ m : Int,
     (((0 : Int) ≤ m) →
     ((m ≤ (99 : Int)) →
     ((l = (decD m)) →
     (((Prod.fst x) = l) ∧
     (((Prod.fst (Prod.snd x)) = false) ∧
     ((((Prod.snd (Prod.snd (Prod.snd x))) = (0 : Int)) ∧ ((Prod.fst (Prod.snd (Prod.snd x))) = (0 : Int))) ∨ ((((Prod.snd (Prod.snd (Prod.snd x))) = (1 : Int)) ∧ (((m ≤ (9 : Int)) ∧ ((Prod.fst (Prod.snd (Prod.snd x))) = m)) ∨ (((9 : Int) < m) ∧ ((Prod.fst (Prod.snd (Prod.snd x))) = (m / (10 : Int)))))) ∨ (((Prod.snd (Prod.snd (Prod.snd x))) = (2 : Int)) ∧ (((Prod.fst (Prod.snd (Prod.snd x))) = m) ∧ ((9 : Int) < m)))))))))))))))) ∧
     (((List.drop (1 : Nat) l) = (Prod.fst x)) ∧
     (((Decidable.decide ((((UInt8.toNat (List.getD l (Int.toNat (0 : Int)) (0 : UInt8))) : Nat) : Int) = (45 : Int))) = (Prod.fst (Prod.snd x))) ∧
     (((0 : Int) = (Prod.fst (Prod.snd (Prod.snd x)))) ∧ (((0 : Int) = (Prod.snd (Prod.snd (Prod.snd x)))) ∧ True)))))) ∧
     (∀ x : (Prod (List UInt8) (Prod Bool (Prod Int Int))),
     ((((List.length (Prod.fst x)) ≤ (2 : Nat)) ∧ (((0 : Int) ≤ (Prod.snd (Prod.snd (Prod.snd x)))) ∧ (((Prod.snd (Prod.snd (Prod.snd x))) ≤ (((List.length (Prod.fst x)) : Nat) : Int)) ∧ (((0 : Int) ≤ (Prod.fst (Prod.snd (Prod.snd x)))) ∧ (((((Prod.snd (Prod.snd (Prod.snd x))) = (0 : Int)) ∧ ((Prod.fst (Prod.snd (Prod.snd x))) = (0 : Int))) ∨ ((((Prod.snd (Prod.snd (Prod.snd x))) = (1 : Int)) ∧ ((Prod.fst (Prod.snd (Prod.snd x))) ≤ (9 : Int))) ∨ (((Prod.snd (Prod.snd (Prod.snd x))) = (2 : Int)) ∧ ((Prod.fst (Prod.snd (Prod.snd x))) ≤ (99 : Int))))) ∧ (∀ m : Int, (((0 : Int) ≤ m) → ((m ≤ (99 : Int)) → ((l = (decD m)) → (((Prod.fst x) = l) ∧ (((Prod.fst (Prod.snd x)) = false) ∧ ((((Prod.snd (Prod.snd (Prod.snd x))) = (0 : Int)) ∧ ((Prod.fst (Prod.snd (Prod.snd x))) = (0 : Int))) ∨ ((((Prod.snd (Prod.snd (Prod.snd x))) = (1 : Int)) ∧ (((m ≤ (9 : Int)) ∧ ((Prod.fst (Prod.snd (Prod.snd x))) = m)) ∨ (((9 : Int) < m) ∧ ((Prod.fst (Prod.snd (Prod.snd x))) = (m / (10 : Int)))))) ∨ (((Prod.snd (Prod.snd (Prod.snd x))) = (2 : Int)) ∧ (((Prod.fst (Prod.snd (Prod.snd x))) = m) ∧ ((9 : Int) < m)))))))))))))))) →
     (Br (Decidable.decide ((Prod.snd (Prod.snd (Prod.snd x))) < (((List.length (Prod.fst x)) : Nat) : Int)))
     ((((0 : Int) ≤ (Prod.snd (Prod.snd (Prod.snd x)))) ∧ ((Prod.snd (Prod.snd (Prod.snd x))) < (((List.length (Prod.fst x)) : Nat) : Int))) ∧
     (Br (Decidable.decide ((((UInt8.toNat (List.getD (Prod.fst x) (Int.toNat (Prod.snd (Prod.snd (Prod.snd x)))) (0 : UInt8))) : Nat) : Int) < (48 : Int)))
     (Ret K (.tup [(.int .i64 0), (.bool false)]) [])
     ((((0 : Int) ≤ (Prod.snd (Prod.snd (Prod.snd x)))) ∧ ((Prod.snd (Prod.snd (Prod.snd x))) < (((List.length (Prod.fst x)) : Nat) : Int))) ∧
     (Br (Decidable.decide ((57 : Int) < (((UInt8.toNat (List.getD (Prod.fst x) (Int.toNat (Prod.snd (Prod.snd (Prod.snd x)))) (0 : UInt8))) : Nat) : Int)))
     (Ret K (.tup [(.int .i64 0), (.bool false)]) [])
     ((InR ((Prod.fst (Prod.snd (Prod.snd x))) * (10 : Int))) ∧
     ((((0 : Int) ≤ (Prod.snd (Prod.snd (Prod.snd x)))) ∧ ((Prod.snd (Prod.snd (Prod.snd x))) < (((List.length (Prod.fst x)) : Nat) : Int))) ∧
     ((((0 : Int) ≤ ((((UInt8.toNat (List.getD (Prod.fst x) (Int.toNat (Prod.snd (Prod.snd (Prod.snd x)))) (0 : UInt8))) : Nat) : Int) - (48 : Int))) ∧
     (((((UInt8.toNat (List.getD (Prod.fst x) (Int.toNat (Prod.snd (Prod.snd (Prod.snd x)))) (0 : UInt8))) : Nat) : Int) - (48 : Int)) ≤ (255 : Int))) ∧
     ((InR ((((UInt8.toNat (List.getD (Prod.fst x) (Int.toNat (Prod.snd (Prod.snd (Prod.snd x)))) (0 : UInt8))) : Nat) : Int) - (48 : Int))) ∧
     ((InR (((Prod.fst (Prod.snd (Prod.snd x))) * (10 : Int)) + ((((UInt8.toNat (List.getD (Prod.fst x) (Int.toNat (Prod.snd (Prod.snd (Prod.snd x)))) (0 : UInt8))) : Nat) : Int) - (48 : Int)))) ∧
     ((InR ((Prod.snd (Prod.snd (Prod.snd x))) + (1 : Int))) ∧
     (∃ y : (Prod (List UInt8) (Prod Bool (Prod Int Int))),
     ((((List.length (Prod.fst y)) ≤ (2 : Nat)) ∧
     (((0 : Int) ≤ (Prod.snd (Prod.snd (Prod.snd y)))) ∧
     (((Prod.snd (Prod.snd (Prod.snd y))) ≤ (((List.length (Prod.fst y)) : Nat) : Int)) ∧
     (((0 : Int) ≤ (Prod.fst (Prod.snd (Prod.snd y)))) ∧
     (((((Prod.snd (Prod.snd (Prod.snd y))) = (0 : Int)) ∧ ((Prod.fst (Prod.snd (Prod.snd y))) = (0 : Int))) ∨ ((((Prod.snd (Prod.snd (Prod.snd y))) = (1 : Int)) ∧ ((Prod.fst (Prod.snd (Prod.snd y))) ≤ (9 : Int))) ∨ (((Prod.snd (Prod.snd (Prod.snd y))) = (2 : Int)) ∧ ((Prod.fst (Prod.snd (Prod.snd y))) ≤ (99 : Int))))) ∧
     (∀ m : Int,
     (((0 : Int) ≤ m) →
     ((m ≤ (99 : Int)) →
     ((l = (decD m)) →
     (((Prod.fst y) = l) ∧
     (((Prod.fst (Prod.snd y)) = false) ∧
     ((((Prod.snd (Prod.snd (Prod.snd y))) = (0 : Int)) ∧ ((Prod.fst (Prod.snd (Prod.snd y))) = (0 : Int))) ∨ ((((Prod.snd (Prod.snd (Prod.snd y))) = (1 : Int)) ∧ (((m ≤ (9 : Int)) ∧ ((Prod.fst (Prod.snd (Prod.snd y))) = m)) ∨ (((9 : Int) < m) ∧ ((Prod.fst (Prod.snd (Prod.snd y))) = (m / (10 : Int)))))) ∨ (((Prod.snd (Prod.snd (Prod.snd y))) = (2 : Int)) ∧ (((Prod.fst (Prod.snd (Prod.snd y))) = m) ∧ ((9 : Int) < m)))))))))))))))) ∧
     (((Prod.fst x) = (Prod.fst y)) ∧
     (((Prod.fst (Prod.snd x)) = (Prod.fst (Prod.snd y))) ∧
     (((((Prod.fst (Prod.snd (Prod.snd x))) * (10 : Int)) + ((((UInt8.toNat (List.getD (Prod.fst x) (Int.toNat (Prod.snd (Prod.snd (Prod.snd x)))) (0 : UInt8))) : Nat) : Int) - (48 : Int))) = (Prod.fst (Prod.snd (Prod.snd y)))) ∧
     ((((Prod.snd (Prod.snd (Prod.snd x))) + (1 : Int)) = (Prod.snd (Prod.snd (Prod.snd y)))) ∧
     ((Nat.succ (Int.toNat ((((List.length (Prod.fst y)) : Nat) : Int) - (Prod.snd (Prod.snd (Prod.snd y)))))) ≤ (Int.toNat ((((List.length (Prod.fst x)) : Nat) : Int) - (Prod.snd (Prod.snd (Prod.snd x))))))))))))))))))))))
     (Br (Prod.fst (Prod.snd x))
     ((InR (- (Prod.fst (Prod.snd (Prod.snd x))))) ∧ (Ret K (.tup [(.int .i64 (- (Prod.fst (Prod.snd (Prod.snd x))))), (.bool true)]) []))
     (Ret K (.tup [(.int .i64 (Prod.fst (Prod.snd (Prod.snd x)))), (.bool true)]) []))))))))
     ((∃ x : (Prod (List UInt8) (Prod Bool (Prod Int Int))),
     ((((List.length (Prod.fst x)) ≤ (2 : Nat)) ∧
     (((0 : Int) ≤ (Prod.snd (Prod.snd (Prod.snd x)))) ∧
     (((Prod.snd (Prod.snd (Prod.snd x))) ≤ (((List.length (Prod.fst x)) : Nat) : Int)) ∧
     (((0 : Int) ≤ (Prod.fst (Prod.snd (Prod.snd x)))) ∧
     (((((Prod.snd (Prod.snd (Prod.snd x))) = (0 : Int)) ∧ ((Prod.fst (Prod.snd (Prod.snd x))) = (0 : Int))) ∨ ((((Prod.snd (Prod.snd (Prod.snd x))) = (1 : Int)) ∧ ((Prod.fst (Prod.snd (Prod.snd x))) ≤ (9 : Int))) ∨ (((Prod.snd (Prod.snd (Prod.snd x))) = (2 : Int)) ∧ ((Prod.fst (Prod.snd (Prod.snd x))) ≤ (99 : Int))))) ∧
     (∀ m : Int,
     (((0 : Int) ≤ m) →
     ((m ≤ (99 : Int)) →
     ((l = (decD m)) →
     (((Prod.fst x) = l) ∧
     (((Prod.fst (Prod.snd x)) = false) ∧
     ((((Prod.snd (Prod.snd (Prod.snd x))) = (0 : Int)) ∧ ((Prod.fst (Prod.snd (Prod.snd x))) = (0 : Int))) ∨ ((((Prod.snd (Prod.snd (Prod.snd x))) = (1 : Int)) ∧ (((m ≤ (9 : Int)) ∧ ((Prod.fst (Prod.snd (Prod.snd x))) = m)) ∨ (((9 : Int) < m) ∧ ((Prod.fst (Prod.snd (Prod.snd x))) = (m / (10 : Int)))))) ∨ (((Prod.snd (Prod.snd (Prod.snd x))) = (2 : Int)) ∧ (((Prod.fst (Prod.snd (Prod.snd x))) = m) ∧ ((9 : Int) < m)))))))))))))))) ∧
     (((List.drop (1 : Nat) l) = (Prod.fst x)) ∧
     (((Decidable.decide ((((UInt8.toNat (List.getD l (Int.toNat (0 : Int)) (0 : UInt8))) : Nat) : Int) = (45 : Int))) = (Prod.fst (Prod.snd x))) ∧
     (((0 : Int) = (Prod.fst (Prod.snd (Prod.snd x)))) ∧ (((0 : Int) = (Prod.snd (Prod.snd (Prod.snd x)))) ∧ True)))))) ∧
     (∀ x : (Prod (List UInt8) (Prod Bool (Prod Int Int))),
     ((((List.length (Prod.fst x)) ≤ (2 : Nat)) ∧ (((0 : Int) ≤ (Prod.snd (Prod.snd (Prod.snd x)))) ∧ (((Prod.snd (Prod.snd (Prod.snd x))) ≤ (((List.length (Prod.fst x)) : Nat) : Int)) ∧ (((0 : Int) ≤ (Prod.fst (Prod.snd (Prod.snd x)))) ∧ (((((Prod.snd (Prod.snd (Prod.snd x))) = (0 : Int)) ∧ ((Prod.fst (Prod.snd (Prod.snd x))) = (0 : Int))) ∨ ((((Prod.snd (Prod.snd (Prod.snd x))) = (1 : Int)) ∧ ((Prod.fst (Prod.snd (Prod.snd x))) ≤ (9 : Int))) ∨ (((Prod.snd (Prod.snd (Prod.snd x))) = (2 : Int)) ∧ ((Prod.fst (Prod.snd (Prod.snd x))) ≤ (99 : Int))))) ∧ (∀ m : Int, (((0 : Int) ≤ m) → ((m ≤ (99 : Int)) → ((l = (decD m)) → (((Prod.fst x) = l) ∧ (((Prod.fst (Prod.snd x)) = false) ∧ ((((Prod.snd (Prod.snd (Prod.snd x))) = (0 : Int)) ∧ ((Prod.fst (Prod.snd (Prod.snd x))) = (0 : Int))) ∨ ((((Prod.snd (Prod.snd (Prod.snd x))) = (1 : Int)) ∧ (((m ≤ (9 : Int)) ∧ ((Prod.fst (Prod.snd (Prod.snd x))) = m)) ∨ (((9 : Int) < m) ∧ ((Prod.fst (Prod.snd (Prod.snd x))) = (m / (10 : Int)))))) ∨ (((Prod.snd (Prod.snd (Prod.snd x))) = (2 : Int)) ∧ (((Prod.fst (Prod.snd (Prod.snd x))) = m) ∧ ((9 : Int) < m)))))))))))))))) →
     (Br (Decidable.decide ((Prod.snd (Prod.snd (Prod.snd x))) < (((List.length (Prod.fst x)) : Nat) : Int)))
     ((((0 : Int) ≤ (Prod.snd (Prod.snd (Prod.snd x)))) ∧ ((Prod.snd (Prod.snd (Prod.snd x))) < (((List.length (Prod.fst x)) : Nat) : Int))) ∧
     (Br (Decidable.decide ((((UInt8.toNat (List.getD (Prod.fst x) (Int.toNat (Prod.snd (Prod.snd (Prod.snd x)))) (0 : UInt8))) : Nat) : Int) < (48 : Int)))
     (Ret K (.tup [(.int .i64 0), (.bool false)]) [])
     ((((0 : Int) ≤ (Prod.snd (Prod.snd (Prod.snd x)))) ∧ ((Prod.snd (Prod.snd (Prod.snd x))) < (((List.length (Prod.fst x)) : Nat) : Int))) ∧
     (Br (Decidable.decide ((57 : Int) < (((UInt8.toNat (List.getD (Prod.fst x) (Int.toNat (Prod.snd (Prod.snd (Prod.snd x)))) (0 : UInt8))) : Nat) : Int)))
     (Ret K (.tup [(.int .i64 0), (.bool false)]) [])
     ((InR ((Prod.fst (Prod.snd (Prod.snd x))) * (10 : Int))) ∧
     ((((0 : Int) ≤ (Prod.snd (Prod.snd (Prod.snd x)))) ∧ ((Prod.snd (Prod.snd (Prod.snd x))) < (((List.length (Prod.fst x)) : Nat) : Int))) ∧
     ((((0 : Int) ≤ ((((UInt8.toNat (List.getD (Prod.fst x) (Int.toNat (Prod.snd (Prod.snd (Prod.snd x)))) (0 : UInt8))) : Nat) : Int) - (48 : Int))) ∧
     (((((UInt8.toNat (List.getD (Prod.fst x) (Int.toNat (Prod.snd (Prod.snd (Prod.snd x)))) (0 : UInt8))) : Nat) : Int) - (48 : Int)) ≤ (255 : Int))) ∧
     ((InR ((((UInt8.toNat (List.getD (Prod.fst x) (Int.toNat (Prod.snd (Prod.snd (Prod.snd x)))) (0 : UInt8))) : Nat) : Int) - (48 : Int))) ∧
     ((InR (((Prod.fst (Prod.snd (Prod.snd x))) * (10 : Int)) + ((((UInt8.toNat (List.getD (Prod.fst x) (Int.toNat (Prod.snd (Prod.snd (Prod.snd x)))) (0 : UInt8))) : Nat) : Int) - (48 : Int)))) ∧
     ((InR ((Prod.snd (Prod.snd (Prod.snd x))) + (1 : Int))) ∧
     (∃ y : (Prod (List UInt8) (Prod Bool (Prod Int Int))),
     ((((List.length (Prod.fst y)) ≤ (2 : Nat)) ∧
     (((0 : Int) ≤ (Prod.snd (Prod.snd (Prod.snd y)))) ∧
     (((Prod.snd (Prod.snd (Prod.snd y))) ≤ (((List.length (Prod.fst y)) : Nat) : Int)) ∧
     (((0 : Int) ≤ (Prod.fst (Prod.snd (Prod.snd y)))) ∧
     (((((Prod.snd (Prod.snd (Prod.snd y))) = (0 : Int)) ∧ ((Prod.fst (Prod.snd (Prod.snd y))) = (0 : Int))) ∨ ((((Prod.snd (Prod.snd (Prod.snd y))) = (1 : Int)) ∧ ((Prod.fst (Prod.snd (Prod.snd y))) ≤ (9 : Int))) ∨ (((Prod.snd (Prod.snd (Prod.snd y))) = (2 : Int)) ∧ ((Prod.fst (Prod.snd (Prod.snd y))) ≤ (99 : Int))))) ∧
     (∀ m : Int,
     (((0 : Int) ≤ m) →
     ((m ≤ (99 : Int)) →
     ((l = (decD m)) →
     (((Prod.fst y) = l) ∧
     (((Prod.fst (Prod.snd y)) = false) ∧
     ((((Prod.snd (Prod.snd (Prod.snd y))) = (0 : Int)) ∧ ((Prod.fst (Prod.snd (Prod.snd y))) = (0 : Int))) ∨ ((((Prod.snd (Prod.snd (Prod.snd y))) = (1 : Int)) ∧ (((m ≤ (9 : Int)) ∧ ((Prod.fst (Prod.snd (Prod.snd y))) = m)) ∨ (((9 : Int) < m) ∧ ((Prod.fst (Prod.snd (Prod.snd y))) = (m / (10 : Int)))))) ∨ (((Prod.snd (Prod.snd (Prod.snd y))) = (2 : Int)) ∧ (((Prod.fst (Prod.snd (Prod.snd y))) = m) ∧ ((9 : Int) < m)))))))))))))))) ∧
     (((Prod.fst x) = (Prod.fst y)) ∧
     (((Prod.fst (Prod.snd x)) = (Prod.fst (Prod.snd y))) ∧
     (((((Prod.fst (Prod.snd (Prod.snd x))) * (10 : Int)) + ((((UInt8.toNat (List.getD (Prod.fst x) (Int.toNat (Prod.snd (Prod.snd (Prod.snd x)))) (0 : UInt8))) : Nat) : Int) - (48 : Int))) = (Prod.fst (Prod.snd (Prod.snd y)))) ∧
     ((((Prod.snd (Prod.snd (Prod.snd x))) + (1 : Int)) = (Prod.snd (Prod.snd (Prod.snd y)))) ∧
     ((Nat.succ (Int.toNat ((((List.length (Prod.fst y)) : Nat) : Int) - (Prod.snd (Prod.snd (Prod.snd y)))))) ≤ (Int.toNat ((((List.length (Prod.fst x)) : Nat) : Int) - (Prod.snd (Prod.snd (Prod.snd x))))))))))))))))))))))
     (Br (Prod.fst (Prod.snd x))
     ((InR (- (Prod.fst (Prod.snd (Prod.snd x))))) ∧ (Ret K (.tup [(.int .i64 (- (Prod.fst (Prod.snd (Prod.snd x))))), (.bool true)]) []))
     (Ret K (.tup [(.int .i64 (Prod.fst (Prod.snd (Prod.snd x)))), (.bool true)]) [])))))))))))
     (Br (Decidable.decide ((((List.length l) : Nat) : Int) = (0 : Int)))
     (Ret K (.tup [(.int .i64 0), (.bool false)]) [])
     (Br (Decidable.decide ((17 : Int) < (((List.length l) : Nat) : Int)))
     (Ret K (.tup [(.int .i64 0), (.bool false)]) [])
     ((((0 : Int) ≤ (0 : Int)) ∧ ((0 : Int) < (((List.length l) : Nat) : Int))) ∧
     (Br (Decidable.decide ((((UInt8.toNat (List.getD l (Int.toNat (0 : Int)) (0 : UInt8))) : Nat) : Int) = (48 : Int)))
     (Br (Decidable.decide ((1 : Int) < (((List.length l) : Nat) : Int)))
     (Ret K (.tup [(.int .i64 0), (.bool false)]) [])
     (Br (Decidable.decide ((((UInt8.toNat (List.getD l (Int.toNat (0 : Int)) (0 : UInt8))) : Nat) : Int) = (45 : Int)))
     (Ret K (.tup [(.int .i64 0), (.bool false)]) [])
     ((∃ x : (Prod (List UInt8) (Prod Bool (Prod Int Int))),
     ((((List.length (Prod.fst x)) ≤ (2 : Nat)) ∧
     (((0 : Int) ≤ (Prod.snd (Prod.snd (Prod.snd x)))) ∧
     (((Prod.snd (Prod.snd (Prod.snd x))) ≤ (((List.length (Prod.fst x)) : Nat) : Int)) ∧
     (((0 : Int) ≤ (Prod.fst (Prod.snd (Prod.snd x)))) ∧
     (((((Prod.snd (Prod.snd (Prod.snd x))) = (0 : Int)) ∧ ((Prod.fst (Prod.snd (Prod.snd x))) = (0 : Int))) ∨ ((((Prod.snd (Prod.snd (Prod.snd x))) = (1 : Int)) ∧ ((Prod.fst (Prod.snd (Prod.snd x))) ≤ (9 : Int))) ∨ (((Prod.snd (Prod.snd (Prod.snd x))) = (2 : Int)) ∧ ((Prod.fst (Prod.snd (Prod.snd x))) ≤ (99 : Int))))) ∧
     (∀ m : Int,
     (((0 : Int) ≤ m) →
     ((m ≤ (99 : Int)) →
     ((l = (decD m)) →
     (((Prod.fst x) = l) ∧
     (((Prod.fst (Prod.snd x)) = false) ∧
     ((((Prod.snd (Prod.snd (Prod.snd x))) = (0 : Int)) ∧ ((Prod.fst (Prod.snd (Prod.snd x))) = (0 : Int))) ∨ ((((Prod.snd (Prod.snd (Prod.snd x))) = (1 : Int)) ∧ (((m ≤ (9 : Int)) ∧ ((Prod.fst (Prod.snd (Prod.snd x))) = m)) ∨ (((9 : Int) < m) ∧ ((Prod.fst (Prod.snd (Prod.snd x))) = (m / (10 : Int)))))) ∨ (((Prod.snd (Prod.snd (Prod.snd x))) = (2 : Int)) ∧ (((Prod.fst (Prod.snd (Prod.snd x))) = m) ∧ ((9 : Int) < m)))))))))))))))) ∧
     ((l = (Prod.fst x)) ∧
     (((Decidable.decide ((((UInt8.toNat (List.getD l (Int.toNat (0 : Int)) (0 : UInt8))) : Nat) : Int) = (45 : Int))) = (Prod.fst (Prod.snd x))) ∧
     (((0 : Int) = (Prod.fst (Prod.snd (Prod.snd x)))) ∧ (((0 : Int) = (Prod.snd (Prod.snd (Prod.snd x)))) ∧ True)))))) ∧
     (∀ x : (Prod (List UInt8) (Prod Bool (Prod Int Int))),
     ((((List.length (Prod.fst x)) ≤ (2 : Nat)) ∧ (((0 : Int) ≤ (Prod.snd (Prod.snd (Prod.snd x)))) ∧ (((Prod.snd (Prod.snd (Prod.snd x))) ≤ (((List.length (Prod.fst x)) : Nat) : Int)) ∧ (((0 : Int) ≤ (Prod.fst (Prod.snd (Prod.snd x)))) ∧ (((((Prod.snd (Prod.snd (Prod.snd x))) = (0 : Int)) ∧ ((Prod.fst (Prod.snd (Prod.snd x))) = (0 : Int))) ∨ ((((Prod.snd (Prod.snd (Prod.snd x))) = (1 : Int)) ∧ ((Prod.fst (Prod.snd (Prod.snd x))) ≤ (9 : Int))) ∨ (((Prod.snd (Prod.snd (Prod.snd x))) = (2 : Int)) ∧ ((Prod.fst (Prod.snd (Prod.snd x))) ≤ (99 : Int))))) ∧ (∀ m : Int, (((0 : Int) ≤ m) → ((m ≤ (99 : Int)) → ((l = (decD m)) → (((Prod.fst x) = l) ∧ (((Prod.fst (Prod.snd x)) = false) ∧ ((((Prod.snd (Prod.snd (Prod.snd x))) = (0 : Int)) ∧ ((Prod.fst (Prod.snd (Prod.snd x))) = (0 : Int))) ∨ ((((Prod.snd (Prod.snd (Prod.snd x))) = (1 : Int)) ∧ (((m ≤ (9 : Int)) ∧ ((Prod.fst (Prod.snd (Prod.snd x))) = m)) ∨ (((9 : Int) < m) ∧ ((Prod.fst (Prod.snd (Prod.snd x))) = (m / (10 : Int)))))) ∨ (((Prod.snd (Prod.snd (Prod.snd x))) = (2 : Int)) ∧ (((Prod.fst (Prod.snd (Prod.snd x))) = m) ∧ ((9 : Int) < m)))))))))))))))) →
     (Br (Decidable.decide ((Prod.snd (Prod.snd (Prod.snd x))) < (((List.length (Prod.fst x)) : Nat) : Int)))
     ((((0 : Int) ≤ (Prod.snd (Prod.snd (Prod.snd x)))) ∧ ((Prod.snd (Prod.snd (Prod.snd x))) < (((List.length (Prod.fst x)) : Nat) : Int))) ∧
     (Br (Decidable.decide ((((UInt8.toNat (List.getD (Prod.fst x) (Int.toNat (Prod.snd (Prod.snd (Prod.snd x)))) (0 : UInt8))) : Nat) : Int) < (48 : Int)))
     (Ret K (.tup [(.int .i64 0), (.bool false)]) [])
     ((((0 : Int) ≤ (Prod.snd (Prod.snd (Prod.snd x)))) ∧ ((Prod.snd (Prod.snd (Prod.snd x))) < (((List.length (Prod.fst x)) : Nat) : Int))) ∧
     (Br (Decidable.decide ((57 : Int) < (((UInt8.toNat (List.getD (Prod.fst x) (Int.toNat (Prod.snd (Prod.snd (Prod.snd x)))) (0 : UInt8))) : Nat) : Int)))
     (Ret K (.tup [(.int .i64 0), (.bool false)]) [])
     ((InR ((Prod.fst (Prod.snd (Prod.snd x))) * (10 : Int))) ∧
     ((((0 : Int) ≤ (Prod.snd (Prod.snd (Prod.snd x)))) ∧ ((Prod.snd (Prod.snd (Prod.snd x))) < (((List.length (Prod.fst x)) : Nat) : Int))) ∧
     ((((0 : Int) ≤ ((((UInt8.toNat (List.getD (Prod.fst x) (Int.toNat (Prod.snd (Prod.snd (Prod.snd x)))) (0 : UInt8))) : Nat) : Int) - (48 : Int))) ∧
     (((((UInt8.toNat (List.getD (Prod.fst x) (Int.toNat (Prod.snd (Prod.snd (Prod.snd x)))) (0 : UInt8))) : Nat) : Int) - (48 : Int)) ≤ (255 : Int))) ∧
     ((InR ((((UInt8.toNat (List.getD (Prod.fst x) (Int.toNat (Prod.snd (Prod.snd (Prod.snd x)))) (0 : UInt8))) : Nat) : Int) - (48 : Int))) ∧
     ((InR (((Prod.fst (Prod.snd (Prod.snd x))) * (10 : Int)) + ((((UInt8.toNat (List.getD (Prod.fst x) (Int.toNat (Prod.snd (Prod.snd (Prod.snd x)))) (0 : UInt8))) : Nat) : Int) - (48 : Int)))) ∧
     ((InR ((Prod.snd (Prod.snd (Prod.snd x))) + (1 : Int))) ∧
     (∃ y : (Prod (List UInt8) (Prod Bool (Prod Int Int))),
     ((((List.length (Prod.fst y)) ≤ (2 : Nat)) ∧
     (((0 : Int) ≤ (Prod.snd (Prod.snd (Prod.snd y)))) ∧
     (((Prod.snd (Prod.snd (Prod.snd y))) ≤ (((List.length (Prod.fst y)) : Nat) : Int)) ∧
     (((0 : Int) ≤ (Prod.fst (Prod.snd (Prod.snd y)))) ∧
     (((((Prod.snd (Prod.snd (Prod.snd y))) = (0 : Int)) ∧ ((Prod.fst (Prod.snd (Prod.snd y))) = (0 : Int))) ∨ ((((Prod.snd (Prod.snd (Prod.snd y))) = (1 : Int)) ∧ ((Prod.fst (Prod.snd (Prod.snd y))) ≤ (9 : Int))) ∨ (((Prod.snd (Prod.snd (Prod.snd y))) = (2 : Int)) ∧ ((Prod.fst (Prod.snd (Prod.snd y))) ≤ (99 : Int))))) ∧
     (∀ m : Int,
     (((0 : Int) ≤ m) →
     ((m ≤ (99 : Int)) →
     ((l = (decD m)) →
     (((Prod.fst y) = l) ∧
     (((Prod.fst (Prod.snd y)) = false) ∧
     ((((Prod.snd (Prod.snd (Prod.snd y))) = (0 : Int)) ∧ ((Prod.fst (Prod.snd (Prod.snd y))) = (0 : Int))) ∨ ((((Prod.snd (Prod.snd (Prod.snd y))) = (1 : Int)) ∧ (((m ≤ (9 : Int)) ∧ ((Prod.fst (Prod.snd (Prod.snd y))) = m)) ∨ (((9 : Int) < m) ∧ ((Prod.fst (Prod.snd (Prod.snd y))) = (m / (10 : Int)))))) ∨ (((Prod.snd (Prod.snd (Prod.snd y))) = (2 : Int)) ∧ (((Prod.fst (Prod.snd (Prod.snd y))) = m) ∧ ((9 : Int) < m)))))))))))))))) ∧
     (((Prod.fst x) = (Prod.fst y)) ∧
     (((Prod.fst (Prod.snd x)) = (Prod.fst (Prod.snd y))) ∧
     (((((Prod.fst (Prod.snd (Prod.snd x))) * (10 : Int)) + ((((UInt8.toNat (List.getD (Prod.fst x) (Int.toNat (Prod.snd (Prod.snd (Prod.snd x)))) (0 : UInt8))) : Nat) : Int) - (48 : Int))) = (Prod.fst (Prod.snd (Prod.snd y)))) ∧
     ((((Prod.snd (Prod.snd (Prod.snd x))) + (1 : Int)) = (Prod.snd (Prod.snd (Prod.snd y)))) ∧
     ((Nat.succ (Int.toNat ((((List.length (Prod.fst y)) : Nat) : Int) - (Prod.snd (Prod.snd (Prod.snd y)))))) ≤ (Int.toNat ((((List.length (Prod.fst x)) : Nat) : Int) - (Prod.snd (Prod.snd (Prod.snd x))))))))))))))))))))))
     (Br (Prod.fst (Prod.snd x))
     ((InR (- (Prod.fst (Prod.snd (Prod.snd x))))) ∧ (Ret K (.tup [(.int .i64 (- (Prod.fst (Prod.snd (Prod.snd x))))), (.bool true)]) []))
     (Ret K (.tup [(.int .i64 (Prod.fst (Prod.snd (Prod.snd x)))), (.bool true)]) []))))))))
     ((∃ x : (Prod (List UInt8) (Prod Bool (Prod Int Int))),
     ((((List.length (Prod.fst x)) ≤ (2 : Nat)) ∧
     (((0 : Int) ≤ (Prod.snd (Prod.snd (Prod.snd x)))) ∧
     (((Prod.snd (Prod.snd (Prod.snd x))) ≤ (((List.length (Prod.fst x)) : Nat) : Int)) ∧
     (((0 : Int) ≤ (Prod.fst (Prod.snd (Prod.snd x)))) ∧
     (((((Prod.snd (Prod.snd (Prod.snd x))) = (0 : Int)) ∧ ((Prod.fst (Prod.snd (Prod.snd x))) = (0 : Int))) ∨ ((((Prod.snd (Prod.snd (Prod.snd x))) = (1 : Int)) ∧ ((Prod.fst (Prod.snd (Prod.snd x))) ≤ (9 : Int))) ∨ (((Prod.snd (Prod.snd (Prod.snd x))) = (2 : Int)) ∧ ((Prod.fst (Prod.snd (Prod.snd x))) ≤ (99 : Int))))) ∧
     (∀ m : Int,
     (((0 : Int) ≤ m) →
     ((m ≤ (99 : Int)) →
     ((l = (decD m)) →
     (((Prod.fst x) = l) ∧
     (((Prod.fst (Prod.snd x)) = false) ∧
     ((((Prod.snd (Prod.snd (Prod.snd x))) = (0 : Int)) ∧ ((Prod.fst (Prod.snd (Prod.snd x))) = (0 : Int))) ∨ ((((Prod.snd (Prod.snd (Prod.snd x))) = (1 : Int)) ∧ (((m ≤ (9 : Int)) ∧ ((Prod.fst (Prod.snd (Prod.snd x))) = m)) ∨ (((9 : Int) < m) ∧ ((Prod.fst (Prod.snd (Prod.snd x))) = (m / (10 : Int)))))) ∨ (((Prod.snd (Prod.snd (Prod.snd x))) = (2 : Int)) ∧ (((Prod.fst (Prod.snd (Prod.snd x))) = m) ∧ ((9 : Int) < m)))))))))))))))) ∧
     ((l = (Prod.fst x)) ∧
     (((Decidable.decide ((((UInt8.toNat (List.getD l (Int.toNat (0 : Int)) (0 : UInt8))) : Nat) : Int) = (45 : Int))) = (Prod.fst (Prod.snd x))) ∧
     (((0 : Int) = (Prod.fst (Prod.snd (Prod.snd x)))) ∧ (((0 : Int) = (Prod.snd (Prod.snd (Prod.snd x)))) ∧ True)))))) ∧
     (∀ x : (Prod (List UInt8) (Prod Bool (Prod Int Int))),
     ((((List.length (Prod.fst x)) ≤ (2 : Nat)) ∧ (((0 : Int) ≤ (Prod.snd (Prod.snd (Prod.snd x)))) ∧ (((Prod.snd (Prod.snd (Prod.snd x))) ≤ (((List.length (Prod.fst x)) : Nat) : Int)) ∧ (((0 : Int) ≤ (Prod.fst (Prod.snd (Prod.snd x)))) ∧ (((((Prod.snd (Prod.snd (Prod.snd x))) = (0 : Int)) ∧ ((Prod.fst (Prod.snd (Prod.snd x))) = (0 : Int))) ∨ ((((Prod.snd (Prod.snd (Prod.snd x))) = (1 : Int)) ∧ ((Prod.fst (Prod.snd (Prod.snd x))) ≤ (9 : Int))) ∨ (((Prod.snd (Prod.snd (Prod.snd x))) = (2 : Int)) ∧ ((Prod.fst (Prod.snd (Prod.snd x))) ≤ (99 : Int))))) ∧ (∀ m : Int, (((0 : Int) ≤ m) → ((m ≤ (99 : Int)) → ((l = (decD m)) → (((Prod.fst x) = l) ∧ (((Prod.fst (Prod.snd x)) = false) ∧ ((((Prod.snd (Prod.snd (Prod.snd x))) = (0 : Int)) ∧ ((Prod.fst (Prod.snd (Prod.snd x))) = (0 : Int))) ∨ ((((Prod.snd (Prod.snd (Prod.snd x))) = (1 : Int)) ∧ (((m ≤ (9 : Int)) ∧ ((Prod.fst (Prod.snd (Prod.snd x))) = m)) ∨ (((9 : Int) < m) ∧ ((Prod.fst (Prod.snd (Prod.snd x))) = (m / (10 : Int)))))) ∨ (((Prod.snd (Prod.snd (Prod.snd x))) = (2 : Int)) ∧ (((Prod.fst (Prod.snd (Prod.snd x))) = m) ∧ ((9 : Int) < m)))))))))))))))) →
     (Br (Decidable.decide ((Prod.snd (Prod.snd (Prod.snd x))) < (((List.length (Prod.fst x)) : Nat) : Int)))
     ((((0 : Int) ≤ (Prod.snd (Prod.snd (Prod.snd x)))) ∧ ((Prod.snd (Prod.snd (Prod.snd x))) < (((List.length (Prod.fst x)) : Nat) : Int))) ∧
     (Br (Decidable.decide ((((UInt8.toNat (List.getD (Prod.fst x) (Int.toNat (Prod.snd (Prod.snd (Prod.snd x)))) (0 : UInt8))) : Nat) : Int) < (48 : Int)))
     (Ret K (.tup [(.int .i64 0), (.bool false)]) [])
     ((((0 : Int) ≤ (Prod.snd (Prod.snd (Prod.snd x)))) ∧ ((Prod.snd (Prod.snd (Prod.snd x))) < (((List.length (Prod.fst x)) : Nat) : Int))) ∧
     (Br (Decidable.decide ((57 : Int) < (((UInt8.toNat (List.getD (Prod.fst x) (Int.toNat (Prod.snd (Prod.snd (Prod.snd x)))) (0 : UInt8))) : Nat) : Int)))
     (Ret K (.tup [(.int .i64 0), (.bool false)]) [])
     ((InR ((Prod.fst (Prod.snd (Prod.snd x))) * (10 : Int))) ∧
     ((((0 : Int) ≤ (Prod.snd (Prod.snd (Prod.snd x)))) ∧ ((Prod.snd (Prod.snd (Prod.snd x))) < (((List.length (Prod.fst x)) : Nat) : Int))) ∧
     ((((0 : Int) ≤ ((((UInt8.toNat (List.getD (Prod.fst x) (Int.toNat (Prod.snd (Prod.snd (Prod.snd x)))) (0 : UInt8))) : Nat) : Int) - (48 : Int))) ∧
     (((((UInt8.toNat (List.getD (Prod.fst x) (Int.toNat (Prod.snd (Prod.snd (Prod.snd x)))) (0 : UInt8))) : Nat) : Int) - (48 : Int)) ≤ (255 : Int))) ∧
     ((InR ((((UInt8.toNat (List.getD (Prod.fst x) (Int.toNat (Prod.snd (Prod.snd (Prod.snd x)))) (0 : UInt8))) : Nat) : Int) - (48 : Int))) ∧
     ((InR (((Prod.fst (Prod.snd (Prod.snd x))) * (10 : Int)) + ((((UInt8.toNat (List.getD (Prod.fst x) (Int.toNat (Prod.snd (Prod.snd (Prod.snd x)))) (0 : UInt8))) : Nat) : Int) - (48 : Int)))) ∧
     ((InR ((Prod.snd (Prod.snd (Prod.snd x))) + (1 : Int))) ∧
     (∃ y : (Prod (List UInt8) (Prod Bool (Prod Int Int))),
     ((((List.length (Prod.fst y)) ≤ (2 : Nat)) ∧
     (((0 : Int) ≤ (Prod.snd (Prod.snd (Prod.snd y)))) ∧
     (((Prod.snd (Prod.snd (Prod.snd y))) ≤ (((List.length (Prod.fst y)) : Nat) : Int)) ∧
     (((0 : Int) ≤ (Prod.fst (Prod.snd (Prod.snd y)))) ∧
     (((((Prod.snd (Prod.snd (Prod.snd y))) = (0 : Int)) ∧ ((Prod.fst (Prod.snd (Prod.snd y))) = (0 : Int))) ∨ ((((Prod.snd (Prod.snd (Prod.snd y))) = (1 : Int)) ∧ ((Prod.fst (Prod.snd (Prod.snd y))) ≤ (9 : Int))) ∨ (((Prod.snd (Prod.snd (Prod.snd y))) = (2 : Int)) ∧ ((Prod.fst (Prod.snd (Prod.snd y))) ≤ (99 : Int))))) ∧
     (∀ m : Int,
     (((0 : Int) ≤ m) →
     ((m ≤ (99 : Int)) →
     ((l = (decD m)) →
     (((Prod.fst y) = l) ∧
     (((Prod.fst (Prod.snd y)) = false) ∧
     ((((Prod.snd (Prod.snd (Prod.snd y))) = (0 : Int)) ∧ ((Prod.fst (Prod.snd (Prod.snd y))) = (0 : Int))) ∨ ((((Prod.snd (Prod.snd (Prod.snd y))) = (1 : Int)) ∧ (((m ≤ (9 : Int)) ∧ ((Prod.fst (Prod.snd (Prod.snd y))) = m)) ∨ (((9 : Int) < m) ∧ ((Prod.fst (Prod.snd (Prod.snd y))) = (m / (10 : Int)))))) ∨ (((Prod.snd (Prod.snd (Prod.snd y))) = (2 : Int)) ∧ (((Prod.fst (Prod.snd (Prod.snd y))) = m) ∧ ((9 : Int) < m)))))))))))))))) ∧
     (((Prod.fst x) = (Prod.fst y)) ∧
     (((Prod.fst (Prod.snd x)) = (Prod.fst (Prod.snd y))) ∧
     (((((Prod.fst (Prod.snd (Prod.snd x))) * (10 : Int)) + ((((UInt8.toNat (List.getD (Prod.fst x) (Int.toNat (Prod.snd (Prod.snd (Prod.snd x)))) (0 : UInt8))) : Nat) : Int) - (48 : Int))) = (Prod.fst (Prod.snd (Prod.snd y)))) ∧
     ((((Prod.snd (Prod.snd (Prod.snd x))) + (1 : Int)) = (Prod.snd (Prod.snd (Prod.snd y)))) ∧
     ((Nat.succ (Int.toNat ((((List.length (Prod.fst y)) : Nat) : Int) - (Prod.snd (Prod.snd (Prod.snd y)))))) ≤ (Int.toNat ((((List.length (Prod.fst x)) : Nat) : Int) - (Prod.snd (Prod.snd (Prod.snd x))))))))))))))))))))))
     (Br (Prod.fst (Prod.snd x))
     ((InR (- (Prod.fst (Prod.snd (Prod.snd x))))) ∧ (Ret K (.tup [(.int .i64 (- (Prod.fst (Prod.snd (Prod.snd x))))), (.bool true)]) []))
     (Ret K (.tup [(.int .i64 (Prod.fst (Prod.snd (Prod.snd x)))), (.bool true)]) []))))))))))))
     (Br (Decidable.decide ((((List.length l) : Nat) : Int) = (0 : Int)))
     (Ret K (.tup [(.int .i64 0), (.bool false)]) [])
     (Br (Decidable.decide ((17 : Int) < (((List.length l) : Nat) : Int)))
     (Ret K (.tup [(.int .i64 0), (.bool false)]) [])
     ((((0 : Int) ≤ (0 : Int)) ∧ ((0 : Int) < (((List.length l) : Nat) : Int))) ∧
     (Br (Decidable.decide ((((UInt8.toNat (List.getD l (Int.toNat (0 : Int)) (0 : UInt8))) : Nat) : Int) = (48 : Int)))
     (Br (Decidable.decide ((1 : Int) < (((List.length l) : Nat) : Int)))
     (Ret K (.tup [(.int .i64 0), (.bool false)]) [])
     ((∃ x : (Prod (List UInt8) (Prod Bool (Prod Int Int))),
     ((((List.length (Prod.fst x)) ≤ (2 : Nat)) ∧
     (((0 : Int) ≤ (Prod.snd (Prod.snd (Prod.snd x)))) ∧
     (((Prod.snd (Prod.snd (Prod.snd x))) ≤ (((List.length (Prod.fst x)) : Nat) : Int)) ∧
     (((0 : Int) ≤ (Prod.fst (Prod.snd (Prod.snd x)))) ∧
     (((((Prod.snd (Prod.snd (Prod.snd x))) = (0 : Int)) ∧ ((Prod.fst (Prod.snd (Prod.snd x))) = (0 : Int))) ∨ ((((Prod.snd (Prod.snd (Prod.snd x))) = (1 : Int)) ∧ ((Prod.fst (Prod.snd (Prod.snd x))) ≤ (9 : Int))) ∨ (((Prod.snd (Prod.snd (Prod.snd x))) = (2 : Int)) ∧ ((Prod.fst (Prod.snd (Prod.snd x))) ≤ (99 : Int))))) ∧
     (∀ m : Int,
     (((0 : Int) ≤ m) →
     ((m ≤ (99 : Int)) →
     ((l = (decD m)) →
     (((Prod.fst x) = l) ∧
     (((Prod.fst (Prod.snd x)) = false) ∧
     ((((Prod.snd (Prod.snd (Prod.snd x))) = (0 : Int)) ∧ ((Prod.fst (Prod.snd (Prod.snd x))) = (0 : Int))) ∨ ((((Prod.snd (Prod.snd (Prod.snd x))) = (1 : Int)) ∧ (((m ≤ (9 : Int)) ∧ ((Prod.fst (Prod.snd (Prod.snd x))) = m)) ∨ (((9 : Int) < m) ∧ ((Prod.fst (Prod.snd (Prod.snd x))) = (m / (10 : Int)))))) ∨ (((Prod.snd (Prod.snd (Prod.snd x))) = (2 : Int)) ∧ (((Prod.fst (Prod.snd (Prod.snd x))) = m) ∧ ((9 : Int) < m)))))))))))))))) ∧
     ((l = (Prod.fst x)) ∧
     ((false = (Prod.fst (Prod.snd x))) ∧ (((0 : Int) = (Prod.fst (Prod.snd (Prod.snd x)))) ∧ (((0 : Int) = (Prod.snd (Prod.snd (Prod.snd x)))) ∧ True)))))) ∧
     (∀ x : (Prod (List UInt8) (Prod Bool (Prod Int Int))),
     ((((List.length (Prod.fst x)) ≤ (2 : Nat)) ∧ (((0 : Int) ≤ (Prod.snd (Prod.snd (Prod.snd x)))) ∧ (((Prod.snd (Prod.snd (Prod.snd x))) ≤ (((List.length (Prod.fst x)) : Nat) : Int)) ∧ (((0 : Int) ≤ (Prod.fst (Prod.snd (Prod.snd x)))) ∧ (((((Prod.snd (Prod.snd (Prod.snd x))) = (0 : Int)) ∧ ((Prod.fst (Prod.snd (Prod.snd x))) = (0 : Int))) ∨ ((((Prod.snd (Prod.snd (Prod.snd x))) = (1 : Int)) ∧ ((Prod.fst (Prod.snd (Prod.snd x))) ≤ (9 : Int))) ∨ (((Prod.snd (Prod.snd (Prod.snd x))) = (2 : Int)) ∧ ((Prod.fst (Prod.snd (Prod.snd x))) ≤ (99 : Int))))) ∧ (∀ m : Int, (((0 : Int) ≤ m) → ((m ≤ (99 : Int)) → ((l = (decD m)) → (((Prod.fst x) = l) ∧ (((Prod.fst (Prod.snd x)) = false) ∧ ((((Prod.snd (Prod.snd (Prod.snd x))) = (0 : Int)) ∧ ((Prod.fst (Prod.snd (Prod.snd x))) = (0 : Int))) ∨ ((((Prod.snd (Prod.snd (Prod.snd x))) = (1 : Int)) ∧ (((m ≤ (9 : Int)) ∧ ((Prod.fst (Prod.snd (Prod.snd x))) = m)) ∨ (((9 : Int) < m) ∧ ((Prod.fst (Prod.snd (Prod.snd x))) = (m / (10 : Int)))))) ∨ (((Prod.snd (Prod.snd (Prod.snd x))) = (2 : Int)) ∧ (((Prod.fst (Prod.snd (Prod.snd x))) = m) ∧ ((9 : Int) < m)))))))))))))))) →
     (Br (Decidable.decide ((Prod.snd (Prod.snd (Prod.snd x))) < (((List.length (Prod.fst x)) : Nat) : Int)))
     ((((0 : Int) ≤ (Prod.snd (Prod.snd (Prod.snd x)))) ∧ ((Prod.snd (Prod.snd (Prod.snd x))) < (((List.length (Prod.fst x)) : Nat) : Int))) ∧
     (Br (Decidable.decide ((((UInt8.toNat (List.getD (Prod.fst x) (Int.toNat (Prod.snd (Prod.snd (Prod.snd x)))) (0 : UInt8))) : Nat) : Int) < (48 : Int)))
     (Ret K (.tup [(.int .i64 0), (.bool false)]) [])
     ((((0 : Int) ≤ (Prod.snd (Prod.snd (Prod.snd x)))) ∧ ((Prod.snd (Prod.snd (Prod.snd x))) < (((List.length (Prod.fst x)) : Nat) : Int))) ∧
     (Br (Decidable.decide ((57 : Int) < (((UInt8.toNat (List.getD (Prod.fst x) (Int.toNat (Prod.snd (Prod.snd (Prod.snd x)))) (0 : UInt8))) : Nat) : Int)))
     (Ret K (.tup [(.int .i64 0), (.bool false)]) [])
     ((InR ((Prod.fst (Prod.snd (Prod.snd x))) * (10 : Int))) ∧
     ((((0 : Int) ≤ (Prod.snd (Prod.snd (Prod.snd x)))) ∧ ((Prod.snd (Prod.snd (Prod.snd x))) < (((List.length (Prod.fst x)) : Nat) : Int))) ∧
     ((((0 : Int) ≤ ((((UInt8.toNat (List.getD (Prod.fst x) (Int.toNat (Prod.snd (Prod.snd (Prod.snd x)))) (0 : UInt8))) : Nat) : Int) - (48 : Int))) ∧
     (((((UInt8.toNat (List.getD (Prod.fst x) (Int.toNat (Prod.snd (Prod.snd (Prod.snd x)))) (0 : UInt8))) : Nat) : Int) - (48 : Int)) ≤ (255 : Int))) ∧
     ((InR ((((UInt8.toNat (List.getD (Prod.fst x) (Int.toNat (Prod.snd (Prod.snd (Prod.snd x)))) (0 : UInt8))) : Nat) : Int) - (48 : Int))) ∧
     ((InR (((Prod.fst (Prod.snd (Prod.snd x))) * (10 : Int)) + ((((UInt8.toNat (List.getD (Prod.fst x) (Int.toNat (Prod.snd (Prod.snd (Prod.snd x)))) (0 : UInt8))) : Nat) : Int) - (48 : Int)))) ∧
     ((InR ((Prod.snd (Prod.snd (Prod.snd x))) + (1 : Int))) ∧
     (∃ y : (Prod (List UInt8) (Prod Bool (Prod Int Int))),
     ((((List.length (Prod.fst y)) ≤ (2 : Nat)) ∧
     (((0 : Int) ≤ (Prod.snd (Prod.snd (Prod.snd y)))) ∧
     (((Prod.snd (Prod.snd (Prod.snd y))) ≤ (((List.length (Prod.fst y)) : Nat) : Int)) ∧
     (((0 : Int) ≤ (Prod.fst (Prod.snd (Prod.snd y)))) ∧
     (((((Prod.snd (Prod.snd (Prod.snd y))) = (0 : Int)) ∧ ((Prod.fst (Prod.snd (Prod.snd y))) = (0 : Int))) ∨ ((((Prod.snd (Prod.snd (Prod.snd y))) = (1 : Int)) ∧ ((Prod.fst (Prod.snd (Prod.snd y))) ≤ (9 : Int))) ∨ (((Prod.snd (Prod.snd (Prod.snd y))) = (2 : Int)) ∧ ((Prod.fst (Prod.snd (Prod.snd y))) ≤ (99 : Int))))) ∧
     (∀ m : Int,
     (((0 : Int) ≤ m) →
     ((m ≤ (99 : Int)) →
     ((l = (decD m)) →
     (((Prod.fst y) = l) ∧
     (((Prod.fst (Prod.snd y)) = false) ∧
     ((((Prod.snd (Prod.snd (Prod.snd y))) = (0 : Int)) ∧ ((Prod.fst (Prod.snd (Prod.snd y))) = (0 : Int))) ∨ ((((Prod.snd (Prod.snd (Prod.snd y))) = (1 : Int)) ∧ (((m ≤ (9 : Int)) ∧ ((Prod.fst (Prod.snd (Prod.snd y))) = m)) ∨ (((9 : Int) < m) ∧ ((Prod.fst (Prod.snd (Prod.snd y))) = (m / (10 : Int)))))) ∨ (((Prod.snd (Prod.snd (Prod.snd y))) = (2 : Int)) ∧ (((Prod.fst (Prod.snd (Prod.snd y))) = m) ∧ ((9 : Int) < m)))))))))))))))) ∧
     (((Prod.fst x) = (Prod.fst y)) ∧
     (((Prod.fst (Prod.snd x)) = (Prod.fst (Prod.snd y))) ∧
     (((((Prod.fst (Prod.snd (Prod.snd x))) * (10 : Int)) + ((((UInt8.toNat (List.getD (Prod.fst x) (Int.toNat (Prod.snd (Prod.snd (Prod.snd x)))) (0 : UInt8))) : Nat) : Int) - (48 : Int))) = (Prod.fst (Prod.snd (Prod.snd y)))) ∧
     ((((Prod.snd (Prod.snd (Prod.snd x))) + (1 : Int)) = (Prod.snd (Prod.snd (Prod.snd y)))) ∧
     ((Nat.succ (Int.toNat ((((List.length (Prod.fst y)) : Nat) : Int) - (Prod.snd (Prod.snd (Prod.snd y)))))) ≤ (Int.toNat ((((List.length (Prod.fst x)) : Nat) : Int) - (Prod.snd (Prod.snd (Prod.snd x))))))))))))))))))))))
     (Br (Prod.fst (Prod.snd x))
     ((InR (- (Prod.fst (Prod.snd (Prod.snd x))))) ∧ (Ret K (.tup [(.int .i64 (- (Prod.fst (Prod.snd (Prod.snd x))))), (.bool true)]) []))
     (Ret K (.tup [(.int .i64 (Prod.fst (Prod.snd (Prod.snd x)))), (.bool true)]) [])))))))
     ((∃ x : (Prod (List UInt8) (Prod Bool (Prod Int Int))),
     ((((List.length (Prod.fst x)) ≤ (2 : Nat)) ∧
     (((0 : Int) ≤ (Prod.snd (Prod.snd (Prod.snd x)))) ∧
     (((Prod.snd (Prod.snd (Prod.snd x))) ≤ (((List.length (Prod.fst x)) : Nat) : Int)) ∧
     (((0 : Int) ≤ (Prod.fst (Prod.snd (Prod.snd x)))) ∧
     (((((Prod.snd (Prod.snd (Prod.snd x))) = (0 : Int)) ∧ ((Prod.fst (Prod.snd (Prod.snd x))) = (0 : Int))) ∨ ((((Prod.snd (Prod.snd (Prod.snd x))) = (1 : Int)) ∧ ((Prod.fst (Prod.snd (Prod.snd x))) ≤ (9 : Int))) ∨ (((Prod.snd (Prod.snd (Prod.snd x))) = (2 : Int)) ∧ ((Prod.fst (Prod.snd (Prod.snd x))) ≤ (99 : Int))))) ∧
     (∀ m : Int,
     (((0 : Int) ≤ m) →
     ((m ≤ (99 : Int)) →
     ((l = (decD m)) →
     (((Prod.fst x) = l) ∧
     (((Prod.fst (Prod.snd x)) = false) ∧
     ((((Prod.snd (Prod.snd (Prod.snd x))) = (0 : Int)) ∧ ((Prod.fst (Prod.snd (Prod.snd x))) = (0 : Int))) ∨ ((((Prod.snd (Prod.snd (Prod.snd x))) = (1 : Int)) ∧ (((m ≤ (9 : Int)) ∧ ((Prod.fst (Prod.snd (Prod.snd x))) = m)) ∨ (((9 : Int) < m) ∧ ((Prod.fst (Prod.snd (Prod.snd x))) = (m / (10 : Int)))))) ∨ (((Prod.snd (Prod.snd (Prod.snd x))) = (2 : Int)) ∧ (((Prod.fst (Prod.snd (Prod.snd x))) = m) ∧ ((9 : Int) < m)))))))))))))))) ∧
     ((l = (Prod.fst x)) ∧
     ((false = (Prod.fst (Prod.snd x))) ∧ (((0 : Int) = (Prod.fst (Prod.snd (Prod.snd x)))) ∧ (((0 : Int) = (Prod.snd (Prod.snd (Prod.snd x)))) ∧ True)))))) ∧
     (∀ x : (Prod (List UInt8) (Prod Bool (Prod Int Int))),
     ((((List.length (Prod.fst x)) ≤ (2 : Nat)) ∧ (((0 : Int) ≤ (Prod.snd (Prod.snd (Prod.snd x)))) ∧ (((Prod.snd (Prod.snd (Prod.snd x))) ≤ (((List.length (Prod.fst x)) : Nat) : Int)) ∧ (((0 : Int) ≤ (Prod.fst (Prod.snd (Prod.snd x)))) ∧ (((((Prod.snd (Prod.snd (Prod.snd x))) = (0 : Int)) ∧ ((Prod.fst (Prod.snd (Prod.snd x))) = (0 : Int))) ∨ ((((Prod.snd (Prod.snd (Prod.snd x))) = (1 : Int)) ∧ ((Prod.fst (Prod.snd (Prod.snd x))) ≤ (9 : Int))) ∨ (((Prod.snd (Prod.snd (Prod.snd x))) = (2 : Int)) ∧ ((Prod.fst (Prod.snd (Prod.snd x))) ≤ (99 : Int))))) ∧ (∀ m : Int, (((0 : Int) ≤ m) → ((m ≤ (99 : Int)) → ((l = (decD m)) → (((Prod.fst x) = l) ∧ (((Prod.fst (Prod.snd x)) = false) ∧ ((((Prod.snd (Prod.snd (Prod.snd x))) = (0 : Int)) ∧ ((Prod.fst (Prod.snd (Prod.snd x))) = (0 : Int))) ∨ ((((Prod.snd (Prod.snd (Prod.snd x))) = (1 : Int)) ∧ (((m ≤ (9 : Int)) ∧ ((Prod.fst (Prod.snd (Prod.snd x))) = m)) ∨ (((9 : Int) < m) ∧ ((Prod.fst (Prod.snd (Prod.snd x))) = (m / (10 : Int)))))) ∨ (((Prod.snd (Prod.snd (Prod.snd x))) = (2 : Int)) ∧ (((Prod.fst (Prod.snd (Prod.snd x))) = m) ∧ ((9 : Int) < m)))))))))))))))) →
     (Br (Decidable.decide ((Prod.snd (Prod.snd (Prod.snd x))) < (((List.length (Prod.fst x)) : Nat) : Int)))
     ((((0 : Int) ≤ (Prod.snd (Prod.snd (Prod.snd x)))) ∧ ((Prod.snd (Prod.snd (Prod.snd x))) < (((List.length (Prod.fst x)) : Nat) : Int))) ∧
     (Br (Decidable.decide ((((UInt8.toNat (List.getD (Prod.fst x) (Int.toNat (Prod.snd (Prod.snd (Prod.snd x)))) (0 : UInt8))) : Nat) : Int) < (48 : Int)))
     (Ret K (.tup [(.int .i64 0), (.bool false)]) [])
     ((((0 : Int) ≤ (Prod.snd (Prod.snd (Prod.snd x)))) ∧ ((Prod.snd (Prod.snd (Prod.snd x))) < (((List.length (Prod.fst x)) : Nat) : Int))) ∧
     (Br (Decidable.decide ((57 : Int) < (((UInt8.toNat (List.getD (Prod.fst x) (Int.toNat (Prod.snd (Prod.snd (Prod.snd x)))) (0 : UInt8))) : Nat) : Int)))
     (Ret K (.tup [(.int .i64 0), (.bool false)]) [])
     ((InR ((Prod.fst (Prod.snd (Prod.snd x))) * (10 : Int))) ∧
     ((((0 : Int) ≤ (Prod.snd (Prod.snd (Prod.snd x)))) ∧ ((Prod.snd (Prod.snd (Prod.snd x))) < (((List.length (Prod.fst x)) : Nat) : Int))) ∧
     ((((0 : Int) ≤ ((((UInt8.toNat (List.getD (Prod.fst x) (Int.toNat (Prod.snd (Prod.snd (Prod.snd x)))) (0 : UInt8))) : Nat) : Int) - (48 : Int))) ∧
     (((((UInt8.toNat (List.getD (Prod.fst x) (Int.toNat (Prod.snd (Prod.snd (Prod.snd x)))) (0 : UInt8))) : Nat) : Int) - (48 : Int)) ≤ (255 : Int))) ∧
     ((InR ((((UInt8.toNat (List.getD (Prod.fst x) (Int.toNat (Prod.snd (Prod.snd (Prod.snd x)))) (0 : UInt8))) : Nat) : Int) - (48 : Int))) ∧
     ((InR (((Prod.fst (Prod.snd (Prod.snd x))) * (10 : Int)) + ((((UInt8.toNat (List.getD (Prod.fst x) (Int.toNat (Prod.snd (Prod.snd (Prod.snd x)))) (0 : UInt8))) : Nat) : Int) - (48 : Int)))) ∧
     ((InR ((Prod.snd (Prod.snd (Prod.snd x))) + (1 : Int))) ∧
     (∃ y : (Prod (List UInt8) (Prod Bool (Prod Int Int))),
     ((((List.length (Prod.fst y)) ≤ (2 : Nat)) ∧
     (((0 : Int) ≤ (Prod.snd (Prod.snd (Prod.snd y)))) ∧
     (((Prod.snd (Prod.snd (Prod.snd y))) ≤ (((List.length (Prod.fst y)) : Nat) : Int)) ∧
     (((0 : Int) ≤ (Prod.fst (Prod.snd (Prod.snd y)))) ∧
     (((((Prod.snd (Prod.snd (Prod.snd y))) = (0 : Int)) ∧ ((Prod.fst (Prod.snd (Prod.snd y))) = (0 : Int))) ∨ ((((Prod.snd (Prod.snd (Prod.snd y))) = (1 : Int)) ∧ ((Prod.fst (Prod.snd (Prod.snd y))) ≤ (9 : Int))) ∨ (((Prod.snd (Prod.snd (Prod.snd y))) = (2 : Int)) ∧ ((Prod.fst (Prod.snd (Prod.snd y))) ≤ (99 : Int))))) ∧
     (∀ m : Int,
     (((0 : Int) ≤ m) →
     ((m ≤ (99 : Int)) →
     ((l = (decD m)) →
     (((Prod.fst y) = l) ∧
     (((Prod.fst (Prod.snd y)) = false) ∧
     ((((Prod.snd (Prod.snd (Prod.snd y))) = (0 : Int)) ∧ ((Prod.fst (Prod.snd (Prod.snd y))) = (0 : Int))) ∨ ((((Prod.snd (Prod.snd (Prod.snd y))) = (1 : Int)) ∧ (((m ≤ (9 : Int)) ∧ ((Prod.fst (Prod.snd (Prod.snd y))) = m)) ∨ (((9 : Int) < m) ∧ ((Prod.fst (Prod.snd (Prod.snd y))) = (m / (10 : Int)))))) ∨ (((Prod.snd (Prod.snd (Prod.snd y))) = (2 : Int)) ∧ (((Prod.fst (Prod.snd (Prod.snd y))) = m) ∧ ((9 : Int) < m)))))))))))))))) ∧
     (((Prod.fst x) = (Prod.fst y)) ∧
     (((Prod.fst (Prod.snd x)) = (Prod.fst (Prod.snd y))) ∧
     (((((Prod.fst (Prod.snd (Prod.snd x))) * (10 : Int)) + ((((UInt8.toNat (List.getD (Prod.fst x) (Int.toNat (Prod.snd (Prod.snd (Prod.snd x)))) (0 : UInt8))) : Nat) : Int) - (48 : Int))) = (Prod.fst (Prod.snd (Prod.snd y)))) ∧
     ((((Prod.snd (Prod.snd (Prod.snd x))) + (1 : Int)) = (Prod.snd (Prod.snd (Prod.snd y)))) ∧
     ((Nat.succ (Int.toNat ((((List.length (Prod.fst y)) : Nat) : Int) - (Prod.snd (Prod.snd (Prod.snd y)))))) ≤ (Int.toNat ((((List.length (Prod.fst x)) : Nat) : Int) - (Prod.snd (Prod.snd (Prod.snd x))))))))))))))))))))))
     (Br (Prod.fst (Prod.snd x))
     ((InR (- (Prod.fst (Prod.snd (Prod.snd x))))) ∧ (Ret K (.tup [(.int .i64 (- (Prod.fst (Prod.snd (Prod.snd x))))), (.bool true)]) []))
     (Ret K (.tup [(.int .i64 (Prod.fst (Prod.snd (Prod.snd x)))), (.bool true)]) [])))))))))))) ?_ (by kernel_rfl)
  have D : ∀ m, 0 ≤ m → m ≤ 99 → l = decD m → (m ≤ 9 ∧ l.length = 1 ∧ ((l.getD 0 0).toNat : Int) = 48 + m) ∨ (9 < m ∧ l.length = 2 ∧ ((l.getD 0 0).toNat : Int) = 48 + m / 10 ∧ ((l.getD 1 0).toNat : Int) = 48 + m % 10) := fun m h0 h9 e => by
    subst e; exact decD_facts h0 h9
  have bad : (∀ m, 0 ≤ m → m ≤ 99 → l = decD m → False) → Ret K (.tup [.int .i64 0, .bool false]) [] := fun h => retIB (hk 0 false (by unfold InR; omega) (fun m h0 h9 e => (h m h0 h9 e).elim)) rfl rfl
  have good : ∀ n, -1000 ≤ n ∧ n ≤ 1000 → (∀ m, 0 ≤ m → m ≤ 99 → l = decD m → n = m) → Ret K (.tup [.int .i64 n, .bool true]) [] := fun n h h2 => retIB (hk n true (by unfold InR; omega) (fun m h0 h9 e => ⟨h2 m h0 h9 e, rfl⟩)) rfl rfl
  clear hk
  have e0 : Int.toNat 0 = 0 := rfl
  have e1 : Int.toNat 1 = 1 := rfl
  simp only [InR, List.length_drop, e0, e1]
  have loop : ∀ (s : List UInt8) (b : Bool) (n i : Int), (s.length ≤ 2 ∧ 0 ≤ i ∧ i ≤ s.length ∧ 0 ≤ n ∧ (i = 0 ∧ n = 0 ∨ i = 1 ∧ n ≤ 9 ∨ i = 2 ∧ n ≤ 99) ∧ (∀ m, 0 ≤ m → m ≤ 99 → l = decD m → s = l ∧ b = false ∧ (i = 0 ∧ n = 0 ∨ i = 1 ∧ (m ≤ 9 ∧ n = m ∨ 9 < m ∧ n = m / 10) ∨ i = 2 ∧ n = m ∧ 9 < m))) → True := fun _ _ _ _ _ => trivial
  clear loop
  repeat' first
    | (refine bad (fun m h0 h9 e => ?_); have := D m h0 h9 e; omega)
    | (refine ⟨(_, decide (((l.getD 0 0).toNat : Int) = 45), _, _), ?_, rfl, rfl, rfl, rfl, trivial⟩
       dsimp only
       refine ⟨by first | omega | (rw [List.length_drop]; omega), by omega, by omega, by omega, Or.inl ⟨rfl, rfl⟩, fun m h0 h9 e => ?_⟩
       have k := D m h0 h9 e
       first | omega | exact ⟨rfl, decide_eq_false (by omega), Or.inl ⟨rfl, rfl⟩⟩)
    | refine brd (fun _ => ?_) (fun _ => ?_)
    | (rintro ⟨s, b, n, i⟩ ⟨g1, g2, g3, g4, g5, g6⟩; simp only at g1 g2 g3 g4 g5 g6 ⊢
       have g7 : ∀ m, 0 ≤ m → m ≤ 99 → l = decD m → b = false ∧ (i = 0 ∧ n = 0 ∨ i = 1 ∧ (m ≤ 9 ∧ n = m ∨ 9 < m ∧ n = m / 10) ∨ i = 2 ∧ n = m ∧ 9 < m) ∧ ((m ≤ 9 ∧ s.length = 1 ∧ ((s.getD 0 0).toNat : Int) = 48 + m) ∨ (9 < m ∧ s.length = 2 ∧ ((s.getD 0 0).toNat : Int) = 48 + m / 10 ∧ ((s.getD 1 0).toNat : Int) = 48 + m % 10)) := fun m h0 h9 e => by
         obtain ⟨k1, k2, k3⟩ := g6 m h0 h9 e
         exact ⟨k2, k3, by rw [k1]; exact D m h0 h9 e⟩
       rcases g5 with ⟨rfl, rfl⟩ | ⟨rfl, g5⟩ | ⟨rfl, g5⟩)
    | (refine br (fun hb => ?_) (fun hb => ?_))
    | (refine bad (fun m h0 h9 e => ?_); obtain ⟨k1, k2, k3⟩ := g7 m h0 h9 e; simp only [e0, e1] at *; first | omega | (rw [k1] at hb; cases hb))
    | (refine good _ (by omega) (fun m h0 h9 e => by obtain ⟨k1, k2, k3⟩ := g7 m h0 h9 e; first | omega | (rw [k1] at hb; cases hb)))
    | (refine ⟨(_, _, _, _), ⟨g1, ?_, ?_, ?_, ?_, (fun m h0 h9 e => by obtain ⟨k1, k2, k3⟩ := g6 m h0 h9 e; have k4 := g7 m h0 h9 e; simp only [e0, e1] at *; exact ⟨k1, k2, by omega⟩)⟩, rfl, rfl, rfl, rfl, ?_⟩ <;> simp only [e0, e1] at * <;> omega)
    | apply And.intro
    | exact trivial
    | omega
    | (simp only [e0, e1] at *; omega)
theorem sNum_sound : Sound Tryd.prog 68 csNum := by
  refine soundF (G := []) (gnil) Tryd.func68 rfl (by kernel_rfl) fun args hs K hCC => ?_
  unfold csNum at hCC
  split at hCC
  case h_2 => exact hCC.elim
  rename_i l
  exact ⟨Nat.le_of_ble_eq_true rfl, _, sNum_ok l K hCC.1 hCC.2⟩
/-- spec.l1Number -/
def csNumber : Con
  | [.str l, .int .i64 (a), .int .i64 (d)], [], K => (((l.length ≤ 1048576 ∧ 0 ≤ a ∧ a ≤ l.length) ∧ 1 ≤ d ∧ d ≤ 2)) ∧ ((∀ (n e : Int), InR n → (e = -1 ∨ (a ≤ e ∧ e ≤ l.length)) → (∀ m r, 0 ≤ m → m ≤ 99 → (9 < m → d = 2) → nd r → l.drop a.toNat = decD m ++ r → n = m ∧ e = (l.length : Int) - r.length) → K (.tup [.int .i64 n, .int .i64 e]) []))
  | _, _, _ => False
theorem sNumber_ok (l : List UInt8) (a d : Int) (K : AV → List AV → Prop) (hp : (((l.length ≤ 1048576 ∧ 0 ≤ a ∧ a ≤ l.length) ∧ 1 ≤ d ∧ d ≤ 2))) (hk : ((∀ (n e : Int), InR n → (e = -1 ∨ (a ≤ e ∧ e ≤ l.length)) → (∀ m r, 0 ≤ m → m ≤ 99 → (9 < m → d = 2) → nd r → l.drop a.toNat = decD m ++ r → n = m ∧ e = (l.length : Int) - r.length) → K (.tup [.int .i64 n, .int .i64 e]) []))) :
    bodyQ [(68, csNum)] TY [(2, { ι := Int, ok := fun x => a ≤ x ∧ x ≤ l.length ∧ x ≤ a + d ∧ (∀ m r, 0 ≤ m → m ≤ 99 → (9 < m → d = 2) → nd r → l.drop a.toNat = decD m ++ r → x ≤ a + (decD m).length), tl := fun x => [(0, .str l), (1, .int .i64 a), (2, .int .i64 d), (8, .int .i64 x)], hl := fun _ => [], fh := fun _ => [], μ := fun x => (l.length - x).toNat })] Tryd.f44 (body Tryd.f44) [.str l, .int .i64 (a), .int .i64 (d)] [] K := by
  refine of_vc (A :=
    ((∃ x : Int,
     (((a ≤ x) ∧
     ((x ≤ (((List.length l) : Nat) : Int)) ∧
     ((x ≤ (a + d)) ∧
     (∀ m : Int,
     (∀ r : (List UInt8),
     (((0 : Int) ≤ m) →
     ((m ≤ (99 : Int)) →
     ((((9 : Int) < m) → (d = (2 : Int))) → ((nd r) → (((List.drop (Int.toNat a) l) = ((decD m) ++ r)) → (x ≤ (a + (((List.length (decD m)) : Nat) : Int))))))))))))) ∧
     ((l = l) ∧ ((a = a) ∧ ((d = d) ∧ ((a = x) ∧ True)))))) ∧
     (∀ x : Int,
     (((a ≤ x) ∧ ((x ≤ (((List.length l) : Nat) : Int)) ∧ ((x ≤ (a + d)) ∧ (∀ m : Int, (∀ r : (List UInt8), (((0 : Int) ≤ m) → ((m ≤ (99 : Int)) → ((((9 : Int) < m) → (d = (2 : Int))) → ((nd r) → (((List.drop (Int.toNat a) l) = ((decD m) ++ r)) → (x ≤ (a + (((List.length (decD m)) : Nat) : Int))))))))))))) →
     (Br (Decidable.decide (x < (((List.length l) : Nat) : Int)))
     ((InR (a + d)) ∧
     (Br (Decidable.decide (x < (a + d)))
     ((((0 : Int) ≤ x) ∧ (x < (((List.length l) : Nat) : Int))) ∧
     (Br (Decidable.decide ((48 : Int) ≤ (((UInt8.toNat (List.getD l (Int.toNat x) (0 : UInt8))) : Nat) : Int)))
     ((((0 : Int) ≤ x) ∧ (x < (((List.length l) : Nat) : Int))) ∧
     (Br (Decidable.decide ((((UInt8.toNat (List.getD l (Int.toNat x) (0 : UInt8))) : Nat) : Int) ≤ (57 : Int)))
     ((InR (x + (1 : Int))) ∧
     (∃ y : Int,
     (((a ≤ y) ∧
     ((y ≤ (((List.length l) : Nat) : Int)) ∧
     ((y ≤ (a + d)) ∧
     (∀ m : Int,
     (∀ r : (List UInt8),
     (((0 : Int) ≤ m) →
     ((m ≤ (99 : Int)) →
     ((((9 : Int) < m) → (d = (2 : Int))) → ((nd r) → (((List.drop (Int.toNat a) l) = ((decD m) ++ r)) → (y ≤ (a + (((List.length (decD m)) : Nat) : Int))))))))))))) ∧
     ((l = l) ∧
     ((a = a) ∧
     ((d = d) ∧ (((x + (1 : Int)) = y) ∧ ((Nat.succ (Int.toNat ((((List.length l) : Nat) : Int) - y))) ≤ (Int.toNat ((((List.length l) : Nat) : Int) - x))))))))))
     ((((0 : Int) ≤ a) ∧ ((a ≤ x) ∧ (x ≤ (((List.length l) : Nat) : Int)))) ∧
     (((List.length (List.take ((Int.toNat x) - (Int.toNat a)) (List.drop (Int.toNat a) l))) ≤ (2 : Nat)) ∧
     (∀ n : Int,
     (∀ b : Bool,
     ((InR n) →
     ((∀ m : Int, (((0 : Int) ≤ m) → ((m ≤ (99 : Int)) → (((List.take ((Int.toNat x) - (Int.toNat a)) (List.drop (Int.toNat a) l)) = (decD m)) → ((n = m) ∧ (b = true)))))) →
     (Br (Bool.not b) (Ret K (.tup [(.int .i64 0), (.int .i64 (- (1 : Int)))]) []) (Ret K (.tup [(.int .i64 n), (.int .i64 x)]) []))))))))))
     ((((0 : Int) ≤ a) ∧ ((a ≤ x) ∧ (x ≤ (((List.length l) : Nat) : Int)))) ∧
     (((List.length (List.take ((Int.toNat x) - (Int.toNat a)) (List.drop (Int.toNat a) l))) ≤ (2 : Nat)) ∧
     (∀ n : Int,
     (∀ b : Bool,
     ((InR n) →
     ((∀ m : Int, (((0 : Int) ≤ m) → ((m ≤ (99 : Int)) → (((List.take ((Int.toNat x) - (Int.toNat a)) (List.drop (Int.toNat a) l)) = (decD m)) → ((n = m) ∧ (b = true)))))) →
     (Br (Bool.not b) (Ret K (.tup [(.int .i64 0), (.int .i64 (- (1 : Int)))]) []) (Ret K (.tup [(.int .i64 n), (.int .i64 x)]) []))))))))))
     ((((0 : Int) ≤ a) ∧ ((a ≤ x) ∧ (x ≤ (((List.length l) : Nat) : Int)))) ∧
     (((List.length (List.take ((Int.toNat x) - (Int.toNat a)) (List.drop (Int.toNat a) l))) ≤ (2 : Nat)) ∧
     (∀ n : Int,
     (∀ b : Bool,
     ((InR n) →
     ((∀ m : Int, (((0 : Int) ≤ m) → ((m ≤ (99 : Int)) → (((List.take ((Int.toNat x) - (Int.toNat a)) (List.drop (Int.toNat a) l)) = (decD m)) → ((n = m) ∧ (b = true)))))) →
     (Br (Bool.not b) (Ret K (.tup [(.int .i64 0), (.int .i64 (- (1 : Int)))]) []) (Ret K (.tup [(.int .i64 n), (.int .i64 x)]) []))))))))))
     ((((0 : Int) ≤ a) ∧ ((a ≤ x) ∧ (x ≤ (((List.length l) : Nat) : Int)))) ∧
     (((List.length (List.take ((Int.toNat x) - (Int.toNat a)) (List.drop (Int.toNat a) l))) ≤ (2 : Nat)) ∧
     (∀ n : Int,
     (∀ b : Bool,
     ((InR n) →
     ((∀ m : Int, (((0 : Int) ≤ m) → ((m ≤ (99 : Int)) → (((List.take ((Int.toNat x) - (Int.toNat a)) (List.drop (Int.toNat a) l)) = (decD m)) → ((n = m) ∧ (b = true)))))) →
     (Br (Bool.not b) (Ret K (.tup [(.int .i64 0), (.int .i64 (- (1 : Int)))]) []) (Ret K (.tup [(.int .i64 n), (.int .i64 x)]) []))))))))))))) ?_ (by kernel_rfl)
  obtain ⟨⟨hl, ha0, ha⟩, hd1, hd2⟩ := hp
  have bad : (∀ m r, 0 ≤ m → m ≤ 99 → (9 < m → d = 2) → nd r → l.drop a.toNat = decD m ++ r → False) → Ret K (.tup [.int .i64 0, .int .i64 (-1)]) [] := fun h => retII (hk 0 (-1) (by unfold InR; omega) (Or.inl rfl) (fun m r h0 h9 h2 hr e => (h m r h0 h9 h2 hr e).elim)) rfl rfl
  have good : ∀ n e, InR n → a ≤ e ∧ e ≤ l.length → (∀ m r, 0 ≤ m → m ≤ 99 → (9 < m → d = 2) → nd r → l.drop a.toNat = decD m ++ r → n = m ∧ e = (l.length : Int) - r.length) → Ret K (.tup [.int .i64 n, .int .i64 e]) [] := fun n e h1 h2 h3 => retII (hk n e h1 (Or.inr h2) h3) rfl rfl
  clear hk
  have F : ∀ m r, 0 ≤ m → m ≤ 99 → (9 < m → d = 2) → nd r → l.drop a.toNat = decD m ++ r → _ := fun m r h0 h9 h2 hr e => numF h0 h9 h2 hr ⟨ha0, ha⟩ hd1 e
  have ex : ∀ x : Int, a ≤ x → x ≤ l.length → x ≤ a + d → (∀ m r, 0 ≤ m → m ≤ 99 → (9 < m → d = 2) → nd r → l.drop a.toNat = decD m ++ r → x = a + (decD m).length) →
      ((0 ≤ a ∧ a ≤ x ∧ x ≤ l.length) ∧ (List.take (x.toNat - a.toNat) (List.drop a.toNat l)).length ≤ 2 ∧ ∀ (n : Int) (b : Bool), InR n → (∀ (m : Int), 0 ≤ m → m ≤ 99 → List.take (x.toNat - a.toNat) (List.drop a.toNat l) = decD m → n = m ∧ b = true) →
        Br (!b) (Ret K (.tup [.int .i64 0, .int .i64 (-1)]) []) (Ret K (.tup [.int .i64 n, .int .i64 x]) [])) := fun x h1 h2 h3 h4 => by
    refine ⟨⟨ha0, h1, h2⟩, by rw [List.length_take]; omega, fun n b hn hb => br (fun g => bad (fun m r h0 h9 h5 hr e => ?_)) (fun g => good n x hn ⟨h1, h2⟩ (fun m r h0 h9 h5 hr e => ?_))⟩
    · obtain ⟨k, k1, k2, k3, k4, k5, k6, k7⟩ := F m r h0 h9 h5 hr e
      have := hb m h0 h9 (k7 x (by rw [h4 m r h0 h9 h5 hr e]; omega))
      rw [this.2] at g; cases g
    · obtain ⟨k, k1, k2, k3, k4, k5, k6, k7⟩ := F m r h0 h9 h5 hr e
      have hx := h4 m r h0 h9 h5 hr e
      exact ⟨(hb m h0 h9 (k7 x (by rw [hx]; omega))).1, by omega⟩
  refine ⟨⟨a, ⟨Int.le_refl a, ha, by omega, fun m r _ _ _ _ _ => by omega⟩, rfl, rfl, rfl, rfl, trivial⟩, ?_⟩
  rintro x ⟨h1, h2, h3, h4⟩
  have fin' : ∀ m r, 0 ≤ m → m ≤ 99 → (9 < m → d = 2) → nd r → l.drop a.toNat = decD m ++ r → (a ≤ x → x < a + (decD m).length → 48 ≤ (l.getD x.toNat 0).toNat ∧ (l.getD x.toNat 0).toNat ≤ 57) ∧ (x = a + (decD m).length → x < l.length → (l.getD x.toNat 0).toNat < 48 ∨ 57 < (l.getD x.toNat 0).toNat) ∧ x ≤ a + (decD m).length ∧ a + (decD m).length ≤ l.length ∧ (decD m).length ≤ d := fun m r h0 h9 h5 hr e => by
    obtain ⟨k, k1, k2, k3, k4, k5, k6, k7⟩ := F m r h0 h9 h5 hr e
    rw [k2]
    exact ⟨k5 x, k6 x, by have := h4 m r h0 h9 h5 hr e; omega, by omega, k4⟩
  refine brd (fun c1 => ⟨by unfold InR; omega, brd (fun c2 => ⟨by omega, brd (fun c3 => ⟨by omega, brd (fun c4 => ?_) (fun c4 => ?_)⟩) (fun c3 => ?_)⟩) (fun c2 => ?_)⟩) (fun c1 => ?_)
  · refine ⟨by unfold InR; omega, x + 1, ⟨by omega, by omega, by omega, fun m r h0 h9 h5 hr e => ?_⟩, rfl, rfl, rfl, rfl, by omega⟩
    obtain ⟨f1, f2, f3, f4, f5⟩ := fin' m r h0 h9 h5 hr e
    by_cases hx : x = a + (decD m).length
    · have := f2 hx c1; omega
    · omega
  all_goals
    refine ex x h1 h2 h3 (fun m r h0 h9 h5 hr e => ?_)
    obtain ⟨f1, f2, f3, f4, f5⟩ := fin' m r h0 h9 h5 hr e
    by_cases hx : x < a + (decD m).length
    · have := f1 h1 hx; omega
    · omega
theorem sNumber_sound : Sound Tryd.prog 44 csNumber := by
  refine soundF (G := [(68, csNum)]) ((gcons sNum_sound gnil)) Tryd.func44 rfl (by kernel_rfl) fun args hs K hCC => ?_
  unfold csNumber at hCC
  split at hCC
  case h_2 => exact hCC.elim
  rename_i l a d
  exact ⟨Nat.le_of_ble_eq_true rfl, _, sNumber_ok l a d K hCC.1 hCC.2⟩
end Go.Dk
