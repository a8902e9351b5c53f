/- Draws of terms with redexes: what is parsed is any term within bounds. -/
import Derived.Test.YtmeplbnophmmdaaDr
namespace Go.Dk
set_option linter.unusedVariables false
set_option linter.unusedSimpArgs false
open Go.Proofs
@[reducible] def fz : Tag := .iv 7 7 false .no
/-- What a parser may hand back: a term, and where it ends. -/
def prs (len a : Int) (t : T) (e : Int) : Prop := (e = -1 ∨ (a < e ∧ e ≤ len ∧ (t.size : Int) ≤ e - a)) ∧ (t.size : Int) ≤ 1 + max 0 (len - a)
theorem brd {p : Prop} [Decidable p] {A B : Prop} (h1 : p → A) (h2 : ¬p → B) : Br (decide p) A B := br (fun h => h1 (of_decide_eq_true h)) (fun h => h2 (of_decide_eq_false h))
theorem brn {p : Prop} [Decidable p] {A B : Prop} (h1 : ¬p → A) (h2 : p → B) : Br (!decide p) A B := br (fun h => h1 (by simpa using h)) (fun h => h2 (by simpa using h))
theorem retSI {K : AV → List AV → Prop} {ts : List T} {g g' : Tag} {b b' : Int} (hk : K (.tup [.slc ts g', .int .i64 b']) []) (hb : b = b') (hg : g.le g' = true := by rfl) : Ret K (.tup [.slc ts g, .int .i64 b]) [] := by
  subst hb; exact fin hk ⟨⟨rfl, hg⟩, ⟨rfl, rfl⟩, True.intro⟩ True.intro
theorem retII {K : AV → List AV → Prop} {a a' b b' : Int} (hk : K (.tup [.int .i64 a', .int .i64 b']) []) (ha : a = a') (hb : b = b') : Ret K (.tup [.int .i64 a, .int .i64 b]) [] := by
  subst ha hb; exact fin hk ⟨⟨rfl, rfl⟩, ⟨rfl, rfl⟩, True.intro⟩ True.intro
theorem retStr {K : AV → List AV → Prop} {a a' : List UInt8} (hk : K (.str a') []) (ha : a = a') : Ret K (.str a) [] := fin hk ha True.intro
/-- spec.l19Num -/
def cwNum : Con
  | [.str l], [], K => ((l.length ≤ 2)) ∧ ((∀ (n : Int) (b : Bool), InR n → K (.tup [.int .i64 n, .bool b]) []))
  | _, _, _ => False
theorem wNum_ok (l : List UInt8) (K : AV → List AV → Prop) (hp : ((l.length ≤ 2))) (hk : ((∀ (n : Int) (b : Bool), InR n → K (.tup [.int .i64 n, .bool b]) []))) :
    bodyQ [] TY [(8, { ι := List UInt8 × Bool × Int × Int, ok := fun x => x.1.length ≤ 2 ∧ 0 ≤ x.2.2.2 ∧ x.2.2.2 ≤ x.1.length ∧ 0 ≤ x.2.2.1 ∧ (x.2.2.2 = 0 ∧ x.2.2.1 = 0 ∨ x.2.2.2 = 1 ∧ x.2.2.1 ≤ 9 ∨ x.2.2.2 = 2 ∧ x.2.2.1 ≤ 99), tl := fun x => [(0, .str x.1), (4, .bool x.2.1), (5, .int .i64 x.2.2.1), (6, .int .i64 x.2.2.2)], hl := fun _ => [], fh := fun _ => [], μ := fun x => (x.1.length - x.2.2.2).toNat })] Try.f74 (body Try.f74) [.str l] [] K := by
  refine of_vc (A :=
    (Br (Decidable.decide ((0 : Int) < (((List.length l) : Nat) : Int)))
     ((((0 : Int) ≤ (0 : Int)) ∧ ((0 : Int) < (((List.length l) : Nat) : Int))) ∧
     (Br (Decidable.decide ((((UInt8.toNat (List.getD l (Int.toNat (0 : Int)) (0 : UInt8))) : Nat) : Int) = (45 : Int)))
     ((((0 : Int) ≤ (1 : Int)) ∧ ((1 : Int) ≤ (((List.length l) : Nat) : Int))) ∧
     (Br (Decidable.decide ((((List.length (List.drop (Int.toNat (1 : Int)) l)) : Nat) : Int) = (0 : Int)))
     (Ret K (.tup [(.int .i64 0), (.bool false)]) [])
     (Br (Decidable.decide ((17 : Int) < (((List.length (List.drop (Int.toNat (1 : Int)) l)) : Nat) : Int)))
     (Ret K (.tup [(.int .i64 0), (.bool false)]) [])
     ((((0 : Int) ≤ (0 : Int)) ∧ ((0 : Int) < (((List.length (List.drop (1 : Nat) l)) : Nat) : Int))) ∧
     (Br (Decidable.decide ((((UInt8.toNat (List.getD (List.drop (Int.toNat (1 : Int)) l) (Int.toNat (0 : Int)) (0 : UInt8))) : Nat) : Int) = (48 : Int)))
     (Br (Decidable.decide ((1 : Int) < (((List.length (List.drop (Int.toNat (1 : Int)) l)) : Nat) : Int)))
     (Ret K (.tup [(.int .i64 0), (.bool false)]) [])
     (Br (Decidable.decide ((((UInt8.toNat (List.getD l (Int.toNat (0 : Int)) (0 : UInt8))) : Nat) : Int) = (45 : Int)))
     (Ret K (.tup [(.int .i64 0), (.bool false)]) [])
     ((∃ x : (Prod (List UInt8) (Prod Bool (Prod Int Int))),
     ((((List.length (Prod.fst x)) ≤ (2 : Nat)) ∧
     (((0 : Int) ≤ (Prod.snd (Prod.snd (Prod.snd x)))) ∧
     (((Prod.snd (Prod.snd (Prod.snd x))) ≤ (((List.length (Prod.fst x)) : Nat) : Int)) ∧
     (((0 : Int) ≤ (Prod.fst (Prod.snd (Prod.snd x)))) ∧
     ((((Prod.snd (Prod.snd (Prod.snd x))) = (0 : Int)) ∧ ((Prod.fst (Prod.snd (Prod.snd x))) = (0 : Int))) ∨ ((((Prod.snd (Prod.snd (Prod.snd x))) = (1 : Int)) ∧ ((Prod.fst (Prod.snd (Prod.snd x))) ≤ (9 : Int))) ∨ (((Prod.snd (Prod.snd (Prod.snd x))) = (2 : Int)) ∧ ((Prod.fst (Prod.snd (Prod.snd x))) ≤ (99 : Int))))))))) ∧
     (((List.drop (1 : Nat) l) = (Prod.fst x)) ∧
     (((Decidable.decide ((((UInt8.toNat (List.getD l (Int.toNat (0 : Int)) (0 : UInt8))) : Nat) : Int) = (45 : Int))) = (Prod.fst (Prod.snd x))) ∧
     (((0 : Int) = (Prod.fst (Prod.snd (Prod.snd x)))) ∧ (((0 : Int) = (Prod.snd (Prod.snd (Prod.snd x)))) ∧ True)))))) ∧
     (∀ x : (Prod (List UInt8) (Prod Bool (Prod Int Int))),
     ((((List.length (Prod.fst x)) ≤ (2 : Nat)) ∧ (((0 : Int) ≤ (Prod.snd (Prod.snd (Prod.snd x)))) ∧ (((Prod.snd (Prod.snd (Prod.snd x))) ≤ (((List.length (Prod.fst x)) : Nat) : Int)) ∧ (((0 : Int) ≤ (Prod.fst (Prod.snd (Prod.snd x)))) ∧ ((((Prod.snd (Prod.snd (Prod.snd x))) = (0 : Int)) ∧ ((Prod.fst (Prod.snd (Prod.snd x))) = (0 : Int))) ∨ ((((Prod.snd (Prod.snd (Prod.snd x))) = (1 : Int)) ∧ ((Prod.fst (Prod.snd (Prod.snd x))) ≤ (9 : Int))) ∨ (((Prod.snd (Prod.snd (Prod.snd x))) = (2 : Int)) ∧ ((Prod.fst (Prod.snd (Prod.snd x))) ≤ (99 : Int))))))))) →
     (Br (Decidable.decide ((Prod.snd (Prod.snd (Prod.snd x))) < (((List.length (Prod.fst x)) : Nat) : Int)))
     ((((0 : Int) ≤ (Prod.snd (Prod.snd (Prod.snd x)))) ∧ ((Prod.snd (Prod.snd (Prod.snd x))) < (((List.length (Prod.fst x)) : Nat) : Int))) ∧
     (Br (Decidable.decide ((((UInt8.toNat (List.getD (Prod.fst x) (Int.toNat (Prod.snd (Prod.snd (Prod.snd x)))) (0 : UInt8))) : Nat) : Int) < (48 : Int)))
     (Ret K (.tup [(.int .i64 0), (.bool false)]) [])
     ((((0 : Int) ≤ (Prod.snd (Prod.snd (Prod.snd x)))) ∧ ((Prod.snd (Prod.snd (Prod.snd x))) < (((List.length (Prod.fst x)) : Nat) : Int))) ∧
     (Br (Decidable.decide ((57 : Int) < (((UInt8.toNat (List.getD (Prod.fst x) (Int.toNat (Prod.snd (Prod.snd (Prod.snd x)))) (0 : UInt8))) : Nat) : Int)))
     (Ret K (.tup [(.int .i64 0), (.bool false)]) [])
     ((InR ((Prod.fst (Prod.snd (Prod.snd x))) * (10 : Int))) ∧
     ((((0 : Int) ≤ (Prod.snd (Prod.snd (Prod.snd x)))) ∧ ((Prod.snd (Prod.snd (Prod.snd x))) < (((List.length (Prod.fst x)) : Nat) : Int))) ∧
     ((((0 : Int) ≤ ((((UInt8.toNat (List.getD (Prod.fst x) (Int.toNat (Prod.snd (Prod.snd (Prod.snd x)))) (0 : UInt8))) : Nat) : Int) - (48 : Int))) ∧
     (((((UInt8.toNat (List.getD (Prod.fst x) (Int.toNat (Prod.snd (Prod.snd (Prod.snd x)))) (0 : UInt8))) : Nat) : Int) - (48 : Int)) ≤ (255 : Int))) ∧
     ((InR ((((UInt8.toNat (List.getD (Prod.fst x) (Int.toNat (Prod.snd (Prod.snd (Prod.snd x)))) (0 : UInt8))) : Nat) : Int) - (48 : Int))) ∧
     ((InR (((Prod.fst (Prod.snd (Prod.snd x))) * (10 : Int)) + ((((UInt8.toNat (List.getD (Prod.fst x) (Int.toNat (Prod.snd (Prod.snd (Prod.snd x)))) (0 : UInt8))) : Nat) : Int) - (48 : Int)))) ∧
     ((InR ((Prod.snd (Prod.snd (Prod.snd x))) + (1 : Int))) ∧
     (∃ y : (Prod (List UInt8) (Prod Bool (Prod Int Int))),
     ((((List.length (Prod.fst y)) ≤ (2 : Nat)) ∧
     (((0 : Int) ≤ (Prod.snd (Prod.snd (Prod.snd y)))) ∧
     (((Prod.snd (Prod.snd (Prod.snd y))) ≤ (((List.length (Prod.fst y)) : Nat) : Int)) ∧
     (((0 : Int) ≤ (Prod.fst (Prod.snd (Prod.snd y)))) ∧
     ((((Prod.snd (Prod.snd (Prod.snd y))) = (0 : Int)) ∧ ((Prod.fst (Prod.snd (Prod.snd y))) = (0 : Int))) ∨ ((((Prod.snd (Prod.snd (Prod.snd y))) = (1 : Int)) ∧ ((Prod.fst (Prod.snd (Prod.snd y))) ≤ (9 : Int))) ∨ (((Prod.snd (Prod.snd (Prod.snd y))) = (2 : Int)) ∧ ((Prod.fst (Prod.snd (Prod.snd y))) ≤ (99 : Int))))))))) ∧
     (((Prod.fst x) = (Prod.fst y)) ∧
     (((Prod.fst (Prod.snd x)) = (Prod.fst (Prod.snd y))) ∧
     (((((Prod.fst (Prod.snd (Prod.snd x))) * (10 : Int)) + ((((UInt8.toNat (List.getD (Prod.fst x) (Int.toNat (Prod.snd (Prod.snd (Prod.snd x)))) (0 : UInt8))) : Nat) : Int) - (48 : Int))) = (Prod.fst (Prod.snd (Prod.snd y)))) ∧
     ((((Prod.snd (Prod.snd (Prod.snd x))) + (1 : Int)) = (Prod.snd (Prod.snd (Prod.snd y)))) ∧
     ((Nat.succ (Int.toNat ((((List.length (Prod.fst y)) : Nat) : Int) - (Prod.snd (Prod.snd (Prod.snd y)))))) ≤ (Int.toNat ((((List.length (Prod.fst x)) : Nat) : Int) - (Prod.snd (Prod.snd (Prod.snd x))))))))))))))))))))))
     (Br (Prod.fst (Prod.snd x))
     ((InR (- (Prod.fst (Prod.snd (Prod.snd x))))) ∧ (Ret K (.tup [(.int .i64 (- (Prod.fst (Prod.snd (Prod.snd x))))), (.bool true)]) []))
     (Ret K (.tup [(.int .i64 (Prod.fst (Prod.snd (Prod.snd x)))), (.bool true)]) []))))))))
     ((∃ x : (Prod (List UInt8) (Prod Bool (Prod Int Int))),
     ((((List.length (Prod.fst x)) ≤ (2 : Nat)) ∧
     (((0 : Int) ≤ (Prod.snd (Prod.snd (Prod.snd x)))) ∧
     (((Prod.snd (Prod.snd (Prod.snd x))) ≤ (((List.length (Prod.fst x)) : Nat) : Int)) ∧
     (((0 : Int) ≤ (Prod.fst (Prod.snd (Prod.snd x)))) ∧
     ((((Prod.snd (Prod.snd (Prod.snd x))) = (0 : Int)) ∧ ((Prod.fst (Prod.snd (Prod.snd x))) = (0 : Int))) ∨ ((((Prod.snd (Prod.snd (Prod.snd x))) = (1 : Int)) ∧ ((Prod.fst (Prod.snd (Prod.snd x))) ≤ (9 : Int))) ∨ (((Prod.snd (Prod.snd (Prod.snd x))) = (2 : Int)) ∧ ((Prod.fst (Prod.snd (Prod.snd x))) ≤ (99 : Int))))))))) ∧
     (((List.drop (1 : Nat) l) = (Prod.fst x)) ∧
     (((Decidable.decide ((((UInt8.toNat (List.getD l (Int.toNat (0 : Int)) (0 : UInt8))) : Nat) : Int) = (45 : Int))) = (Prod.fst (Prod.snd x))) ∧
     (((0 : Int) = (Prod.fst (Prod.snd (Prod.snd x)))) ∧ (((0 : Int) = (Prod.snd (Prod.snd (Prod.snd x)))) ∧ True)))))) ∧
     (∀ x : (Prod (List UInt8) (Prod Bool (Prod Int Int))),
     ((((List.length (Prod.fst x)) ≤ (2 : Nat)) ∧ (((0 : Int) ≤ (Prod.snd (Prod.snd (Prod.snd x)))) ∧ (((Prod.snd (Prod.snd (Prod.snd x))) ≤ (((List.length (Prod.fst x)) : Nat) : Int)) ∧ (((0 : Int) ≤ (Prod.fst (Prod.snd (Prod.snd x)))) ∧ ((((Prod.snd (Prod.snd (Prod.snd x))) = (0 : Int)) ∧ ((Prod.fst (Prod.snd (Prod.snd x))) = (0 : Int))) ∨ ((((Prod.snd (Prod.snd (Prod.snd x))) = (1 : Int)) ∧ ((Prod.fst (Prod.snd (Prod.snd x))) ≤ (9 : Int))) ∨ (((Prod.snd (Prod.snd (Prod.snd x))) = (2 : Int)) ∧ ((Prod.fst (Prod.snd (Prod.snd x))) ≤ (99 : Int))))))))) →
     (Br (Decidable.decide ((Prod.snd (Prod.snd (Prod.snd x))) < (((List.length (Prod.fst x)) : Nat) : Int)))
     ((((0 : Int) ≤ (Prod.snd (Prod.snd (Prod.snd x)))) ∧ ((Prod.snd (Prod.snd (Prod.snd x))) < (((List.length (Prod.fst x)) : Nat) : Int))) ∧
     (Br (Decidable.decide ((((UInt8.toNat (List.getD (Prod.fst x) (Int.toNat (Prod.snd (Prod.snd (Prod.snd x)))) (0 : UInt8))) : Nat) : Int) < (48 : Int)))
     (Ret K (.tup [(.int .i64 0), (.bool false)]) [])
     ((((0 : Int) ≤ (Prod.snd (Prod.snd (Prod.snd x)))) ∧ ((Prod.snd (Prod.snd (Prod.snd x))) < (((List.length (Prod.fst x)) : Nat) : Int))) ∧
     (Br (Decidable.decide ((57 : Int) < (((UInt8.toNat (List.getD (Prod.fst x) (Int.toNat (Prod.snd (Prod.snd (Prod.snd x)))) (0 : UInt8))) : Nat) : Int)))
     (Ret K (.tup [(.int .i64 0), (.bool false)]) [])
     ((InR ((Prod.fst (Prod.snd (Prod.snd x))) * (10 : Int))) ∧
     ((((0 : Int) ≤ (Prod.snd (Prod.snd (Prod.snd x)))) ∧ ((Prod.snd (Prod.snd (Prod.snd x))) < (((List.length (Prod.fst x)) : Nat) : Int))) ∧
     ((((0 : Int) ≤ ((((UInt8.toNat (List.getD (Prod.fst x) (Int.toNat (Prod.snd (Prod.snd (Prod.snd x)))) (0 : UInt8))) : Nat) : Int) - (48 : Int))) ∧
     (((((UInt8.toNat (List.getD (Prod.fst x) (Int.toNat (Prod.snd (Prod.snd (Prod.snd x)))) (0 : UInt8))) : Nat) : Int) - (48 : Int)) ≤ (255 : Int))) ∧
     ((InR ((((UInt8.toNat (List.getD (Prod.fst x) (Int.toNat (Prod.snd (Prod.snd (Prod.snd x)))) (0 : UInt8))) : Nat) : Int) - (48 : Int))) ∧
     ((InR (((Prod.fst (Prod.snd (Prod.snd x))) * (10 : Int)) + ((((UInt8.toNat (List.getD (Prod.fst x) (Int.toNat (Prod.snd (Prod.snd (Prod.snd x)))) (0 : UInt8))) : Nat) : Int) - (48 : Int)))) ∧
     ((InR ((Prod.snd (Prod.snd (Prod.snd x))) + (1 : Int))) ∧
     (∃ y : (Prod (List UInt8) (Prod Bool (Prod Int Int))),
     ((((List.length (Prod.fst y)) ≤ (2 : Nat)) ∧
     (((0 : Int) ≤ (Prod.snd (Prod.snd (Prod.snd y)))) ∧
     (((Prod.snd (Prod.snd (Prod.snd y))) ≤ (((List.length (Prod.fst y)) : Nat) : Int)) ∧
     (((0 : Int) ≤ (Prod.fst (Prod.snd (Prod.snd y)))) ∧
     ((((Prod.snd (Prod.snd (Prod.snd y))) = (0 : Int)) ∧ ((Prod.fst (Prod.snd (Prod.snd y))) = (0 : Int))) ∨ ((((Prod.snd (Prod.snd (Prod.snd y))) = (1 : Int)) ∧ ((Prod.fst (Prod.snd (Prod.snd y))) ≤ (9 : Int))) ∨ (((Prod.snd (Prod.snd (Prod.snd y))) = (2 : Int)) ∧ ((Prod.fst (Prod.snd (Prod.snd y))) ≤ (99 : Int))))))))) ∧
     (((Prod.fst x) = (Prod.fst y)) ∧
     (((Prod.fst (Prod.snd x)) = (Prod.fst (Prod.snd y))) ∧
     (((((Prod.fst (Prod.snd (Prod.snd x))) * (10 : Int)) + ((((UInt8.toNat (List.getD (Prod.fst x) (Int.toNat (Prod.snd (Prod.snd (Prod.snd x)))) (0 : UInt8))) : Nat) : Int) - (48 : Int))) = (Prod.fst (Prod.snd (Prod.snd y)))) ∧
     ((((Prod.snd (Prod.snd (Prod.snd x))) + (1 : Int)) = (Prod.snd (Prod.snd (Prod.snd y)))) ∧
     ((Nat.succ (Int.toNat ((((List.length (Prod.fst y)) : Nat) : Int) - (Prod.snd (Prod.snd (Prod.snd y)))))) ≤ (Int.toNat ((((List.length (Prod.fst x)) : Nat) : Int) - (Prod.snd (Prod.snd (Prod.snd x))))))))))))))))))))))
     (Br (Prod.fst (Prod.snd x))
     ((InR (- (Prod.fst (Prod.snd (Prod.snd x))))) ∧ (Ret K (.tup [(.int .i64 (- (Prod.fst (Prod.snd (Prod.snd x))))), (.bool true)]) []))
     (Ret K (.tup [(.int .i64 (Prod.fst (Prod.snd (Prod.snd x)))), (.bool true)]) [])))))))))))
     (Br (Decidable.decide ((((List.length l) : Nat) : Int) = (0 : Int)))
     (Ret K (.tup [(.int .i64 0), (.bool false)]) [])
     (Br (Decidable.decide ((17 : Int) < (((List.length l) : Nat) : Int)))
     (Ret K (.tup [(.int .i64 0), (.bool false)]) [])
     ((((0 : Int) ≤ (0 : Int)) ∧ ((0 : Int) < (((List.length l) : Nat) : Int))) ∧
     (Br (Decidable.decide ((((UInt8.toNat (List.getD l (Int.toNat (0 : Int)) (0 : UInt8))) : Nat) : Int) = (48 : Int)))
     (Br (Decidable.decide ((1 : Int) < (((List.length l) : Nat) : Int)))
     (Ret K (.tup [(.int .i64 0), (.bool false)]) [])
     (Br (Decidable.decide ((((UInt8.toNat (List.getD l (Int.toNat (0 : Int)) (0 : UInt8))) : Nat) : Int) = (45 : Int)))
     (Ret K (.tup [(.int .i64 0), (.bool false)]) [])
     ((∃ x : (Prod (List UInt8) (Prod Bool (Prod Int Int))),
     ((((List.length (Prod.fst x)) ≤ (2 : Nat)) ∧
     (((0 : Int) ≤ (Prod.snd (Prod.snd (Prod.snd x)))) ∧
     (((Prod.snd (Prod.snd (Prod.snd x))) ≤ (((List.length (Prod.fst x)) : Nat) : Int)) ∧
     (((0 : Int) ≤ (Prod.fst (Prod.snd (Prod.snd x)))) ∧
     ((((Prod.snd (Prod.snd (Prod.snd x))) = (0 : Int)) ∧ ((Prod.fst (Prod.snd (Prod.snd x))) = (0 : Int))) ∨ ((((Prod.snd (Prod.snd (Prod.snd x))) = (1 : Int)) ∧ ((Prod.fst (Prod.snd (Prod.snd x))) ≤ (9 : Int))) ∨ (((Prod.snd (Prod.snd (Prod.snd x))) = (2 : Int)) ∧ ((Prod.fst (Prod.snd (Prod.snd x))) ≤ (99 : Int))))))))) ∧
     ((l = (Prod.fst x)) ∧
     (((Decidable.decide ((((UInt8.toNat (List.getD l (Int.toNat (0 : Int)) (0 : UInt8))) : Nat) : Int) = (45 : Int))) = (Prod.fst (Prod.snd x))) ∧
     (((0 : Int) = (Prod.fst (Prod.snd (Prod.snd x)))) ∧ (((0 : Int) = (Prod.snd (Prod.snd (Prod.snd x)))) ∧ True)))))) ∧
     (∀ x : (Prod (List UInt8) (Prod Bool (Prod Int Int))),
     ((((List.length (Prod.fst x)) ≤ (2 : Nat)) ∧ (((0 : Int) ≤ (Prod.snd (Prod.snd (Prod.snd x)))) ∧ (((Prod.snd (Prod.snd (Prod.snd x))) ≤ (((List.length (Prod.fst x)) : Nat) : Int)) ∧ (((0 : Int) ≤ (Prod.fst (Prod.snd (Prod.snd x)))) ∧ ((((Prod.snd (Prod.snd (Prod.snd x))) = (0 : Int)) ∧ ((Prod.fst (Prod.snd (Prod.snd x))) = (0 : Int))) ∨ ((((Prod.snd (Prod.snd (Prod.snd x))) = (1 : Int)) ∧ ((Prod.fst (Prod.snd (Prod.snd x))) ≤ (9 : Int))) ∨ (((Prod.snd (Prod.snd (Prod.snd x))) = (2 : Int)) ∧ ((Prod.fst (Prod.snd (Prod.snd x))) ≤ (99 : Int))))))))) →
     (Br (Decidable.decide ((Prod.snd (Prod.snd (Prod.snd x))) < (((List.length (Prod.fst x)) : Nat) : Int)))
     ((((0 : Int) ≤ (Prod.snd (Prod.snd (Prod.snd x)))) ∧ ((Prod.snd (Prod.snd (Prod.snd x))) < (((List.length (Prod.fst x)) : Nat) : Int))) ∧
     (Br (Decidable.decide ((((UInt8.toNat (List.getD (Prod.fst x) (Int.toNat (Prod.snd (Prod.snd (Prod.snd x)))) (0 : UInt8))) : Nat) : Int) < (48 : Int)))
     (Ret K (.tup [(.int .i64 0), (.bool false)]) [])
     ((((0 : Int) ≤ (Prod.snd (Prod.snd (Prod.snd x)))) ∧ ((Prod.snd (Prod.snd (Prod.snd x))) < (((List.length (Prod.fst x)) : Nat) : Int))) ∧
     (Br (Decidable.decide ((57 : Int) < (((UInt8.toNat (List.getD (Prod.fst x) (Int.toNat (Prod.snd (Prod.snd (Prod.snd x)))) (0 : UInt8))) : Nat) : Int)))
     (Ret K (.tup [(.int .i64 0), (.bool false)]) [])
     ((InR ((Prod.fst (Prod.snd (Prod.snd x))) * (10 : Int))) ∧
     ((((0 : Int) ≤ (Prod.snd (Prod.snd (Prod.snd x)))) ∧ ((Prod.snd (Prod.snd (Prod.snd x))) < (((List.length (Prod.fst x)) : Nat) : Int))) ∧
     ((((0 : Int) ≤ ((((UInt8.toNat (List.getD (Prod.fst x) (Int.toNat (Prod.snd (Prod.snd (Prod.snd x)))) (0 : UInt8))) : Nat) : Int) - (48 : Int))) ∧
     (((((UInt8.toNat (List.getD (Prod.fst x) (Int.toNat (Prod.snd (Prod.snd (Prod.snd x)))) (0 : UInt8))) : Nat) : Int) - (48 : Int)) ≤ (255 : Int))) ∧
     ((InR ((((UInt8.toNat (List.getD (Prod.fst x) (Int.toNat (Prod.snd (Prod.snd (Prod.snd x)))) (0 : UInt8))) : Nat) : Int) - (48 : Int))) ∧
     ((InR (((Prod.fst (Prod.snd (Prod.snd x))) * (10 : Int)) + ((((UInt8.toNat (List.getD (Prod.fst x) (Int.toNat (Prod.snd (Prod.snd (Prod.snd x)))) (0 : UInt8))) : Nat) : Int) - (48 : Int)))) ∧
     ((InR ((Prod.snd (Prod.snd (Prod.snd x))) + (1 : Int))) ∧
     (∃ y : (Prod (List UInt8) (Prod Bool (Prod Int Int))),
     ((((List.length (Prod.fst y)) ≤ (2 : Nat)) ∧
     (((0 : Int) ≤ (Prod.snd (Prod.snd (Prod.snd y)))) ∧
     (((Prod.snd (Prod.snd (Prod.snd y))) ≤ (((List.length (Prod.fst y)) : Nat) : Int)) ∧
     (((0 : Int) ≤ (Prod.fst (Prod.snd (Prod.snd y)))) ∧
     ((((Prod.snd (Prod.snd (Prod.snd y))) = (0 : Int)) ∧ ((Prod.fst (Prod.snd (Prod.snd y))) = (0 : Int))) ∨ ((((Prod.snd (Prod.snd (Prod.snd y))) = (1 : Int)) ∧ ((Prod.fst (Prod.snd (Prod.snd y))) ≤ (9 : Int))) ∨ (((Prod.snd (Prod.snd (Prod.snd y))) = (2 : Int)) ∧ ((Prod.fst (Prod.snd (Prod.snd y))) ≤ (99 : Int))))))))) ∧
     (((Prod.fst x) = (Prod.fst y)) ∧
     (((Prod.fst (Prod.snd x)) = (Prod.fst (Prod.snd y))) ∧
     (((((Prod.fst (Prod.snd (Prod.snd x))) * (10 : Int)) + ((((UInt8.toNat (List.getD (Prod.fst x) (Int.toNat (Prod.snd (Prod.snd (Prod.snd x)))) (0 : UInt8))) : Nat) : Int) - (48 : Int))) = (Prod.fst (Prod.snd (Prod.snd y)))) ∧
     ((((Prod.snd (Prod.snd (Prod.snd x))) + (1 : Int)) = (Prod.snd (Prod.snd (Prod.snd y)))) ∧
     ((Nat.succ (Int.toNat ((((List.length (Prod.fst y)) : Nat) : Int) - (Prod.snd (Prod.snd (Prod.snd y)))))) ≤ (Int.toNat ((((List.length (Prod.fst x)) : Nat) : Int) - (Prod.snd (Prod.snd (Prod.snd x))))))))))))))))))))))
     (Br (Prod.fst (Prod.snd x))
     ((InR (- (Prod.fst (Prod.snd (Prod.snd x))))) ∧ (Ret K (.tup [(.int .i64 (- (Prod.fst (Prod.snd (Prod.snd x))))), (.bool true)]) []))
     (Ret K (.tup [(.int .i64 (Prod.fst (Prod.snd (Prod.snd x)))), (.bool true)]) []))))))))
     ((∃ x : (Prod (List UInt8) (Prod Bool (Prod Int Int))),
     ((((List.length (Prod.fst x)) ≤ (2 : Nat)) ∧
     (((0 : Int) ≤ (Prod.snd (Prod.snd (Prod.snd x)))) ∧
     (((Prod.snd (Prod.snd (Prod.snd x))) ≤ (((List.length (Prod.fst x)) : Nat) : Int)) ∧
     (((0 : Int) ≤ (Prod.fst (Prod.snd (Prod.snd x)))) ∧
     ((((Prod.snd (Prod.snd (Prod.snd x))) = (0 : Int)) ∧ ((Prod.fst (Prod.snd (Prod.snd x))) = (0 : Int))) ∨ ((((Prod.snd (Prod.snd (Prod.snd x))) = (1 : Int)) ∧ ((Prod.fst (Prod.snd (Prod.snd x))) ≤ (9 : Int))) ∨ (((Prod.snd (Prod.snd (Prod.snd x))) = (2 : Int)) ∧ ((Prod.fst (Prod.snd (Prod.snd x))) ≤ (99 : Int))))))))) ∧
     ((l = (Prod.fst x)) ∧
     (((Decidable.decide ((((UInt8.toNat (List.getD l (Int.toNat (0 : Int)) (0 : UInt8))) : Nat) : Int) = (45 : Int))) = (Prod.fst (Prod.snd x))) ∧
     (((0 : Int) = (Prod.fst (Prod.snd (Prod.snd x)))) ∧ (((0 : Int) = (Prod.snd (Prod.snd (Prod.snd x)))) ∧ True)))))) ∧
     (∀ x : (Prod (List UInt8) (Prod Bool (Prod Int Int))),
     ((((List.length (Prod.fst x)) ≤ (2 : Nat)) ∧ (((0 : Int) ≤ (Prod.snd (Prod.snd (Prod.snd x)))) ∧ (((Prod.snd (Prod.snd (Prod.snd x))) ≤ (((List.length (Prod.fst x)) : Nat) : Int)) ∧ (((0 : Int) ≤ (Prod.fst (Prod.snd (Prod.snd x)))) ∧ ((((Prod.snd (Prod.snd (Prod.snd x))) = (0 : Int)) ∧ ((Prod.fst (Prod.snd (Prod.snd x))) = (0 : Int))) ∨ ((((Prod.snd (Prod.snd (Prod.snd x))) = (1 : Int)) ∧ ((Prod.fst (Prod.snd (Prod.snd x))) ≤ (9 : Int))) ∨ (((Prod.snd (Prod.snd (Prod.snd x))) = (2 : Int)) ∧ ((Prod.fst (Prod.snd (Prod.snd x))) ≤ (99 : Int))))))))) →
     (Br (Decidable.decide ((Prod.snd (Prod.snd (Prod.snd x))) < (((List.length (Prod.fst x)) : Nat) : Int)))
     ((((0 : Int) ≤ (Prod.snd (Prod.snd (Prod.snd x)))) ∧ ((Prod.snd (Prod.snd (Prod.snd x))) < (((List.length (Prod.fst x)) : Nat) : Int))) ∧
     (Br (Decidable.decide ((((UInt8.toNat (List.getD (Prod.fst x) (Int.toNat (Prod.snd (Prod.snd (Prod.snd x)))) (0 : UInt8))) : Nat) : Int) < (48 : Int)))
     (Ret K (.tup [(.int .i64 0), (.bool false)]) [])
     ((((0 : Int) ≤ (Prod.snd (Prod.snd (Prod.snd x)))) ∧ ((Prod.snd (Prod.snd (Prod.snd x))) < (((List.length (Prod.fst x)) : Nat) : Int))) ∧
     (Br (Decidable.decide ((57 : Int) < (((UInt8.toNat (List.getD (Prod.fst x) (Int.toNat (Prod.snd (Prod.snd (Prod.snd x)))) (0 : UInt8))) : Nat) : Int)))
     (Ret K (.tup [(.int .i64 0), (.bool false)]) [])
     ((InR ((Prod.fst (Prod.snd (Prod.snd x))) * (10 : Int))) ∧
     ((((0 : Int) ≤ (Prod.snd (Prod.snd (Prod.snd x)))) ∧ ((Prod.snd (Prod.snd (Prod.snd x))) < (((List.length (Prod.fst x)) : Nat) : Int))) ∧
     ((((0 : Int) ≤ ((((UInt8.toNat (List.getD (Prod.fst x) (Int.toNat (Prod.snd (Prod.snd (Prod.snd x)))) (0 : UInt8))) : Nat) : Int) - (48 : Int))) ∧
     (((((UInt8.toNat (List.getD (Prod.fst x) (Int.toNat (Prod.snd (Prod.snd (Prod.snd x)))) (0 : UInt8))) : Nat) : Int) - (48 : Int)) ≤ (255 : Int))) ∧
     ((InR ((((UInt8.toNat (List.getD (Prod.fst x) (Int.toNat (Prod.snd (Prod.snd (Prod.snd x)))) (0 : UInt8))) : Nat) : Int) - (48 : Int))) ∧
     ((InR (((Prod.fst (Prod.snd (Prod.snd x))) * (10 : Int)) + ((((UInt8.toNat (List.getD (Prod.fst x) (Int.toNat (Prod.snd (Prod.snd (Prod.snd x)))) (0 : UInt8))) : Nat) : Int) - (48 : Int)))) ∧
     ((InR ((Prod.snd (Prod.snd (Prod.snd x))) + (1 : Int))) ∧
     (∃ y : (Prod (List UInt8) (Prod Bool (Prod Int Int))),
     ((((List.length (Prod.fst y)) ≤ (2 : Nat)) ∧
     (((0 : Int) ≤ (Prod.snd (Prod.snd (Prod.snd y)))) ∧
     (((Prod.snd (Prod.snd (Prod.snd y))) ≤ (((List.length (Prod.fst y)) : Nat) : Int)) ∧
     (((0 : Int) ≤ (Prod.fst (Prod.snd (Prod.snd y)))) ∧
     ((((Prod.snd (Prod.snd (Prod.snd y))) = (0 : Int)) ∧ ((Prod.fst (Prod.snd (Prod.snd y))) = (0 : Int))) ∨ ((((Prod.snd (Prod.snd (Prod.snd y))) = (1 : Int)) ∧ ((Prod.fst (Prod.snd (Prod.snd y))) ≤ (9 : Int))) ∨ (((Prod.snd (Prod.snd (Prod.snd y))) = (2 : Int)) ∧ ((Prod.fst (Prod.snd (Prod.snd y))) ≤ (99 : Int))))))))) ∧
     (((Prod.fst x) = (Prod.fst y)) ∧
     (((Prod.fst (Prod.snd x)) = (Prod.fst (Prod.snd y))) ∧
     (((((Prod.fst (Prod.snd (Prod.snd x))) * (10 : Int)) + ((((UInt8.toNat (List.getD (Prod.fst x) (Int.toNat (Prod.snd (Prod.snd (Prod.snd x)))) (0 : UInt8))) : Nat) : Int) - (48 : Int))) = (Prod.fst (Prod.snd (Prod.snd y)))) ∧
     ((((Prod.snd (Prod.snd (Prod.snd x))) + (1 : Int)) = (Prod.snd (Prod.snd (Prod.snd y)))) ∧
     ((Nat.succ (Int.toNat ((((List.length (Prod.fst y)) : Nat) : Int) - (Prod.snd (Prod.snd (Prod.snd y)))))) ≤ (Int.toNat ((((List.length (Prod.fst x)) : Nat) : Int) - (Prod.snd (Prod.snd (Prod.snd x))))))))))))))))))))))
     (Br (Prod.fst (Prod.snd x))
     ((InR (- (Prod.fst (Prod.snd (Prod.snd x))))) ∧ (Ret K (.tup [(.int .i64 (- (Prod.fst (Prod.snd (Prod.snd x))))), (.bool true)]) []))
     (Ret K (.tup [(.int .i64 (Prod.fst (Prod.snd (Prod.snd x)))), (.bool true)]) []))))))))))))
     (Br (Decidable.decide ((((List.length l) : Nat) : Int) = (0 : Int)))
     (Ret K (.tup [(.int .i64 0), (.bool false)]) [])
     (Br (Decidable.decide ((17 : Int) < (((List.length l) : Nat) : Int)))
     (Ret K (.tup [(.int .i64 0), (.bool false)]) [])
     ((((0 : Int) ≤ (0 : Int)) ∧ ((0 : Int) < (((List.length l) : Nat) : Int))) ∧
     (Br (Decidable.decide ((((UInt8.toNat (List.getD l (Int.toNat (0 : Int)) (0 : UInt8))) : Nat) : Int) = (48 : Int)))
     (Br (Decidable.decide ((1 : Int) < (((List.length l) : Nat) : Int)))
     (Ret K (.tup [(.int .i64 0), (.bool false)]) [])
     ((∃ x : (Prod (List UInt8) (Prod Bool (Prod Int Int))),
     ((((List.length (Prod.fst x)) ≤ (2 : Nat)) ∧
     (((0 : Int) ≤ (Prod.snd (Prod.snd (Prod.snd x)))) ∧
     (((Prod.snd (Prod.snd (Prod.snd x))) ≤ (((List.length (Prod.fst x)) : Nat) : Int)) ∧
     (((0 : Int) ≤ (Prod.fst (Prod.snd (Prod.snd x)))) ∧
     ((((Prod.snd (Prod.snd (Prod.snd x))) = (0 : Int)) ∧ ((Prod.fst (Prod.snd (Prod.snd x))) = (0 : Int))) ∨ ((((Prod.snd (Prod.snd (Prod.snd x))) = (1 : Int)) ∧ ((Prod.fst (Prod.snd (Prod.snd x))) ≤ (9 : Int))) ∨ (((Prod.snd (Prod.snd (Prod.snd x))) = (2 : Int)) ∧ ((Prod.fst (Prod.snd (Prod.snd x))) ≤ (99 : Int))))))))) ∧
     ((l = (Prod.fst x)) ∧
     ((false = (Prod.fst (Prod.snd x))) ∧ (((0 : Int) = (Prod.fst (Prod.snd (Prod.snd x)))) ∧ (((0 : Int) = (Prod.snd (Prod.snd (Prod.snd x)))) ∧ True)))))) ∧
     (∀ x : (Prod (List UInt8) (Prod Bool (Prod Int Int))),
     ((((List.length (Prod.fst x)) ≤ (2 : Nat)) ∧ (((0 : Int) ≤ (Prod.snd (Prod.snd (Prod.snd x)))) ∧ (((Prod.snd (Prod.snd (Prod.snd x))) ≤ (((List.length (Prod.fst x)) : Nat) : Int)) ∧ (((0 : Int) ≤ (Prod.fst (Prod.snd (Prod.snd x)))) ∧ ((((Prod.snd (Prod.snd (Prod.snd x))) = (0 : Int)) ∧ ((Prod.fst (Prod.snd (Prod.snd x))) = (0 : Int))) ∨ ((((Prod.snd (Prod.snd (Prod.snd x))) = (1 : Int)) ∧ ((Prod.fst (Prod.snd (Prod.snd x))) ≤ (9 : Int))) ∨ (((Prod.snd (Prod.snd (Prod.snd x))) = (2 : Int)) ∧ ((Prod.fst (Prod.snd (Prod.snd x))) ≤ (99 : Int))))))))) →
     (Br (Decidable.decide ((Prod.snd (Prod.snd (Prod.snd x))) < (((List.length (Prod.fst x)) : Nat) : Int)))
     ((((0 : Int) ≤ (Prod.snd (Prod.snd (Prod.snd x)))) ∧ ((Prod.snd (Prod.snd (Prod.snd x))) < (((List.length (Prod.fst x)) : Nat) : Int))) ∧
     (Br (Decidable.decide ((((UInt8.toNat (List.getD (Prod.fst x) (Int.toNat (Prod.snd (Prod.snd (Prod.snd x)))) (0 : UInt8))) : Nat) : Int) < (48 : Int)))
     (Ret K (.tup [(.int .i64 0), (.bool false)]) [])
     ((((0 : Int) ≤ (Prod.snd (Prod.snd (Prod.snd x)))) ∧ ((Prod.snd (Prod.snd (Prod.snd x))) < (((List.length (Prod.fst x)) : Nat) : Int))) ∧
     (Br (Decidable.decide ((57 : Int) < (((UInt8.toNat (List.getD (Prod.fst x) (Int.toNat (Prod.snd (Prod.snd (Prod.snd x)))) (0 : UInt8))) : Nat) : Int)))
     (Ret K (.tup [(.int .i64 0), (.bool false)]) [])
     ((InR ((Prod.fst (Prod.snd (Prod.snd x))) * (10 : Int))) ∧
     ((((0 : Int) ≤ (Prod.snd (Prod.snd (Prod.snd x)))) ∧ ((Prod.snd (Prod.snd (Prod.snd x))) < (((List.length (Prod.fst x)) : Nat) : Int))) ∧
     ((((0 : Int) ≤ ((((UInt8.toNat (List.getD (Prod.fst x) (Int.toNat (Prod.snd (Prod.snd (Prod.snd x)))) (0 : UInt8))) : Nat) : Int) - (48 : Int))) ∧
     (((((UInt8.toNat (List.getD (Prod.fst x) (Int.toNat (Prod.snd (Prod.snd (Prod.snd x)))) (0 : UInt8))) : Nat) : Int) - (48 : Int)) ≤ (255 : Int))) ∧
     ((InR ((((UInt8.toNat (List.getD (Prod.fst x) (Int.toNat (Prod.snd (Prod.snd (Prod.snd x)))) (0 : UInt8))) : Nat) : Int) - (48 : Int))) ∧
     ((InR (((Prod.fst (Prod.snd (Prod.snd x))) * (10 : Int)) + ((((UInt8.toNat (List.getD (Prod.fst x) (Int.toNat (Prod.snd (Prod.snd (Prod.snd x)))) (0 : UInt8))) : Nat) : Int) - (48 : Int)))) ∧
     ((InR ((Prod.snd (Prod.snd (Prod.snd x))) + (1 : Int))) ∧
     (∃ y : (Prod (List UInt8) (Prod Bool (Prod Int Int))),
     ((((List.length (Prod.fst y)) ≤ (2 : Nat)) ∧
     (((0 : Int) ≤ (Prod.snd (Prod.snd (Prod.snd y)))) ∧
     (((Prod.snd (Prod.snd (Prod.snd y))) ≤ (((List.length (Prod.fst y)) : Nat) : Int)) ∧
     (((0 : Int) ≤ (Prod.fst (Prod.snd (Prod.snd y)))) ∧
     ((((Prod.snd (Prod.snd (Prod.snd y))) = (0 : Int)) ∧ ((Prod.fst (Prod.snd (Prod.snd y))) = (0 : Int))) ∨ ((((Prod.snd (Prod.snd (Prod.snd y))) = (1 : Int)) ∧ ((Prod.fst (Prod.snd (Prod.snd y))) ≤ (9 : Int))) ∨ (((Prod.snd (Prod.snd (Prod.snd y))) = (2 : Int)) ∧ ((Prod.fst (Prod.snd (Prod.snd y))) ≤ (99 : Int))))))))) ∧
     (((Prod.fst x) = (Prod.fst y)) ∧
     (((Prod.fst (Prod.snd x)) = (Prod.fst (Prod.snd y))) ∧
     (((((Prod.fst (Prod.snd (Prod.snd x))) * (10 : Int)) + ((((UInt8.toNat (List.getD (Prod.fst x) (Int.toNat (Prod.snd (Prod.snd (Prod.snd x)))) (0 : UInt8))) : Nat) : Int) - (48 : Int))) = (Prod.fst (Prod.snd (Prod.snd y)))) ∧
     ((((Prod.snd (Prod.snd (Prod.snd x))) + (1 : Int)) = (Prod.snd (Prod.snd (Prod.snd y)))) ∧
     ((Nat.succ (Int.toNat ((((List.length (Prod.fst y)) : Nat) : Int) - (Prod.snd (Prod.snd (Prod.snd y)))))) ≤ (Int.toNat ((((List.length (Prod.fst x)) : Nat) : Int) - (Prod.snd (Prod.snd (Prod.snd x))))))))))))))))))))))
     (Br (Prod.fst (Prod.snd x))
     ((InR (- (Prod.fst (Prod.snd (Prod.snd x))))) ∧ (Ret K (.tup [(.int .i64 (- (Prod.fst (Prod.snd (Prod.snd x))))), (.bool true)]) []))
     (Ret K (.tup [(.int .i64 (Prod.fst (Prod.snd (Prod.snd x)))), (.bool true)]) [])))))))
     ((∃ x : (Prod (List UInt8) (Prod Bool (Prod Int Int))),
     ((((List.length (Prod.fst x)) ≤ (2 : Nat)) ∧
     (((0 : Int) ≤ (Prod.snd (Prod.snd (Prod.snd x)))) ∧
     (((Prod.snd (Prod.snd (Prod.snd x))) ≤ (((List.length (Prod.fst x)) : Nat) : Int)) ∧
     (((0 : Int) ≤ (Prod.fst (Prod.snd (Prod.snd x)))) ∧
     ((((Prod.snd (Prod.snd (Prod.snd x))) = (0 : Int)) ∧ ((Prod.fst (Prod.snd (Prod.snd x))) = (0 : Int))) ∨ ((((Prod.snd (Prod.snd (Prod.snd x))) = (1 : Int)) ∧ ((Prod.fst (Prod.snd (Prod.snd x))) ≤ (9 : Int))) ∨ (((Prod.snd (Prod.snd (Prod.snd x))) = (2 : Int)) ∧ ((Prod.fst (Prod.snd (Prod.snd x))) ≤ (99 : Int))))))))) ∧
     ((l = (Prod.fst x)) ∧
     ((false = (Prod.fst (Prod.snd x))) ∧ (((0 : Int) = (Prod.fst (Prod.snd (Prod.snd x)))) ∧ (((0 : Int) = (Prod.snd (Prod.snd (Prod.snd x)))) ∧ True)))))) ∧
     (∀ x : (Prod (List UInt8) (Prod Bool (Prod Int Int))),
     ((((List.length (Prod.fst x)) ≤ (2 : Nat)) ∧ (((0 : Int) ≤ (Prod.snd (Prod.snd (Prod.snd x)))) ∧ (((Prod.snd (Prod.snd (Prod.snd x))) ≤ (((List.length (Prod.fst x)) : Nat) : Int)) ∧ (((0 : Int) ≤ (Prod.fst (Prod.snd (Prod.snd x)))) ∧ ((((Prod.snd (Prod.snd (Prod.snd x))) = (0 : Int)) ∧ ((Prod.fst (Prod.snd (Prod.snd x))) = (0 : Int))) ∨ ((((Prod.snd (Prod.snd (Prod.snd x))) = (1 : Int)) ∧ ((Prod.fst (Prod.snd (Prod.snd x))) ≤ (9 : Int))) ∨ (((Prod.snd (Prod.snd (Prod.snd x))) = (2 : Int)) ∧ ((Prod.fst (Prod.snd (Prod.snd x))) ≤ (99 : Int))))))))) →
     (Br (Decidable.decide ((Prod.snd (Prod.snd (Prod.snd x))) < (((List.length (Prod.fst x)) : Nat) : Int)))
     ((((0 : Int) ≤ (Prod.snd (Prod.snd (Prod.snd x)))) ∧ ((Prod.snd (Prod.snd (Prod.snd x))) < (((List.length (Prod.fst x)) : Nat) : Int))) ∧
     (Br (Decidable.decide ((((UInt8.toNat (List.getD (Prod.fst x) (Int.toNat (Prod.snd (Prod.snd (Prod.snd x)))) (0 : UInt8))) : Nat) : Int) < (48 : Int)))
     (Ret K (.tup [(.int .i64 0), (.bool false)]) [])
     ((((0 : Int) ≤ (Prod.snd (Prod.snd (Prod.snd x)))) ∧ ((Prod.snd (Prod.snd (Prod.snd x))) < (((List.length (Prod.fst x)) : Nat) : Int))) ∧
     (Br (Decidable.decide ((57 : Int) < (((UInt8.toNat (List.getD (Prod.fst x) (Int.toNat (Prod.snd (Prod.snd (Prod.snd x)))) (0 : UInt8))) : Nat) : Int)))
     (Ret K (.tup [(.int .i64 0), (.bool false)]) [])
     ((InR ((Prod.fst (Prod.snd (Prod.snd x))) * (10 : Int))) ∧
     ((((0 : Int) ≤ (Prod.snd (Prod.snd (Prod.snd x)))) ∧ ((Prod.snd (Prod.snd (Prod.snd x))) < (((List.length (Prod.fst x)) : Nat) : Int))) ∧
     ((((0 : Int) ≤ ((((UInt8.toNat (List.getD (Prod.fst x) (Int.toNat (Prod.snd (Prod.snd (Prod.snd x)))) (0 : UInt8))) : Nat) : Int) - (48 : Int))) ∧
     (((((UInt8.toNat (List.getD (Prod.fst x) (Int.toNat (Prod.snd (Prod.snd (Prod.snd x)))) (0 : UInt8))) : Nat) : Int) - (48 : Int)) ≤ (255 : Int))) ∧
     ((InR ((((UInt8.toNat (List.getD (Prod.fst x) (Int.toNat (Prod.snd (Prod.snd (Prod.snd x)))) (0 : UInt8))) : Nat) : Int) - (48 : Int))) ∧
     ((InR (((Prod.fst (Prod.snd (Prod.snd x))) * (10 : Int)) + ((((UInt8.toNat (List.getD (Prod.fst x) (Int.toNat (Prod.snd (Prod.snd (Prod.snd x)))) (0 : UInt8))) : Nat) : Int) - (48 : Int)))) ∧
     ((InR ((Prod.snd (Prod.snd (Prod.snd x))) + (1 : Int))) ∧
     (∃ y : (Prod (List UInt8) (Prod Bool (Prod Int Int))),
     ((((List.length (Prod.fst y)) ≤ (2 : Nat)) ∧
     (((0 : Int) ≤ (Prod.snd (Prod.snd (Prod.snd y)))) ∧
     (((Prod.snd (Prod.snd (Prod.snd y))) ≤ (((List.length (Prod.fst y)) : Nat) : Int)) ∧
     (((0 : Int) ≤ (Prod.fst (Prod.snd (Prod.snd y)))) ∧
     ((((Prod.snd (Prod.snd (Prod.snd y))) = (0 : Int)) ∧ ((Prod.fst (Prod.snd (Prod.snd y))) = (0 : Int))) ∨ ((((Prod.snd (Prod.snd (Prod.snd y))) = (1 : Int)) ∧ ((Prod.fst (Prod.snd (Prod.snd y))) ≤ (9 : Int))) ∨ (((Prod.snd (Prod.snd (Prod.snd y))) = (2 : Int)) ∧ ((Prod.fst (Prod.snd (Prod.snd y))) ≤ (99 : Int))))))))) ∧
     (((Prod.fst x) = (Prod.fst y)) ∧
     (((Prod.fst (Prod.snd x)) = (Prod.fst (Prod.snd y))) ∧
     (((((Prod.fst (Prod.snd (Prod.snd x))) * (10 : Int)) + ((((UInt8.toNat (List.getD (Prod.fst x) (Int.toNat (Prod.snd (Prod.snd (Prod.snd x)))) (0 : UInt8))) : Nat) : Int) - (48 : Int))) = (Prod.fst (Prod.snd (Prod.snd y)))) ∧
     ((((Prod.snd (Prod.snd (Prod.snd x))) + (1 : Int)) = (Prod.snd (Prod.snd (Prod.snd y)))) ∧
     ((Nat.succ (Int.toNat ((((List.length (Prod.fst y)) : Nat) : Int) - (Prod.snd (Prod.snd (Prod.snd y)))))) ≤ (Int.toNat ((((List.length (Prod.fst x)) : Nat) : Int) - (Prod.snd (Prod.snd (Prod.snd x))))))))))))))))))))))
     (Br (Prod.fst (Prod.snd x))
     ((InR (- (Prod.fst (Prod.snd (Prod.snd x))))) ∧ (Ret K (.tup [(.int .i64 (- (Prod.fst (Prod.snd (Prod.snd x))))), (.bool true)]) []))
     (Ret K (.tup [(.int .i64 (Prod.fst (Prod.snd (Prod.snd x)))), (.bool true)]) [])))))))))))) ?_ (by kernel_rfl)
  have bad : Ret K (.tup [.int .i64 0, .bool false]) [] := retIB (hk 0 false (by unfold InR; omega)) rfl rfl
  have good : ∀ n, -1000 ≤ n ∧ n ≤ 1000 → Ret K (.tup [.int .i64 n, .bool true]) [] := fun n h => retIB (hk n true (by unfold InR; omega)) rfl rfl
  clear hk
  simp only [InR, List.length_drop]
  repeat' first
    | exact bad
    | (refine good _ ?_; omega)
    | refine ⟨(_, _, _, _), ?_, rfl, rfl, rfl, rfl, ?_⟩
    | refine brd (fun _ => ?_) (fun _ => ?_)
    | refine br (fun _ => ?_) (fun _ => ?_)
    | (rintro ⟨s, b, n, i⟩ h; simp only at h ⊢)
    | exact Or.inl ⟨rfl, rfl⟩
    | apply And.intro
    | exact trivial
    | omega
    | (simp only [List.length_drop]; omega)
theorem wNum_sound : Sound Try.prog 74 cwNum := by
  refine soundF (G := []) (gnil) Try.func74 rfl (by kernel_rfl) fun args hs K hCC => ?_
  unfold cwNum at hCC
  split at hCC
  case h_2 => exact hCC.elim
  rename_i l
  exact ⟨Nat.le_of_ble_eq_true rfl, _, wNum_ok l K hCC.1 hCC.2⟩
/-- spec.l1Number -/
def cwNumber : Con
  | [.str l, .int .i64 (a), .int .i64 (d)], [], K => (((l.length ≤ 10000 ∧ 0 ≤ a ∧ a ≤ l.length) ∧ 1 ≤ d ∧ d ≤ 2)) ∧ ((∀ (n e : Int), InR n → (e = -1 ∨ (a ≤ e ∧ e ≤ l.length)) → K (.tup [.int .i64 n, .int .i64 e]) []))
  | _, _, _ => False
theorem wNumber_ok (l : List UInt8) (a d : Int) (K : AV → List AV → Prop) (hp : (((l.length ≤ 10000 ∧ 0 ≤ a ∧ a ≤ l.length) ∧ 1 ≤ d ∧ d ≤ 2))) (hk : ((∀ (n e : Int), InR n → (e = -1 ∨ (a ≤ e ∧ e ≤ l.length)) → K (.tup [.int .i64 n, .int .i64 e]) []))) :
    bodyQ [(74, cwNum)] TY [(2, { ι := Int, ok := fun x => a ≤ x ∧ x ≤ l.length ∧ x ≤ a + d, tl := fun x => [(0, .str l), (1, .int .i64 a), (2, .int .i64 d), (8, .int .i64 x)], hl := fun _ => [], fh := fun _ => [], μ := fun x => (l.length - x).toNat })] Try.f69 (body Try.f69) [.str l, .int .i64 (a), .int .i64 (d)] [] K := by
  refine of_vc (A :=
    ((∃ x : Int, (((a ≤ x) ∧ ((x ≤ (((List.length l) : Nat) : Int)) ∧ (x ≤ (a + d)))) ∧ ((l = l) ∧ ((a = a) ∧ ((d = d) ∧ ((a = x) ∧ True)))))) ∧
     (∀ x : Int,
     (((a ≤ x) ∧ ((x ≤ (((List.length l) : Nat) : Int)) ∧ (x ≤ (a + d)))) →
     (Br (Decidable.decide (x < (((List.length l) : Nat) : Int)))
     ((InR (a + d)) ∧
     (Br (Decidable.decide (x < (a + d)))
     ((((0 : Int) ≤ x) ∧ (x < (((List.length l) : Nat) : Int))) ∧
     (Br (Decidable.decide ((48 : Int) ≤ (((UInt8.toNat (List.getD l (Int.toNat x) (0 : UInt8))) : Nat) : Int)))
     ((((0 : Int) ≤ x) ∧ (x < (((List.length l) : Nat) : Int))) ∧
     (Br (Decidable.decide ((((UInt8.toNat (List.getD l (Int.toNat x) (0 : UInt8))) : Nat) : Int) ≤ (57 : Int)))
     ((InR (x + (1 : Int))) ∧
     (∃ y : Int,
     (((a ≤ y) ∧ ((y ≤ (((List.length l) : Nat) : Int)) ∧ (y ≤ (a + d)))) ∧
     ((l = l) ∧
     ((a = a) ∧
     ((d = d) ∧ (((x + (1 : Int)) = y) ∧ ((Nat.succ (Int.toNat ((((List.length l) : Nat) : Int) - y))) ≤ (Int.toNat ((((List.length l) : Nat) : Int) - x))))))))))
     ((((0 : Int) ≤ a) ∧ ((a ≤ x) ∧ (x ≤ (((List.length l) : Nat) : Int)))) ∧
     (((List.length (List.take ((Int.toNat x) - (Int.toNat a)) (List.drop (Int.toNat a) l))) ≤ (2 : Nat)) ∧
     (∀ n : Int,
     (∀ b : Bool,
     ((InR n) → (Br (Bool.not b) (Ret K (.tup [(.int .i64 0), (.int .i64 (- (1 : Int)))]) []) (Ret K (.tup [(.int .i64 n), (.int .i64 x)]) [])))))))))
     ((((0 : Int) ≤ a) ∧ ((a ≤ x) ∧ (x ≤ (((List.length l) : Nat) : Int)))) ∧
     (((List.length (List.take ((Int.toNat x) - (Int.toNat a)) (List.drop (Int.toNat a) l))) ≤ (2 : Nat)) ∧
     (∀ n : Int,
     (∀ b : Bool,
     ((InR n) → (Br (Bool.not b) (Ret K (.tup [(.int .i64 0), (.int .i64 (- (1 : Int)))]) []) (Ret K (.tup [(.int .i64 n), (.int .i64 x)]) [])))))))))
     ((((0 : Int) ≤ a) ∧ ((a ≤ x) ∧ (x ≤ (((List.length l) : Nat) : Int)))) ∧
     (((List.length (List.take ((Int.toNat x) - (Int.toNat a)) (List.drop (Int.toNat a) l))) ≤ (2 : Nat)) ∧
     (∀ n : Int,
     (∀ b : Bool,
     ((InR n) → (Br (Bool.not b) (Ret K (.tup [(.int .i64 0), (.int .i64 (- (1 : Int)))]) []) (Ret K (.tup [(.int .i64 n), (.int .i64 x)]) [])))))))))
     ((((0 : Int) ≤ a) ∧ ((a ≤ x) ∧ (x ≤ (((List.length l) : Nat) : Int)))) ∧
     (((List.length (List.take ((Int.toNat x) - (Int.toNat a)) (List.drop (Int.toNat a) l))) ≤ (2 : Nat)) ∧
     (∀ n : Int,
     (∀ b : Bool,
     ((InR n) → (Br (Bool.not b) (Ret K (.tup [(.int .i64 0), (.int .i64 (- (1 : Int)))]) []) (Ret K (.tup [(.int .i64 n), (.int .i64 x)]) [])))))))))))) ?_ (by kernel_rfl)
  have bad : Ret K (.tup [.int .i64 0, .int .i64 (-1)]) [] := retII (hk 0 (-1) (by unfold InR; omega) (Or.inl rfl)) rfl rfl
  have good : ∀ n e, InR n → a ≤ e ∧ e ≤ l.length → Ret K (.tup [.int .i64 n, .int .i64 e]) [] := fun n e h1 h2 => retII (hk n e h1 (Or.inr h2)) rfl rfl
  have tl : ∀ x : Int, x ≤ a + d → (List.take (x.toNat - a.toNat) (List.drop a.toNat l)).length ≤ 2 := fun x h => by rw [List.length_take]; omega
  clear hk
  refine ⟨⟨a, by omega, rfl, rfl, rfl, rfl, trivial⟩, ?_⟩
  intro x hx
  repeat' first
    | exact bad
    | exact good _ _ (by assumption) (by omega)
    | exact tl _ (by omega)
    | refine ⟨x + 1, ?_, rfl, rfl, rfl, rfl, ?_⟩
    | refine brd (fun _ => ?_) (fun _ => ?_)
    | refine br (fun _ => ?_) (fun _ => ?_)
    | apply And.intro
    | omega
    | (unfold InR; omega)
    | intro
theorem wNumber_sound : Sound Try.prog 69 cwNumber := by
  refine soundF (G := [(74, cwNum)]) ((gcons wNum_sound gnil)) Try.func69 rfl (by kernel_rfl) fun args hs K hCC => ?_
  unfold cwNumber at hCC
  split at hCC
  case h_2 => exact hCC.elim
  rename_i l a d
  exact ⟨Nat.le_of_ble_eq_true rfl, _, wNumber_ok l a d K hCC.1 hCC.2⟩
/-- spec.l1Parse -/
def cwParseM (m : Nat) : Con
  | [.str l, .int .i64 (a), .int .i64 (d)], [], K => (((3 * d + 2).toNat) < m ∧ (((l.length ≤ 10000 ∧ 0 ≤ a ∧ a ≤ 20000) ∧ 0 ≤ d ∧ d ≤ 30))) ∧ ((∀ (t : T) (e : Int), prs l.length a t e → K (.tup [t.av fz, .int .i64 e]) []))
  | _, _, _ => False
def cwParse : Con
  | [.str l, .int .i64 (a), .int .i64 (d)], [], K => (((l.length ≤ 10000 ∧ 0 ≤ a ∧ a ≤ 20000) ∧ 0 ≤ d ∧ d ≤ 30)) ∧ ((∀ (t : T) (e : Int), prs l.length a t e → K (.tup [t.av fz, .int .i64 e]) []))
  | _, _, _ => False
/-- spec.l1Prefix -/
def cwPrefixM (m : Nat) : Con
  | [.str l, .int .i64 (a), .int .i64 (d)], [], K => (((3 * d + 1).toNat) < m ∧ (((l.length ≤ 10000 ∧ 0 ≤ a ∧ a < l.length) ∧ 1 ≤ d ∧ d ≤ 30))) ∧ ((∀ (t : T) (e : Int), prs l.length a t e → K (.tup [t.av fz, .int .i64 e]) []))
  | _, _, _ => False
def cwPrefix : Con
  | [.str l, .int .i64 (a), .int .i64 (d)], [], K => (((l.length ≤ 10000 ∧ 0 ≤ a ∧ a < l.length) ∧ 1 ≤ d ∧ d ≤ 30)) ∧ ((∀ (t : T) (e : Int), prs l.length a t e → K (.tup [t.av fz, .int .i64 e]) []))
  | _, _, _ => False
/-- spec.l1Round -/
def cwRoundM (m : Nat) : Con
  | [.str l, .int .i64 (a), .int .i64 (d)], [], K => (((3 * d + 3).toNat) < m ∧ (((l.length ≤ 10000 ∧ 0 ≤ a ∧ a ≤ l.length) ∧ 0 ≤ d ∧ d ≤ 30))) ∧ ((∀ (t : T) (e : Int), prs l.length a t e → K (.tup [t.av fz, .int .i64 e]) []))
  | _, _, _ => False
def cwRound : Con
  | [.str l, .int .i64 (a), .int .i64 (d)], [], K => (((l.length ≤ 10000 ∧ 0 ≤ a ∧ a ≤ l.length) ∧ 0 ≤ d ∧ d ≤ 30)) ∧ ((∀ (t : T) (e : Int), prs l.length a t e → K (.tup [t.av fz, .int .i64 e]) []))
  | _, _, _ => False
/-- spec.l1Block -/
def cwBlockM (m : Nat) : Con
  | [.str l, .int .i64 (a), .int .i64 (d)], [], K => (((3 * d + 1).toNat) < m ∧ (((l.length ≤ 10000 ∧ 0 ≤ a ∧ a < l.length) ∧ 1 ≤ d ∧ d ≤ 30))) ∧ ((∀ (t : T) (e : Int), prs l.length a t e → K (.tup [t.av fz, .int .i64 e]) []))
  | _, _, _ => False
def cwBlock : Con
  | [.str l, .int .i64 (a), .int .i64 (d)], [], K => (((l.length ≤ 10000 ∧ 0 ≤ a ∧ a < l.length) ∧ 1 ≤ d ∧ d ≤ 30)) ∧ ((∀ (t : T) (e : Int), prs l.length a t e → K (.tup [t.av fz, .int .i64 e]) []))
  | _, _, _ => False
/-- spec.l1Series -/
def cwSeriesM (m : Nat) : Con
  | [.str l, .int .i64 (a), .int .i64 (d), .int .i64 (w), .int .u8 c], [], K => (((3 * d + 3).toNat) < m ∧ (((l.length ≤ 10000 ∧ 0 ≤ a ∧ a ≤ l.length) ∧ (0 ≤ d ∧ d ≤ 30) ∧ w ≤ 4))) ∧ ((∀ (ts : List T) (e : Int), (e = -1 ∧ sizeL ts = 0 ∨ (a ≤ e ∧ e ≤ l.length ∧ (sizeL ts : Int) ≤ e - a)) → K (.tup [.slc ts fz, .int .i64 e]) []))
  | _, _, _ => False
def cwSeries : Con
  | [.str l, .int .i64 (a), .int .i64 (d), .int .i64 (w), .int .u8 c], [], K => (((l.length ≤ 10000 ∧ 0 ≤ a ∧ a ≤ l.length) ∧ (0 ≤ d ∧ d ≤ 30) ∧ w ≤ 4)) ∧ ((∀ (ts : List T) (e : Int), (e = -1 ∧ sizeL ts = 0 ∨ (a ≤ e ∧ e ≤ l.length ∧ (sizeL ts : Int) ≤ e - a)) → K (.tup [.slc ts fz, .int .i64 e]) []))
  | _, _, _ => False
theorem wParse_ok (m : Nat) (l : List UInt8) (a d : Int) (K : AV → List AV → Prop) (hm : ((3 * d + 2).toNat) < m + 1) (hp : (((l.length ≤ 10000 ∧ 0 ≤ a ∧ a ≤ 20000) ∧ 0 ≤ d ∧ d ≤ 30))) (hk : ((∀ (t : T) (e : Int), prs l.length a t e → K (.tup [t.av fz, .int .i64 e]) []))) :
    bodyQ [(67, cwParseM m), (70, cwPrefixM m), (71, cwRoundM m), (72, cwBlockM m), (75, cwSeriesM m), (69, cwNumber), (45, csLeaf), (46, csNode)] TY [] Try.f67 (body Try.f67) [.str l, .int .i64 (a), .int .i64 (d)] [] K := by
  refine of_vc (A :=
    (Br (Decidable.decide (d < (1 : Int)))
     (Ret K (.tup [(.st [(.int .i64 0), (.int .i64 0), (.slc [] (.iv 0 0 true .full))]), (.int .i64 (- (1 : Int)))]) [])
     (Br (Decidable.decide (a < (0 : Int)))
     (Ret K (.tup [(.st [(.int .i64 0), (.int .i64 0), (.slc [] (.iv 0 0 true .full))]), (.int .i64 (- (1 : Int)))]) [])
     (Br (Decidable.decide ((((List.length l) : Nat) : Int) ≤ a))
     (Ret K (.tup [(.st [(.int .i64 0), (.int .i64 0), (.slc [] (.iv 0 0 true .full))]), (.int .i64 (- (1 : Int)))]) [])
     ((((0 : Int) ≤ a) ∧ (a < (((List.length l) : Nat) : Int))) ∧
     (Br (Decidable.decide ((((UInt8.toNat (List.getD l (Int.toNat a) (0 : UInt8))) : Nat) : Int) = (35 : Int)))
     ((InR (a + (1 : Int))) ∧
     (((((List.length l) ≤ (10000 : Nat)) ∧ (((0 : Int) ≤ (a + (1 : Int))) ∧ ((a + (1 : Int)) ≤ (((List.length l) : Nat) : Int)))) ∧
     (((1 : Int) ≤ (2 : Int)) ∧ ((2 : Int) ≤ (2 : Int)))) ∧
     (∀ n : Int,
     (∀ e : Int,
     ((InR n) →
     (((e = (- (1 : Int))) ∨ (((a + (1 : Int)) ≤ e) ∧ (e ≤ (((List.length l) : Nat) : Int)))) →
     (True ∧ (Ret K (.tup [(.st [(.int .i64 1), (.int .i64 n), (.slc [] (.iv 0 0 true .full))]), (.int .i64 e)]) []))))))))
     (Br (Decidable.decide ((((UInt8.toNat (List.getD l (Int.toNat a) (0 : UInt8))) : Nat) : Int) = (42 : Int)))
     ((InR (a + (1 : Int))) ∧
     (((((List.length l) ≤ (10000 : Nat)) ∧ (((0 : Int) ≤ (a + (1 : Int))) ∧ ((a + (1 : Int)) ≤ (((List.length l) : Nat) : Int)))) ∧
     (((1 : Int) ≤ (1 : Int)) ∧ ((1 : Int) ≤ (2 : Int)))) ∧
     (∀ n : Int,
     (∀ e : Int,
     ((InR n) →
     (((e = (- (1 : Int))) ∨ (((a + (1 : Int)) ≤ e) ∧ (e ≤ (((List.length l) : Nat) : Int)))) →
     (True ∧ (Ret K (.tup [(.st [(.int .i64 2), (.int .i64 n), (.slc [] (.iv 0 0 true .full))]), (.int .i64 e)]) []))))))))
     (Br (Decidable.decide ((((UInt8.toNat (List.getD l (Int.toNat a) (0 : UInt8))) : Nat) : Int) = (78 : Int)))
     (True ∧
     ((InR (a + (1 : Int))) ∧
     (Ret K (.tup [(.st [(.int .i64 6), (.int .i64 0), (.slc [] (.iv 0 0 true .full))]), (.int .i64 (a + (1 : Int)))]) [])))
     (Br (Decidable.decide ((((UInt8.toNat (List.getD l (Int.toNat a) (0 : UInt8))) : Nat) : Int) = (48 : Int)))
     (True ∧
     ((InR (a + (1 : Int))) ∧
     (Ret K (.tup [(.st [(.int .i64 7), (.int .i64 0), (.slc [] (.iv 0 0 true .full))]), (.int .i64 (a + (1 : Int)))]) [])))
     (Br (Decidable.decide ((((UInt8.toNat (List.getD l (Int.toNat a) (0 : UInt8))) : Nat) : Int) = (43 : Int)))
     ((((Int.toNat (((3 : Int) * d) + (1 : Int))) < m) ∧
     ((((List.length l) ≤ (10000 : Nat)) ∧ (((0 : Int) ≤ a) ∧ (a < (((List.length l) : Nat) : Int)))) ∧ (((1 : Int) ≤ d) ∧ (d ≤ (30 : Int))))) ∧
     (∀ t : T,
     (∀ e : Int,
     ((prs (((List.length l) : Nat) : Int) a t e) →
     (Ret K (.tup [(.st [(.int .i64 (T.k t)), (.int .i64 (T.n t)), (.slc (T.kids t) (.iv 7 7 false .no))]), (.int .i64 e)]) [])))))
     (Br (Decidable.decide ((((UInt8.toNat (List.getD l (Int.toNat a) (0 : UInt8))) : Nat) : Int) = (33 : Int)))
     ((((Int.toNat (((3 : Int) * d) + (1 : Int))) < m) ∧
     ((((List.length l) ≤ (10000 : Nat)) ∧ (((0 : Int) ≤ a) ∧ (a < (((List.length l) : Nat) : Int)))) ∧ (((1 : Int) ≤ d) ∧ (d ≤ (30 : Int))))) ∧
     (∀ t : T,
     (∀ e : Int,
     ((prs (((List.length l) : Nat) : Int) a t e) →
     (Ret K (.tup [(.st [(.int .i64 (T.k t)), (.int .i64 (T.n t)), (.slc (T.kids t) (.iv 7 7 false .no))]), (.int .i64 e)]) [])))))
     (Br (Decidable.decide ((((UInt8.toNat (List.getD l (Int.toNat a) (0 : UInt8))) : Nat) : Int) = (94 : Int)))
     ((((Int.toNat (((3 : Int) * d) + (1 : Int))) < m) ∧
     ((((List.length l) ≤ (10000 : Nat)) ∧ (((0 : Int) ≤ a) ∧ (a < (((List.length l) : Nat) : Int)))) ∧ (((1 : Int) ≤ d) ∧ (d ≤ (30 : Int))))) ∧
     (∀ t : T,
     (∀ e : Int,
     ((prs (((List.length l) : Nat) : Int) a t e) →
     (Ret K (.tup [(.st [(.int .i64 (T.k t)), (.int .i64 (T.n t)), (.slc (T.kids t) (.iv 7 7 false .no))]), (.int .i64 e)]) [])))))
     (Br (Decidable.decide ((((UInt8.toNat (List.getD l (Int.toNat a) (0 : UInt8))) : Nat) : Int) = (95 : Int)))
     ((((Int.toNat (((3 : Int) * d) + (1 : Int))) < m) ∧
     ((((List.length l) ≤ (10000 : Nat)) ∧ (((0 : Int) ≤ a) ∧ (a < (((List.length l) : Nat) : Int)))) ∧ (((1 : Int) ≤ d) ∧ (d ≤ (30 : Int))))) ∧
     (∀ t : T,
     (∀ e : Int,
     ((prs (((List.length l) : Nat) : Int) a t e) →
     (Ret K (.tup [(.st [(.int .i64 (T.k t)), (.int .i64 (T.n t)), (.slc (T.kids t) (.iv 7 7 false .no))]), (.int .i64 e)]) [])))))
     (Br (Decidable.decide ((((UInt8.toNat (List.getD l (Int.toNat a) (0 : UInt8))) : Nat) : Int) = (40 : Int)))
     ((InR (a + (1 : Int))) ∧
     ((InR (d - (1 : Int))) ∧
     ((((Int.toNat (((3 : Int) * (d - (1 : Int))) + (3 : Int))) < m) ∧
     ((((List.length l) ≤ (10000 : Nat)) ∧ (((0 : Int) ≤ (a + (1 : Int))) ∧ ((a + (1 : Int)) ≤ (((List.length l) : Nat) : Int)))) ∧
     (((0 : Int) ≤ (d - (1 : Int))) ∧ ((d - (1 : Int)) ≤ (30 : Int))))) ∧
     (∀ t : T,
     (∀ e : Int,
     ((prs (((List.length l) : Nat) : Int) (a + (1 : Int)) t e) →
     (Ret K (.tup [(.st [(.int .i64 (T.k t)), (.int .i64 (T.n t)), (.slc (T.kids t) (.iv 7 7 false .no))]), (.int .i64 e)]) [])))))))
     (Br (Decidable.decide ((((UInt8.toNat (List.getD l (Int.toNat a) (0 : UInt8))) : Nat) : Int) = (91 : Int)))
     ((InR (a + (1 : Int))) ∧
     ((InR (d - (1 : Int))) ∧
     ((((Int.toNat (((3 : Int) * (d - (1 : Int))) + (2 : Int))) < m) ∧
     ((((List.length l) ≤ (10000 : Nat)) ∧ (((0 : Int) ≤ (a + (1 : Int))) ∧ ((a + (1 : Int)) ≤ (20000 : Int)))) ∧
     (((0 : Int) ≤ (d - (1 : Int))) ∧ ((d - (1 : Int)) ≤ (30 : Int))))) ∧
     (∀ t : T,
     (∀ e : Int,
     ((prs (((List.length l) : Nat) : Int) (a + (1 : Int)) t e) →
     (Br (Decidable.decide (e < (0 : Int)))
     (Ret K (.tup [(.st [(.int .i64 0), (.int .i64 0), (.slc [] (.iv 0 0 true .full))]), (.int .i64 (- (1 : Int)))]) [])
     (Br (Decidable.decide ((((List.length l) : Nat) : Int) ≤ e))
     (Ret K (.tup [(.st [(.int .i64 0), (.int .i64 0), (.slc [] (.iv 0 0 true .full))]), (.int .i64 (- (1 : Int)))]) [])
     ((((0 : Int) ≤ e) ∧ (e < (((List.length l) : Nat) : Int))) ∧
     (Br (Decidable.decide ((((UInt8.toNat (List.getD l (Int.toNat e) (0 : UInt8))) : Nat) : Int) ≠ (93 : Int)))
     (Ret K (.tup [(.st [(.int .i64 0), (.int .i64 0), (.slc [] (.iv 0 0 true .full))]), (.int .i64 (- (1 : Int)))]) [])
     ((InR (e + (1 : Int))) ∧
     ((InR (d - (1 : Int))) ∧
     ((((Int.toNat (((3 : Int) * (d - (1 : Int))) + (2 : Int))) < m) ∧
     ((((List.length l) ≤ (10000 : Nat)) ∧ (((0 : Int) ≤ (e + (1 : Int))) ∧ ((e + (1 : Int)) ≤ (20000 : Int)))) ∧
     (((0 : Int) ≤ (d - (1 : Int))) ∧ ((d - (1 : Int)) ≤ (30 : Int))))) ∧
     (∀ t1 : T,
     (∀ e1 : Int,
     ((prs (((List.length l) : Nat) : Int) (e + (1 : Int)) t1 e1) →
     (((2 : Nat) ≤ (1000 : Nat)) ∧
     (Ret K (.tup [(.st [(.int .i64 4), (.int .i64 0), (.slc [(T.mk (T.k t) (T.n t) (T.kids t)), (T.mk (T.k t1) (T.n t1) (T.kids t1))] (.iv 4 7 false (.tok 0)))]), (.int .i64 e1)]) []))))))))))))))))))
     ((((Int.toNat (((3 : Int) * d) + (1 : Int))) < m) ∧
     ((((List.length l) ≤ (10000 : Nat)) ∧ (((0 : Int) ≤ a) ∧ (a < (((List.length l) : Nat) : Int)))) ∧ (((1 : Int) ≤ d) ∧ (d ≤ (30 : Int))))) ∧
     (∀ t : T,
     (∀ e : Int,
     ((prs (((List.length l) : Nat) : Int) a t e) →
     (Ret K (.tup [(.st [(.int .i64 (T.k t)), (.int .i64 (T.n t)), (.slc (T.kids t) (.iv 7 7 false .no))]), (.int .i64 e)]) [])))))))))))))))))))) ?_ (by kernel_rfl)
  have out : ∀ {k' n' : Int} {ts' : List T} {g : Tag} {e : Int}, ((e = -1 ∨ (a < e ∧ e ≤ l.length ∧ 1 + (sizeL ts' : Int) ≤ e - a)) ∧ 1 + (sizeL ts' : Int) ≤ 1 + max 0 (l.length - a)) → g.le fz = true → Ret K (.tup [.st [.int .i64 k', .int .i64 n', .slc ts' g], .int .i64 e]) [] := fun {k' n' ts' g e} h hg => retTI (hk (.mk k' n' ts') e (by unfold prs; rw [T.size_eq]; exact ⟨by have := h.1; simp only [T.kids]; omega, by have := h.2; simp only [T.kids]; omega⟩)) rfl rfl hg
  have sz : ∀ t : T, 1 + (sizeL t.kids : Int) = t.size := fun t => by rw [T.size_eq]; omega
  clear hk
  simp only [T.eta, prs, InR]
  repeat' first
    | refine brd (fun _ => ?_) (fun _ => ?_)
    | apply And.intro
    | (refine out ?_ rfl; (try simp only [sizeL, sz, true_or, true_and]); omega)
    | exact trivial
    | omega
    | intro
theorem wPrefix_ok (m : Nat) (l : List UInt8) (a d : Int) (K : AV → List AV → Prop) (hm : ((3 * d + 1).toNat) < m + 1) (hp : (((l.length ≤ 10000 ∧ 0 ≤ a ∧ a < l.length) ∧ 1 ≤ d ∧ d ≤ 30))) (hk : ((∀ (t : T) (e : Int), prs l.length a t e → K (.tup [t.av fz, .int .i64 e]) []))) :
    bodyQ [(67, cwParseM m), (70, cwPrefixM m), (71, cwRoundM m), (72, cwBlockM m), (75, cwSeriesM m), (46, csNode)] TY [] Try.f70 (body Try.f70) [.str l, .int .i64 (a), .int .i64 (d)] [] K := by
  refine of_vc (A :=
    ((((0 : Int) ≤ a) ∧ (a < (((List.length l) : Nat) : Int))) ∧
     (Br (Decidable.decide ((((UInt8.toNat (List.getD l (Int.toNat a) (0 : UInt8))) : Nat) : Int) = (33 : Int)))
     ((InR (a + (1 : Int))) ∧
     ((InR (d - (1 : Int))) ∧
     ((((Int.toNat (((3 : Int) * (d - (1 : Int))) + (2 : Int))) < m) ∧
     ((((List.length l) ≤ (10000 : Nat)) ∧ (((0 : Int) ≤ (a + (1 : Int))) ∧ ((a + (1 : Int)) ≤ (20000 : Int)))) ∧
     (((0 : Int) ≤ (d - (1 : Int))) ∧ ((d - (1 : Int)) ≤ (30 : Int))))) ∧
     (∀ t : T,
     (∀ e : Int,
     ((prs (((List.length l) : Nat) : Int) (a + (1 : Int)) t e) →
     (((1 : Nat) ≤ (1000 : Nat)) ∧
     (Ret K (.tup [(.st [(.int .i64 11), (.int .i64 0), (.slc [(T.mk (T.k t) (T.n t) (T.kids t))] (.iv 4 7 false (.tok 0)))]), (.int .i64 e)]) []))))))))
     (Br (Decidable.decide ((((UInt8.toNat (List.getD l (Int.toNat a) (0 : UInt8))) : Nat) : Int) = (94 : Int)))
     ((InR (a + (1 : Int))) ∧
     ((InR (d - (1 : Int))) ∧
     ((((Int.toNat (((3 : Int) * (d - (1 : Int))) + (2 : Int))) < m) ∧
     ((((List.length l) ≤ (10000 : Nat)) ∧ (((0 : Int) ≤ (a + (1 : Int))) ∧ ((a + (1 : Int)) ≤ (20000 : Int)))) ∧
     (((0 : Int) ≤ (d - (1 : Int))) ∧ ((d - (1 : Int)) ≤ (30 : Int))))) ∧
     (∀ t : T,
     (∀ e : Int,
     ((prs (((List.length l) : Nat) : Int) (a + (1 : Int)) t e) →
     (((1 : Nat) ≤ (1000 : Nat)) ∧
     (Ret K (.tup [(.st [(.int .i64 15), (.int .i64 0), (.slc [(T.mk (T.k t) (T.n t) (T.kids t))] (.iv 4 7 false (.tok 0)))]), (.int .i64 e)]) []))))))))
     (Br (Decidable.decide ((((UInt8.toNat (List.getD l (Int.toNat a) (0 : UInt8))) : Nat) : Int) = (95 : Int)))
     ((InR (a + (1 : Int))) ∧
     ((InR (d - (1 : Int))) ∧
     ((((Int.toNat (((3 : Int) * (d - (1 : Int))) + (2 : Int))) < m) ∧
     ((((List.length l) ≤ (10000 : Nat)) ∧ (((0 : Int) ≤ (a + (1 : Int))) ∧ ((a + (1 : Int)) ≤ (20000 : Int)))) ∧
     (((0 : Int) ≤ (d - (1 : Int))) ∧ ((d - (1 : Int)) ≤ (30 : Int))))) ∧
     (∀ t : T,
     (∀ e : Int,
     ((prs (((List.length l) : Nat) : Int) (a + (1 : Int)) t e) →
     (((1 : Nat) ≤ (1000 : Nat)) ∧
     (Ret K (.tup [(.st [(.int .i64 16), (.int .i64 0), (.slc [(T.mk (T.k t) (T.n t) (T.kids t))] (.iv 4 7 false (.tok 0)))]), (.int .i64 e)]) []))))))))
     ((InR (a + (1 : Int))) ∧
     ((InR (d - (1 : Int))) ∧
     ((((Int.toNat (((3 : Int) * (d - (1 : Int))) + (2 : Int))) < m) ∧
     ((((List.length l) ≤ (10000 : Nat)) ∧ (((0 : Int) ≤ (a + (1 : Int))) ∧ ((a + (1 : Int)) ≤ (20000 : Int)))) ∧
     (((0 : Int) ≤ (d - (1 : Int))) ∧ ((d - (1 : Int)) ≤ (30 : Int))))) ∧
     (∀ t : T,
     (∀ e : Int,
     ((prs (((List.length l) : Nat) : Int) (a + (1 : Int)) t e) →
     (((1 : Nat) ≤ (1000 : Nat)) ∧
     (Ret K (.tup [(.st [(.int .i64 8), (.int .i64 0), (.slc [(T.mk (T.k t) (T.n t) (T.kids t))] (.iv 4 7 false (.tok 0)))]), (.int .i64 e)]) []))))))))))))) ?_ (by kernel_rfl)
  have out : ∀ {k' n' : Int} {ts' : List T} {g : Tag} {e : Int}, ((e = -1 ∨ (a < e ∧ e ≤ l.length ∧ 1 + (sizeL ts' : Int) ≤ e - a)) ∧ 1 + (sizeL ts' : Int) ≤ 1 + max 0 (l.length - a)) → g.le fz = true → Ret K (.tup [.st [.int .i64 k', .int .i64 n', .slc ts' g], .int .i64 e]) [] := fun {k' n' ts' g e} h hg => retTI (hk (.mk k' n' ts') e (by unfold prs; rw [T.size_eq]; exact ⟨by have := h.1; simp only [T.kids]; omega, by have := h.2; simp only [T.kids]; omega⟩)) rfl rfl hg
  have sz : ∀ t : T, 1 + (sizeL t.kids : Int) = t.size := fun t => by rw [T.size_eq]; omega
  clear hk
  simp only [T.eta, prs, InR]
  repeat' first
    | refine brd (fun _ => ?_) (fun _ => ?_)
    | apply And.intro
    | (refine out ?_ rfl; (try simp only [sizeL, sz, true_or, true_and]); omega)
    | exact trivial
    | omega
    | intro
theorem wRound_ok (m : Nat) (l : List UInt8) (a d : Int) (K : AV → List AV → Prop) (hm : ((3 * d + 3).toNat) < m + 1) (hp : (((l.length ≤ 10000 ∧ 0 ≤ a ∧ a ≤ l.length) ∧ 0 ≤ d ∧ d ≤ 30))) (hk : ((∀ (t : T) (e : Int), prs l.length a t e → K (.tup [t.av fz, .int .i64 e]) []))) :
    bodyQ [(67, cwParseM m), (70, cwPrefixM m), (71, cwRoundM m), (72, cwBlockM m), (75, cwSeriesM m), (46, csNode)] TY [] Try.f71 (body Try.f71) [.str l, .int .i64 (a), .int .i64 (d)] [] K := by
  refine of_vc (A :=
    ((((Int.toNat (((3 : Int) * d) + (2 : Int))) < m) ∧
     ((((List.length l) ≤ (10000 : Nat)) ∧ (((0 : Int) ≤ a) ∧ (a ≤ (20000 : Int)))) ∧ (((0 : Int) ≤ d) ∧ (d ≤ (30 : Int))))) ∧
     (∀ t : T,
     (∀ e : Int,
     ((prs (((List.length l) : Nat) : Int) a t e) →
     (Br (Decidable.decide (e < (0 : Int)))
     (Ret K (.tup [(.st [(.int .i64 0), (.int .i64 0), (.slc [] (.iv 0 0 true .full))]), (.int .i64 (- (1 : Int)))]) [])
     (Br (Decidable.decide ((((List.length l) : Nat) : Int) ≤ e))
     (Ret K (.tup [(.st [(.int .i64 0), (.int .i64 0), (.slc [] (.iv 0 0 true .full))]), (.int .i64 (- (1 : Int)))]) [])
     ((((0 : Int) ≤ e) ∧ (e < (((List.length l) : Nat) : Int))) ∧
     (Br (Decidable.decide ((((UInt8.toNat (List.getD l (Int.toNat e) (0 : UInt8))) : Nat) : Int) = (62 : Int)))
     ((InR (e + (1 : Int))) ∧
     ((((Int.toNat (((3 : Int) * d) + (2 : Int))) < m) ∧
     ((((List.length l) ≤ (10000 : Nat)) ∧ (((0 : Int) ≤ (e + (1 : Int))) ∧ ((e + (1 : Int)) ≤ (20000 : Int)))) ∧ (((0 : Int) ≤ d) ∧ (d ≤ (30 : Int))))) ∧
     (∀ t1 : T,
     (∀ e1 : Int,
     ((prs (((List.length l) : Nat) : Int) (e + (1 : Int)) t1 e1) →
     (Br (Decidable.decide (e1 < (0 : Int)))
     (Ret K (.tup [(.st [(.int .i64 0), (.int .i64 0), (.slc [] (.iv 0 0 true .full))]), (.int .i64 (- (1 : Int)))]) [])
     (Br (Decidable.decide ((((List.length l) : Nat) : Int) ≤ e1))
     (Ret K (.tup [(.st [(.int .i64 0), (.int .i64 0), (.slc [] (.iv 0 0 true .full))]), (.int .i64 (- (1 : Int)))]) [])
     ((((0 : Int) ≤ e1) ∧ (e1 < (((List.length l) : Nat) : Int))) ∧
     (Br (Decidable.decide ((((UInt8.toNat (List.getD l (Int.toNat e1) (0 : UInt8))) : Nat) : Int) ≠ (41 : Int)))
     (Ret K (.tup [(.st [(.int .i64 0), (.int .i64 0), (.slc [] (.iv 0 0 true .full))]), (.int .i64 (- (1 : Int)))]) [])
     (((2 : Nat) ≤ (1000 : Nat)) ∧
     ((InR (e1 + (1 : Int))) ∧
     (Ret K (.tup [(.st [(.int .i64 3), (.int .i64 0), (.slc [(T.mk (T.k t) (T.n t) (T.kids t)), (T.mk (T.k t1) (T.n t1) (T.kids t1))] (.iv 4 7 false (.tok 0)))]), (.int .i64 (e1 + (1 : Int)))]) []))))))))))))
     (Br (Decidable.decide ((((UInt8.toNat (List.getD l (Int.toNat e) (0 : UInt8))) : Nat) : Int) = (42 : Int)))
     ((InR (e + (1 : Int))) ∧
     ((((Int.toNat (((3 : Int) * d) + (2 : Int))) < m) ∧
     ((((List.length l) ≤ (10000 : Nat)) ∧ (((0 : Int) ≤ (e + (1 : Int))) ∧ ((e + (1 : Int)) ≤ (20000 : Int)))) ∧ (((0 : Int) ≤ d) ∧ (d ≤ (30 : Int))))) ∧
     (∀ t1 : T,
     (∀ e1 : Int,
     ((prs (((List.length l) : Nat) : Int) (e + (1 : Int)) t1 e1) →
     (Br (Decidable.decide (e1 < (0 : Int)))
     (Ret K (.tup [(.st [(.int .i64 0), (.int .i64 0), (.slc [] (.iv 0 0 true .full))]), (.int .i64 (- (1 : Int)))]) [])
     (Br (Decidable.decide ((((List.length l) : Nat) : Int) ≤ e1))
     (Ret K (.tup [(.st [(.int .i64 0), (.int .i64 0), (.slc [] (.iv 0 0 true .full))]), (.int .i64 (- (1 : Int)))]) [])
     ((((0 : Int) ≤ e1) ∧ (e1 < (((List.length l) : Nat) : Int))) ∧
     (Br (Decidable.decide ((((UInt8.toNat (List.getD l (Int.toNat e1) (0 : UInt8))) : Nat) : Int) ≠ (41 : Int)))
     (Ret K (.tup [(.st [(.int .i64 0), (.int .i64 0), (.slc [] (.iv 0 0 true .full))]), (.int .i64 (- (1 : Int)))]) [])
     (((2 : Nat) ≤ (1000 : Nat)) ∧
     ((InR (e1 + (1 : Int))) ∧
     (Ret K (.tup [(.st [(.int .i64 13), (.int .i64 0), (.slc [(T.mk (T.k t) (T.n t) (T.kids t)), (T.mk (T.k t1) (T.n t1) (T.kids t1))] (.iv 4 7 false (.tok 0)))]), (.int .i64 (e1 + (1 : Int)))]) []))))))))))))
     (Br (Decidable.decide ((((UInt8.toNat (List.getD l (Int.toNat e) (0 : UInt8))) : Nat) : Int) = (32 : Int)))
     ((InR (e + (1 : Int))) ∧
     ((((Int.toNat (((3 : Int) * d) + (2 : Int))) < m) ∧
     ((((List.length l) ≤ (10000 : Nat)) ∧ (((0 : Int) ≤ (e + (1 : Int))) ∧ ((e + (1 : Int)) ≤ (20000 : Int)))) ∧ (((0 : Int) ≤ d) ∧ (d ≤ (30 : Int))))) ∧
     (∀ t1 : T,
     (∀ e1 : Int,
     ((prs (((List.length l) : Nat) : Int) (e + (1 : Int)) t1 e1) →
     (Br (Decidable.decide (e1 < (0 : Int)))
     (Ret K (.tup [(.st [(.int .i64 0), (.int .i64 0), (.slc [] (.iv 0 0 true .full))]), (.int .i64 (- (1 : Int)))]) [])
     (Br (Decidable.decide ((((List.length l) : Nat) : Int) ≤ e1))
     (Ret K (.tup [(.st [(.int .i64 0), (.int .i64 0), (.slc [] (.iv 0 0 true .full))]), (.int .i64 (- (1 : Int)))]) [])
     ((((0 : Int) ≤ e1) ∧ (e1 < (((List.length l) : Nat) : Int))) ∧
     (Br (Decidable.decide ((((UInt8.toNat (List.getD l (Int.toNat e1) (0 : UInt8))) : Nat) : Int) ≠ (41 : Int)))
     (Ret K (.tup [(.st [(.int .i64 0), (.int .i64 0), (.slc [] (.iv 0 0 true .full))]), (.int .i64 (- (1 : Int)))]) [])
     (((2 : Nat) ≤ (1000 : Nat)) ∧
     ((InR (e1 + (1 : Int))) ∧
     (Ret K (.tup [(.st [(.int .i64 5), (.int .i64 0), (.slc [(T.mk (T.k t) (T.n t) (T.kids t)), (T.mk (T.k t1) (T.n t1) (T.kids t1))] (.iv 4 7 false (.tok 0)))]), (.int .i64 (e1 + (1 : Int)))]) []))))))))))))
     ((InR (e + (1 : Int))) ∧
     ((((Int.toNat (((3 : Int) * d) + (2 : Int))) < m) ∧
     ((((List.length l) ≤ (10000 : Nat)) ∧ (((0 : Int) ≤ (e + (1 : Int))) ∧ ((e + (1 : Int)) ≤ (20000 : Int)))) ∧ (((0 : Int) ≤ d) ∧ (d ≤ (30 : Int))))) ∧
     (∀ t1 : T,
     (∀ e1 : Int,
     ((prs (((List.length l) : Nat) : Int) (e + (1 : Int)) t1 e1) →
     (Ret K (.tup [(.st [(.int .i64 0), (.int .i64 0), (.slc [] (.iv 0 0 true .full))]), (.int .i64 (- (1 : Int)))]) []))))))))))))))))) ?_ (by kernel_rfl)
  have out : ∀ {k' n' : Int} {ts' : List T} {g : Tag} {e : Int}, ((e = -1 ∨ (a < e ∧ e ≤ l.length ∧ 1 + (sizeL ts' : Int) ≤ e - a)) ∧ 1 + (sizeL ts' : Int) ≤ 1 + max 0 (l.length - a)) → g.le fz = true → Ret K (.tup [.st [.int .i64 k', .int .i64 n', .slc ts' g], .int .i64 e]) [] := fun {k' n' ts' g e} h hg => retTI (hk (.mk k' n' ts') e (by unfold prs; rw [T.size_eq]; exact ⟨by have := h.1; simp only [T.kids]; omega, by have := h.2; simp only [T.kids]; omega⟩)) rfl rfl hg
  have sz : ∀ t : T, 1 + (sizeL t.kids : Int) = t.size := fun t => by rw [T.size_eq]; omega
  clear hk
  simp only [T.eta, prs, InR]
  repeat' first
    | refine brd (fun _ => ?_) (fun _ => ?_)
    | apply And.intro
    | (refine out ?_ rfl; (try simp only [sizeL, sz, true_or, true_and]); omega)
    | exact trivial
    | omega
    | intro
theorem wBlock_ok (m : Nat) (l : List UInt8) (a d : Int) (K : AV → List AV → Prop) (hm : ((3 * d + 1).toNat) < m + 1) (hp : (((l.length ≤ 10000 ∧ 0 ≤ a ∧ a < l.length) ∧ 1 ≤ d ∧ d ≤ 30))) (hk : ((∀ (t : T) (e : Int), prs l.length a t e → K (.tup [t.av fz, .int .i64 e]) []))) :
    bodyQ [(67, cwParseM m), (70, cwPrefixM m), (71, cwRoundM m), (72, cwBlockM m), (75, cwSeriesM m), (61, csKids)] TY [] Try.f72 (body Try.f72) [.str l, .int .i64 (a), .int .i64 (d)] [] K := by
  refine of_vc (A :=
    ((InR (a + (1 : Int))) ∧
     ((((0 : Int) ≤ a) ∧ (a < (((List.length l) : Nat) : Int))) ∧
     (Br (Decidable.decide ((((UInt8.toNat (List.getD l (Int.toNat a) (0 : UInt8))) : Nat) : Int) = (60 : Int)))
     ((InR (d - (1 : Int))) ∧
     (True ∧
     ((((Int.toNat (((3 : Int) * (d - (1 : Int))) + (3 : Int))) < m) ∧
     ((((List.length l) ≤ (10000 : Nat)) ∧ (((0 : Int) ≤ (a + (1 : Int))) ∧ ((a + (1 : Int)) ≤ (((List.length l) : Nat) : Int)))) ∧
     ((((0 : Int) ≤ (d - (1 : Int))) ∧ ((d - (1 : Int)) ≤ (30 : Int))) ∧ ((4 : Int) ≤ (4 : Int))))) ∧
     (∀ ts : (List T),
     (∀ e : Int,
     ((((e = (- (1 : Int))) ∧ ((sizeL ts) = (0 : Nat))) ∨ (((a + (1 : Int)) ≤ e) ∧ ((e ≤ (((List.length l) : Nat) : Int)) ∧ ((((sizeL ts) : Nat) : Int) ≤ (e - (a + (1 : Int))))))) →
     (Ret K (.tup [(.st [(.int .i64 9), (.int .i64 0), (.slc ts (.iv 7 7 false .no))]), (.int .i64 e)]) [])))))))
     (Br (Decidable.decide ((((UInt8.toNat (List.getD l (Int.toNat a) (0 : UInt8))) : Nat) : Int) = (123 : Int)))
     ((InR (d - (1 : Int))) ∧
     (True ∧
     ((((Int.toNat (((3 : Int) * (d - (1 : Int))) + (3 : Int))) < m) ∧
     ((((List.length l) ≤ (10000 : Nat)) ∧ (((0 : Int) ≤ (a + (1 : Int))) ∧ ((a + (1 : Int)) ≤ (((List.length l) : Nat) : Int)))) ∧
     ((((0 : Int) ≤ (d - (1 : Int))) ∧ ((d - (1 : Int)) ≤ (30 : Int))) ∧ ((3 : Int) ≤ (4 : Int))))) ∧
     (∀ ts : (List T),
     (∀ e : Int,
     ((((e = (- (1 : Int))) ∧ ((sizeL ts) = (0 : Nat))) ∨ (((a + (1 : Int)) ≤ e) ∧ ((e ≤ (((List.length l) : Nat) : Int)) ∧ ((((sizeL ts) : Nat) : Int) ≤ (e - (a + (1 : Int))))))) →
     (Ret K (.tup [(.st [(.int .i64 10), (.int .i64 0), (.slc ts (.iv 7 7 false .no))]), (.int .i64 e)]) [])))))))
     (Br (Decidable.decide ((((UInt8.toNat (List.getD l (Int.toNat a) (0 : UInt8))) : Nat) : Int) = (124 : Int)))
     ((InR (d - (1 : Int))) ∧
     (True ∧
     ((((Int.toNat (((3 : Int) * (d - (1 : Int))) + (3 : Int))) < m) ∧
     ((((List.length l) ≤ (10000 : Nat)) ∧ (((0 : Int) ≤ (a + (1 : Int))) ∧ ((a + (1 : Int)) ≤ (((List.length l) : Nat) : Int)))) ∧
     ((((0 : Int) ≤ (d - (1 : Int))) ∧ ((d - (1 : Int)) ≤ (30 : Int))) ∧ ((3 : Int) ≤ (4 : Int))))) ∧
     (∀ ts : (List T),
     (∀ e : Int,
     ((((e = (- (1 : Int))) ∧ ((sizeL ts) = (0 : Nat))) ∨ (((a + (1 : Int)) ≤ e) ∧ ((e ≤ (((List.length l) : Nat) : Int)) ∧ ((((sizeL ts) : Nat) : Int) ≤ (e - (a + (1 : Int))))))) →
     (Ret K (.tup [(.st [(.int .i64 14), (.int .i64 0), (.slc ts (.iv 7 7 false .no))]), (.int .i64 e)]) [])))))))
     (Br (Decidable.decide ((((UInt8.toNat (List.getD l (Int.toNat a) (0 : UInt8))) : Nat) : Int) = (64 : Int)))
     ((InR (a + (2 : Int))) ∧
     (Br (Decidable.decide ((((List.length l) : Nat) : Int) < (a + (2 : Int))))
     (Ret K (.tup [(.st [(.int .i64 0), (.int .i64 0), (.slc [] (.iv 0 0 true .full))]), (.int .i64 (- (1 : Int)))]) [])
     ((InR (a + (1 : Int))) ∧
     ((((0 : Int) ≤ (a + (1 : Int))) ∧ ((a + (1 : Int)) < (((List.length l) : Nat) : Int))) ∧
     (Br (Decidable.decide ((((UInt8.toNat (List.getD l (Int.toNat (a + (1 : Int))) (0 : UInt8))) : Nat) : Int) ≠ (60 : Int)))
     (Ret K (.tup [(.st [(.int .i64 0), (.int .i64 0), (.slc [] (.iv 0 0 true .full))]), (.int .i64 (- (1 : Int)))]) [])
     ((InR (d - (1 : Int))) ∧
     (True ∧
     ((((Int.toNat (((3 : Int) * (d - (1 : Int))) + (3 : Int))) < m) ∧
     ((((List.length l) ≤ (10000 : Nat)) ∧ (((0 : Int) ≤ (a + (2 : Int))) ∧ ((a + (2 : Int)) ≤ (((List.length l) : Nat) : Int)))) ∧
     ((((0 : Int) ≤ (d - (1 : Int))) ∧ ((d - (1 : Int)) ≤ (30 : Int))) ∧ ((3 : Int) ≤ (4 : Int))))) ∧
     (∀ ts : (List T),
     (∀ e : Int,
     ((((e = (- (1 : Int))) ∧ ((sizeL ts) = (0 : Nat))) ∨ (((a + (2 : Int)) ≤ e) ∧ ((e ≤ (((List.length l) : Nat) : Int)) ∧ ((((sizeL ts) : Nat) : Int) ≤ (e - (a + (2 : Int))))))) →
     (Ret K (.tup [(.st [(.int .i64 12), (.int .i64 0), (.slc ts (.iv 7 7 false .no))]), (.int .i64 e)]) []))))))))))))
     (Ret K (.tup [(.st [(.int .i64 0), (.int .i64 0), (.slc [] (.iv 0 0 true .full))]), (.int .i64 (- (1 : Int)))]) [])))))))) ?_ (by kernel_rfl)
  have out : ∀ {k' n' : Int} {ts' : List T} {g : Tag} {e : Int}, ((e = -1 ∨ (a < e ∧ e ≤ l.length ∧ 1 + (sizeL ts' : Int) ≤ e - a)) ∧ 1 + (sizeL ts' : Int) ≤ 1 + max 0 (l.length - a)) → g.le fz = true → Ret K (.tup [.st [.int .i64 k', .int .i64 n', .slc ts' g], .int .i64 e]) [] := fun {k' n' ts' g e} h hg => retTI (hk (.mk k' n' ts') e (by unfold prs; rw [T.size_eq]; exact ⟨by have := h.1; simp only [T.kids]; omega, by have := h.2; simp only [T.kids]; omega⟩)) rfl rfl hg
  have sz : ∀ t : T, 1 + (sizeL t.kids : Int) = t.size := fun t => by rw [T.size_eq]; omega
  clear hk
  simp only [T.eta, prs, InR]
  repeat' first
    | refine brd (fun _ => ?_) (fun _ => ?_)
    | apply And.intro
    | (refine out ?_ rfl; (try simp only [sizeL, sz, true_or, true_and]); omega)
    | exact trivial
    | omega
    | intro
theorem wSeries_ok (m : Nat) (l : List UInt8) (a d w c : Int) (K : AV → List AV → Prop) (hm : ((3 * d + 3).toNat) < m + 1) (hp : (((l.length ≤ 10000 ∧ 0 ≤ a ∧ a ≤ l.length) ∧ (0 ≤ d ∧ d ≤ 30) ∧ w ≤ 4))) (hk : ((∀ (ts : List T) (e : Int), (e = -1 ∧ sizeL ts = 0 ∨ (a ≤ e ∧ e ≤ l.length ∧ (sizeL ts : Int) ≤ e - a)) → K (.tup [.slc ts fz, .int .i64 e]) []))) :
    bodyQ [(67, cwParseM m), (70, cwPrefixM m), (71, cwRoundM m), (72, cwBlockM m), (75, cwSeriesM m)] TY [(3, { ι := List T × Int × Int, ok := fun x => a ≤ x.2.1 ∧ x.2.1 ≤ l.length ∧ (sizeL x.1 : Int) ≤ x.2.1 - a ∧ 0 ≤ x.2.2 ∧ x.1.length = x.2.2 ∧ (x.2.2 = 0 ∨ x.2.2 ≤ w), tl := fun x => [(0, .str l), (1, .int .i64 x.2.1), (2, .int .i64 d), (3, .int .i64 w), (4, .int .u8 c), (12, .slc x.1 (.iv 4 7 false (.tok 65))), (13, .int .i64 x.2.2)], hl := fun _ => [], fh := fun _ => [], μ := fun x => (w - x.2.2).toNat })] Try.f75 (body Try.f75) [.str l, .int .i64 (a), .int .i64 (d), .int .i64 (w), .int .u8 c] [] K := by
  refine of_vc (A :=
    ((∃ x : (Prod (List T) (Prod Int Int)),
     (((a ≤ (Prod.fst (Prod.snd x))) ∧
     (((Prod.fst (Prod.snd x)) ≤ (((List.length l) : Nat) : Int)) ∧
     (((((sizeL (Prod.fst x)) : Nat) : Int) ≤ ((Prod.fst (Prod.snd x)) - a)) ∧
     (((0 : Int) ≤ (Prod.snd (Prod.snd x))) ∧
     (((((List.length (Prod.fst x)) : Nat) : Int) = (Prod.snd (Prod.snd x))) ∧ (((Prod.snd (Prod.snd x)) = (0 : Int)) ∨ ((Prod.snd (Prod.snd x)) ≤ w))))))) ∧
     ((l = l) ∧
     ((a = (Prod.fst (Prod.snd x))) ∧ ((d = d) ∧ ((w = w) ∧ ((c = c) ∧ ((([] : List T) = (Prod.fst x)) ∧ (((0 : Int) = (Prod.snd (Prod.snd x))) ∧ True))))))))) ∧
     (∀ x : (Prod (List T) (Prod Int Int)),
     (((a ≤ (Prod.fst (Prod.snd x))) ∧ (((Prod.fst (Prod.snd x)) ≤ (((List.length l) : Nat) : Int)) ∧ (((((sizeL (Prod.fst x)) : Nat) : Int) ≤ ((Prod.fst (Prod.snd x)) - a)) ∧ (((0 : Int) ≤ (Prod.snd (Prod.snd x))) ∧ (((((List.length (Prod.fst x)) : Nat) : Int) = (Prod.snd (Prod.snd x))) ∧ (((Prod.snd (Prod.snd x)) = (0 : Int)) ∨ ((Prod.snd (Prod.snd x)) ≤ w))))))) →
     (Br (Decidable.decide ((Prod.snd (Prod.snd x)) < w))
     ((((Int.toNat (((3 : Int) * d) + (2 : Int))) < m) ∧
     ((((List.length l) ≤ (10000 : Nat)) ∧ (((0 : Int) ≤ (Prod.fst (Prod.snd x))) ∧ ((Prod.fst (Prod.snd x)) ≤ (20000 : Int)))) ∧
     (((0 : Int) ≤ d) ∧ (d ≤ (30 : Int))))) ∧
     (∀ t : T,
     (∀ e : Int,
     ((prs (((List.length l) : Nat) : Int) (Prod.fst (Prod.snd x)) t e) →
     (Br (Decidable.decide (e < (0 : Int)))
     (Ret K (.tup [(.slc [] (.iv 0 0 true .full)), (.int .i64 (- (1 : Int)))]) [])
     (Br (Decidable.decide ((((List.length l) : Nat) : Int) ≤ e))
     (Ret K (.tup [(.slc [] (.iv 0 0 true .full)), (.int .i64 (- (1 : Int)))]) [])
     ((InR ((Prod.snd (Prod.snd x)) + (1 : Int))) ∧
     (Br (Decidable.decide (((Prod.snd (Prod.snd x)) + (1 : Int)) < w))
     ((((0 : Int) ≤ e) ∧ (e < (((List.length l) : Nat) : Int))) ∧
     (Br (Decidable.decide ((((UInt8.toNat (List.getD l (Int.toNat e) (0 : UInt8))) : Nat) : Int) ≠ (44 : Int)))
     (Ret K (.tup [(.slc [] (.iv 0 0 true .full)), (.int .i64 (- (1 : Int)))]) [])
     ((InR ((Prod.snd (Prod.snd x)) + (1 : Int))) ∧
     (Br (Decidable.decide (((Prod.snd (Prod.snd x)) + (1 : Int)) = w))
     ((((0 : Int) ≤ e) ∧ (e < (((List.length l) : Nat) : Int))) ∧
     (Br (Decidable.decide ((((UInt8.toNat (List.getD l (Int.toNat e) (0 : UInt8))) : Nat) : Int) ≠ c))
     (Ret K (.tup [(.slc [] (.iv 0 0 true .full)), (.int .i64 (- (1 : Int)))]) [])
     ((((((List.length (Prod.fst x)) : Nat) : Int) + (1 : Int)) ≤ (1099511627776 : Int)) ∧
     ((InR (e + (1 : Int))) ∧
     ((InR ((Prod.snd (Prod.snd x)) + (1 : Int))) ∧
     (∃ y : (Prod (List T) (Prod Int Int)),
     (((a ≤ (Prod.fst (Prod.snd y))) ∧
     (((Prod.fst (Prod.snd y)) ≤ (((List.length l) : Nat) : Int)) ∧
     (((((sizeL (Prod.fst y)) : Nat) : Int) ≤ ((Prod.fst (Prod.snd y)) - a)) ∧
     (((0 : Int) ≤ (Prod.snd (Prod.snd y))) ∧
     (((((List.length (Prod.fst y)) : Nat) : Int) = (Prod.snd (Prod.snd y))) ∧ (((Prod.snd (Prod.snd y)) = (0 : Int)) ∨ ((Prod.snd (Prod.snd y)) ≤ w))))))) ∧
     ((l = l) ∧
     (((e + (1 : Int)) = (Prod.fst (Prod.snd y))) ∧
     ((d = d) ∧
     ((w = w) ∧
     ((c = c) ∧
     ((((Prod.fst x) ++ [(T.mk (T.k t) (T.n t) (T.kids t))]) = (Prod.fst y)) ∧
     ((((Prod.snd (Prod.snd x)) + (1 : Int)) = (Prod.snd (Prod.snd y))) ∧
     ((Nat.succ (Int.toNat (w - (Prod.snd (Prod.snd y))))) ≤ (Int.toNat (w - (Prod.snd (Prod.snd x)))))))))))))))))))
     ((((((List.length (Prod.fst x)) : Nat) : Int) + (1 : Int)) ≤ (1099511627776 : Int)) ∧
     ((InR (e + (1 : Int))) ∧
     ((InR ((Prod.snd (Prod.snd x)) + (1 : Int))) ∧
     (∃ y : (Prod (List T) (Prod Int Int)),
     (((a ≤ (Prod.fst (Prod.snd y))) ∧
     (((Prod.fst (Prod.snd y)) ≤ (((List.length l) : Nat) : Int)) ∧
     (((((sizeL (Prod.fst y)) : Nat) : Int) ≤ ((Prod.fst (Prod.snd y)) - a)) ∧
     (((0 : Int) ≤ (Prod.snd (Prod.snd y))) ∧
     (((((List.length (Prod.fst y)) : Nat) : Int) = (Prod.snd (Prod.snd y))) ∧ (((Prod.snd (Prod.snd y)) = (0 : Int)) ∨ ((Prod.snd (Prod.snd y)) ≤ w))))))) ∧
     ((l = l) ∧
     (((e + (1 : Int)) = (Prod.fst (Prod.snd y))) ∧
     ((d = d) ∧
     ((w = w) ∧
     ((c = c) ∧
     ((((Prod.fst x) ++ [(T.mk (T.k t) (T.n t) (T.kids t))]) = (Prod.fst y)) ∧
     ((((Prod.snd (Prod.snd x)) + (1 : Int)) = (Prod.snd (Prod.snd y))) ∧
     ((Nat.succ (Int.toNat (w - (Prod.snd (Prod.snd y))))) ≤ (Int.toNat (w - (Prod.snd (Prod.snd x)))))))))))))))))))))
     ((InR ((Prod.snd (Prod.snd x)) + (1 : Int))) ∧
     (Br (Decidable.decide (((Prod.snd (Prod.snd x)) + (1 : Int)) = w))
     ((((0 : Int) ≤ e) ∧ (e < (((List.length l) : Nat) : Int))) ∧
     (Br (Decidable.decide ((((UInt8.toNat (List.getD l (Int.toNat e) (0 : UInt8))) : Nat) : Int) ≠ c))
     (Ret K (.tup [(.slc [] (.iv 0 0 true .full)), (.int .i64 (- (1 : Int)))]) [])
     ((((((List.length (Prod.fst x)) : Nat) : Int) + (1 : Int)) ≤ (1099511627776 : Int)) ∧
     ((InR (e + (1 : Int))) ∧
     ((InR ((Prod.snd (Prod.snd x)) + (1 : Int))) ∧
     (∃ y : (Prod (List T) (Prod Int Int)),
     (((a ≤ (Prod.fst (Prod.snd y))) ∧
     (((Prod.fst (Prod.snd y)) ≤ (((List.length l) : Nat) : Int)) ∧
     (((((sizeL (Prod.fst y)) : Nat) : Int) ≤ ((Prod.fst (Prod.snd y)) - a)) ∧
     (((0 : Int) ≤ (Prod.snd (Prod.snd y))) ∧
     (((((List.length (Prod.fst y)) : Nat) : Int) = (Prod.snd (Prod.snd y))) ∧ (((Prod.snd (Prod.snd y)) = (0 : Int)) ∨ ((Prod.snd (Prod.snd y)) ≤ w))))))) ∧
     ((l = l) ∧
     (((e + (1 : Int)) = (Prod.fst (Prod.snd y))) ∧
     ((d = d) ∧
     ((w = w) ∧
     ((c = c) ∧
     ((((Prod.fst x) ++ [(T.mk (T.k t) (T.n t) (T.kids t))]) = (Prod.fst y)) ∧
     ((((Prod.snd (Prod.snd x)) + (1 : Int)) = (Prod.snd (Prod.snd y))) ∧
     ((Nat.succ (Int.toNat (w - (Prod.snd (Prod.snd y))))) ≤ (Int.toNat (w - (Prod.snd (Prod.snd x)))))))))))))))))))
     ((((((List.length (Prod.fst x)) : Nat) : Int) + (1 : Int)) ≤ (1099511627776 : Int)) ∧
     ((InR (e + (1 : Int))) ∧
     ((InR ((Prod.snd (Prod.snd x)) + (1 : Int))) ∧
     (∃ y : (Prod (List T) (Prod Int Int)),
     (((a ≤ (Prod.fst (Prod.snd y))) ∧
     (((Prod.fst (Prod.snd y)) ≤ (((List.length l) : Nat) : Int)) ∧
     (((((sizeL (Prod.fst y)) : Nat) : Int) ≤ ((Prod.fst (Prod.snd y)) - a)) ∧
     (((0 : Int) ≤ (Prod.snd (Prod.snd y))) ∧
     (((((List.length (Prod.fst y)) : Nat) : Int) = (Prod.snd (Prod.snd y))) ∧ (((Prod.snd (Prod.snd y)) = (0 : Int)) ∨ ((Prod.snd (Prod.snd y)) ≤ w))))))) ∧
     ((l = l) ∧
     (((e + (1 : Int)) = (Prod.fst (Prod.snd y))) ∧
     ((d = d) ∧
     ((w = w) ∧
     ((c = c) ∧
     ((((Prod.fst x) ++ [(T.mk (T.k t) (T.n t) (T.kids t))]) = (Prod.fst y)) ∧
     ((((Prod.snd (Prod.snd x)) + (1 : Int)) = (Prod.snd (Prod.snd y))) ∧
     ((Nat.succ (Int.toNat (w - (Prod.snd (Prod.snd y))))) ≤ (Int.toNat (w - (Prod.snd (Prod.snd x)))))))))))))))))))))))))))
     (Ret K (.tup [(.slc (Prod.fst x) (.iv 4 7 false (.tok 0))), (.int .i64 (Prod.fst (Prod.snd x)))]) [])))))) ?_ (by kernel_rfl)
  have bad : Ret K (.tup [.slc [] (.iv 0 0 true .full), .int .i64 (-1)]) [] := retSI (hk [] (-1) (Or.inl ⟨rfl, rfl⟩)) rfl
  have good : ∀ (ts : List T) (e : Int) (g : Tag), g.le fz = true → a ≤ e ∧ e ≤ l.length ∧ (sizeL ts : Int) ≤ e - a → Ret K (.tup [.slc ts g, .int .i64 e]) [] := fun ts e g hg h => retSI (hk ts e (Or.inr h)) rfl hg
  have app : ∀ (ts : List T) (t : T), sizeL (ts ++ [t]) = sizeL ts + t.size := fun ts t => by
    induction ts with
    | nil => simp only [List.nil_append, sizeL]; omega
    | cons u us ih => simp only [List.cons_append, sizeL, ih]; omega
  clear hk
  refine ⟨⟨([], a, 0), ⟨Int.le_refl a, by show a ≤ _; omega, by simp only [sizeL]; omega, Int.le_refl 0, rfl, Or.inl rfl⟩, rfl, rfl, rfl, rfl, rfl, rfl, rfl, trivial⟩, ?_⟩
  rintro ⟨ts, b, i⟩ h
  simp only [T.eta, prs] at h ⊢
  repeat' first
    | exact bad
    | exact good _ _ _ rfl (by omega)
    | refine ⟨(ts ++ [_], _, _), ?_, trivial, rfl, trivial, trivial, trivial, rfl, rfl, ?_⟩
    | refine brd (fun _ => ?_) (fun _ => ?_)
    | refine br (fun _ => ?_) (fun _ => ?_)
    | apply And.intro
    | omega
    | (unfold InR; omega)
    | (simp only [app, List.length_append, List.length_cons, List.length_nil]; omega)
    | intro
theorem wParse_soundM : ∀ m : Nat, Sound Try.prog 67 (cwParseM m) ∧ Sound Try.prog 70 (cwPrefixM m) ∧ Sound Try.prog 71 (cwRoundM m) ∧ Sound Try.prog 72 (cwBlockM m) ∧ Sound Try.prog 75 (cwSeriesM m)
  | 0 => ⟨by
      refine soundF (G := []) gnil Try.func67 rfl (by kernel_rfl) fun args hs K hCC => ?_
      unfold cwParseM at hCC
      split at hCC
      case h_2 => exact hCC.elim
      exact absurd hCC.1.1 (Nat.not_lt_zero _), by
      refine soundF (G := []) gnil Try.func70 rfl (by kernel_rfl) fun args hs K hCC => ?_
      unfold cwPrefixM at hCC
      split at hCC
      case h_2 => exact hCC.elim
      exact absurd hCC.1.1 (Nat.not_lt_zero _), by
      refine soundF (G := []) gnil Try.func71 rfl (by kernel_rfl) fun args hs K hCC => ?_
      unfold cwRoundM at hCC
      split at hCC
      case h_2 => exact hCC.elim
      exact absurd hCC.1.1 (Nat.not_lt_zero _), by
      refine soundF (G := []) gnil Try.func72 rfl (by kernel_rfl) fun args hs K hCC => ?_
      unfold cwBlockM at hCC
      split at hCC
      case h_2 => exact hCC.elim
      exact absurd hCC.1.1 (Nat.not_lt_zero _), by
      refine soundF (G := []) gnil Try.func75 rfl (by kernel_rfl) fun args hs K hCC => ?_
      unfold cwSeriesM at hCC
      split at hCC
      case h_2 => exact hCC.elim
      exact absurd hCC.1.1 (Nat.not_lt_zero _)⟩
  | m + 1 => ⟨by
      refine soundF (G := [(67, cwParseM m), (70, cwPrefixM m), (71, cwRoundM m), (72, cwBlockM m), (75, cwSeriesM m), (69, cwNumber), (45, csLeaf), (46, csNode)]) ((gcons (wParse_soundM m).1 (gcons (wParse_soundM m).2.1 (gcons (wParse_soundM m).2.2.1 (gcons (wParse_soundM m).2.2.2.1 (gcons (wParse_soundM m).2.2.2.2 (gcons wNumber_sound (gcons sLeaf_sound (gcons sNode_sound gnil))))))))) Try.func67 rfl (by kernel_rfl) fun args hs K hCC => ?_
      unfold cwParseM at hCC
      split at hCC
      case h_2 => exact hCC.elim
      rename_i l a d
      exact ⟨Nat.le_of_ble_eq_true rfl, _, wParse_ok m l a d K hCC.1.1 hCC.1.2 hCC.2⟩, by
      refine soundF (G := [(67, cwParseM m), (70, cwPrefixM m), (71, cwRoundM m), (72, cwBlockM m), (75, cwSeriesM m), (46, csNode)]) ((gcons (wParse_soundM m).1 (gcons (wParse_soundM m).2.1 (gcons (wParse_soundM m).2.2.1 (gcons (wParse_soundM m).2.2.2.1 (gcons (wParse_soundM m).2.2.2.2 (gcons sNode_sound gnil))))))) Try.func70 rfl (by kernel_rfl) fun args hs K hCC => ?_
      unfold cwPrefixM at hCC
      split at hCC
      case h_2 => exact hCC.elim
      rename_i l a d
      exact ⟨Nat.le_of_ble_eq_true rfl, _, wPrefix_ok m l a d K hCC.1.1 hCC.1.2 hCC.2⟩, by
      refine soundF (G := [(67, cwParseM m), (70, cwPrefixM m), (71, cwRoundM m), (72, cwBlockM m), (75, cwSeriesM m), (46, csNode)]) ((gcons (wParse_soundM m).1 (gcons (wParse_soundM m).2.1 (gcons (wParse_soundM m).2.2.1 (gcons (wParse_soundM m).2.2.2.1 (gcons (wParse_soundM m).2.2.2.2 (gcons sNode_sound gnil))))))) Try.func71 rfl (by kernel_rfl) fun args hs K hCC => ?_
      unfold cwRoundM at hCC
      split at hCC
      case h_2 => exact hCC.elim
      rename_i l a d
      exact ⟨Nat.le_of_ble_eq_true rfl, _, wRound_ok m l a d K hCC.1.1 hCC.1.2 hCC.2⟩, by
      refine soundF (G := [(67, cwParseM m), (70, cwPrefixM m), (71, cwRoundM m), (72, cwBlockM m), (75, cwSeriesM m), (61, csKids)]) ((gcons (wParse_soundM m).1 (gcons (wParse_soundM m).2.1 (gcons (wParse_soundM m).2.2.1 (gcons (wParse_soundM m).2.2.2.1 (gcons (wParse_soundM m).2.2.2.2 (gcons sKids_sound gnil))))))) Try.func72 rfl (by kernel_rfl) fun args hs K hCC => ?_
      unfold cwBlockM at hCC
      split at hCC
      case h_2 => exact hCC.elim
      rename_i l a d
      exact ⟨Nat.le_of_ble_eq_true rfl, _, wBlock_ok m l a d K hCC.1.1 hCC.1.2 hCC.2⟩, by
      refine soundF (G := [(67, cwParseM m), (70, cwPrefixM m), (71, cwRoundM m), (72, cwBlockM m), (75, cwSeriesM m)]) ((gcons (wParse_soundM m).1 (gcons (wParse_soundM m).2.1 (gcons (wParse_soundM m).2.2.1 (gcons (wParse_soundM m).2.2.2.1 (gcons (wParse_soundM m).2.2.2.2 gnil)))))) Try.func75 rfl (by kernel_rfl) fun args hs K hCC => ?_
      unfold cwSeriesM at hCC
      split at hCC
      case h_2 => exact hCC.elim
      rename_i l a d w c
      exact ⟨Nat.le_of_ble_eq_true rfl, _, wSeries_ok m l a d w c K hCC.1.1 hCC.1.2 hCC.2⟩⟩
theorem wParse_sound : Sound Try.prog 67 cwParse := by
  refine sound_of_all (c := cwParseM) (fun m => (wParse_soundM m).1) fun args hs K hCC => ?_
  unfold cwParse at hCC
  split at hCC
  case h_2 => exact hCC.elim
  exact ⟨_, ⟨Nat.lt_succ_self _, hCC.1⟩, hCC.2⟩
theorem wPrefix_sound : Sound Try.prog 70 cwPrefix := by
  refine sound_of_all (c := cwPrefixM) (fun m => (wParse_soundM m).2.1) fun args hs K hCC => ?_
  unfold cwPrefix at hCC
  split at hCC
  case h_2 => exact hCC.elim
  exact ⟨_, ⟨Nat.lt_succ_self _, hCC.1⟩, hCC.2⟩
theorem wRound_sound : Sound Try.prog 71 cwRound := by
  refine sound_of_all (c := cwRoundM) (fun m => (wParse_soundM m).2.2.1) fun args hs K hCC => ?_
  unfold cwRound at hCC
  split at hCC
  case h_2 => exact hCC.elim
  exact ⟨_, ⟨Nat.lt_succ_self _, hCC.1⟩, hCC.2⟩
theorem wBlock_sound : Sound Try.prog 72 cwBlock := by
  refine sound_of_all (c := cwBlockM) (fun m => (wParse_soundM m).2.2.2.1) fun args hs K hCC => ?_
  unfold cwBlock at hCC
  split at hCC
  case h_2 => exact hCC.elim
  exact ⟨_, ⟨Nat.lt_succ_self _, hCC.1⟩, hCC.2⟩
theorem wSeries_sound : Sound Try.prog 75 cwSeries := by
  refine sound_of_all (c := cwSeriesM) (fun m => (wParse_soundM m).2.2.2.2) fun args hs K hCC => ?_
  unfold cwSeries at hCC
  split at hCC
  case h_2 => exact hCC.elim
  exact ⟨_, ⟨Nat.lt_succ_self _, hCC.1⟩, hCC.2⟩
/-- spec.l19Dec -/
def cwDecM (m : Nat) : Con
  | [.int .i64 (n)], [], K => (((0 - n).toNat) < m ∧ ((0 ≤ n ∧ n ≤ 1000))) ∧ ((∀ l : List UInt8, l.length ≤ 4 → K (.str l) []))
  | _, _, _ => False
def cwDec : Con
  | [.int .i64 (n)], [], K => ((0 ≤ n ∧ n ≤ 1000)) ∧ ((∀ l : List UInt8, l.length ≤ 4 → K (.str l) []))
  | _, _, _ => False
theorem wDec_ok (m : Nat) (n : Int) (K : AV → List AV → Prop) (hm : ((0 - n).toNat) < m + 1) (hp : ((0 ≤ n ∧ n ≤ 1000))) (hk : ((∀ l : List UInt8, l.length ≤ 4 → K (.str l) []))) :
    bodyQ [(76, cwDecM m)] TY [(6, { ι := Int × List UInt8, ok := fun x => 0 ≤ x.1 ∧ (x.1 ≤ 1000 ∧ x.2.length = 0 ∨ x.1 ≤ 100 ∧ x.2.length = 1 ∨ x.1 ≤ 10 ∧ x.2.length = 2 ∨ x.1 ≤ 1 ∧ x.2.length = 3), tl := fun x => [(0, .int .i64 x.1), (3, .str x.2)], hl := fun _ => [], fh := fun _ => [], μ := fun x => x.1.toNat })] Try.f76 (body Try.f76) [.int .i64 (n)] [] K := by
  refine of_vc (A :=
    (Br (Decidable.decide (n < (- (9223372036854775807 : Int))))
     (Ret K (.str [(45 : UInt8), (57 : UInt8), (50 : UInt8), (50 : UInt8), (51 : UInt8), (51 : UInt8), (55 : UInt8), (50 : UInt8), (48 : UInt8), (51 : UInt8), (54 : UInt8), (56 : UInt8), (53 : UInt8), (52 : UInt8), (55 : UInt8), (55 : UInt8), (53 : UInt8), (56 : UInt8), (48 : UInt8), (56 : UInt8)]) [])
     (Br (Decidable.decide (n < (0 : Int)))
     ((InR (- n)) ∧
     ((((Int.toNat ((0 : Int) - (- n))) < m) ∧ (((0 : Int) ≤ (- n)) ∧ ((- n) ≤ (1000 : Int)))) ∧
     (∀ l : (List UInt8),
     (((List.length l) ≤ (4 : Nat)) → ((((1 : Int) + (((List.length l) : Nat) : Int)) ≤ (1099511627776 : Int)) ∧ (Ret K (.str ([(45 : UInt8)] ++ l)) []))))))
     ((∃ x : (Prod Int (List UInt8)),
     ((((0 : Int) ≤ (Prod.fst x)) ∧
     ((((Prod.fst x) ≤ (1000 : Int)) ∧ ((List.length (Prod.snd x)) = (0 : Nat))) ∨ ((((Prod.fst x) ≤ (100 : Int)) ∧ ((List.length (Prod.snd x)) = (1 : Nat))) ∨ ((((Prod.fst x) ≤ (10 : Int)) ∧ ((List.length (Prod.snd x)) = (2 : Nat))) ∨ (((Prod.fst x) ≤ (1 : Int)) ∧ ((List.length (Prod.snd x)) = (3 : Nat))))))) ∧
     ((n = (Prod.fst x)) ∧ ((([] : List UInt8) = (Prod.snd x)) ∧ True)))) ∧
     (∀ x : (Prod Int (List UInt8)),
     ((((0 : Int) ≤ (Prod.fst x)) ∧ ((((Prod.fst x) ≤ (1000 : Int)) ∧ ((List.length (Prod.snd x)) = (0 : Nat))) ∨ ((((Prod.fst x) ≤ (100 : Int)) ∧ ((List.length (Prod.snd x)) = (1 : Nat))) ∨ ((((Prod.fst x) ≤ (10 : Int)) ∧ ((List.length (Prod.snd x)) = (2 : Nat))) ∨ (((Prod.fst x) ≤ (1 : Int)) ∧ ((List.length (Prod.snd x)) = (3 : Nat))))))) →
     (Br (Decidable.decide ((9 : Int) < (Prod.fst x)))
     ((((0 : Int) ≤ (Prod.fst x)) ∧ (((0 : Int) < (10 : Int)) ∧ ((10 : Int) ≤ (9223372036854775807 : Int)))) ∧
     ((InR ((48 : Int) + ((Prod.fst x) % (10 : Int)))) ∧
     ((((0 : Int) ≤ ((48 : Int) + ((Prod.fst x) % (10 : Int)))) ∧ (((48 : Int) + ((Prod.fst x) % (10 : Int))) ≤ (255 : Int))) ∧
     ((((1 : Int) + (((List.length (Prod.snd x)) : Nat) : Int)) ≤ (1099511627776 : Int)) ∧
     ((((0 : Int) ≤ (Prod.fst x)) ∧ (((0 : Int) < (10 : Int)) ∧ ((Prod.fst x) ≤ (9223372036854775807 : Int)))) ∧
     (∃ y : (Prod Int (List UInt8)),
     ((((0 : Int) ≤ (Prod.fst y)) ∧
     ((((Prod.fst y) ≤ (1000 : Int)) ∧ ((List.length (Prod.snd y)) = (0 : Nat))) ∨ ((((Prod.fst y) ≤ (100 : Int)) ∧ ((List.length (Prod.snd y)) = (1 : Nat))) ∨ ((((Prod.fst y) ≤ (10 : Int)) ∧ ((List.length (Prod.snd y)) = (2 : Nat))) ∨ (((Prod.fst y) ≤ (1 : Int)) ∧ ((List.length (Prod.snd y)) = (3 : Nat))))))) ∧
     ((((Prod.fst x) / (10 : Int)) = (Prod.fst y)) ∧
     ((([(UInt8.ofNat (Int.toNat ((48 : Int) + ((Prod.fst x) % (10 : Int)))))] ++ (Prod.snd x)) = (Prod.snd y)) ∧
     ((Nat.succ (Int.toNat (Prod.fst y))) ≤ (Int.toNat (Prod.fst x))))))))))))
     ((InR ((48 : Int) + (Prod.fst x))) ∧
     ((((0 : Int) ≤ ((48 : Int) + (Prod.fst x))) ∧ (((48 : Int) + (Prod.fst x)) ≤ (255 : Int))) ∧
     ((((1 : Int) + (((List.length (Prod.snd x)) : Nat) : Int)) ≤ (1099511627776 : Int)) ∧
     (Ret K (.str ([(UInt8.ofNat (Int.toNat ((48 : Int) + (Prod.fst x))))] ++ (Prod.snd x))) []))))))))))) ?_ (by kernel_rfl)
  have good : ∀ l : List UInt8, l.length ≤ 4 → Ret K (.str l) [] := fun l h => retStr (hk l h) rfl
  clear hk
  refine brd (fun h => absurd h (by omega)) (fun _ => brd (fun h => absurd h (by omega)) (fun _ => ?_))
  refine ⟨⟨(n, []), ⟨hp.1, Or.inl ⟨hp.2, rfl⟩⟩, rfl, rfl, trivial⟩, ?_⟩
  rintro ⟨n, s⟩ h
  simp only at h ⊢
  refine brd (fun _ => ?_) (fun _ => ?_)
  · refine ⟨by omega, by unfold InR; omega, by omega, by omega, by omega, (n / 10, _), ?_, rfl, rfl, ?_⟩ <;> (simp only [List.length_append, List.length_cons, List.length_nil]; omega)
  · refine ⟨by unfold InR; omega, by omega, by omega, good _ ?_⟩
    simp only [List.length_append, List.length_cons, List.length_nil]; omega
theorem wDec_soundM : ∀ m : Nat, Sound Try.prog 76 (cwDecM m)
  | 0 => by
      refine soundF (G := []) gnil Try.func76 rfl (by kernel_rfl) fun args hs K hCC => ?_
      unfold cwDecM at hCC
      split at hCC
      case h_2 => exact hCC.elim
      exact absurd hCC.1.1 (Nat.not_lt_zero _)
  | m + 1 => by
      refine soundF (G := [(76, cwDecM m)]) ((gcons (wDec_soundM m) gnil)) Try.func76 rfl (by kernel_rfl) fun args hs K hCC => ?_
      unfold cwDecM at hCC
      split at hCC
      case h_2 => exact hCC.elim
      rename_i n
      exact ⟨Nat.le_of_ble_eq_true rfl, _, wDec_ok m n K hCC.1.1 hCC.1.2 hCC.2⟩
theorem wDec_sound : Sound Try.prog 76 cwDec := by
  refine sound_of_all (c := cwDecM) (fun m => (wDec_soundM m)) fun args hs K hCC => ?_
  unfold cwDec at hCC
  split at hCC
  case h_2 => exact hCC.elim
  exact ⟨_, ⟨Nat.lt_succ_self _, hCC.1⟩, hCC.2⟩
/-- spec.l1Text -/
def cwTextM (m : Nat) : Con
  | [.st [.int .i64 k, .int .i64 n, .slc ts (.arg 0)]], [], K => ((2 * (T.mk k n ts).size) < m ∧ (((∃ d, (T.mk k n ts).shp d = true) ∧ (T.mk k n ts).size ≤ 400))) ∧ ((∀ l : List UInt8, l.length ≤ 12 * (T.mk k n ts).size → K (.str l) []))
  | _, _, _ => False
def cwText : Con
  | [.st [.int .i64 k, .int .i64 n, .slc ts (.arg 0)]], [], K => (((∃ d, (T.mk k n ts).shp d = true) ∧ (T.mk k n ts).size ≤ 400)) ∧ ((∀ l : List UInt8, l.length ≤ 12 * (T.mk k n ts).size → K (.str l) []))
  | _, _, _ => False
/-- spec.l1List -/
def cwListM (m : Nat) : Con
  | [.slc ts (.arg 0)], [], K => ((2 * sizeL ts + 1) < m ∧ (((∃ d, shpL ts d = true) ∧ sizeL ts ≤ 400))) ∧ ((∀ l : List UInt8, l.length ≤ 12 * sizeL ts + ts.length → K (.str l) []))
  | _, _, _ => False
def cwList : Con
  | [.slc ts (.arg 0)], [], K => (((∃ d, shpL ts d = true) ∧ sizeL ts ≤ 400)) ∧ ((∀ l : List UInt8, l.length ≤ 12 * sizeL ts + ts.length → K (.str l) []))
  | _, _, _ => False
theorem wText_ok (m : Nat) (k n : Int) (ts : List T) (K : AV → List AV → Prop) (hm : (2 * (T.mk k n ts).size) < m + 1) (hp : (((∃ d, (T.mk k n ts).shp d = true) ∧ (T.mk k n ts).size ≤ 400))) (hk : ((∀ l : List UInt8, l.length ≤ 12 * (T.mk k n ts).size → K (.str l) []))) :
    bodyQ [(73, cwTextM m), (77, cwListM m), (76, cwDec)] TY [] Try.f73 (body Try.f73) [.st [.int .i64 k, .int .i64 n, .slc ts (.arg 0)]] [] K := by
  refine of_vc (A :=
    (Br (Decidable.decide (k = (1 : Int)))
     ((((0 : Int) ≤ n) ∧ (n ≤ (1000 : Int))) ∧
     (∀ l : (List UInt8),
     (((List.length l) ≤ (4 : Nat)) → ((((1 : Int) + (((List.length l) : Nat) : Int)) ≤ (1099511627776 : Int)) ∧ (Ret K (.str ([(35 : UInt8)] ++ l)) [])))))
     (Br (Decidable.decide (k = (2 : Int)))
     ((((0 : Int) ≤ n) ∧ (n ≤ (1000 : Int))) ∧
     (∀ l : (List UInt8),
     (((List.length l) ≤ (4 : Nat)) → ((((1 : Int) + (((List.length l) : Nat) : Int)) ≤ (1099511627776 : Int)) ∧ (Ret K (.str ([(42 : UInt8)] ++ l)) [])))))
     (Br (Decidable.decide (k = (6 : Int)))
     (Ret K (.str [(78 : UInt8)]) [])
     (Br (Decidable.decide (k = (7 : Int)))
     (Ret K (.str [(48 : UInt8)]) [])
     (Br (Decidable.decide (k = (8 : Int)))
     ((((0 : Int) ≤ (0 : Int)) ∧ ((0 : Int) < (((List.length ts) : Nat) : Int))) ∧
     (((((2 : Nat) * (T.size (T.mk (T.k (List.getD ts 0 default)) (T.n (List.getD ts 0 default)) (T.kids (List.getD ts 0 default))))) < m) ∧
     ((∃ d : Int,
     ((T.shp (T.mk (T.k (List.getD ts 0 default)) (T.n (List.getD ts 0 default)) (T.kids (List.getD ts 0 default))) d) = true)) ∧
     ((T.size (T.mk (T.k (List.getD ts 0 default)) (T.n (List.getD ts 0 default)) (T.kids (List.getD ts 0 default)))) ≤ (400 : Nat)))) ∧
     (∀ l : (List UInt8),
     (((List.length l) ≤ ((12 : Nat) * (T.size (T.mk (T.k (List.getD ts 0 default)) (T.n (List.getD ts 0 default)) (T.kids (List.getD ts 0 default)))))) →
     ((((1 : Int) + (((List.length l) : Nat) : Int)) ≤ (1099511627776 : Int)) ∧ (Ret K (.str ([(43 : UInt8)] ++ l)) []))))))
     (Br (Decidable.decide (k = (11 : Int)))
     ((((0 : Int) ≤ (0 : Int)) ∧ ((0 : Int) < (((List.length ts) : Nat) : Int))) ∧
     (((((2 : Nat) * (T.size (T.mk (T.k (List.getD ts 0 default)) (T.n (List.getD ts 0 default)) (T.kids (List.getD ts 0 default))))) < m) ∧
     ((∃ d : Int,
     ((T.shp (T.mk (T.k (List.getD ts 0 default)) (T.n (List.getD ts 0 default)) (T.kids (List.getD ts 0 default))) d) = true)) ∧
     ((T.size (T.mk (T.k (List.getD ts 0 default)) (T.n (List.getD ts 0 default)) (T.kids (List.getD ts 0 default)))) ≤ (400 : Nat)))) ∧
     (∀ l : (List UInt8),
     (((List.length l) ≤ ((12 : Nat) * (T.size (T.mk (T.k (List.getD ts 0 default)) (T.n (List.getD ts 0 default)) (T.kids (List.getD ts 0 default)))))) →
     ((((1 : Int) + (((List.length l) : Nat) : Int)) ≤ (1099511627776 : Int)) ∧ (Ret K (.str ([(33 : UInt8)] ++ l)) []))))))
     (Br (Decidable.decide (k = (15 : Int)))
     ((((0 : Int) ≤ (0 : Int)) ∧ ((0 : Int) < (((List.length ts) : Nat) : Int))) ∧
     (((((2 : Nat) * (T.size (T.mk (T.k (List.getD ts 0 default)) (T.n (List.getD ts 0 default)) (T.kids (List.getD ts 0 default))))) < m) ∧
     ((∃ d : Int,
     ((T.shp (T.mk (T.k (List.getD ts 0 default)) (T.n (List.getD ts 0 default)) (T.kids (List.getD ts 0 default))) d) = true)) ∧
     ((T.size (T.mk (T.k (List.getD ts 0 default)) (T.n (List.getD ts 0 default)) (T.kids (List.getD ts 0 default)))) ≤ (400 : Nat)))) ∧
     (∀ l : (List UInt8),
     (((List.length l) ≤ ((12 : Nat) * (T.size (T.mk (T.k (List.getD ts 0 default)) (T.n (List.getD ts 0 default)) (T.kids (List.getD ts 0 default)))))) →
     ((((1 : Int) + (((List.length l) : Nat) : Int)) ≤ (1099511627776 : Int)) ∧ (Ret K (.str ([(94 : UInt8)] ++ l)) []))))))
     (Br (Decidable.decide (k = (16 : Int)))
     ((((0 : Int) ≤ (0 : Int)) ∧ ((0 : Int) < (((List.length ts) : Nat) : Int))) ∧
     (((((2 : Nat) * (T.size (T.mk (T.k (List.getD ts 0 default)) (T.n (List.getD ts 0 default)) (T.kids (List.getD ts 0 default))))) < m) ∧
     ((∃ d : Int,
     ((T.shp (T.mk (T.k (List.getD ts 0 default)) (T.n (List.getD ts 0 default)) (T.kids (List.getD ts 0 default))) d) = true)) ∧
     ((T.size (T.mk (T.k (List.getD ts 0 default)) (T.n (List.getD ts 0 default)) (T.kids (List.getD ts 0 default)))) ≤ (400 : Nat)))) ∧
     (∀ l : (List UInt8),
     (((List.length l) ≤ ((12 : Nat) * (T.size (T.mk (T.k (List.getD ts 0 default)) (T.n (List.getD ts 0 default)) (T.kids (List.getD ts 0 default)))))) →
     ((((1 : Int) + (((List.length l) : Nat) : Int)) ≤ (1099511627776 : Int)) ∧ (Ret K (.str ([(95 : UInt8)] ++ l)) []))))))
     (Br (Decidable.decide (k = (3 : Int)))
     ((((0 : Int) ≤ (0 : Int)) ∧ ((0 : Int) < (((List.length ts) : Nat) : Int))) ∧
     ((((0 : Int) ≤ (1 : Int)) ∧ ((1 : Int) < (((List.length ts) : Nat) : Int))) ∧
     (((((2 : Nat) * (T.size (T.mk (T.k (List.getD ts 0 default)) (T.n (List.getD ts 0 default)) (T.kids (List.getD ts 0 default))))) < m) ∧
     ((∃ d : Int,
     ((T.shp (T.mk (T.k (List.getD ts 0 default)) (T.n (List.getD ts 0 default)) (T.kids (List.getD ts 0 default))) d) = true)) ∧
     ((T.size (T.mk (T.k (List.getD ts 0 default)) (T.n (List.getD ts 0 default)) (T.kids (List.getD ts 0 default)))) ≤ (400 : Nat)))) ∧
     (∀ l : (List UInt8),
     (((List.length l) ≤ ((12 : Nat) * (T.size (T.mk (T.k (List.getD ts 0 default)) (T.n (List.getD ts 0 default)) (T.kids (List.getD ts 0 default)))))) →
     (((T.k (List.getD ts 1 default)) = (T.k (List.getD ts 1 default))) ∧
     (((T.n (List.getD ts 1 default)) = (T.n (List.getD ts 1 default))) ∧
     (((T.kids (List.getD ts 1 default)) = (T.kids (List.getD ts 1 default))) ∧
     ((ts = ts) ∧
     ((((1 : Int) + (((List.length l) : Nat) : Int)) ≤ (1099511627776 : Int)) ∧
     ((((((List.length ([(40 : UInt8)] ++ l)) : Nat) : Int) + (1 : Int)) ≤ (1099511627776 : Int)) ∧
     (((((2 : Nat) * (T.size (T.mk (T.k (List.getD ts 1 default)) (T.n (List.getD ts 1 default)) (T.kids (List.getD ts 1 default))))) < m) ∧
     ((∃ d : Int,
     ((T.shp (T.mk (T.k (List.getD ts 1 default)) (T.n (List.getD ts 1 default)) (T.kids (List.getD ts 1 default))) d) = true)) ∧
     ((T.size (T.mk (T.k (List.getD ts 1 default)) (T.n (List.getD ts 1 default)) (T.kids (List.getD ts 1 default)))) ≤ (400 : Nat)))) ∧
     (∀ l1 : (List UInt8),
     (((List.length l1) ≤ ((12 : Nat) * (T.size (T.mk (T.k (List.getD ts 1 default)) (T.n (List.getD ts 1 default)) (T.kids (List.getD ts 1 default)))))) →
     ((((((List.length (([(40 : UInt8)] ++ l) ++ [(62 : UInt8)])) : Nat) : Int) + (((List.length l1) : Nat) : Int)) ≤ (1099511627776 : Int)) ∧
     ((((((List.length ((([(40 : UInt8)] ++ l) ++ [(62 : UInt8)]) ++ l1)) : Nat) : Int) + (1 : Int)) ≤ (1099511627776 : Int)) ∧
     (Ret K (.str (((([(40 : UInt8)] ++ l) ++ [(62 : UInt8)]) ++ l1) ++ [(41 : UInt8)])) [])))))))))))))))))
     (Br (Decidable.decide (k = (13 : Int)))
     ((((0 : Int) ≤ (0 : Int)) ∧ ((0 : Int) < (((List.length ts) : Nat) : Int))) ∧
     ((((0 : Int) ≤ (1 : Int)) ∧ ((1 : Int) < (((List.length ts) : Nat) : Int))) ∧
     (((((2 : Nat) * (T.size (T.mk (T.k (List.getD ts 0 default)) (T.n (List.getD ts 0 default)) (T.kids (List.getD ts 0 default))))) < m) ∧
     ((∃ d : Int,
     ((T.shp (T.mk (T.k (List.getD ts 0 default)) (T.n (List.getD ts 0 default)) (T.kids (List.getD ts 0 default))) d) = true)) ∧
     ((T.size (T.mk (T.k (List.getD ts 0 default)) (T.n (List.getD ts 0 default)) (T.kids (List.getD ts 0 default)))) ≤ (400 : Nat)))) ∧
     (∀ l : (List UInt8),
     (((List.length l) ≤ ((12 : Nat) * (T.size (T.mk (T.k (List.getD ts 0 default)) (T.n (List.getD ts 0 default)) (T.kids (List.getD ts 0 default)))))) →
     (((T.k (List.getD ts 1 default)) = (T.k (List.getD ts 1 default))) ∧
     (((T.n (List.getD ts 1 default)) = (T.n (List.getD ts 1 default))) ∧
     (((T.kids (List.getD ts 1 default)) = (T.kids (List.getD ts 1 default))) ∧
     ((ts = ts) ∧
     ((((1 : Int) + (((List.length l) : Nat) : Int)) ≤ (1099511627776 : Int)) ∧
     ((((((List.length ([(40 : UInt8)] ++ l)) : Nat) : Int) + (1 : Int)) ≤ (1099511627776 : Int)) ∧
     (((((2 : Nat) * (T.size (T.mk (T.k (List.getD ts 1 default)) (T.n (List.getD ts 1 default)) (T.kids (List.getD ts 1 default))))) < m) ∧
     ((∃ d : Int,
     ((T.shp (T.mk (T.k (List.getD ts 1 default)) (T.n (List.getD ts 1 default)) (T.kids (List.getD ts 1 default))) d) = true)) ∧
     ((T.size (T.mk (T.k (List.getD ts 1 default)) (T.n (List.getD ts 1 default)) (T.kids (List.getD ts 1 default)))) ≤ (400 : Nat)))) ∧
     (∀ l1 : (List UInt8),
     (((List.length l1) ≤ ((12 : Nat) * (T.size (T.mk (T.k (List.getD ts 1 default)) (T.n (List.getD ts 1 default)) (T.kids (List.getD ts 1 default)))))) →
     ((((((List.length (([(40 : UInt8)] ++ l) ++ [(42 : UInt8)])) : Nat) : Int) + (((List.length l1) : Nat) : Int)) ≤ (1099511627776 : Int)) ∧
     ((((((List.length ((([(40 : UInt8)] ++ l) ++ [(42 : UInt8)]) ++ l1)) : Nat) : Int) + (1 : Int)) ≤ (1099511627776 : Int)) ∧
     (Ret K (.str (((([(40 : UInt8)] ++ l) ++ [(42 : UInt8)]) ++ l1) ++ [(41 : UInt8)])) [])))))))))))))))))
     (Br (Decidable.decide (k = (5 : Int)))
     ((((0 : Int) ≤ (0 : Int)) ∧ ((0 : Int) < (((List.length ts) : Nat) : Int))) ∧
     ((((0 : Int) ≤ (1 : Int)) ∧ ((1 : Int) < (((List.length ts) : Nat) : Int))) ∧
     (((((2 : Nat) * (T.size (T.mk (T.k (List.getD ts 0 default)) (T.n (List.getD ts 0 default)) (T.kids (List.getD ts 0 default))))) < m) ∧
     ((∃ d : Int,
     ((T.shp (T.mk (T.k (List.getD ts 0 default)) (T.n (List.getD ts 0 default)) (T.kids (List.getD ts 0 default))) d) = true)) ∧
     ((T.size (T.mk (T.k (List.getD ts 0 default)) (T.n (List.getD ts 0 default)) (T.kids (List.getD ts 0 default)))) ≤ (400 : Nat)))) ∧
     (∀ l : (List UInt8),
     (((List.length l) ≤ ((12 : Nat) * (T.size (T.mk (T.k (List.getD ts 0 default)) (T.n (List.getD ts 0 default)) (T.kids (List.getD ts 0 default)))))) →
     (((T.k (List.getD ts 1 default)) = (T.k (List.getD ts 1 default))) ∧
     (((T.n (List.getD ts 1 default)) = (T.n (List.getD ts 1 default))) ∧
     (((T.kids (List.getD ts 1 default)) = (T.kids (List.getD ts 1 default))) ∧
     ((ts = ts) ∧
     ((((1 : Int) + (((List.length l) : Nat) : Int)) ≤ (1099511627776 : Int)) ∧
     ((((((List.length ([(40 : UInt8)] ++ l)) : Nat) : Int) + (1 : Int)) ≤ (1099511627776 : Int)) ∧
     (((((2 : Nat) * (T.size (T.mk (T.k (List.getD ts 1 default)) (T.n (List.getD ts 1 default)) (T.kids (List.getD ts 1 default))))) < m) ∧
     ((∃ d : Int,
     ((T.shp (T.mk (T.k (List.getD ts 1 default)) (T.n (List.getD ts 1 default)) (T.kids (List.getD ts 1 default))) d) = true)) ∧
     ((T.size (T.mk (T.k (List.getD ts 1 default)) (T.n (List.getD ts 1 default)) (T.kids (List.getD ts 1 default)))) ≤ (400 : Nat)))) ∧
     (∀ l1 : (List UInt8),
     (((List.length l1) ≤ ((12 : Nat) * (T.size (T.mk (T.k (List.getD ts 1 default)) (T.n (List.getD ts 1 default)) (T.kids (List.getD ts 1 default)))))) →
     ((((((List.length (([(40 : UInt8)] ++ l) ++ [(32 : UInt8)])) : Nat) : Int) + (((List.length l1) : Nat) : Int)) ≤ (1099511627776 : Int)) ∧
     ((((((List.length ((([(40 : UInt8)] ++ l) ++ [(32 : UInt8)]) ++ l1)) : Nat) : Int) + (1 : Int)) ≤ (1099511627776 : Int)) ∧
     (Ret K (.str (((([(40 : UInt8)] ++ l) ++ [(32 : UInt8)]) ++ l1) ++ [(41 : UInt8)])) [])))))))))))))))))
     (Br (Decidable.decide (k = (4 : Int)))
     ((((0 : Int) ≤ (0 : Int)) ∧ ((0 : Int) < (((List.length ts) : Nat) : Int))) ∧
     ((((0 : Int) ≤ (1 : Int)) ∧ ((1 : Int) < (((List.length ts) : Nat) : Int))) ∧
     (((((2 : Nat) * (T.size (T.mk (T.k (List.getD ts 0 default)) (T.n (List.getD ts 0 default)) (T.kids (List.getD ts 0 default))))) < m) ∧
     ((∃ d : Int,
     ((T.shp (T.mk (T.k (List.getD ts 0 default)) (T.n (List.getD ts 0 default)) (T.kids (List.getD ts 0 default))) d) = true)) ∧
     ((T.size (T.mk (T.k (List.getD ts 0 default)) (T.n (List.getD ts 0 default)) (T.kids (List.getD ts 0 default)))) ≤ (400 : Nat)))) ∧
     (∀ l : (List UInt8),
     (((List.length l) ≤ ((12 : Nat) * (T.size (T.mk (T.k (List.getD ts 0 default)) (T.n (List.getD ts 0 default)) (T.kids (List.getD ts 0 default)))))) →
     (((T.k (List.getD ts 1 default)) = (T.k (List.getD ts 1 default))) ∧
     (((T.n (List.getD ts 1 default)) = (T.n (List.getD ts 1 default))) ∧
     (((T.kids (List.getD ts 1 default)) = (T.kids (List.getD ts 1 default))) ∧
     ((ts = ts) ∧
     ((((1 : Int) + (((List.length l) : Nat) : Int)) ≤ (1099511627776 : Int)) ∧
     ((((((List.length ([(91 : UInt8)] ++ l)) : Nat) : Int) + (1 : Int)) ≤ (1099511627776 : Int)) ∧
     (((((2 : Nat) * (T.size (T.mk (T.k (List.getD ts 1 default)) (T.n (List.getD ts 1 default)) (T.kids (List.getD ts 1 default))))) < m) ∧
     ((∃ d : Int,
     ((T.shp (T.mk (T.k (List.getD ts 1 default)) (T.n (List.getD ts 1 default)) (T.kids (List.getD ts 1 default))) d) = true)) ∧
     ((T.size (T.mk (T.k (List.getD ts 1 default)) (T.n (List.getD ts 1 default)) (T.kids (List.getD ts 1 default)))) ≤ (400 : Nat)))) ∧
     (∀ l1 : (List UInt8),
     (((List.length l1) ≤ ((12 : Nat) * (T.size (T.mk (T.k (List.getD ts 1 default)) (T.n (List.getD ts 1 default)) (T.kids (List.getD ts 1 default)))))) →
     ((((((List.length (([(91 : UInt8)] ++ l) ++ [(93 : UInt8)])) : Nat) : Int) + (((List.length l1) : Nat) : Int)) ≤ (1099511627776 : Int)) ∧
     (Ret K (.str ((([(91 : UInt8)] ++ l) ++ [(93 : UInt8)]) ++ l1)) []))))))))))))))))
     (Br (Decidable.decide (k = (10 : Int)))
     ((((((2 : Nat) * (sizeL ts)) + (1 : Nat)) < m) ∧ ((∃ d : Int, ((shpL ts d) = true)) ∧ ((sizeL ts) ≤ (400 : Nat)))) ∧
     (∀ l : (List UInt8),
     (((List.length l) ≤ (((12 : Nat) * (sizeL ts)) + (List.length ts))) →
     ((((1 : Int) + (((List.length l) : Nat) : Int)) ≤ (1099511627776 : Int)) ∧
     ((((((List.length ([(123 : UInt8)] ++ l)) : Nat) : Int) + (1 : Int)) ≤ (1099511627776 : Int)) ∧ (Ret K (.str (([(123 : UInt8)] ++ l) ++ [(125 : UInt8)])) []))))))
     (Br (Decidable.decide (k = (14 : Int)))
     ((((((2 : Nat) * (sizeL ts)) + (1 : Nat)) < m) ∧ ((∃ d : Int, ((shpL ts d) = true)) ∧ ((sizeL ts) ≤ (400 : Nat)))) ∧
     (∀ l : (List UInt8),
     (((List.length l) ≤ (((12 : Nat) * (sizeL ts)) + (List.length ts))) →
     ((((1 : Int) + (((List.length l) : Nat) : Int)) ≤ (1099511627776 : Int)) ∧
     ((((((List.length ([(124 : UInt8)] ++ l)) : Nat) : Int) + (1 : Int)) ≤ (1099511627776 : Int)) ∧ (Ret K (.str (([(124 : UInt8)] ++ l) ++ [(124 : UInt8)])) []))))))
     (Br (Decidable.decide (k = (12 : Int)))
     ((((((2 : Nat) * (sizeL ts)) + (1 : Nat)) < m) ∧ ((∃ d : Int, ((shpL ts d) = true)) ∧ ((sizeL ts) ≤ (400 : Nat)))) ∧
     (∀ l : (List UInt8),
     (((List.length l) ≤ (((12 : Nat) * (sizeL ts)) + (List.length ts))) →
     ((((2 : Int) + (((List.length l) : Nat) : Int)) ≤ (1099511627776 : Int)) ∧
     ((((((List.length ([(64 : UInt8), (60 : UInt8)] ++ l)) : Nat) : Int) + (1 : Int)) ≤ (1099511627776 : Int)) ∧
     (Ret K (.str (([(64 : UInt8), (60 : UInt8)] ++ l) ++ [(62 : UInt8)])) []))))))
     ((((((2 : Nat) * (sizeL ts)) + (1 : Nat)) < m) ∧ ((∃ d : Int, ((shpL ts d) = true)) ∧ ((sizeL ts) ≤ (400 : Nat)))) ∧
     (∀ l : (List UInt8),
     (((List.length l) ≤ (((12 : Nat) * (sizeL ts)) + (List.length ts))) →
     ((((1 : Int) + (((List.length l) : Nat) : Int)) ≤ (1099511627776 : Int)) ∧
     ((((((List.length ([(60 : UInt8)] ++ l)) : Nat) : Int) + (1 : Int)) ≤ (1099511627776 : Int)) ∧ (Ret K (.str (([(60 : UInt8)] ++ l) ++ [(62 : UInt8)])) [])))))))))))))))))))))) ?_ (by kernel_rfl)
  obtain ⟨⟨d, hd⟩, hz⟩ := hp
  have out : ∀ s : List UInt8, s.length ≤ 12 * (T.mk k n ts).size → Ret K (.str s) [] := fun s h => retStr (hk s h) rfl
  clear hk
  have rt := T.shp_root hd
  have ek : (T.mk k n ts).size = 1 + sizeL ts := rfl
  have ks : ∀ i, i < ts.length → ∃ d, (ts.getD i default).shp d = true := fun i h => ⟨_, shpL_mem (T.shp_kids hd) (getD_mem h)⟩
  have z0 : 0 < ts.length → (ts.getD 0 default).size ≤ sizeL ts := fun h => sizeL_mem (getD_mem h)
  have z1 : 1 < ts.length → (ts.getD 1 default).size ≤ sizeL ts := fun h => sizeL_mem (getD_mem h)
  have z2 : 1 < ts.length → (ts.getD 0 default).size + (ts.getD 1 default).size ≤ sizeL ts := fun h => by
    match ts, h with
    | t :: u :: _, _ => simp only [sizeL, List.getD_cons_zero, List.getD_cons_succ]; omega
  have z4 : ts.length ≤ 4 := by
    have : arity k ≤ 4 := by
      unfold arity
      repeat' split
      all_goals omega
    have := rt.1
    omega
  have a1 : k = 8 ∨ k = 11 ∨ k = 15 ∨ k = 16 → ts.length = 1 := fun h => by
    have := rt.1
    rcases h with rfl | rfl | rfl | rfl <;> (have : (1 : Int) = ts.length := this; omega)
  have a2 : k = 3 ∨ k = 4 ∨ k = 5 ∨ k = 13 → ts.length = 2 := fun h => by
    have := rt.1
    rcases h with rfl | rfl | rfl | rfl <;> (have : (2 : Int) = ts.length := this; omega)
  have a3 : k = 1 ∨ k = 2 → n ≤ 1000 := fun h => by
    have := rt.2.2
    rcases h with rfl | rfl
    · exact Int.le_trans this (by decide)
    · exact Int.le_trans this (by decide)
  have rn := rt.2.1
  have sk : ∃ d, shpL ts d = true := ⟨_, T.shp_kids hd⟩
  clear rt
  simp only [T.eta]
  rw [ek] at hz hm out
  repeat' first
    | (refine out _ ?_; simp only [List.length_append, List.length_cons, List.length_nil]; omega)
    | refine brd (fun _ => ?_) (fun _ => ?_)
    | refine br (fun _ => ?_) (fun _ => ?_)
    | apply And.intro
    | exact ks _ (by omega)
    | exact sk
    | exact trivial
    | exact rfl
    | omega
    | (simp only [List.length_append, List.length_cons, List.length_nil]; omega)
    | intro
theorem wList_ok (m : Nat) (ts : List T) (K : AV → List AV → Prop) (hm : (2 * sizeL ts + 1) < m + 1) (hp : (((∃ d, shpL ts d = true) ∧ sizeL ts ≤ 400))) (hk : ((∀ l : List UInt8, l.length ≤ 12 * sizeL ts + ts.length → K (.str l) []))) :
    bodyQ [(73, cwTextM m), (77, cwListM m)] TY [(3, { ι := Nat × List UInt8, ok := fun x => x.1 ≤ ts.length ∧ x.2.length + 12 * sizeL (ts.drop x.1) + (ts.length - x.1) ≤ 12 * sizeL ts + ts.length, tl := fun x => [(0, .slc ts (.arg 0)), (3, .str x.2), (4, .int .i64 x.1)], hl := fun _ => [], fh := fun _ => [], μ := fun x => ts.length - x.1 })] Try.f77 (body Try.f77) [.slc ts (.arg 0)] [] K := by
  refine of_vc (A :=
    ((∃ x : (Prod Nat (List UInt8)),
     ((((Prod.fst x) ≤ (List.length ts)) ∧
     ((((List.length (Prod.snd x)) + ((12 : Nat) * (sizeL (List.drop (Prod.fst x) ts)))) + ((List.length ts) - (Prod.fst x))) ≤ (((12 : Nat) * (sizeL ts)) + (List.length ts)))) ∧
     ((ts = ts) ∧ ((([] : List UInt8) = (Prod.snd x)) ∧ (((0 : Int) = (((Prod.fst x) : Nat) : Int)) ∧ True))))) ∧
     (∀ x : (Prod Nat (List UInt8)),
     ((((Prod.fst x) ≤ (List.length ts)) ∧ ((((List.length (Prod.snd x)) + ((12 : Nat) * (sizeL (List.drop (Prod.fst x) ts)))) + ((List.length ts) - (Prod.fst x))) ≤ (((12 : Nat) * (sizeL ts)) + (List.length ts)))) →
     (Br (Decidable.decide ((((Prod.fst x) : Nat) : Int) < (((List.length ts) : Nat) : Int)))
     (Br (Decidable.decide ((0 : Int) < (((Prod.fst x) : Nat) : Int)))
     ((((((List.length (Prod.snd x)) : Nat) : Int) + (1 : Int)) ≤ (1099511627776 : Int)) ∧
     ((((0 : Int) ≤ (((Prod.fst x) : Nat) : Int)) ∧ ((((Prod.fst x) : Nat) : Int) < (((List.length ts) : Nat) : Int))) ∧
     (((((2 : Nat) * (T.size (T.mk (T.k (List.getD ts (Int.toNat (((Prod.fst x) : Nat) : Int)) default)) (T.n (List.getD ts (Int.toNat (((Prod.fst x) : Nat) : Int)) default)) (T.kids (List.getD ts (Int.toNat (((Prod.fst x) : Nat) : Int)) default))))) < m) ∧
     ((∃ d : Int,
     ((T.shp (T.mk (T.k (List.getD ts (Int.toNat (((Prod.fst x) : Nat) : Int)) default)) (T.n (List.getD ts (Int.toNat (((Prod.fst x) : Nat) : Int)) default)) (T.kids (List.getD ts (Int.toNat (((Prod.fst x) : Nat) : Int)) default))) d) = true)) ∧
     ((T.size (T.mk (T.k (List.getD ts (Int.toNat (((Prod.fst x) : Nat) : Int)) default)) (T.n (List.getD ts (Int.toNat (((Prod.fst x) : Nat) : Int)) default)) (T.kids (List.getD ts (Int.toNat (((Prod.fst x) : Nat) : Int)) default)))) ≤ (400 : Nat)))) ∧
     (∀ l : (List UInt8),
     (((List.length l) ≤ ((12 : Nat) * (T.size (T.mk (T.k (List.getD ts (Int.toNat (((Prod.fst x) : Nat) : Int)) default)) (T.n (List.getD ts (Int.toNat (((Prod.fst x) : Nat) : Int)) default)) (T.kids (List.getD ts (Int.toNat (((Prod.fst x) : Nat) : Int)) default)))))) →
     ((((((List.length ((Prod.snd x) ++ [(44 : UInt8)])) : Nat) : Int) + (((List.length l) : Nat) : Int)) ≤ (1099511627776 : Int)) ∧
     ((InR ((((Prod.fst x) : Nat) : Int) + (1 : Int))) ∧
     (∃ y : (Prod Nat (List UInt8)),
     ((((Prod.fst y) ≤ (List.length ts)) ∧
     ((((List.length (Prod.snd y)) + ((12 : Nat) * (sizeL (List.drop (Prod.fst y) ts)))) + ((List.length ts) - (Prod.fst y))) ≤ (((12 : Nat) * (sizeL ts)) + (List.length ts)))) ∧
     ((ts = ts) ∧
     (((((Prod.snd x) ++ [(44 : UInt8)]) ++ l) = (Prod.snd y)) ∧
     ((((((Prod.fst x) : Nat) : Int) + (1 : Int)) = (((Prod.fst y) : Nat) : Int)) ∧
     ((Nat.succ ((List.length ts) - (Prod.fst y))) ≤ ((List.length ts) - (Prod.fst x)))))))))))))))
     ((((0 : Int) ≤ (((Prod.fst x) : Nat) : Int)) ∧ ((((Prod.fst x) : Nat) : Int) < (((List.length ts) : Nat) : Int))) ∧
     (((((2 : Nat) * (T.size (T.mk (T.k (List.getD ts (Int.toNat (((Prod.fst x) : Nat) : Int)) default)) (T.n (List.getD ts (Int.toNat (((Prod.fst x) : Nat) : Int)) default)) (T.kids (List.getD ts (Int.toNat (((Prod.fst x) : Nat) : Int)) default))))) < m) ∧
     ((∃ d : Int,
     ((T.shp (T.mk (T.k (List.getD ts (Int.toNat (((Prod.fst x) : Nat) : Int)) default)) (T.n (List.getD ts (Int.toNat (((Prod.fst x) : Nat) : Int)) default)) (T.kids (List.getD ts (Int.toNat (((Prod.fst x) : Nat) : Int)) default))) d) = true)) ∧
     ((T.size (T.mk (T.k (List.getD ts (Int.toNat (((Prod.fst x) : Nat) : Int)) default)) (T.n (List.getD ts (Int.toNat (((Prod.fst x) : Nat) : Int)) default)) (T.kids (List.getD ts (Int.toNat (((Prod.fst x) : Nat) : Int)) default)))) ≤ (400 : Nat)))) ∧
     (∀ l : (List UInt8),
     (((List.length l) ≤ ((12 : Nat) * (T.size (T.mk (T.k (List.getD ts (Int.toNat (((Prod.fst x) : Nat) : Int)) default)) (T.n (List.getD ts (Int.toNat (((Prod.fst x) : Nat) : Int)) default)) (T.kids (List.getD ts (Int.toNat (((Prod.fst x) : Nat) : Int)) default)))))) →
     ((((((List.length (Prod.snd x)) : Nat) : Int) + (((List.length l) : Nat) : Int)) ≤ (1099511627776 : Int)) ∧
     ((InR ((((Prod.fst x) : Nat) : Int) + (1 : Int))) ∧
     (∃ y : (Prod Nat (List UInt8)),
     ((((Prod.fst y) ≤ (List.length ts)) ∧
     ((((List.length (Prod.snd y)) + ((12 : Nat) * (sizeL (List.drop (Prod.fst y) ts)))) + ((List.length ts) - (Prod.fst y))) ≤ (((12 : Nat) * (sizeL ts)) + (List.length ts)))) ∧
     ((ts = ts) ∧
     ((((Prod.snd x) ++ l) = (Prod.snd y)) ∧
     ((((((Prod.fst x) : Nat) : Int) + (1 : Int)) = (((Prod.fst y) : Nat) : Int)) ∧
     ((Nat.succ ((List.length ts) - (Prod.fst y))) ≤ ((List.length ts) - (Prod.fst x)))))))))))))))
     (Ret K (.str (Prod.snd x)) [])))))) ?_ (by kernel_rfl)
  obtain ⟨⟨d, hd⟩, hz⟩ := hp
  have hl := length_le_sizeL ts
  refine ⟨⟨(0, []), ⟨Nat.zero_le _, by simp⟩, rfl, rfl, rfl, trivial⟩, ?_⟩
  rintro ⟨i, s⟩ ⟨h1, h2⟩
  simp only at h1 h2
  simp only [T.eta, Int.toNat_natCast]
  refine brd (fun h => ?_) (fun h => ?_)
  · have hi : i < ts.length := by omega
    have hd' := drop_getD hi
    have hs : sizeL (ts.drop i) = (ts.getD i default).size + sizeL (ts.drop (i + 1)) := by rw [hd', sizeL]
    have hm' := sizeL_mem (getD_mem hi)
    have sh : ∃ d, (ts.getD i default).shp d = true := ⟨_, shpL_mem hd (getD_mem hi)⟩
    clear hk hd' hd
    repeat' first
      | exact sh
      | refine ⟨(i + 1, _), ?_, trivial, rfl, rfl, ?_⟩
      | refine brd (fun _ => ?_) (fun _ => ?_)
      | apply And.intro
      | omega
      | (unfold InR; omega)
      | (simp only [List.length_append, List.length_cons, List.length_nil]; omega)
      | intro
  · exact retStr (hk s (by omega)) rfl
theorem wText_soundM : ∀ m : Nat, Sound Try.prog 73 (cwTextM m) ∧ Sound Try.prog 77 (cwListM m)
  | 0 => ⟨by
      refine soundF (G := []) gnil Try.func73 rfl (by kernel_rfl) fun args hs K hCC => ?_
      unfold cwTextM at hCC
      split at hCC
      case h_2 => exact hCC.elim
      exact absurd hCC.1.1 (Nat.not_lt_zero _), by
      refine soundF (G := []) gnil Try.func77 rfl (by kernel_rfl) fun args hs K hCC => ?_
      unfold cwListM at hCC
      split at hCC
      case h_2 => exact hCC.elim
      exact absurd hCC.1.1 (Nat.not_lt_zero _)⟩
  | m + 1 => ⟨by
      refine soundF (G := [(73, cwTextM m), (77, cwListM m), (76, cwDec)]) ((gcons (wText_soundM m).1 (gcons (wText_soundM m).2 (gcons wDec_sound gnil)))) Try.func73 rfl (by kernel_rfl) fun args hs K hCC => ?_
      unfold cwTextM at hCC
      split at hCC
      case h_2 => exact hCC.elim
      rename_i k n ts
      exact ⟨Nat.le_of_ble_eq_true rfl, _, wText_ok m k n ts K hCC.1.1 hCC.1.2 hCC.2⟩, by
      refine soundF (G := [(73, cwTextM m), (77, cwListM m)]) ((gcons (wText_soundM m).1 (gcons (wText_soundM m).2 gnil))) Try.func77 rfl (by kernel_rfl) fun args hs K hCC => ?_
      unfold cwListM at hCC
      split at hCC
      case h_2 => exact hCC.elim
      rename_i ts
      exact ⟨Nat.le_of_ble_eq_true rfl, _, wList_ok m ts K hCC.1.1 hCC.1.2 hCC.2⟩⟩
theorem wText_sound : Sound Try.prog 73 cwText := by
  refine sound_of_all (c := cwTextM) (fun m => (wText_soundM m).1) fun args hs K hCC => ?_
  unfold cwText at hCC
  split at hCC
  case h_2 => exact hCC.elim
  exact ⟨_, ⟨Nat.lt_succ_self _, hCC.1⟩, hCC.2⟩
theorem wList_sound : Sound Try.prog 77 cwList := by
  refine sound_of_all (c := cwListM) (fun m => (wText_soundM m).2) fun args hs K hCC => ?_
  unfold cwList at hCC
  split at hCC
  case h_2 => exact hCC.elim
  exact ⟨_, ⟨Nat.lt_succ_self _, hCC.1⟩, hCC.2⟩
/-- spec.FormatTerm -/
def cwFormat : Con
  | [.st [.int .i64 k, .int .i64 n, .slc ts (.arg 0)]], [], K => True ∧ ((∀ l : List UInt8, l.length ≤ 5000 → K (.str l) []))
  | _, _, _ => False
theorem wFormat_ok (k n : Int) (ts : List T) (K : AV → List AV → Prop) (hp : True) (hk : ((∀ l : List UInt8, l.length ≤ 5000 → K (.str l) []))) :
    bodyQ [(32, csTermValid), (73, cwText)] TY [] Try.f68 (body Try.f68) [.st [.int .i64 k, .int .i64 n, .slc ts (.arg 0)]] [] K := by
  refine of_vc (A :=
    (True ∧
     (Br (Bool.not (T.valid (T.mk k n ts)))
     (Ret K (.str []) [])
     (((∃ d : Int, ((T.shp (T.mk k n ts) d) = true)) ∧ ((T.size (T.mk k n ts)) ≤ (400 : Nat))) ∧
     (∀ l : (List UInt8), (((List.length l) ≤ ((12 : Nat) * (T.size (T.mk k n ts)))) → (Ret K (.str l) []))))))) ?_ (by kernel_rfl)
  exact ⟨trivial, br (fun h => retStr (hk [] (by simp)) rfl) (fun h => by
    rw [Bool.not_eq_false'] at h
    have hz := T.valid_size h
    exact ⟨⟨⟨30, T.valid_shp h⟩, hz⟩, fun l hl => retStr (hk l (by omega)) rfl⟩)⟩
theorem wFormat_sound : Sound Try.prog 68 cwFormat := by
  refine soundF (G := [(32, csTermValid), (73, cwText)]) ((gcons sTermValid_sound (gcons wText_sound gnil))) Try.func68 rfl (by kernel_rfl) fun args hs K hCC => ?_
  unfold cwFormat at hCC
  split at hCC
  case h_2 => exact hCC.elim
  rename_i k n ts
  exact ⟨Nat.le_of_ble_eq_true rfl, _, wFormat_ok k n ts K hCC.1 hCC.2⟩
/-- spec.ParseTerm -/
def cwParseTerm : Con
  | [.str l], [], K => ((l.length ≤ 1000)) ∧ ((∀ (t : T) (b : Bool), t.size ≤ 1001 → K (.tup [t.av fz, .bool b]) []))
  | _, _, _ => False
theorem wParseTerm_ok (l : List UInt8) (K : AV → List AV → Prop) (hp : ((l.length ≤ 1000))) (hk : ((∀ (t : T) (b : Bool), t.size ≤ 1001 → K (.tup [t.av fz, .bool b]) []))) :
    bodyQ [(67, cwParse), (68, cwFormat)] TY [] Try.f66 (body Try.f66) [.str l] [] K := by
  refine of_vc (A :=
    (((((List.length l) ≤ (10000 : Nat)) ∧ (((0 : Int) ≤ (0 : Int)) ∧ ((0 : Int) ≤ (20000 : Int)))) ∧ (((0 : Int) ≤ (30 : Int)) ∧ ((30 : Int) ≤ (30 : Int)))) ∧
     (∀ t : T,
     (∀ e : Int,
     ((prs (((List.length l) : Nat) : Int) (0 : Int) t e) →
     (Br (Decidable.decide (l = (Array.toList (ByteArray.data (ByteArray.mk (List.toArray ([] : List UInt8)))))))
     (Ret K (.tup [(.st [(.int .i64 0), (.int .i64 0), (.slc [] (.iv 0 0 true .full))]), (.bool false)]) [])
     (Br (Decidable.decide (e ≠ (((List.length l) : Nat) : Int)))
     (Ret K (.tup [(.st [(.int .i64 0), (.int .i64 0), (.slc [] (.iv 0 0 true .full))]), (.bool false)]) [])
     (True ∧
     (∀ l1 : (List UInt8),
     (((List.length l1) ≤ (5000 : Nat)) →
     (Br (Decidable.decide (l1 ≠ l))
     (Ret K (.tup [(.st [(.int .i64 0), (.int .i64 0), (.slc [] (.iv 0 0 true .full))]), (.bool false)]) [])
     (Ret K (.tup [(.st [(.int .i64 (T.k t)), (.int .i64 (T.n t)), (.slc (T.kids t) (.iv 7 7 false .no))]), (.bool true)]) [])))))))))))) ?_ (by kernel_rfl)
  have bad : Ret K (.tup [.st [.int .i64 0, .int .i64 0, .slc [] (.iv 0 0 true .full)], .bool false]) [] := retTB (hk (.mk 0 0 []) false (by decide)) rfl rfl
  refine ⟨by omega, fun t e h => brd (fun _ => bad) (fun _ => brd (fun _ => bad) (fun _ => ⟨trivial, fun l1 _ => brd (fun _ => bad) (fun _ => retTB (hk t true (by have := h.2; omega)) (T.eta t) rfl)⟩))⟩
theorem wParseTerm_sound : Sound Try.prog 66 cwParseTerm := by
  refine soundF (G := [(67, cwParse), (68, cwFormat)]) ((gcons wParse_sound (gcons wFormat_sound gnil))) Try.func66 rfl (by kernel_rfl) fun args hs K hCC => ?_
  unfold cwParseTerm at hCC
  split at hCC
  case h_2 => exact hCC.elim
  rename_i l
  exact ⟨Nat.le_of_ble_eq_true rfl, _, wParseTerm_ok l K hCC.1 hCC.2⟩
theorem retIR {K : AV → List AV → Prop} {a a' : Int} {bs : List Int} {p p' : Int} (hk : K (.int .i64 a') [.st [.ints .u8 bs .any, .int .i64 p']]) (ha : a = a') (hp : p = p') : Ret K (.int .i64 a) [.st [.ints .u8 bs .any, .int .i64 p]] := by
  subst ha hp; exact fin hk ⟨rfl, rfl⟩ ⟨⟨⟨rfl, rfl, rfl⟩, ⟨rfl, rfl⟩, True.intro⟩, True.intro⟩
theorem retStrR {K : AV → List AV → Prop} {a : List UInt8} {bs : List Int} {p p' : Int} (hk : K (.str a) [.st [.ints .u8 bs .any, .int .i64 p']]) (hp : p = p') : Ret K (.str a) [.st [.ints .u8 bs .any, .int .i64 p]] := by
  subst hp; exact fin hk rfl ⟨⟨⟨rfl, rfl, rfl⟩, ⟨rfl, rfl⟩, True.intro⟩, True.intro⟩
/-- spec.l19Rd).of -/
def crof : Con
  | [.fptr 0, .strs ss], [(.st [.ints .u8 bs .any, .int .i64 (p)])], K => ((Bs bs ∧ 0 ≤ p ∧ p ≤ 1000000 ∧ ss ≠ [] ∧ ss.length ≤ 1000)) ∧ ((∀ x, x ∈ ss → K (.str x) [(.st [.ints .u8 bs .any, .int .i64 ((p + 1))])]))
  | _, _, _ => False
theorem rof_ok (bs : List Int) (p : Int) (ss : List (List UInt8)) (K : AV → List AV → Prop) (hp : ((Bs bs ∧ 0 ≤ p ∧ p ≤ 1000000 ∧ ss ≠ [] ∧ ss.length ≤ 1000))) (hk : ((∀ x, x ∈ ss → K (.str x) [(.st [.ints .u8 bs .any, .int .i64 ((p + 1))])]))) :
    bodyQ [(23, crpick)] TY [] Try.f64 (body Try.f64) [.fptr 0, .strs ss] [(.st [.ints .u8 bs .any, .int .i64 (p)])] K := by
  refine of_vc (A :=
    (((Bs bs) ∧ (((0 : Int) ≤ p) ∧ ((p ≤ (1000000 : Int)) ∧ ((((List.length ss) : Nat) : Int) ≤ (9223372036854775807 : Int))))) ∧
     (∀ x : Int,
     ((((0 : Int) < (((List.length ss) : Nat) : Int)) → (((0 : Int) ≤ x) ∧ (x < (((List.length ss) : Nat) : Int)))) →
     ((((0 : Int) ≤ x) ∧ (x < (((List.length ss) : Nat) : Int))) ∧
     (Ret K (.str (List.getD ss (Int.toNat x) ([] : List UInt8))) [(.st [(.ints .u8 bs .any), (.int .i64 (p + (1 : Int)))])])))))) ?_ (by kernel_rfl)
  obtain ⟨hb, p0, p1, hn, hl2⟩ := hp
  have hl : 0 < ss.length := List.length_pos_iff.2 hn
  refine ⟨⟨hb, p0, p1, by omega⟩, fun x hx => ⟨hx (by omega), retStrR (hk _ (getD_mem ?_)) rfl⟩⟩
  have hx := hx (by omega)
  omega
theorem rof_sound : Sound Try.prog 64 crof := by
  refine soundF (G := [(23, crpick)]) ((gcons rpick_sound gnil)) Try.func64 rfl (by kernel_rfl) fun args hs K hCC => ?_
  unfold crof at hCC
  split at hCC
  case h_2 => exact hCC.elim
  rename_i ss bs p
  exact ⟨Nat.le_of_ble_eq_true rfl, _, rof_ok bs p ss K hCC.1 hCC.2⟩
/-- spec.l3Plus -/
def cwPlus : Con
  | [], [], K => True ∧ ((∀ l : List UInt8, l.length ≤ 40 → K (.str l) []))
  | _, _, _ => False
theorem wPlus_ok  (K : AV → List AV → Prop) (hp : True) (hk : ((∀ l : List UInt8, l.length ≤ 40 → K (.str l) []))) :
    bodyQ [] TY [] Try.f65 (body Try.f65) [] [] K := by
  refine of_vc (A :=
    (Ret K (.str [(91 : UInt8), (78 : UInt8), (93 : UInt8), (91 : UInt8), (78 : UInt8), (93 : UInt8), (60 : UInt8), (91 : UInt8), (78 : UInt8), (93 : UInt8), (78 : UInt8), (44 : UInt8), (35 : UInt8), (49 : UInt8), (44 : UInt8), (91 : UInt8), (78 : UInt8), (93 : UInt8), (91 : UInt8), (78 : UInt8), (93 : UInt8), (43 : UInt8), (35 : UInt8), (48 : UInt8), (44 : UInt8), (35 : UInt8), (48 : UInt8), (62 : UInt8)]) [])) ?_ (by kernel_rfl)
  exact retStr (hk _ (by decide)) rfl
theorem wPlus_sound : Sound Try.prog 65 cwPlus := by
  refine soundF (G := []) (gnil) Try.func65 rfl (by kernel_rfl) fun args hs K hCC => ?_
  unfold cwPlus at hCC
  split at hCC
  case h_2 => exact hCC.elim
  exact ⟨Nat.le_of_ble_eq_true rfl, _, wPlus_ok  K hCC.1 hCC.2⟩
/-- spec.l3Draw -/
def cl3Draw : Con
  | [.fptr 0], [(.st [.ints .u8 bs .any, .int .i64 (p)])], K => ((Bs bs ∧ 0 ≤ p ∧ p ≤ 700000)) ∧ ((∀ (t : T) (p' : Int), t.size ≤ 1001 → p ≤ p' ∧ p' ≤ p + 20000 → K (t.av fz) [(.st [.ints .u8 bs .any, .int .i64 (p')])]))
  | _, _, _ => False
theorem l3Draw_ok (bs : List Int) (p : Int) (K : AV → List AV → Prop) (hp : ((Bs bs ∧ 0 ≤ p ∧ p ≤ 700000))) (hk : ((∀ (t : T) (p' : Int), t.size ≤ 1001 → p ≤ p' ∧ p' ≤ p + 20000 → K (t.av fz) [(.st [.ints .u8 bs .any, .int .i64 (p')])]))) :
    bodyQ [(65, cwPlus), (64, crof), (66, cwParseTerm), (23, crpick), (21, cl1Any)] TY [] Try.f58 (body Try.f58) [.fptr 0] [(.st [.ints .u8 bs .any, .int .i64 (p)])] K := by
  refine of_vc (A :=
    (True ∧
     (∀ l : (List UInt8),
     (((List.length l) ≤ (40 : Nat)) →
     ((((1 : Int) + (((List.length l) : Nat) : Int)) ≤ (1099511627776 : Int)) ∧
     ((((((List.length ([(40 : UInt8)] ++ l)) : Nat) : Int) + (5 : Int)) ≤ (1099511627776 : Int)) ∧
     (True ∧
     (∀ l1 : (List UInt8),
     (((List.length l1) ≤ (40 : Nat)) →
     ((((2 : Int) + (((List.length l1) : Nat) : Int)) ≤ (1099511627776 : Int)) ∧
     ((((((List.length ([(40 : UInt8), (40 : UInt8)] ++ l1)) : Nat) : Int) + (9 : Int)) ≤ (1099511627776 : Int)) ∧
     (((Bs bs) ∧
     (((0 : Int) ≤ p) ∧
     ((p ≤ (1000000 : Int)) ∧
     (([(([(40 : UInt8)] ++ l) ++ [(32 : UInt8), (43 : UInt8), (43 : UInt8), (48 : UInt8), (41 : UInt8)]), (([(40 : UInt8), (40 : UInt8)] ++ l1) ++ [(32 : UInt8), (43 : UInt8), (43 : UInt8), (48 : UInt8), (41 : UInt8), (32 : UInt8), (43 : UInt8), (48 : UInt8), (41 : UInt8)]), [(40 : UInt8), (91 : UInt8), (78 : UInt8), (93 : UInt8), (43 : UInt8), (35 : UInt8), (48 : UInt8), (32 : UInt8), (40 : UInt8), (91 : UInt8), (78 : UInt8), (93 : UInt8), (43 : UInt8), (43 : UInt8), (35 : UInt8), (48 : UInt8), (32 : UInt8), (48 : UInt8), (41 : UInt8), (41 : UInt8)], [(94 : UInt8), (124 : UInt8), (40 : UInt8), (78 : UInt8), (42 : UInt8), (78 : UInt8), (41 : UInt8), (44 : UInt8), (40 : UInt8), (91 : UInt8), (78 : UInt8), (93 : UInt8), (35 : UInt8), (48 : UInt8), (32 : UInt8), (48 : UInt8), (41 : UInt8), (44 : UInt8), (43 : UInt8), (48 : UInt8), (124 : UInt8)], [(95 : UInt8), (124 : UInt8), (40 : UInt8), (78 : UInt8), (42 : UInt8), (78 : UInt8), (41 : UInt8), (44 : UInt8), (48 : UInt8), (44 : UInt8), (40 : UInt8), (91 : UInt8), (78 : UInt8), (93 : UInt8), (43 : UInt8), (35 : UInt8), (48 : UInt8), (32 : UInt8), (48 : UInt8), (41 : UInt8), (124 : UInt8)], [(64 : UInt8), (60 : UInt8), (91 : UInt8), (78 : UInt8), (93 : UInt8), (123 : UInt8), (78 : UInt8), (44 : UInt8), (48 : UInt8), (44 : UInt8), (35 : UInt8), (48 : UInt8), (125 : UInt8), (44 : UInt8), (33 : UInt8), (48 : UInt8), (44 : UInt8), (33 : UInt8), (48 : UInt8), (62 : UInt8)], [(40 : UInt8), (91 : UInt8), (42 : UInt8), (48 : UInt8), (93 : UInt8), (91 : UInt8), (35 : UInt8), (48 : UInt8), (93 : UInt8), (35 : UInt8), (48 : UInt8), (32 : UInt8), (78 : UInt8), (41 : UInt8)], [(40 : UInt8), (91 : UInt8), (78 : UInt8), (93 : UInt8), (40 : UInt8), (35 : UInt8), (48 : UInt8), (32 : UInt8), (35 : UInt8), (48 : UInt8), (41 : UInt8), (32 : UInt8), (91 : UInt8), (78 : UInt8), (93 : UInt8), (35 : UInt8), (48 : UInt8), (41 : UInt8)], [(40 : UInt8), (91 : UInt8), (78 : UInt8), (93 : UInt8), (40 : UInt8), (35 : UInt8), (48 : UInt8), (32 : UInt8), (35 : UInt8), (48 : UInt8), (41 : UInt8), (32 : UInt8), (91 : UInt8), (78 : UInt8), (93 : UInt8), (40 : UInt8), (35 : UInt8), (48 : UInt8), (32 : UInt8), (35 : UInt8), (48 : UInt8), (41 : UInt8), (41 : UInt8)], [(60 : UInt8), (91 : UInt8), (78 : UInt8), (93 : UInt8), (42 : UInt8), (48 : UInt8), (44 : UInt8), (78 : UInt8), (44 : UInt8), (91 : UInt8), (78 : UInt8), (93 : UInt8), (91 : UInt8), (42 : UInt8), (48 : UInt8), (93 : UInt8), (40 : UInt8), (78 : UInt8), (62 : UInt8), (35 : UInt8), (49 : UInt8), (41 : UInt8), (44 : UInt8), (43 : UInt8), (43 : UInt8), (43 : UInt8), (48 : UInt8), (62 : UInt8)], [(91 : UInt8), (78 : UInt8), (93 : UInt8), (40 : UInt8), (91 : UInt8), (78 : UInt8), (93 : UInt8), (40 : UInt8), (35 : UInt8), (48 : UInt8), (32 : UInt8), (35 : UInt8), (49 : UInt8), (41 : UInt8), (32 : UInt8), (35 : UInt8), (48 : UInt8), (41 : UInt8)], [(40 : UInt8), (40 : UInt8), (91 : UInt8), (40 : UInt8), (78 : UInt8), (62 : UInt8), (78 : UInt8), (41 : UInt8), (93 : UInt8), (91 : UInt8), (78 : UInt8), (93 : UInt8), (40 : UInt8), (35 : UInt8), (49 : UInt8), (32 : UInt8), (40 : UInt8), (35 : UInt8), (49 : UInt8), (32 : UInt8), (35 : UInt8), (48 : UInt8), (41 : UInt8), (41 : UInt8), (32 : UInt8), (91 : UInt8), (78 : UInt8), (93 : UInt8), (43 : UInt8), (35 : UInt8), (48 : UInt8), (41 : UInt8), (32 : UInt8), (35 : UInt8), (48 : UInt8), (41 : UInt8)], [(60 : UInt8), (91 : UInt8), (78 : UInt8), (93 : UInt8), (78 : UInt8), (44 : UInt8), (48 : UInt8), (44 : UInt8), (91 : UInt8), (78 : UInt8), (93 : UInt8), (91 : UInt8), (78 : UInt8), (93 : UInt8), (35 : UInt8), (49 : UInt8), (44 : UInt8), (40 : UInt8), (91 : UInt8), (78 : UInt8), (93 : UInt8), (43 : UInt8), (35 : UInt8), (48 : UInt8), (32 : UInt8), (35 : UInt8), (50 : UInt8), (41 : UInt8), (62 : UInt8)]] ≠ ([] : List (List UInt8))) ∧
     ((13 : Nat) ≤ (1000 : Nat)))))) ∧
     (∀ x : (List UInt8),
     ((Membership.mem [(([(40 : UInt8)] ++ l) ++ [(32 : UInt8), (43 : UInt8), (43 : UInt8), (48 : UInt8), (41 : UInt8)]), (([(40 : UInt8), (40 : UInt8)] ++ l1) ++ [(32 : UInt8), (43 : UInt8), (43 : UInt8), (48 : UInt8), (41 : UInt8), (32 : UInt8), (43 : UInt8), (48 : UInt8), (41 : UInt8)]), [(40 : UInt8), (91 : UInt8), (78 : UInt8), (93 : UInt8), (43 : UInt8), (35 : UInt8), (48 : UInt8), (32 : UInt8), (40 : UInt8), (91 : UInt8), (78 : UInt8), (93 : UInt8), (43 : UInt8), (43 : UInt8), (35 : UInt8), (48 : UInt8), (32 : UInt8), (48 : UInt8), (41 : UInt8), (41 : UInt8)], [(94 : UInt8), (124 : UInt8), (40 : UInt8), (78 : UInt8), (42 : UInt8), (78 : UInt8), (41 : UInt8), (44 : UInt8), (40 : UInt8), (91 : UInt8), (78 : UInt8), (93 : UInt8), (35 : UInt8), (48 : UInt8), (32 : UInt8), (48 : UInt8), (41 : UInt8), (44 : UInt8), (43 : UInt8), (48 : UInt8), (124 : UInt8)], [(95 : UInt8), (124 : UInt8), (40 : UInt8), (78 : UInt8), (42 : UInt8), (78 : UInt8), (41 : UInt8), (44 : UInt8), (48 : UInt8), (44 : UInt8), (40 : UInt8), (91 : UInt8), (78 : UInt8), (93 : UInt8), (43 : UInt8), (35 : UInt8), (48 : UInt8), (32 : UInt8), (48 : UInt8), (41 : UInt8), (124 : UInt8)], [(64 : UInt8), (60 : UInt8), (91 : UInt8), (78 : UInt8), (93 : UInt8), (123 : UInt8), (78 : UInt8), (44 : UInt8), (48 : UInt8), (44 : UInt8), (35 : UInt8), (48 : UInt8), (125 : UInt8), (44 : UInt8), (33 : UInt8), (48 : UInt8), (44 : UInt8), (33 : UInt8), (48 : UInt8), (62 : UInt8)], [(40 : UInt8), (91 : UInt8), (42 : UInt8), (48 : UInt8), (93 : UInt8), (91 : UInt8), (35 : UInt8), (48 : UInt8), (93 : UInt8), (35 : UInt8), (48 : UInt8), (32 : UInt8), (78 : UInt8), (41 : UInt8)], [(40 : UInt8), (91 : UInt8), (78 : UInt8), (93 : UInt8), (40 : UInt8), (35 : UInt8), (48 : UInt8), (32 : UInt8), (35 : UInt8), (48 : UInt8), (41 : UInt8), (32 : UInt8), (91 : UInt8), (78 : UInt8), (93 : UInt8), (35 : UInt8), (48 : UInt8), (41 : UInt8)], [(40 : UInt8), (91 : UInt8), (78 : UInt8), (93 : UInt8), (40 : UInt8), (35 : UInt8), (48 : UInt8), (32 : UInt8), (35 : UInt8), (48 : UInt8), (41 : UInt8), (32 : UInt8), (91 : UInt8), (78 : UInt8), (93 : UInt8), (40 : UInt8), (35 : UInt8), (48 : UInt8), (32 : UInt8), (35 : UInt8), (48 : UInt8), (41 : UInt8), (41 : UInt8)], [(60 : UInt8), (91 : UInt8), (78 : UInt8), (93 : UInt8), (42 : UInt8), (48 : UInt8), (44 : UInt8), (78 : UInt8), (44 : UInt8), (91 : UInt8), (78 : UInt8), (93 : UInt8), (91 : UInt8), (42 : UInt8), (48 : UInt8), (93 : UInt8), (40 : UInt8), (78 : UInt8), (62 : UInt8), (35 : UInt8), (49 : UInt8), (41 : UInt8), (44 : UInt8), (43 : UInt8), (43 : UInt8), (43 : UInt8), (48 : UInt8), (62 : UInt8)], [(91 : UInt8), (78 : UInt8), (93 : UInt8), (40 : UInt8), (91 : UInt8), (78 : UInt8), (93 : UInt8), (40 : UInt8), (35 : UInt8), (48 : UInt8), (32 : UInt8), (35 : UInt8), (49 : UInt8), (41 : UInt8), (32 : UInt8), (35 : UInt8), (48 : UInt8), (41 : UInt8)], [(40 : UInt8), (40 : UInt8), (91 : UInt8), (40 : UInt8), (78 : UInt8), (62 : UInt8), (78 : UInt8), (41 : UInt8), (93 : UInt8), (91 : UInt8), (78 : UInt8), (93 : UInt8), (40 : UInt8), (35 : UInt8), (49 : UInt8), (32 : UInt8), (40 : UInt8), (35 : UInt8), (49 : UInt8), (32 : UInt8), (35 : UInt8), (48 : UInt8), (41 : UInt8), (41 : UInt8), (32 : UInt8), (91 : UInt8), (78 : UInt8), (93 : UInt8), (43 : UInt8), (35 : UInt8), (48 : UInt8), (41 : UInt8), (32 : UInt8), (35 : UInt8), (48 : UInt8), (41 : UInt8)], [(60 : UInt8), (91 : UInt8), (78 : UInt8), (93 : UInt8), (78 : UInt8), (44 : UInt8), (48 : UInt8), (44 : UInt8), (91 : UInt8), (78 : UInt8), (93 : UInt8), (91 : UInt8), (78 : UInt8), (93 : UInt8), (35 : UInt8), (49 : UInt8), (44 : UInt8), (40 : UInt8), (91 : UInt8), (78 : UInt8), (93 : UInt8), (43 : UInt8), (35 : UInt8), (48 : UInt8), (32 : UInt8), (35 : UInt8), (50 : UInt8), (41 : UInt8), (62 : UInt8)]] x) →
     (((List.length x) ≤ (1000 : Nat)) ∧
     (∀ t : T,
     (∀ b : Bool,
     (((T.size t) ≤ (1001 : Nat)) →
     (Br b
     (((Bs bs) ∧ (((0 : Int) ≤ (p + (1 : Int))) ∧ (((p + (1 : Int)) ≤ (1000000 : Int)) ∧ ((3 : Int) ≤ (9223372036854775807 : Int))))) ∧
     (∀ x1 : Int,
     ((((0 : Int) < (3 : Int)) → (((0 : Int) ≤ x1) ∧ (x1 < (3 : Int)))) →
     (Br (Decidable.decide ((0 : Int) < x1))
     (Ret K (.st [(.int .i64 (T.k t)), (.int .i64 (T.n t)), (.slc (T.kids t) (.iv 7 7 false .no))]) [(.st [(.ints .u8 bs .any), (.int .i64 ((p + (1 : Int)) + (1 : Int)))])])
     (((Bs bs) ∧ (((0 : Int) ≤ ((p + (1 : Int)) + (1 : Int))) ∧ (((p + (1 : Int)) + (1 : Int)) ≤ (800000 : Int)))) ∧
     (∀ t1 : T,
     (∀ p' : Int,
     (((T.valid t1) = true) →
     (((((p + (1 : Int)) + (1 : Int)) ≤ p') ∧ (p' ≤ (((p + (1 : Int)) + (1 : Int)) + (5000 : Int)))) →
     (Ret K (.st [(.int .i64 (T.k t1)), (.int .i64 (T.n t1)), (.slc (T.kids t1) (.iv 4 4 true (.tok 0)))]) [(.st [(.ints .u8 bs .any), (.int .i64 p')])]))))))))))
     (((Bs bs) ∧ (((0 : Int) ≤ (p + (1 : Int))) ∧ ((p + (1 : Int)) ≤ (800000 : Int)))) ∧
     (∀ t1 : T,
     (∀ p' : Int,
     (((T.valid t1) = true) →
     ((((p + (1 : Int)) ≤ p') ∧ (p' ≤ ((p + (1 : Int)) + (5000 : Int)))) →
     (Ret K (.st [(.int .i64 (T.k t1)), (.int .i64 (T.n t1)), (.slc (T.kids t1) (.iv 4 4 true (.tok 0)))]) [(.st [(.ints .u8 bs .any), (.int .i64 p')])]))))))))))))))))))))))))) ?_ (by kernel_rfl)
  obtain ⟨hb, p0, p1⟩ := hp
  have e : ∀ t : T, t.valid = true → t.size ≤ 1001 := fun t h => by have := T.valid_size h; omega
  simp only [T.eta]
  refine ⟨trivial, fun l hl => ⟨by omega, by simp only [List.length_append, List.length_cons, List.length_nil]; omega, trivial, fun l1 hl1 => ⟨by omega, by simp only [List.length_append, List.length_cons, List.length_nil]; omega, ⟨hb, p0, by omega, by simp, by omega⟩, fun x hx => ⟨?_, fun t b ht => br (fun _ => ?_) (fun _ => ?_)⟩⟩⟩⟩
  · simp only [List.mem_cons, List.not_mem_nil, or_false] at hx
    rcases hx with rfl | rfl | rfl | rfl | rfl | rfl | rfl | rfl | rfl | rfl | rfl | rfl | rfl <;> simp only [List.length_append, List.length_cons, List.length_nil] <;> omega
  · refine ⟨⟨hb, by omega, by omega, by omega⟩, fun x1 _ => brd (fun _ => retTR (hk t _ ht (by omega)) (T.eta t) rfl) (fun _ => ⟨⟨hb, by omega, by omega⟩, fun t1 p' h1 h2 => retTR (hk t1 p' (e t1 h1) (by omega)) (T.eta t1) rfl⟩)⟩
  · exact ⟨⟨hb, by omega, by omega⟩, fun t1 p' h1 h2 => retTR (hk t1 p' (e t1 h1) (by omega)) (T.eta t1) rfl⟩
theorem l3Draw_sound : Sound Try.prog 58 cl3Draw := by
  refine soundF (G := [(65, cwPlus), (64, crof), (66, cwParseTerm), (23, crpick), (21, cl1Any)]) ((gcons wPlus_sound (gcons rof_sound (gcons wParseTerm_sound (gcons rpick_sound (gcons l1Any_sound gnil)))))) Try.func58 rfl (by kernel_rfl) fun args hs K hCC => ?_
  unfold cl3Draw at hCC
  split at hCC
  case h_2 => exact hCC.elim
  rename_i bs p
  exact ⟨Nat.le_of_ble_eq_true rfl, _, l3Draw_ok bs p K hCC.1 hCC.2⟩
/-- spec.DrawRedexOf -/
def cdRedexOf : Con
  | [.ints .u8 bs (.arg 0)], [], K => ((Bs bs)) ∧ ((∀ t : T, t.size ≤ 3000 → K (t.av .any) []))
  | _, _, _ => False
theorem dRedexOf_ok (bs : List Int) (K : AV → List AV → Prop) (hp : ((Bs bs))) (hk : ((∀ t : T, t.size ≤ 3000 → K (t.av .any) []))) :
    bodyQ [(19, cl19Open), (58, cl3Draw), (20, cl1Mutate)] TY [] Try.f38 (body Try.f38) [.ints .u8 bs (.arg 0)] [] K := by
  refine of_vc (A :=
    ((Bs bs) ∧
     (∀ bs' : (List Int),
     ((Bs bs') →
     (((Bs bs') ∧ (((0 : Int) ≤ (0 : Int)) ∧ ((0 : Int) ≤ (700000 : Int)))) ∧
     (∀ t : T,
     (∀ p' : Int,
     (((T.size t) ≤ (1001 : Nat)) →
     ((((0 : Int) ≤ p') ∧ (p' ≤ ((0 : Int) + (20000 : Int)))) →
     ((((Bs bs') ∧ (((0 : Int) ≤ p') ∧ (p' ≤ (800000 : Int)))) ∧ ((sizeL (T.kids t)) ≤ (1000000 : Nat))) ∧
     (∀ t1 : T,
     (∀ p'1 : Int,
     (((T.size t1) ≤ ((2 : Nat) + (sizeL (T.kids t)))) →
     (((p' ≤ p'1) ∧ (p'1 ≤ (p' + (2 : Int)))) →
     (Ret K (.st [(.int .i64 (T.k t1)), (.int .i64 (T.n t1)), (.slc (T.kids t1) (.iv 4 4 false .no))]) []))))))))))))))) ?_ (by kernel_rfl)
  refine ⟨hp, fun bs' hb => ⟨⟨hb, by omega, by omega⟩, fun t p' ht h1 => ?_⟩⟩
  have z := T.size_eq t
  exact ⟨⟨⟨hb, by omega, by omega⟩, by omega⟩, fun t1 p1 h2 _ => retT (hk t1 (by omega)) (T.eta t1)⟩
theorem dRedexOf_sound : Sound Try.prog 38 cdRedexOf := by
  refine soundF (G := [(19, cl19Open), (58, cl3Draw), (20, cl1Mutate)]) ((gcons l19Open_sound (gcons l3Draw_sound (gcons l1Mutate_sound gnil)))) Try.func38 rfl (by kernel_rfl) fun args hs K hCC => ?_
  unfold cdRedexOf at hCC
  split at hCC
  case h_2 => exact hCC.elim
  rename_i bs
  exact ⟨Nat.le_of_ble_eq_true rfl, _, dRedexOf_ok bs K hCC.1 hCC.2⟩
/-- spec.DrawNormalTerm -/
def cdNormalTerm : Con
  | [.ints .u8 bs (.arg 0)], [], K => ((Bs bs)) ∧ ((∀ t : T, t.size ≤ 3000 → K (t.av .any) []))
  | _, _, _ => False
theorem dNormalTerm_ok (bs : List Int) (K : AV → List AV → Prop) (hp : ((Bs bs))) (hk : ((∀ t : T, t.size ≤ 3000 → K (t.av .any) []))) :
    bodyQ [(38, cdRedexOf)] TY [] Try.f11 (body Try.f11) [.ints .u8 bs (.arg 0)] [] K := by
  refine of_vc (A :=
    ((Bs bs) ∧ (∀ t : T, (((T.size t) ≤ (3000 : Nat)) → (Ret K (.st [(.int .i64 (T.k t)), (.int .i64 (T.n t)), (.slc (T.kids t) .any)]) []))))) ?_ (by kernel_rfl)
  exact ⟨hp, fun t ht => retTv (hk t ht)⟩
theorem dNormalTerm_sound : Sound Try.prog 11 cdNormalTerm := by
  refine soundF (G := [(38, cdRedexOf)]) ((gcons dRedexOf_sound gnil)) Try.func11 rfl (by kernel_rfl) fun args hs K hCC => ?_
  unfold cdNormalTerm at hCC
  split at hCC
  case h_2 => exact hCC.elim
  rename_i bs
  exact ⟨Nat.le_of_ble_eq_true rfl, _, dNormalTerm_ok bs K hCC.1 hCC.2⟩
/-- spec.DrawCountRedexes -/
def cdCountRedexes : Con
  | [.ints .u8 bs (.arg 0)], [], K => ((Bs bs)) ∧ ((∀ t : T, t.size ≤ 3000 → K (t.av .any) []))
  | _, _, _ => False
theorem dCountRedexes_ok (bs : List Int) (K : AV → List AV → Prop) (hp : ((Bs bs))) (hk : ((∀ t : T, t.size ≤ 3000 → K (t.av .any) []))) :
    bodyQ [(38, cdRedexOf)] TY [] Try.f16 (body Try.f16) [.ints .u8 bs (.arg 0)] [] K := by
  refine of_vc (A :=
    ((Bs bs) ∧ (∀ t : T, (((T.size t) ≤ (3000 : Nat)) → (Ret K (.st [(.int .i64 (T.k t)), (.int .i64 (T.n t)), (.slc (T.kids t) .any)]) []))))) ?_ (by kernel_rfl)
  exact ⟨hp, fun t ht => retTv (hk t ht)⟩
theorem dCountRedexes_sound : Sound Try.prog 16 cdCountRedexes := by
  refine soundF (G := [(38, cdRedexOf)]) ((gcons dRedexOf_sound gnil)) Try.func16 rfl (by kernel_rfl) fun args hs K hCC => ?_
  unfold cdCountRedexes at hCC
  split at hCC
  case h_2 => exact hCC.elim
  rename_i bs
  exact ⟨Nat.le_of_ble_eq_true rfl, _, dCountRedexes_ok bs K hCC.1 hCC.2⟩
end Go.Dk
