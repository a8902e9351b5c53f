/- Texts: the reference's reader of terms. -/
import Derived.Test.YteamklllllembaaDoorSp
namespace Go.Dk
set_option linter.unusedVariables false
set_option linter.unusedSimpArgs false
open Go.Proofs
/-- spec.l1Parse -/
def csParseM (m : Nat) : Con
  | [.str l, .int .i64 (a), .int .i64 (d)], [], K => (((3 * d + 2).toNat) < m ∧ (((l.length ≤ 1048576 ∧ 0 ≤ a ∧ a ≤ 2000000) ∧ 0 ≤ d ∧ d ≤ 30))) ∧ ((∀ (t : T) (e : Int), prs l.length a t e → fnd l a d t e → K (.tup [t.av fz, .int .i64 e]) []))
  | _, _, _ => False
def csParse : Con
  | [.str l, .int .i64 (a), .int .i64 (d)], [], K => (((l.length ≤ 1048576 ∧ 0 ≤ a ∧ a ≤ 2000000) ∧ 0 ≤ d ∧ d ≤ 30)) ∧ ((∀ (t : T) (e : Int), prs l.length a t e → fnd l a d t e → K (.tup [t.av fz, .int .i64 e]) []))
  | _, _, _ => False
/-- spec.l1Prefix -/
def csPrefixM (m : Nat) : Con
  | [.str l, .int .i64 (a), .int .i64 (d)], [], K => (((3 * d + 1).toNat) < m ∧ (((l.length ≤ 1048576 ∧ 0 ≤ a ∧ a < l.length) ∧ 1 ≤ d ∧ d ≤ 30) ∧ (((l.getD a.toNat 0).toNat : Int) = 43 ∨ ((l.getD a.toNat 0).toNat : Int) = 33 ∨ ((l.getD a.toNat 0).toNat : Int) = 94 ∨ ((l.getD a.toNat 0).toNat : Int) = 95))) ∧ ((∀ (t : T) (e : Int), prs l.length a t e → fnd l a d t e → K (.tup [t.av fz, .int .i64 e]) []))
  | _, _, _ => False
def csPrefix : Con
  | [.str l, .int .i64 (a), .int .i64 (d)], [], K => (((l.length ≤ 1048576 ∧ 0 ≤ a ∧ a < l.length) ∧ 1 ≤ d ∧ d ≤ 30) ∧ (((l.getD a.toNat 0).toNat : Int) = 43 ∨ ((l.getD a.toNat 0).toNat : Int) = 33 ∨ ((l.getD a.toNat 0).toNat : Int) = 94 ∨ ((l.getD a.toNat 0).toNat : Int) = 95)) ∧ ((∀ (t : T) (e : Int), prs l.length a t e → fnd l a d t e → K (.tup [t.av fz, .int .i64 e]) []))
  | _, _, _ => False
/-- spec.l1Round -/
def csRoundM (m : Nat) : Con
  | [.str l, .int .i64 (a), .int .i64 (d)], [], K => (((3 * d + 3).toNat) < m ∧ (((l.length ≤ 1048576 ∧ 1 ≤ a ∧ a ≤ l.length) ∧ 0 ≤ d ∧ d ≤ 30) ∧ (((l.getD (a - 1).toNat 0).toNat : Int) = 40))) ∧ ((∀ (t : T) (e : Int), prs l.length a t e → fnd l (a - 1) (d + 1) t e → K (.tup [t.av fz, .int .i64 e]) []))
  | _, _, _ => False
def csRound : Con
  | [.str l, .int .i64 (a), .int .i64 (d)], [], K => (((l.length ≤ 1048576 ∧ 1 ≤ a ∧ a ≤ l.length) ∧ 0 ≤ d ∧ d ≤ 30) ∧ (((l.getD (a - 1).toNat 0).toNat : Int) = 40)) ∧ ((∀ (t : T) (e : Int), prs l.length a t e → fnd l (a - 1) (d + 1) t e → K (.tup [t.av fz, .int .i64 e]) []))
  | _, _, _ => False
/-- spec.l1Block -/
def csBlockM (m : Nat) : Con
  | [.str l, .int .i64 (a), .int .i64 (d)], [], K => (((3 * d + 1).toNat) < m ∧ (((l.length ≤ 1048576 ∧ 0 ≤ a ∧ a < l.length) ∧ 1 ≤ d ∧ d ≤ 30) ∧ (∀ c : Int, c = ((l.getD a.toNat 0).toNat : Int) → c ≠ 35 ∧ c ≠ 42 ∧ c ≠ 78 ∧ c ≠ 48 ∧ c ≠ 43 ∧ c ≠ 33 ∧ c ≠ 94 ∧ c ≠ 95 ∧ c ≠ 40 ∧ c ≠ 91))) ∧ ((∀ (t : T) (e : Int), prs l.length a t e → fnd l a d t e → K (.tup [t.av fz, .int .i64 e]) []))
  | _, _, _ => False
def csBlock : Con
  | [.str l, .int .i64 (a), .int .i64 (d)], [], K => (((l.length ≤ 1048576 ∧ 0 ≤ a ∧ a < l.length) ∧ 1 ≤ d ∧ d ≤ 30) ∧ (∀ c : Int, c = ((l.getD a.toNat 0).toNat : Int) → c ≠ 35 ∧ c ≠ 42 ∧ c ≠ 78 ∧ c ≠ 48 ∧ c ≠ 43 ∧ c ≠ 33 ∧ c ≠ 94 ∧ c ≠ 95 ∧ c ≠ 40 ∧ c ≠ 91)) ∧ ((∀ (t : T) (e : Int), prs l.length a t e → fnd l a d t e → K (.tup [t.av fz, .int .i64 e]) []))
  | _, _, _ => False
/-- spec.l1Series -/
def csSeriesM (m : Nat) : Con
  | [.str l, .int .i64 (a), .int .i64 (d), .int .i64 (w), .int .u8 c], [], K => (((3 * d + 3).toNat) < m ∧ (((l.length ≤ 1048576 ∧ 0 ≤ a ∧ a ≤ l.length) ∧ (0 ≤ d ∧ d ≤ 30) ∧ 1 ≤ w ∧ w ≤ 4) ∧ (c = 62 ∨ c = 125 ∨ c = 124))) ∧ ((∀ (ts : List T) (e : Int), (e = -1 ∧ sizeL ts = 0 ∨ (a ≤ e ∧ e ≤ l.length ∧ (sizeL ts : Int) ≤ e - a)) → fndL l a d w c ts e → K (.tup [.slc ts fz, .int .i64 e]) []))
  | _, _, _ => False
def csSeries : Con
  | [.str l, .int .i64 (a), .int .i64 (d), .int .i64 (w), .int .u8 c], [], K => (((l.length ≤ 1048576 ∧ 0 ≤ a ∧ a ≤ l.length) ∧ (0 ≤ d ∧ d ≤ 30) ∧ 1 ≤ w ∧ w ≤ 4) ∧ (c = 62 ∨ c = 125 ∨ c = 124)) ∧ ((∀ (ts : List T) (e : Int), (e = -1 ∧ sizeL ts = 0 ∨ (a ≤ e ∧ e ≤ l.length ∧ (sizeL ts : Int) ≤ e - a)) → fndL l a d w c ts e → K (.tup [.slc ts fz, .int .i64 e]) []))
  | _, _, _ => False
theorem sParse_ok (m : Nat) (l : List UInt8) (a d : Int) (K : AV → List AV → Prop) (hm : ((3 * d + 2).toNat) < m + 1) (hp : (((l.length ≤ 1048576 ∧ 0 ≤ a ∧ a ≤ 2000000) ∧ 0 ≤ d ∧ d ≤ 30))) (hk : ((∀ (t : T) (e : Int), prs l.length a t e → fnd l a d t e → K (.tup [t.av fz, .int .i64 e]) []))) :
    bodyQ [(25, csParseM m), (46, csPrefixM m), (47, csRoundM m), (49, csBlockM m), (69, csSeriesM m), (44, csNumber), (45, csLeaf), (48, csNode)] TY [] Tryd.f25 (body Tryd.f25) [.str l, .int .i64 (a), .int .i64 (d)] [] K := by
  refine of_vc (A :=
    (Br (Decidable.decide (d < (1 : Int)))
     (Ret K (.tup [(.st [(.int .i64 0), (.int .i64 0), (.slc [] (.iv 0 0 true .full))]), (.int .i64 (- (1 : Int)))]) [])
     (Br (Decidable.decide (a < (0 : Int)))
     (Ret K (.tup [(.st [(.int .i64 0), (.int .i64 0), (.slc [] (.iv 0 0 true .full))]), (.int .i64 (- (1 : Int)))]) [])
     (Br (Decidable.decide ((((List.length l) : Nat) : Int) ≤ a))
     (Ret K (.tup [(.st [(.int .i64 0), (.int .i64 0), (.slc [] (.iv 0 0 true .full))]), (.int .i64 (- (1 : Int)))]) [])
     ((((0 : Int) ≤ a) ∧ (a < (((List.length l) : Nat) : Int))) ∧
     (Br (Decidable.decide ((((UInt8.toNat (List.getD l (Int.toNat a) (0 : UInt8))) : Nat) : Int) = (35 : Int)))
     ((InR (a + (1 : Int))) ∧
     (((((List.length l) ≤ (1048576 : Nat)) ∧ (((0 : Int) ≤ (a + (1 : Int))) ∧ ((a + (1 : Int)) ≤ (((List.length l) : Nat) : Int)))) ∧
     (((1 : Int) ≤ (2 : Int)) ∧ ((2 : Int) ≤ (2 : Int)))) ∧
     (∀ n : Int,
     (∀ e : Int,
     ((InR n) →
     (((e = (- (1 : Int))) ∨ (((a + (1 : Int)) ≤ e) ∧ (e ≤ (((List.length l) : Nat) : Int)))) →
     ((∀ m1 : Int, (∀ r : (List UInt8), (((0 : Int) ≤ m1) → ((m1 ≤ (99 : Int)) → ((((9 : Int) < m1) → ((2 : Int) = (2 : Int))) → ((nd r) → (((List.drop (Int.toNat (a + (1 : Int))) l) = ((decD m1) ++ r)) → ((n = m1) ∧ (e = ((((List.length l) : Nat) : Int) - (((List.length r) : Nat) : Int))))))))))) →
     (True ∧ (Ret K (.tup [(.st [(.int .i64 1), (.int .i64 n), (.slc [] (.iv 0 0 true .full))]), (.int .i64 e)]) [])))))))))
     (Br (Decidable.decide ((((UInt8.toNat (List.getD l (Int.toNat a) (0 : UInt8))) : Nat) : Int) = (42 : Int)))
     ((InR (a + (1 : Int))) ∧
     (((((List.length l) ≤ (1048576 : Nat)) ∧ (((0 : Int) ≤ (a + (1 : Int))) ∧ ((a + (1 : Int)) ≤ (((List.length l) : Nat) : Int)))) ∧
     (((1 : Int) ≤ (1 : Int)) ∧ ((1 : Int) ≤ (2 : Int)))) ∧
     (∀ n : Int,
     (∀ e : Int,
     ((InR n) →
     (((e = (- (1 : Int))) ∨ (((a + (1 : Int)) ≤ e) ∧ (e ≤ (((List.length l) : Nat) : Int)))) →
     ((∀ m1 : Int, (∀ r : (List UInt8), (((0 : Int) ≤ m1) → ((m1 ≤ (99 : Int)) → ((((9 : Int) < m1) → ((1 : Int) = (2 : Int))) → ((nd r) → (((List.drop (Int.toNat (a + (1 : Int))) l) = ((decD m1) ++ r)) → ((n = m1) ∧ (e = ((((List.length l) : Nat) : Int) - (((List.length r) : Nat) : Int))))))))))) →
     (True ∧ (Ret K (.tup [(.st [(.int .i64 2), (.int .i64 n), (.slc [] (.iv 0 0 true .full))]), (.int .i64 e)]) [])))))))))
     (Br (Decidable.decide ((((UInt8.toNat (List.getD l (Int.toNat a) (0 : UInt8))) : Nat) : Int) = (78 : Int)))
     (True ∧
     ((InR (a + (1 : Int))) ∧
     (Ret K (.tup [(.st [(.int .i64 6), (.int .i64 0), (.slc [] (.iv 0 0 true .full))]), (.int .i64 (a + (1 : Int)))]) [])))
     (Br (Decidable.decide ((((UInt8.toNat (List.getD l (Int.toNat a) (0 : UInt8))) : Nat) : Int) = (48 : Int)))
     (True ∧
     ((InR (a + (1 : Int))) ∧
     (Ret K (.tup [(.st [(.int .i64 7), (.int .i64 0), (.slc [] (.iv 0 0 true .full))]), (.int .i64 (a + (1 : Int)))]) [])))
     (Br (Decidable.decide ((((UInt8.toNat (List.getD l (Int.toNat a) (0 : UInt8))) : Nat) : Int) = (43 : Int)))
     ((((Int.toNat (((3 : Int) * d) + (1 : Int))) < m) ∧
     (((((List.length l) ≤ (1048576 : Nat)) ∧ (((0 : Int) ≤ a) ∧ (a < (((List.length l) : Nat) : Int)))) ∧ (((1 : Int) ≤ d) ∧ (d ≤ (30 : Int)))) ∧
     (((((UInt8.toNat (List.getD l (Int.toNat a) (0 : UInt8))) : Nat) : Int) = (43 : Int)) ∨ (((((UInt8.toNat (List.getD l (Int.toNat a) (0 : UInt8))) : Nat) : Int) = (33 : Int)) ∨ (((((UInt8.toNat (List.getD l (Int.toNat a) (0 : UInt8))) : Nat) : Int) = (94 : Int)) ∨ ((((UInt8.toNat (List.getD l (Int.toNat a) (0 : UInt8))) : Nat) : Int) = (95 : Int))))))) ∧
     (∀ t : T,
     (∀ e : Int,
     ((prs (((List.length l) : Nat) : Int) a t e) →
     ((fnd l a d t e) → (Ret K (.tup [(.st [(.int .i64 (T.k t)), (.int .i64 (T.n t)), (.slc (T.kids t) (.iv 7 7 false .no))]), (.int .i64 e)]) []))))))
     (Br (Decidable.decide ((((UInt8.toNat (List.getD l (Int.toNat a) (0 : UInt8))) : Nat) : Int) = (33 : Int)))
     ((((Int.toNat (((3 : Int) * d) + (1 : Int))) < m) ∧
     (((((List.length l) ≤ (1048576 : Nat)) ∧ (((0 : Int) ≤ a) ∧ (a < (((List.length l) : Nat) : Int)))) ∧ (((1 : Int) ≤ d) ∧ (d ≤ (30 : Int)))) ∧
     (((((UInt8.toNat (List.getD l (Int.toNat a) (0 : UInt8))) : Nat) : Int) = (43 : Int)) ∨ (((((UInt8.toNat (List.getD l (Int.toNat a) (0 : UInt8))) : Nat) : Int) = (33 : Int)) ∨ (((((UInt8.toNat (List.getD l (Int.toNat a) (0 : UInt8))) : Nat) : Int) = (94 : Int)) ∨ ((((UInt8.toNat (List.getD l (Int.toNat a) (0 : UInt8))) : Nat) : Int) = (95 : Int))))))) ∧
     (∀ t : T,
     (∀ e : Int,
     ((prs (((List.length l) : Nat) : Int) a t e) →
     ((fnd l a d t e) → (Ret K (.tup [(.st [(.int .i64 (T.k t)), (.int .i64 (T.n t)), (.slc (T.kids t) (.iv 7 7 false .no))]), (.int .i64 e)]) []))))))
     (Br (Decidable.decide ((((UInt8.toNat (List.getD l (Int.toNat a) (0 : UInt8))) : Nat) : Int) = (94 : Int)))
     ((((Int.toNat (((3 : Int) * d) + (1 : Int))) < m) ∧
     (((((List.length l) ≤ (1048576 : Nat)) ∧ (((0 : Int) ≤ a) ∧ (a < (((List.length l) : Nat) : Int)))) ∧ (((1 : Int) ≤ d) ∧ (d ≤ (30 : Int)))) ∧
     (((((UInt8.toNat (List.getD l (Int.toNat a) (0 : UInt8))) : Nat) : Int) = (43 : Int)) ∨ (((((UInt8.toNat (List.getD l (Int.toNat a) (0 : UInt8))) : Nat) : Int) = (33 : Int)) ∨ (((((UInt8.toNat (List.getD l (Int.toNat a) (0 : UInt8))) : Nat) : Int) = (94 : Int)) ∨ ((((UInt8.toNat (List.getD l (Int.toNat a) (0 : UInt8))) : Nat) : Int) = (95 : Int))))))) ∧
     (∀ t : T,
     (∀ e : Int,
     ((prs (((List.length l) : Nat) : Int) a t e) →
     ((fnd l a d t e) → (Ret K (.tup [(.st [(.int .i64 (T.k t)), (.int .i64 (T.n t)), (.slc (T.kids t) (.iv 7 7 false .no))]), (.int .i64 e)]) []))))))
     (Br (Decidable.decide ((((UInt8.toNat (List.getD l (Int.toNat a) (0 : UInt8))) : Nat) : Int) = (95 : Int)))
     ((((Int.toNat (((3 : Int) * d) + (1 : Int))) < m) ∧
     (((((List.length l) ≤ (1048576 : Nat)) ∧ (((0 : Int) ≤ a) ∧ (a < (((List.length l) : Nat) : Int)))) ∧ (((1 : Int) ≤ d) ∧ (d ≤ (30 : Int)))) ∧
     (((((UInt8.toNat (List.getD l (Int.toNat a) (0 : UInt8))) : Nat) : Int) = (43 : Int)) ∨ (((((UInt8.toNat (List.getD l (Int.toNat a) (0 : UInt8))) : Nat) : Int) = (33 : Int)) ∨ (((((UInt8.toNat (List.getD l (Int.toNat a) (0 : UInt8))) : Nat) : Int) = (94 : Int)) ∨ ((((UInt8.toNat (List.getD l (Int.toNat a) (0 : UInt8))) : Nat) : Int) = (95 : Int))))))) ∧
     (∀ t : T,
     (∀ e : Int,
     ((prs (((List.length l) : Nat) : Int) a t e) →
     ((fnd l a d t e) → (Ret K (.tup [(.st [(.int .i64 (T.k t)), (.int .i64 (T.n t)), (.slc (T.kids t) (.iv 7 7 false .no))]), (.int .i64 e)]) []))))))
     (Br (Decidable.decide ((((UInt8.toNat (List.getD l (Int.toNat a) (0 : UInt8))) : Nat) : Int) = (40 : Int)))
     ((InR (a + (1 : Int))) ∧
     ((InR (d - (1 : Int))) ∧
     ((((Int.toNat (((3 : Int) * (d - (1 : Int))) + (3 : Int))) < m) ∧
     (((((List.length l) ≤ (1048576 : Nat)) ∧ (((1 : Int) ≤ (a + (1 : Int))) ∧ ((a + (1 : Int)) ≤ (((List.length l) : Nat) : Int)))) ∧
     (((0 : Int) ≤ (d - (1 : Int))) ∧ ((d - (1 : Int)) ≤ (30 : Int)))) ∧
     ((((UInt8.toNat (List.getD l (Int.toNat ((a + (1 : Int)) - (1 : Int))) (0 : UInt8))) : Nat) : Int) = (40 : Int)))) ∧
     (∀ t : T,
     (∀ e : Int,
     ((prs (((List.length l) : Nat) : Int) (a + (1 : Int)) t e) →
     ((fnd l ((a + (1 : Int)) - (1 : Int)) ((d - (1 : Int)) + (1 : Int)) t e) →
     (Ret K (.tup [(.st [(.int .i64 (T.k t)), (.int .i64 (T.n t)), (.slc (T.kids t) (.iv 7 7 false .no))]), (.int .i64 e)]) []))))))))
     (Br (Decidable.decide ((((UInt8.toNat (List.getD l (Int.toNat a) (0 : UInt8))) : Nat) : Int) = (91 : Int)))
     ((InR (a + (1 : Int))) ∧
     ((InR (d - (1 : Int))) ∧
     ((((Int.toNat (((3 : Int) * (d - (1 : Int))) + (2 : Int))) < m) ∧
     ((((List.length l) ≤ (1048576 : Nat)) ∧ (((0 : Int) ≤ (a + (1 : Int))) ∧ ((a + (1 : Int)) ≤ (2000000 : Int)))) ∧
     (((0 : Int) ≤ (d - (1 : Int))) ∧ ((d - (1 : Int)) ≤ (30 : Int))))) ∧
     (∀ t : T,
     (∀ e : Int,
     ((prs (((List.length l) : Nat) : Int) (a + (1 : Int)) t e) →
     ((fnd l (a + (1 : Int)) (d - (1 : Int)) t e) →
     (Br (Decidable.decide (e < (0 : Int)))
     (Ret K (.tup [(.st [(.int .i64 0), (.int .i64 0), (.slc [] (.iv 0 0 true .full))]), (.int .i64 (- (1 : Int)))]) [])
     (Br (Decidable.decide ((((List.length l) : Nat) : Int) ≤ e))
     (Ret K (.tup [(.st [(.int .i64 0), (.int .i64 0), (.slc [] (.iv 0 0 true .full))]), (.int .i64 (- (1 : Int)))]) [])
     ((((0 : Int) ≤ e) ∧ (e < (((List.length l) : Nat) : Int))) ∧
     (Br (Decidable.decide ((((UInt8.toNat (List.getD l (Int.toNat e) (0 : UInt8))) : Nat) : Int) ≠ (93 : Int)))
     (Ret K (.tup [(.st [(.int .i64 0), (.int .i64 0), (.slc [] (.iv 0 0 true .full))]), (.int .i64 (- (1 : Int)))]) [])
     ((InR (e + (1 : Int))) ∧
     ((InR (d - (1 : Int))) ∧
     ((((Int.toNat (((3 : Int) * (d - (1 : Int))) + (2 : Int))) < m) ∧
     ((((List.length l) ≤ (1048576 : Nat)) ∧ (((0 : Int) ≤ (e + (1 : Int))) ∧ ((e + (1 : Int)) ≤ (2000000 : Int)))) ∧
     (((0 : Int) ≤ (d - (1 : Int))) ∧ ((d - (1 : Int)) ≤ (30 : Int))))) ∧
     (∀ t1 : T,
     (∀ e1 : Int,
     ((prs (((List.length l) : Nat) : Int) (e + (1 : Int)) t1 e1) →
     ((fnd l (e + (1 : Int)) (d - (1 : Int)) t1 e1) →
     (((2 : Nat) ≤ (1000 : Nat)) ∧
     (Ret K (.tup [(.st [(.int .i64 4), (.int .i64 0), (.slc [(T.mk (T.k t) (T.n t) (T.kids t)), (T.mk (T.k t1) (T.n t1) (T.kids t1))] (.iv 4 7 false (.tok 0)))]), (.int .i64 e1)]) []))))))))))))))))))))
     ((((Int.toNat (((3 : Int) * d) + (1 : Int))) < m) ∧
     (((((List.length l) ≤ (1048576 : Nat)) ∧ (((0 : Int) ≤ a) ∧ (a < (((List.length l) : Nat) : Int)))) ∧ (((1 : Int) ≤ d) ∧ (d ≤ (30 : Int)))) ∧
     (∀ c : Int,
     ((c = (((UInt8.toNat (List.getD l (Int.toNat a) (0 : UInt8))) : Nat) : Int)) →
     ((c ≠ (35 : Int)) ∧
     ((c ≠ (42 : Int)) ∧
     ((c ≠ (78 : Int)) ∧
     ((c ≠ (48 : Int)) ∧ ((c ≠ (43 : Int)) ∧ ((c ≠ (33 : Int)) ∧ ((c ≠ (94 : Int)) ∧ ((c ≠ (95 : Int)) ∧ ((c ≠ (40 : Int)) ∧ (c ≠ (91 : Int))))))))))))))) ∧
     (∀ t : T,
     (∀ e : Int,
     ((prs (((List.length l) : Nat) : Int) a t e) →
     ((fnd l a d t e) → (Ret K (.tup [(.st [(.int .i64 (T.k t)), (.int .i64 (T.n t)), (.slc (T.kids t) (.iv 7 7 false .no))]), (.int .i64 e)]) []))))))))))))))))))))) ?_ (by kernel_rfl)
  obtain ⟨⟨hl, ha0, ha⟩, hd0, hd⟩ := hp
  have bad : (∀ (u : T) (r : List UInt8), u.shp d = true → nd r → l.drop a.toNat = u.text ++ r → False) → Ret K (.tup [.st [.int .i64 0, .int .i64 0, .slc [] (.iv 0 0 true .full)], .int .i64 (-1)]) [] := fun h => retTI (hk (.mk 0 0 []) (-1) (by unfold prs; simp only [T.size, sizeL, true_or, true_and]; omega) (fnd_none h)) rfl rfl rfl
  have lf : ∀ {k n e : Int}, (e = -1 ∨ (a < e ∧ e ≤ l.length)) → fnd l a d (.mk k n []) e → Ret K (.tup [.st [.int .i64 k, .int .i64 n, .slc [] (.iv 0 0 true .full)], .int .i64 e]) [] := fun h hf => retTI (hk _ _ (by unfold prs; simp only [T.size, sizeL, true_or, true_and]; omega) hf) rfl rfl rfl
  have go : ∀ (t : T) (e : Int), prs l.length a t e → fnd l a d t e → Ret K (.tup [.st [.int .i64 t.k, .int .i64 t.n, .slc t.kids (.iv 7 7 false .no)], .int .i64 e]) [] := fun t e h hf => retTI (hk t e h hf) (T.eta t) rfl rfl
  have ea : a + 1 - 1 = a := by omega
  have ed : d - 1 + 1 = d := by omega
  rw [ea, ed]
  refine brd (fun c => bad (fun u r hu hr h => by have := text_lt ha0 hu h; omega)) (fun c0 => brd (fun c => absurd c (by omega)) (fun _ => brd (fun c => bad (fun u r hu hr h => by have := text_lt ha0 hu h; omega)) (fun cl => ⟨⟨ha0, by omega⟩, ?_⟩)))
  refine brd (fun c => ⟨by unfold InR; omega, ⟨⟨hl, by omega, by omega⟩, by omega, by omega⟩, fun n e hn he hf => ⟨trivial, lf (by omega) (fnd_var ha0 c (fun m r h0 h9 hr h => hf m r h0 h9 (fun _ => rfl) hr h))⟩⟩) (fun c1 => ?_)
  refine brd (fun c => ⟨by unfold InR; omega, ⟨⟨hl, by omega, by omega⟩, by omega, by omega⟩, fun n e hn he hf => ⟨trivial, lf (by omega) (fnd_sort ha0 c (fun m r h0 h9 hr h => hf m r h0 (by omega) (fun _ => by omega) hr h))⟩⟩) (fun c2 => ?_)
  refine brd (fun c => ⟨trivial, by unfold InR; omega, lf (by omega) (fnd_leaf ha0 (.inl ⟨rfl, rfl⟩) c)⟩) (fun c3 => ?_)
  refine brd (fun c => ⟨trivial, by unfold InR; omega, lf (by omega) (fnd_leaf ha0 (.inr ⟨rfl, rfl⟩) c)⟩) (fun c4 => ?_)
  refine brd (fun c => ⟨⟨by omega, ⟨⟨hl, ha0, by omega⟩, by omega, hd⟩, .inl c⟩, go⟩) (fun c5 => ?_)
  refine brd (fun c => ⟨⟨by omega, ⟨⟨hl, ha0, by omega⟩, by omega, hd⟩, .inr (.inl c)⟩, go⟩) (fun c6 => ?_)
  refine brd (fun c => ⟨⟨by omega, ⟨⟨hl, ha0, by omega⟩, by omega, hd⟩, .inr (.inr (.inl c))⟩, go⟩) (fun c7 => ?_)
  refine brd (fun c => ⟨⟨by omega, ⟨⟨hl, ha0, by omega⟩, by omega, hd⟩, .inr (.inr (.inr c))⟩, go⟩) (fun c8 => ?_)
  refine brd (fun c => ⟨by unfold InR; omega, by unfold InR; omega, ⟨by omega, ⟨⟨hl, by omega, by omega⟩, by omega, by omega⟩, c⟩, fun t e h hf => go t e (by unfold prs at h ⊢; omega) hf⟩) (fun c9 => ?_)
  refine brd (fun c => ⟨by unfold InR; omega, by unfold InR; omega, ⟨by omega, ⟨hl, by omega, by omega⟩, by omega, by omega⟩, fun t e h hf => ?_⟩) (fun c10 => ?_)
  · have bl : (0 ≤ e → e < l.length → ((l.getD e.toNat 0).toNat : Int) = 93 → False) → Ret K (.tup [.st [.int .i64 0, .int .i64 0, .slc [] (.iv 0 0 true .full)], .int .i64 (-1)]) [] := fun hb => retTI (hk (.mk 0 0 []) (-1) (by unfold prs; simp only [T.size, sizeL, true_or, true_and]; omega) (fnd_lam_bad ha0 c hf hb)) rfl rfl rfl
    unfold prs at h
    refine brd (fun g => bl (fun _ _ _ => by omega)) (fun g1 => brd (fun g => bl (fun _ _ _ => by omega)) (fun g2 => ⟨⟨by omega, by omega⟩, brd (fun g => bl (fun _ _ h => g h)) (fun g3 => ⟨by unfold InR; omega, by unfold InR; omega, ⟨by omega, ⟨hl, by omega, by omega⟩, by omega, by omega⟩, fun t1 e1 h1 hf1 => ⟨by omega, ?_⟩⟩)⟩))
    simp only [T.eta]
    unfold prs at h1
    exact retTI (hk (.mk 4 0 [t, t1]) e1 (by unfold prs; simp only [T.size, sizeL, true_or, true_and]; omega) (fnd_lam ha0 c hf hf1)) rfl rfl rfl
  · exact ⟨⟨by omega, ⟨⟨hl, ha0, by omega⟩, by omega, hd⟩, fun x hx => by omega⟩, go⟩
theorem sPrefix_ok (m : Nat) (l : List UInt8) (a d : Int) (K : AV → List AV → Prop) (hm : ((3 * d + 1).toNat) < m + 1) (hp : (((l.length ≤ 1048576 ∧ 0 ≤ a ∧ a < l.length) ∧ 1 ≤ d ∧ d ≤ 30) ∧ (((l.getD a.toNat 0).toNat : Int) = 43 ∨ ((l.getD a.toNat 0).toNat : Int) = 33 ∨ ((l.getD a.toNat 0).toNat : Int) = 94 ∨ ((l.getD a.toNat 0).toNat : Int) = 95))) (hk : ((∀ (t : T) (e : Int), prs l.length a t e → fnd l a d t e → K (.tup [t.av fz, .int .i64 e]) []))) :
    bodyQ [(25, csParseM m), (46, csPrefixM m), (47, csRoundM m), (49, csBlockM m), (69, csSeriesM m), (48, csNode)] TY [] Tryd.f46 (body Tryd.f46) [.str l, .int .i64 (a), .int .i64 (d)] [] K := by
  refine of_vc (A :=
    ((((0 : Int) ≤ a) ∧ (a < (((List.length l) : Nat) : Int))) ∧
     (Br (Decidable.decide ((((UInt8.toNat (List.getD l (Int.toNat a) (0 : UInt8))) : Nat) : Int) = (33 : Int)))
     ((InR (a + (1 : Int))) ∧
     ((InR (d - (1 : Int))) ∧
     ((((Int.toNat (((3 : Int) * (d - (1 : Int))) + (2 : Int))) < m) ∧
     ((((List.length l) ≤ (1048576 : Nat)) ∧ (((0 : Int) ≤ (a + (1 : Int))) ∧ ((a + (1 : Int)) ≤ (2000000 : Int)))) ∧
     (((0 : Int) ≤ (d - (1 : Int))) ∧ ((d - (1 : Int)) ≤ (30 : Int))))) ∧
     (∀ t : T,
     (∀ e : Int,
     ((prs (((List.length l) : Nat) : Int) (a + (1 : Int)) t e) →
     ((fnd l (a + (1 : Int)) (d - (1 : Int)) t e) →
     (((1 : Nat) ≤ (1000 : Nat)) ∧
     (Ret K (.tup [(.st [(.int .i64 11), (.int .i64 0), (.slc [(T.mk (T.k t) (T.n t) (T.kids t))] (.iv 4 7 false (.tok 0)))]), (.int .i64 e)]) [])))))))))
     (Br (Decidable.decide ((((UInt8.toNat (List.getD l (Int.toNat a) (0 : UInt8))) : Nat) : Int) = (94 : Int)))
     ((InR (a + (1 : Int))) ∧
     ((InR (d - (1 : Int))) ∧
     ((((Int.toNat (((3 : Int) * (d - (1 : Int))) + (2 : Int))) < m) ∧
     ((((List.length l) ≤ (1048576 : Nat)) ∧ (((0 : Int) ≤ (a + (1 : Int))) ∧ ((a + (1 : Int)) ≤ (2000000 : Int)))) ∧
     (((0 : Int) ≤ (d - (1 : Int))) ∧ ((d - (1 : Int)) ≤ (30 : Int))))) ∧
     (∀ t : T,
     (∀ e : Int,
     ((prs (((List.length l) : Nat) : Int) (a + (1 : Int)) t e) →
     ((fnd l (a + (1 : Int)) (d - (1 : Int)) t e) →
     (((1 : Nat) ≤ (1000 : Nat)) ∧
     (Ret K (.tup [(.st [(.int .i64 15), (.int .i64 0), (.slc [(T.mk (T.k t) (T.n t) (T.kids t))] (.iv 4 7 false (.tok 0)))]), (.int .i64 e)]) [])))))))))
     (Br (Decidable.decide ((((UInt8.toNat (List.getD l (Int.toNat a) (0 : UInt8))) : Nat) : Int) = (95 : Int)))
     ((InR (a + (1 : Int))) ∧
     ((InR (d - (1 : Int))) ∧
     ((((Int.toNat (((3 : Int) * (d - (1 : Int))) + (2 : Int))) < m) ∧
     ((((List.length l) ≤ (1048576 : Nat)) ∧ (((0 : Int) ≤ (a + (1 : Int))) ∧ ((a + (1 : Int)) ≤ (2000000 : Int)))) ∧
     (((0 : Int) ≤ (d - (1 : Int))) ∧ ((d - (1 : Int)) ≤ (30 : Int))))) ∧
     (∀ t : T,
     (∀ e : Int,
     ((prs (((List.length l) : Nat) : Int) (a + (1 : Int)) t e) →
     ((fnd l (a + (1 : Int)) (d - (1 : Int)) t e) →
     (((1 : Nat) ≤ (1000 : Nat)) ∧
     (Ret K (.tup [(.st [(.int .i64 16), (.int .i64 0), (.slc [(T.mk (T.k t) (T.n t) (T.kids t))] (.iv 4 7 false (.tok 0)))]), (.int .i64 e)]) [])))))))))
     ((InR (a + (1 : Int))) ∧
     ((InR (d - (1 : Int))) ∧
     ((((Int.toNat (((3 : Int) * (d - (1 : Int))) + (2 : Int))) < m) ∧
     ((((List.length l) ≤ (1048576 : Nat)) ∧ (((0 : Int) ≤ (a + (1 : Int))) ∧ ((a + (1 : Int)) ≤ (2000000 : Int)))) ∧
     (((0 : Int) ≤ (d - (1 : Int))) ∧ ((d - (1 : Int)) ≤ (30 : Int))))) ∧
     (∀ t : T,
     (∀ e : Int,
     ((prs (((List.length l) : Nat) : Int) (a + (1 : Int)) t e) →
     ((fnd l (a + (1 : Int)) (d - (1 : Int)) t e) →
     (((1 : Nat) ≤ (1000 : Nat)) ∧
     (Ret K (.tup [(.st [(.int .i64 8), (.int .i64 0), (.slc [(T.mk (T.k t) (T.n t) (T.kids t))] (.iv 4 7 false (.tok 0)))]), (.int .i64 e)]) [])))))))))))))) ?_ (by kernel_rfl)
  obtain ⟨⟨⟨hl, ha0, ha⟩, hd0, hd⟩, hb⟩ := hp
  simp only [T.eta]
  have go : ∀ {k c : Int}, (k = 8 ∧ c = 43 ∨ k = 11 ∧ c = 33 ∨ k = 15 ∧ c = 94 ∨ k = 16 ∧ c = 95) → ((l.getD a.toNat 0).toNat : Int) = c → InR (a + 1) ∧ InR (d - 1) ∧ ((3 * (d - 1) + 2).toNat < m ∧ (l.length ≤ 1048576 ∧ 0 ≤ a + 1 ∧ a + 1 ≤ 2000000) ∧ 0 ≤ d - 1 ∧ d - 1 ≤ 30) ∧ ∀ (t : T) (e : Int), prs l.length (a + 1) t e → fnd l (a + 1) (d - 1) t e → 1 ≤ 1000 ∧ Ret K (.tup [.st [.int .i64 k, .int .i64 0, .slc [t] (.iv 4 7 false (.tok 0))], .int .i64 e]) [] := fun {k c} hk' hc =>
    ⟨by unfold InR; omega, by unfold InR; omega, ⟨by omega, ⟨hl, by omega, by omega⟩, by omega, by omega⟩, fun t e h hf => ⟨by omega, retTI (hk (.mk k 0 [t]) e (by unfold prs at h ⊢; simp only [T.size, sizeL]; omega) (fnd_pre ha0 hk' hc hf)) rfl rfl rfl⟩⟩
  exact ⟨⟨ha0, ha⟩, brd (fun c => go (.inr (.inl ⟨rfl, rfl⟩)) c) (fun c1 => brd (fun c => go (.inr (.inr (.inl ⟨rfl, rfl⟩))) c) (fun c2 => brd (fun c => go (.inr (.inr (.inr ⟨rfl, rfl⟩))) c) (fun c3 => go (.inl ⟨rfl, rfl⟩) (by omega))))⟩
theorem sRound_ok (m : Nat) (l : List UInt8) (a d : Int) (K : AV → List AV → Prop) (hm : ((3 * d + 3).toNat) < m + 1) (hp : (((l.length ≤ 1048576 ∧ 1 ≤ a ∧ a ≤ l.length) ∧ 0 ≤ d ∧ d ≤ 30) ∧ (((l.getD (a - 1).toNat 0).toNat : Int) = 40))) (hk : ((∀ (t : T) (e : Int), prs l.length a t e → fnd l (a - 1) (d + 1) t e → K (.tup [t.av fz, .int .i64 e]) []))) :
    bodyQ [(25, csParseM m), (46, csPrefixM m), (47, csRoundM m), (49, csBlockM m), (69, csSeriesM m), (48, csNode)] TY [] Tryd.f47 (body Tryd.f47) [.str l, .int .i64 (a), .int .i64 (d)] [] K := by
  refine of_vc (A :=
    ((((Int.toNat (((3 : Int) * d) + (2 : Int))) < m) ∧
     ((((List.length l) ≤ (1048576 : Nat)) ∧ (((0 : Int) ≤ a) ∧ (a ≤ (2000000 : Int)))) ∧ (((0 : Int) ≤ d) ∧ (d ≤ (30 : Int))))) ∧
     (∀ t : T,
     (∀ e : Int,
     ((prs (((List.length l) : Nat) : Int) a t e) →
     ((fnd l a d t e) →
     (Br (Decidable.decide (e < (0 : Int)))
     (Ret K (.tup [(.st [(.int .i64 0), (.int .i64 0), (.slc [] (.iv 0 0 true .full))]), (.int .i64 (- (1 : Int)))]) [])
     (Br (Decidable.decide ((((List.length l) : Nat) : Int) ≤ e))
     (Ret K (.tup [(.st [(.int .i64 0), (.int .i64 0), (.slc [] (.iv 0 0 true .full))]), (.int .i64 (- (1 : Int)))]) [])
     ((((0 : Int) ≤ e) ∧ (e < (((List.length l) : Nat) : Int))) ∧
     (Br (Decidable.decide ((((UInt8.toNat (List.getD l (Int.toNat e) (0 : UInt8))) : Nat) : Int) = (62 : Int)))
     ((InR (e + (1 : Int))) ∧
     ((((Int.toNat (((3 : Int) * d) + (2 : Int))) < m) ∧
     ((((List.length l) ≤ (1048576 : Nat)) ∧ (((0 : Int) ≤ (e + (1 : Int))) ∧ ((e + (1 : Int)) ≤ (2000000 : Int)))) ∧ (((0 : Int) ≤ d) ∧ (d ≤ (30 : Int))))) ∧
     (∀ t1 : T,
     (∀ e1 : Int,
     ((prs (((List.length l) : Nat) : Int) (e + (1 : Int)) t1 e1) →
     ((fnd l (e + (1 : Int)) d t1 e1) →
     (Br (Decidable.decide (e1 < (0 : Int)))
     (Ret K (.tup [(.st [(.int .i64 0), (.int .i64 0), (.slc [] (.iv 0 0 true .full))]), (.int .i64 (- (1 : Int)))]) [])
     (Br (Decidable.decide ((((List.length l) : Nat) : Int) ≤ e1))
     (Ret K (.tup [(.st [(.int .i64 0), (.int .i64 0), (.slc [] (.iv 0 0 true .full))]), (.int .i64 (- (1 : Int)))]) [])
     ((((0 : Int) ≤ e1) ∧ (e1 < (((List.length l) : Nat) : Int))) ∧
     (Br (Decidable.decide ((((UInt8.toNat (List.getD l (Int.toNat e1) (0 : UInt8))) : Nat) : Int) ≠ (41 : Int)))
     (Ret K (.tup [(.st [(.int .i64 0), (.int .i64 0), (.slc [] (.iv 0 0 true .full))]), (.int .i64 (- (1 : Int)))]) [])
     (((2 : Nat) ≤ (1000 : Nat)) ∧
     ((InR (e1 + (1 : Int))) ∧
     (Ret K (.tup [(.st [(.int .i64 3), (.int .i64 0), (.slc [(T.mk (T.k t) (T.n t) (T.kids t)), (T.mk (T.k t1) (T.n t1) (T.kids t1))] (.iv 4 7 false (.tok 0)))]), (.int .i64 (e1 + (1 : Int)))]) [])))))))))))))
     (Br (Decidable.decide ((((UInt8.toNat (List.getD l (Int.toNat e) (0 : UInt8))) : Nat) : Int) = (42 : Int)))
     ((InR (e + (1 : Int))) ∧
     ((((Int.toNat (((3 : Int) * d) + (2 : Int))) < m) ∧
     ((((List.length l) ≤ (1048576 : Nat)) ∧ (((0 : Int) ≤ (e + (1 : Int))) ∧ ((e + (1 : Int)) ≤ (2000000 : Int)))) ∧ (((0 : Int) ≤ d) ∧ (d ≤ (30 : Int))))) ∧
     (∀ t1 : T,
     (∀ e1 : Int,
     ((prs (((List.length l) : Nat) : Int) (e + (1 : Int)) t1 e1) →
     ((fnd l (e + (1 : Int)) d t1 e1) →
     (Br (Decidable.decide (e1 < (0 : Int)))
     (Ret K (.tup [(.st [(.int .i64 0), (.int .i64 0), (.slc [] (.iv 0 0 true .full))]), (.int .i64 (- (1 : Int)))]) [])
     (Br (Decidable.decide ((((List.length l) : Nat) : Int) ≤ e1))
     (Ret K (.tup [(.st [(.int .i64 0), (.int .i64 0), (.slc [] (.iv 0 0 true .full))]), (.int .i64 (- (1 : Int)))]) [])
     ((((0 : Int) ≤ e1) ∧ (e1 < (((List.length l) : Nat) : Int))) ∧
     (Br (Decidable.decide ((((UInt8.toNat (List.getD l (Int.toNat e1) (0 : UInt8))) : Nat) : Int) ≠ (41 : Int)))
     (Ret K (.tup [(.st [(.int .i64 0), (.int .i64 0), (.slc [] (.iv 0 0 true .full))]), (.int .i64 (- (1 : Int)))]) [])
     (((2 : Nat) ≤ (1000 : Nat)) ∧
     ((InR (e1 + (1 : Int))) ∧
     (Ret K (.tup [(.st [(.int .i64 13), (.int .i64 0), (.slc [(T.mk (T.k t) (T.n t) (T.kids t)), (T.mk (T.k t1) (T.n t1) (T.kids t1))] (.iv 4 7 false (.tok 0)))]), (.int .i64 (e1 + (1 : Int)))]) [])))))))))))))
     (Br (Decidable.decide ((((UInt8.toNat (List.getD l (Int.toNat e) (0 : UInt8))) : Nat) : Int) = (32 : Int)))
     ((InR (e + (1 : Int))) ∧
     ((((Int.toNat (((3 : Int) * d) + (2 : Int))) < m) ∧
     ((((List.length l) ≤ (1048576 : Nat)) ∧ (((0 : Int) ≤ (e + (1 : Int))) ∧ ((e + (1 : Int)) ≤ (2000000 : Int)))) ∧ (((0 : Int) ≤ d) ∧ (d ≤ (30 : Int))))) ∧
     (∀ t1 : T,
     (∀ e1 : Int,
     ((prs (((List.length l) : Nat) : Int) (e + (1 : Int)) t1 e1) →
     ((fnd l (e + (1 : Int)) d t1 e1) →
     (Br (Decidable.decide (e1 < (0 : Int)))
     (Ret K (.tup [(.st [(.int .i64 0), (.int .i64 0), (.slc [] (.iv 0 0 true .full))]), (.int .i64 (- (1 : Int)))]) [])
     (Br (Decidable.decide ((((List.length l) : Nat) : Int) ≤ e1))
     (Ret K (.tup [(.st [(.int .i64 0), (.int .i64 0), (.slc [] (.iv 0 0 true .full))]), (.int .i64 (- (1 : Int)))]) [])
     ((((0 : Int) ≤ e1) ∧ (e1 < (((List.length l) : Nat) : Int))) ∧
     (Br (Decidable.decide ((((UInt8.toNat (List.getD l (Int.toNat e1) (0 : UInt8))) : Nat) : Int) ≠ (41 : Int)))
     (Ret K (.tup [(.st [(.int .i64 0), (.int .i64 0), (.slc [] (.iv 0 0 true .full))]), (.int .i64 (- (1 : Int)))]) [])
     (((2 : Nat) ≤ (1000 : Nat)) ∧
     ((InR (e1 + (1 : Int))) ∧
     (Ret K (.tup [(.st [(.int .i64 5), (.int .i64 0), (.slc [(T.mk (T.k t) (T.n t) (T.kids t)), (T.mk (T.k t1) (T.n t1) (T.kids t1))] (.iv 4 7 false (.tok 0)))]), (.int .i64 (e1 + (1 : Int)))]) [])))))))))))))
     ((InR (e + (1 : Int))) ∧
     ((((Int.toNat (((3 : Int) * d) + (2 : Int))) < m) ∧
     ((((List.length l) ≤ (1048576 : Nat)) ∧ (((0 : Int) ≤ (e + (1 : Int))) ∧ ((e + (1 : Int)) ≤ (2000000 : Int)))) ∧ (((0 : Int) ≤ d) ∧ (d ≤ (30 : Int))))) ∧
     (∀ t1 : T,
     (∀ e1 : Int,
     ((prs (((List.length l) : Nat) : Int) (e + (1 : Int)) t1 e1) →
     ((fnd l (e + (1 : Int)) d t1 e1) →
     (Ret K (.tup [(.st [(.int .i64 0), (.int .i64 0), (.slc [] (.iv 0 0 true .full))]), (.int .i64 (- (1 : Int)))]) []))))))))))))))))))) ?_ (by kernel_rfl)
  obtain ⟨⟨⟨hl, ha1, ha⟩, hd0, hd⟩, hb⟩ := hp
  have ha0 : 0 ≤ a - 1 := by omega
  have ea : a - 1 + 1 = a := by omega
  simp only [T.eta]
  have zero : fnd l (a - 1) (d + 1) (.mk 0 0 []) (-1) → Ret K (.tup [.st [.int .i64 0, .int .i64 0, .slc [] (.iv 0 0 true .full)], .int .i64 (-1)]) [] := fun h => retTI (hk (.mk 0 0 []) (-1) (by unfold prs; simp only [T.size, sizeL, true_or, true_and]; omega) h) rfl rfl rfl
  refine ⟨⟨by omega, ⟨hl, by omega, by omega⟩, hd0, hd⟩, fun t e h hf => ?_⟩
  have hf' : fnd l (a - 1 + 1) d t e := by rw [ea]; exact hf
  unfold prs at h
  have go : ∀ {k c : Int}, (k = 3 ∧ c = 62 ∨ k = 13 ∧ c = 42 ∨ k = 5 ∧ c = 32) → 0 ≤ e → e < l.length → ((l.getD e.toNat 0).toNat : Int) = c → InR (e + 1) ∧ ((3 * d + 2).toNat < m ∧ (l.length ≤ 1048576 ∧ 0 ≤ e + 1 ∧ e + 1 ≤ 2000000) ∧ 0 ≤ d ∧ d ≤ 30) ∧ ∀ (t1 : T) (e1 : Int), prs l.length (e + 1) t1 e1 → fnd l (e + 1) d t1 e1 →
      Br (decide (e1 < 0)) (Ret K (.tup [.st [.int .i64 0, .int .i64 0, .slc [] (.iv 0 0 true .full)], .int .i64 (-1)]) []) (Br (decide ((l.length : Int) ≤ e1)) (Ret K (.tup [.st [.int .i64 0, .int .i64 0, .slc [] (.iv 0 0 true .full)], .int .i64 (-1)]) []) ((0 ≤ e1 ∧ e1 < l.length) ∧ Br (decide (((l.getD e1.toNat 0).toNat : Int) ≠ 41)) (Ret K (.tup [.st [.int .i64 0, .int .i64 0, .slc [] (.iv 0 0 true .full)], .int .i64 (-1)]) [])
        (2 ≤ 1000 ∧ InR (e1 + 1) ∧ Ret K (.tup [.st [.int .i64 k, .int .i64 0, .slc [t, t1] (.iv 4 7 false (.tok 0))], .int .i64 (e1 + 1)]) []))) := fun {k c} hkc h0 h1 hc => by
    refine ⟨by unfold InR; omega, ⟨by omega, ⟨hl, by omega, by omega⟩, hd0, hd⟩, fun t1 e1 p1 f1 => ?_⟩
    unfold prs at p1
    refine brd (fun g => zero (fnd_rnd_bad2 ha0 hb hf' f1 (fun _ _ _ => by omega))) (fun g1 => brd (fun g => zero (fnd_rnd_bad2 ha0 hb hf' f1 (fun _ _ _ => by omega))) (fun g2 => ⟨⟨by omega, by omega⟩, brd (fun g => zero (fnd_rnd_bad2 ha0 hb hf' f1 (fun _ _ h => g h))) (fun g3 => ⟨by omega, by unfold InR; omega, retTI (hk (.mk k 0 [t, t1]) (e1 + 1) (by unfold prs; simp only [T.size, sizeL, true_or, true_and]; omega) (fnd_rnd ha0 hb hf' hkc hc f1)) rfl rfl rfl⟩)⟩))
  refine brd (fun g => zero (fnd_rnd_bad ha0 hb hf' (fun _ _ _ => by omega))) (fun g1 => brd (fun g => zero (fnd_rnd_bad ha0 hb hf' (fun _ _ _ => by omega))) (fun g2 => ⟨⟨by omega, by omega⟩, ?_⟩))
  refine brd (fun c => go (.inl ⟨rfl, rfl⟩) (by omega) (by omega) c) (fun c1 => brd (fun c => go (.inr (.inl ⟨rfl, rfl⟩)) (by omega) (by omega) c) (fun c2 => brd (fun c => go (.inr (.inr ⟨rfl, rfl⟩)) (by omega) (by omega) c) (fun c3 => ?_)))
  exact ⟨by unfold InR; omega, ⟨by omega, ⟨hl, by omega, by omega⟩, hd0, hd⟩, fun t1 e1 p1 f1 => zero (fnd_rnd_bad ha0 hb hf' (fun _ _ _ => by omega))⟩
theorem sBlock_ok (m : Nat) (l : List UInt8) (a d : Int) (K : AV → List AV → Prop) (hm : ((3 * d + 1).toNat) < m + 1) (hp : (((l.length ≤ 1048576 ∧ 0 ≤ a ∧ a < l.length) ∧ 1 ≤ d ∧ d ≤ 30) ∧ (∀ c : Int, c = ((l.getD a.toNat 0).toNat : Int) → c ≠ 35 ∧ c ≠ 42 ∧ c ≠ 78 ∧ c ≠ 48 ∧ c ≠ 43 ∧ c ≠ 33 ∧ c ≠ 94 ∧ c ≠ 95 ∧ c ≠ 40 ∧ c ≠ 91))) (hk : ((∀ (t : T) (e : Int), prs l.length a t e → fnd l a d t e → K (.tup [t.av fz, .int .i64 e]) []))) :
    bodyQ [(25, csParseM m), (46, csPrefixM m), (47, csRoundM m), (49, csBlockM m), (69, csSeriesM m), (63, csKids)] TY [] Tryd.f49 (body Tryd.f49) [.str l, .int .i64 (a), .int .i64 (d)] [] K := by
  refine of_vc (A :=
    ((InR (a + (1 : Int))) ∧
     ((((0 : Int) ≤ a) ∧ (a < (((List.length l) : Nat) : Int))) ∧
     (Br (Decidable.decide ((((UInt8.toNat (List.getD l (Int.toNat a) (0 : UInt8))) : Nat) : Int) = (60 : Int)))
     ((InR (d - (1 : Int))) ∧
     (True ∧
     ((((Int.toNat (((3 : Int) * (d - (1 : Int))) + (3 : Int))) < m) ∧
     (((((List.length l) ≤ (1048576 : Nat)) ∧ (((0 : Int) ≤ (a + (1 : Int))) ∧ ((a + (1 : Int)) ≤ (((List.length l) : Nat) : Int)))) ∧
     ((((0 : Int) ≤ (d - (1 : Int))) ∧ ((d - (1 : Int)) ≤ (30 : Int))) ∧ (((1 : Int) ≤ (4 : Int)) ∧ ((4 : Int) ≤ (4 : Int))))) ∧
     (((62 : Int) = (62 : Int)) ∨ (((62 : Int) = (125 : Int)) ∨ ((62 : Int) = (124 : Int)))))) ∧
     (∀ ts : (List T),
     (∀ e : Int,
     ((((e = (- (1 : Int))) ∧ ((sizeL ts) = (0 : Nat))) ∨ (((a + (1 : Int)) ≤ e) ∧ ((e ≤ (((List.length l) : Nat) : Int)) ∧ ((((sizeL ts) : Nat) : Int) ≤ (e - (a + (1 : Int))))))) →
     ((fndL l (a + (1 : Int)) (d - (1 : Int)) (4 : Int) (62 : Int) ts e) →
     (Ret K (.tup [(.st [(.int .i64 9), (.int .i64 0), (.slc ts (.iv 7 7 false .no))]), (.int .i64 e)]) []))))))))
     (Br (Decidable.decide ((((UInt8.toNat (List.getD l (Int.toNat a) (0 : UInt8))) : Nat) : Int) = (123 : Int)))
     ((InR (d - (1 : Int))) ∧
     (True ∧
     ((((Int.toNat (((3 : Int) * (d - (1 : Int))) + (3 : Int))) < m) ∧
     (((((List.length l) ≤ (1048576 : Nat)) ∧ (((0 : Int) ≤ (a + (1 : Int))) ∧ ((a + (1 : Int)) ≤ (((List.length l) : Nat) : Int)))) ∧
     ((((0 : Int) ≤ (d - (1 : Int))) ∧ ((d - (1 : Int)) ≤ (30 : Int))) ∧ (((1 : Int) ≤ (3 : Int)) ∧ ((3 : Int) ≤ (4 : Int))))) ∧
     (((125 : Int) = (62 : Int)) ∨ (((125 : Int) = (125 : Int)) ∨ ((125 : Int) = (124 : Int)))))) ∧
     (∀ ts : (List T),
     (∀ e : Int,
     ((((e = (- (1 : Int))) ∧ ((sizeL ts) = (0 : Nat))) ∨ (((a + (1 : Int)) ≤ e) ∧ ((e ≤ (((List.length l) : Nat) : Int)) ∧ ((((sizeL ts) : Nat) : Int) ≤ (e - (a + (1 : Int))))))) →
     ((fndL l (a + (1 : Int)) (d - (1 : Int)) (3 : Int) (125 : Int) ts e) →
     (Ret K (.tup [(.st [(.int .i64 10), (.int .i64 0), (.slc ts (.iv 7 7 false .no))]), (.int .i64 e)]) []))))))))
     (Br (Decidable.decide ((((UInt8.toNat (List.getD l (Int.toNat a) (0 : UInt8))) : Nat) : Int) = (124 : Int)))
     ((InR (d - (1 : Int))) ∧
     (True ∧
     ((((Int.toNat (((3 : Int) * (d - (1 : Int))) + (3 : Int))) < m) ∧
     (((((List.length l) ≤ (1048576 : Nat)) ∧ (((0 : Int) ≤ (a + (1 : Int))) ∧ ((a + (1 : Int)) ≤ (((List.length l) : Nat) : Int)))) ∧
     ((((0 : Int) ≤ (d - (1 : Int))) ∧ ((d - (1 : Int)) ≤ (30 : Int))) ∧ (((1 : Int) ≤ (3 : Int)) ∧ ((3 : Int) ≤ (4 : Int))))) ∧
     (((124 : Int) = (62 : Int)) ∨ (((124 : Int) = (125 : Int)) ∨ ((124 : Int) = (124 : Int)))))) ∧
     (∀ ts : (List T),
     (∀ e : Int,
     ((((e = (- (1 : Int))) ∧ ((sizeL ts) = (0 : Nat))) ∨ (((a + (1 : Int)) ≤ e) ∧ ((e ≤ (((List.length l) : Nat) : Int)) ∧ ((((sizeL ts) : Nat) : Int) ≤ (e - (a + (1 : Int))))))) →
     ((fndL l (a + (1 : Int)) (d - (1 : Int)) (3 : Int) (124 : Int) ts e) →
     (Ret K (.tup [(.st [(.int .i64 14), (.int .i64 0), (.slc ts (.iv 7 7 false .no))]), (.int .i64 e)]) []))))))))
     (Br (Decidable.decide ((((UInt8.toNat (List.getD l (Int.toNat a) (0 : UInt8))) : Nat) : Int) = (64 : Int)))
     ((InR (a + (2 : Int))) ∧
     (Br (Decidable.decide ((((List.length l) : Nat) : Int) < (a + (2 : Int))))
     (Ret K (.tup [(.st [(.int .i64 0), (.int .i64 0), (.slc [] (.iv 0 0 true .full))]), (.int .i64 (- (1 : Int)))]) [])
     ((InR (a + (1 : Int))) ∧
     ((((0 : Int) ≤ (a + (1 : Int))) ∧ ((a + (1 : Int)) < (((List.length l) : Nat) : Int))) ∧
     (Br (Decidable.decide ((((UInt8.toNat (List.getD l (Int.toNat (a + (1 : Int))) (0 : UInt8))) : Nat) : Int) ≠ (60 : Int)))
     (Ret K (.tup [(.st [(.int .i64 0), (.int .i64 0), (.slc [] (.iv 0 0 true .full))]), (.int .i64 (- (1 : Int)))]) [])
     ((InR (d - (1 : Int))) ∧
     (True ∧
     ((((Int.toNat (((3 : Int) * (d - (1 : Int))) + (3 : Int))) < m) ∧
     (((((List.length l) ≤ (1048576 : Nat)) ∧ (((0 : Int) ≤ (a + (2 : Int))) ∧ ((a + (2 : Int)) ≤ (((List.length l) : Nat) : Int)))) ∧
     ((((0 : Int) ≤ (d - (1 : Int))) ∧ ((d - (1 : Int)) ≤ (30 : Int))) ∧ (((1 : Int) ≤ (3 : Int)) ∧ ((3 : Int) ≤ (4 : Int))))) ∧
     (((62 : Int) = (62 : Int)) ∨ (((62 : Int) = (125 : Int)) ∨ ((62 : Int) = (124 : Int)))))) ∧
     (∀ ts : (List T),
     (∀ e : Int,
     ((((e = (- (1 : Int))) ∧ ((sizeL ts) = (0 : Nat))) ∨ (((a + (2 : Int)) ≤ e) ∧ ((e ≤ (((List.length l) : Nat) : Int)) ∧ ((((sizeL ts) : Nat) : Int) ≤ (e - (a + (2 : Int))))))) →
     ((fndL l (a + (2 : Int)) (d - (1 : Int)) (3 : Int) (62 : Int) ts e) →
     (Ret K (.tup [(.st [(.int .i64 12), (.int .i64 0), (.slc ts (.iv 7 7 false .no))]), (.int .i64 e)]) [])))))))))))))
     (Ret K (.tup [(.st [(.int .i64 0), (.int .i64 0), (.slc [] (.iv 0 0 true .full))]), (.int .i64 (- (1 : Int)))]) [])))))))) ?_ (by kernel_rfl)
  obtain ⟨⟨⟨hl, ha0, ha⟩, hd0, hd⟩, hb⟩ := hp
  have zero : fnd l a d (.mk 0 0 []) (-1) → Ret K (.tup [.st [.int .i64 0, .int .i64 0, .slc [] (.iv 0 0 true .full)], .int .i64 (-1)]) [] := fun h => retTI (hk (.mk 0 0 []) (-1) (by unfold prs; simp only [T.size, sizeL, true_or, true_and]; omega) h) rfl rfl rfl
  have go : ∀ {k b c w : Int}, (k = 9 ∧ b = 60 ∧ c = 62 ∧ w = 4 ∨ k = 10 ∧ b = 123 ∧ c = 125 ∧ w = 3 ∨ k = 14 ∧ b = 124 ∧ c = 124 ∧ w = 3) → ((l.getD a.toNat 0).toNat : Int) = b → ∀ (ts : List T) (e : Int), e = -1 ∧ sizeL ts = 0 ∨ a + 1 ≤ e ∧ e ≤ l.length ∧ (sizeL ts : Int) ≤ e - (a + 1) → fndL l (a + 1) (d - 1) w c ts e → Ret K (.tup [.st [.int .i64 k, .int .i64 0, .slc ts (.iv 7 7 false .no)], .int .i64 e]) [] := fun {k b c w} h1 h2 ts e h3 h4 =>
    retTI (hk (.mk k 0 ts) e (by unfold prs; simp only [T.size]; omega) (fnd_blk ha0 h1 h2 h4)) rfl rfl rfl
  refine ⟨by unfold InR; omega, ⟨ha0, ha⟩, ?_⟩
  refine brd (fun c => ⟨by unfold InR; omega, trivial, ⟨by omega, ⟨⟨hl, by omega, by omega⟩, ⟨by omega, by omega⟩, by omega, by omega⟩, by omega⟩, go (.inl ⟨rfl, rfl, rfl, rfl⟩) c⟩) (fun c1 => ?_)
  refine brd (fun c => ⟨by unfold InR; omega, trivial, ⟨by omega, ⟨⟨hl, by omega, by omega⟩, ⟨by omega, by omega⟩, by omega, by omega⟩, by omega⟩, go (.inr (.inl ⟨rfl, rfl, rfl, rfl⟩)) c⟩) (fun c2 => ?_)
  refine brd (fun c => ⟨by unfold InR; omega, trivial, ⟨by omega, ⟨⟨hl, by omega, by omega⟩, ⟨by omega, by omega⟩, by omega, by omega⟩, by omega⟩, go (.inr (.inr ⟨rfl, rfl, rfl, rfl⟩)) c⟩) (fun c3 => ?_)
  refine brd (fun c => ?_) (fun c4 => ?_)
  · refine ⟨by unfold InR; omega, brd (fun g => zero (fnd_move_bad ha0 c (fun h _ => by omega))) (fun g1 => ⟨by unfold InR; omega, ?_⟩)⟩
    by_cases g2 : a + 1 < l.length
    · refine ⟨⟨by omega, g2⟩, brd (fun g => zero (fnd_move_bad ha0 c (fun _ h => g h))) (fun g3 => ⟨by unfold InR; omega, trivial, ⟨by omega, ⟨⟨hl, by omega, by omega⟩, ⟨by omega, by omega⟩, by omega, by omega⟩, by omega⟩, fun ts e h3 h4 => ?_⟩)⟩
      exact retTI (hk (.mk 12 0 ts) e (by unfold prs; simp only [T.size]; omega) (fnd_move ha0 c h4)) rfl rfl rfl
    · omega
  · exact zero (fnd_other ha0 (fun x hx => by have := hb x hx; omega))
theorem sSeries_ok (m : Nat) (l : List UInt8) (a d w c : Int) (K : AV → List AV → Prop) (hm : ((3 * d + 3).toNat) < m + 1) (hp : (((l.length ≤ 1048576 ∧ 0 ≤ a ∧ a ≤ l.length) ∧ (0 ≤ d ∧ d ≤ 30) ∧ 1 ≤ w ∧ w ≤ 4) ∧ (c = 62 ∨ c = 125 ∨ c = 124))) (hk : ((∀ (ts : List T) (e : Int), (e = -1 ∧ sizeL ts = 0 ∨ (a ≤ e ∧ e ≤ l.length ∧ (sizeL ts : Int) ≤ e - a)) → fndL l a d w c ts e → K (.tup [.slc ts fz, .int .i64 e]) []))) :
    bodyQ [(25, csParseM m), (46, csPrefixM m), (47, csRoundM m), (49, csBlockM m), (69, csSeriesM m)] TY [(3, { ι := List T × Int × Int, ok := fun x => a ≤ x.2.1 ∧ x.2.1 ≤ l.length ∧ (sizeL x.1 : Int) ≤ x.2.1 - a ∧ 0 ≤ x.2.2 ∧ x.1.length = x.2.2 ∧ (x.2.2 = 0 ∨ x.2.2 ≤ w) ∧ (∀ us r, (us.length : Int) = w → shpL us d = true → l.drop a.toNat = textL (List.replicate (us.length - 1) [44] ++ [[UInt8.ofNat c.toNat]]) us ++ r → ∃ vs, us = x.1 ++ vs ∧ l.drop x.2.1.toNat = textL (List.replicate (vs.length - 1) [44] ++ [[UInt8.ofNat c.toNat]]) vs ++ r), tl := fun x => [(0, .str l), (1, .int .i64 x.2.1), (2, .int .i64 d), (3, .int .i64 w), (4, .int .u8 c), (12, .slc x.1 (.iv 4 7 false (.tok 65))), (13, .int .i64 x.2.2)], hl := fun _ => [], fh := fun _ => [], μ := fun x => (w - x.2.2).toNat })] Tryd.f69 (body Tryd.f69) [.str l, .int .i64 (a), .int .i64 (d), .int .i64 (w), .int .u8 c] [] K := by
  refine of_vc (A :=
    ((∃ x : (Prod (List T) (Prod Int Int)),
     (((a ≤ (Prod.fst (Prod.snd x))) ∧
     (((Prod.fst (Prod.snd x)) ≤ (((List.length l) : Nat) : Int)) ∧
     (((((sizeL (Prod.fst x)) : Nat) : Int) ≤ ((Prod.fst (Prod.snd x)) - a)) ∧
     (((0 : Int) ≤ (Prod.snd (Prod.snd x))) ∧
     (((((List.length (Prod.fst x)) : Nat) : Int) = (Prod.snd (Prod.snd x))) ∧
     ((((Prod.snd (Prod.snd x)) = (0 : Int)) ∨ ((Prod.snd (Prod.snd x)) ≤ w)) ∧
     (∀ us : (List T),
     (∀ r : (List UInt8),
     (((((List.length us) : Nat) : Int) = w) →
     (((shpL us d) = true) →
     (((List.drop (Int.toNat a) l) = ((textL ((List.replicate ((List.length us) - (1 : Nat)) [(44 : UInt8)]) ++ [[(UInt8.ofNat (Int.toNat c))]]) us) ++ r)) →
     (∃ vs : (List T),
     ((us = ((Prod.fst x) ++ vs)) ∧
     ((List.drop (Int.toNat (Prod.fst (Prod.snd x))) l) = ((textL ((List.replicate ((List.length vs) - (1 : Nat)) [(44 : UInt8)]) ++ [[(UInt8.ofNat (Int.toNat c))]]) vs) ++ r))))))))))))))) ∧
     ((l = l) ∧
     ((a = (Prod.fst (Prod.snd x))) ∧ ((d = d) ∧ ((w = w) ∧ ((c = c) ∧ ((([] : List T) = (Prod.fst x)) ∧ (((0 : Int) = (Prod.snd (Prod.snd x))) ∧ True))))))))) ∧
     (∀ x : (Prod (List T) (Prod Int Int)),
     (((a ≤ (Prod.fst (Prod.snd x))) ∧ (((Prod.fst (Prod.snd x)) ≤ (((List.length l) : Nat) : Int)) ∧ (((((sizeL (Prod.fst x)) : Nat) : Int) ≤ ((Prod.fst (Prod.snd x)) - a)) ∧ (((0 : Int) ≤ (Prod.snd (Prod.snd x))) ∧ (((((List.length (Prod.fst x)) : Nat) : Int) = (Prod.snd (Prod.snd x))) ∧ ((((Prod.snd (Prod.snd x)) = (0 : Int)) ∨ ((Prod.snd (Prod.snd x)) ≤ w)) ∧ (∀ us : (List T), (∀ r : (List UInt8), (((((List.length us) : Nat) : Int) = w) → (((shpL us d) = true) → (((List.drop (Int.toNat a) l) = ((textL ((List.replicate ((List.length us) - (1 : Nat)) [(44 : UInt8)]) ++ [[(UInt8.ofNat (Int.toNat c))]]) us) ++ r)) → (∃ vs : (List T), ((us = ((Prod.fst x) ++ vs)) ∧ ((List.drop (Int.toNat (Prod.fst (Prod.snd x))) l) = ((textL ((List.replicate ((List.length vs) - (1 : Nat)) [(44 : UInt8)]) ++ [[(UInt8.ofNat (Int.toNat c))]]) vs) ++ r))))))))))))))) →
     (Br (Decidable.decide ((Prod.snd (Prod.snd x)) < w))
     ((((Int.toNat (((3 : Int) * d) + (2 : Int))) < m) ∧
     ((((List.length l) ≤ (1048576 : Nat)) ∧ (((0 : Int) ≤ (Prod.fst (Prod.snd x))) ∧ ((Prod.fst (Prod.snd x)) ≤ (2000000 : Int)))) ∧
     (((0 : Int) ≤ d) ∧ (d ≤ (30 : Int))))) ∧
     (∀ t : T,
     (∀ e : Int,
     ((prs (((List.length l) : Nat) : Int) (Prod.fst (Prod.snd x)) t e) →
     ((fnd l (Prod.fst (Prod.snd x)) d t e) →
     (Br (Decidable.decide (e < (0 : Int)))
     (Ret K (.tup [(.slc [] (.iv 0 0 true .full)), (.int .i64 (- (1 : Int)))]) [])
     (Br (Decidable.decide ((((List.length l) : Nat) : Int) ≤ e))
     (Ret K (.tup [(.slc [] (.iv 0 0 true .full)), (.int .i64 (- (1 : Int)))]) [])
     ((InR ((Prod.snd (Prod.snd x)) + (1 : Int))) ∧
     (Br (Decidable.decide (((Prod.snd (Prod.snd x)) + (1 : Int)) < w))
     ((((0 : Int) ≤ e) ∧ (e < (((List.length l) : Nat) : Int))) ∧
     (Br (Decidable.decide ((((UInt8.toNat (List.getD l (Int.toNat e) (0 : UInt8))) : Nat) : Int) ≠ (44 : Int)))
     (Ret K (.tup [(.slc [] (.iv 0 0 true .full)), (.int .i64 (- (1 : Int)))]) [])
     ((InR ((Prod.snd (Prod.snd x)) + (1 : Int))) ∧
     (Br (Decidable.decide (((Prod.snd (Prod.snd x)) + (1 : Int)) = w))
     ((((0 : Int) ≤ e) ∧ (e < (((List.length l) : Nat) : Int))) ∧
     (Br (Decidable.decide ((((UInt8.toNat (List.getD l (Int.toNat e) (0 : UInt8))) : Nat) : Int) ≠ c))
     (Ret K (.tup [(.slc [] (.iv 0 0 true .full)), (.int .i64 (- (1 : Int)))]) [])
     ((((((List.length (Prod.fst x)) : Nat) : Int) + (1 : Int)) ≤ (1099511627776 : Int)) ∧
     ((InR (e + (1 : Int))) ∧
     ((InR ((Prod.snd (Prod.snd x)) + (1 : Int))) ∧
     (∃ y : (Prod (List T) (Prod Int Int)),
     (((a ≤ (Prod.fst (Prod.snd y))) ∧
     (((Prod.fst (Prod.snd y)) ≤ (((List.length l) : Nat) : Int)) ∧
     (((((sizeL (Prod.fst y)) : Nat) : Int) ≤ ((Prod.fst (Prod.snd y)) - a)) ∧
     (((0 : Int) ≤ (Prod.snd (Prod.snd y))) ∧
     (((((List.length (Prod.fst y)) : Nat) : Int) = (Prod.snd (Prod.snd y))) ∧
     ((((Prod.snd (Prod.snd y)) = (0 : Int)) ∨ ((Prod.snd (Prod.snd y)) ≤ w)) ∧
     (∀ us : (List T),
     (∀ r : (List UInt8),
     (((((List.length us) : Nat) : Int) = w) →
     (((shpL us d) = true) →
     (((List.drop (Int.toNat a) l) = ((textL ((List.replicate ((List.length us) - (1 : Nat)) [(44 : UInt8)]) ++ [[(UInt8.ofNat (Int.toNat c))]]) us) ++ r)) →
     (∃ vs : (List T),
     ((us = ((Prod.fst y) ++ vs)) ∧
     ((List.drop (Int.toNat (Prod.fst (Prod.snd y))) l) = ((textL ((List.replicate ((List.length vs) - (1 : Nat)) [(44 : UInt8)]) ++ [[(UInt8.ofNat (Int.toNat c))]]) vs) ++ r))))))))))))))) ∧
     ((l = l) ∧
     (((e + (1 : Int)) = (Prod.fst (Prod.snd y))) ∧
     ((d = d) ∧
     ((w = w) ∧
     ((c = c) ∧
     ((((Prod.fst x) ++ [(T.mk (T.k t) (T.n t) (T.kids t))]) = (Prod.fst y)) ∧
     ((((Prod.snd (Prod.snd x)) + (1 : Int)) = (Prod.snd (Prod.snd y))) ∧
     ((Nat.succ (Int.toNat (w - (Prod.snd (Prod.snd y))))) ≤ (Int.toNat (w - (Prod.snd (Prod.snd x)))))))))))))))))))
     ((((((List.length (Prod.fst x)) : Nat) : Int) + (1 : Int)) ≤ (1099511627776 : Int)) ∧
     ((InR (e + (1 : Int))) ∧
     ((InR ((Prod.snd (Prod.snd x)) + (1 : Int))) ∧
     (∃ y : (Prod (List T) (Prod Int Int)),
     (((a ≤ (Prod.fst (Prod.snd y))) ∧
     (((Prod.fst (Prod.snd y)) ≤ (((List.length l) : Nat) : Int)) ∧
     (((((sizeL (Prod.fst y)) : Nat) : Int) ≤ ((Prod.fst (Prod.snd y)) - a)) ∧
     (((0 : Int) ≤ (Prod.snd (Prod.snd y))) ∧
     (((((List.length (Prod.fst y)) : Nat) : Int) = (Prod.snd (Prod.snd y))) ∧
     ((((Prod.snd (Prod.snd y)) = (0 : Int)) ∨ ((Prod.snd (Prod.snd y)) ≤ w)) ∧
     (∀ us : (List T),
     (∀ r : (List UInt8),
     (((((List.length us) : Nat) : Int) = w) →
     (((shpL us d) = true) →
     (((List.drop (Int.toNat a) l) = ((textL ((List.replicate ((List.length us) - (1 : Nat)) [(44 : UInt8)]) ++ [[(UInt8.ofNat (Int.toNat c))]]) us) ++ r)) →
     (∃ vs : (List T),
     ((us = ((Prod.fst y) ++ vs)) ∧
     ((List.drop (Int.toNat (Prod.fst (Prod.snd y))) l) = ((textL ((List.replicate ((List.length vs) - (1 : Nat)) [(44 : UInt8)]) ++ [[(UInt8.ofNat (Int.toNat c))]]) vs) ++ r))))))))))))))) ∧
     ((l = l) ∧
     (((e + (1 : Int)) = (Prod.fst (Prod.snd y))) ∧
     ((d = d) ∧
     ((w = w) ∧
     ((c = c) ∧
     ((((Prod.fst x) ++ [(T.mk (T.k t) (T.n t) (T.kids t))]) = (Prod.fst y)) ∧
     ((((Prod.snd (Prod.snd x)) + (1 : Int)) = (Prod.snd (Prod.snd y))) ∧
     ((Nat.succ (Int.toNat (w - (Prod.snd (Prod.snd y))))) ≤ (Int.toNat (w - (Prod.snd (Prod.snd x)))))))))))))))))))))
     ((InR ((Prod.snd (Prod.snd x)) + (1 : Int))) ∧
     (Br (Decidable.decide (((Prod.snd (Prod.snd x)) + (1 : Int)) = w))
     ((((0 : Int) ≤ e) ∧ (e < (((List.length l) : Nat) : Int))) ∧
     (Br (Decidable.decide ((((UInt8.toNat (List.getD l (Int.toNat e) (0 : UInt8))) : Nat) : Int) ≠ c))
     (Ret K (.tup [(.slc [] (.iv 0 0 true .full)), (.int .i64 (- (1 : Int)))]) [])
     ((((((List.length (Prod.fst x)) : Nat) : Int) + (1 : Int)) ≤ (1099511627776 : Int)) ∧
     ((InR (e + (1 : Int))) ∧
     ((InR ((Prod.snd (Prod.snd x)) + (1 : Int))) ∧
     (∃ y : (Prod (List T) (Prod Int Int)),
     (((a ≤ (Prod.fst (Prod.snd y))) ∧
     (((Prod.fst (Prod.snd y)) ≤ (((List.length l) : Nat) : Int)) ∧
     (((((sizeL (Prod.fst y)) : Nat) : Int) ≤ ((Prod.fst (Prod.snd y)) - a)) ∧
     (((0 : Int) ≤ (Prod.snd (Prod.snd y))) ∧
     (((((List.length (Prod.fst y)) : Nat) : Int) = (Prod.snd (Prod.snd y))) ∧
     ((((Prod.snd (Prod.snd y)) = (0 : Int)) ∨ ((Prod.snd (Prod.snd y)) ≤ w)) ∧
     (∀ us : (List T),
     (∀ r : (List UInt8),
     (((((List.length us) : Nat) : Int) = w) →
     (((shpL us d) = true) →
     (((List.drop (Int.toNat a) l) = ((textL ((List.replicate ((List.length us) - (1 : Nat)) [(44 : UInt8)]) ++ [[(UInt8.ofNat (Int.toNat c))]]) us) ++ r)) →
     (∃ vs : (List T),
     ((us = ((Prod.fst y) ++ vs)) ∧
     ((List.drop (Int.toNat (Prod.fst (Prod.snd y))) l) = ((textL ((List.replicate ((List.length vs) - (1 : Nat)) [(44 : UInt8)]) ++ [[(UInt8.ofNat (Int.toNat c))]]) vs) ++ r))))))))))))))) ∧
     ((l = l) ∧
     (((e + (1 : Int)) = (Prod.fst (Prod.snd y))) ∧
     ((d = d) ∧
     ((w = w) ∧
     ((c = c) ∧
     ((((Prod.fst x) ++ [(T.mk (T.k t) (T.n t) (T.kids t))]) = (Prod.fst y)) ∧
     ((((Prod.snd (Prod.snd x)) + (1 : Int)) = (Prod.snd (Prod.snd y))) ∧
     ((Nat.succ (Int.toNat (w - (Prod.snd (Prod.snd y))))) ≤ (Int.toNat (w - (Prod.snd (Prod.snd x)))))))))))))))))))
     ((((((List.length (Prod.fst x)) : Nat) : Int) + (1 : Int)) ≤ (1099511627776 : Int)) ∧
     ((InR (e + (1 : Int))) ∧
     ((InR ((Prod.snd (Prod.snd x)) + (1 : Int))) ∧
     (∃ y : (Prod (List T) (Prod Int Int)),
     (((a ≤ (Prod.fst (Prod.snd y))) ∧
     (((Prod.fst (Prod.snd y)) ≤ (((List.length l) : Nat) : Int)) ∧
     (((((sizeL (Prod.fst y)) : Nat) : Int) ≤ ((Prod.fst (Prod.snd y)) - a)) ∧
     (((0 : Int) ≤ (Prod.snd (Prod.snd y))) ∧
     (((((List.length (Prod.fst y)) : Nat) : Int) = (Prod.snd (Prod.snd y))) ∧
     ((((Prod.snd (Prod.snd y)) = (0 : Int)) ∨ ((Prod.snd (Prod.snd y)) ≤ w)) ∧
     (∀ us : (List T),
     (∀ r : (List UInt8),
     (((((List.length us) : Nat) : Int) = w) →
     (((shpL us d) = true) →
     (((List.drop (Int.toNat a) l) = ((textL ((List.replicate ((List.length us) - (1 : Nat)) [(44 : UInt8)]) ++ [[(UInt8.ofNat (Int.toNat c))]]) us) ++ r)) →
     (∃ vs : (List T),
     ((us = ((Prod.fst y) ++ vs)) ∧
     ((List.drop (Int.toNat (Prod.fst (Prod.snd y))) l) = ((textL ((List.replicate ((List.length vs) - (1 : Nat)) [(44 : UInt8)]) ++ [[(UInt8.ofNat (Int.toNat c))]]) vs) ++ r))))))))))))))) ∧
     ((l = l) ∧
     (((e + (1 : Int)) = (Prod.fst (Prod.snd y))) ∧
     ((d = d) ∧
     ((w = w) ∧
     ((c = c) ∧
     ((((Prod.fst x) ++ [(T.mk (T.k t) (T.n t) (T.kids t))]) = (Prod.fst y)) ∧
     ((((Prod.snd (Prod.snd x)) + (1 : Int)) = (Prod.snd (Prod.snd y))) ∧
     ((Nat.succ (Int.toNat (w - (Prod.snd (Prod.snd y))))) ≤ (Int.toNat (w - (Prod.snd (Prod.snd x))))))))))))))))))))))))))))
     (Ret K (.tup [(.slc (Prod.fst x) (.iv 4 7 false (.tok 0))), (.int .i64 (Prod.fst (Prod.snd x)))]) [])))))) ?_ (by kernel_rfl)
  obtain ⟨⟨⟨hl, ha0, ha⟩, ⟨hd0, hd⟩, hw0, hw⟩, hc⟩ := hp
  have bad : (∀ (us : List T) (r : List UInt8), (us.length : Int) = w → shpL us d = true → l.drop a.toNat = textL (List.replicate (us.length - 1) [44] ++ [[UInt8.ofNat c.toNat]]) us ++ r → False) → Ret K (.tup [.slc [] (.iv 0 0 true .full), .int .i64 (-1)]) [] := fun h => retSI (hk [] (-1) (Or.inl ⟨rfl, rfl⟩) (fun us r h1 h2 h3 => (h us r h1 h2 h3).elim)) rfl
  have app : ∀ (ts : List T) (t : T), sizeL (ts ++ [t]) = sizeL ts + t.size := fun ts t => by
    induction ts with
    | nil => simp only [List.nil_append, sizeL]; omega
    | cons u us ih => simp only [List.cons_append, sizeL, ih]; omega
  have hc8 : ((UInt8.ofNat c.toNat).toNat : Int) = c ∧ (UInt8.ofNat c.toNat < 48 ∨ 57 < UInt8.ofNat c.toNat) := by rcases hc with rfl | rfl | rfl <;> decide
  refine ⟨⟨([], a, 0), ⟨Int.le_refl a, ha, by simp only [sizeL]; omega, Int.le_refl 0, rfl, Or.inl rfl, fun us r h1 h2 h3 => ⟨us, rfl, h3⟩⟩, rfl, rfl, rfl, rfl, rfl, rfl, rfl, trivial⟩, ?_⟩
  rintro ⟨ts, b, i⟩ ⟨h1, h2, h3, h4, h5, h6, h7⟩
  simp only at h1 h2 h3 h4 h5 h6 h7
  simp only [T.eta]
  refine brd (fun hi => ⟨⟨by omega, ⟨hl, by omega, by omega⟩, hd0, hd⟩, fun t e hp hf => ?_⟩) (fun hi => ?_)
  · unfold prs at hp
    -- what a right series gives here
    have key : ∀ (us : List T) (r : List UInt8), (us.length : Int) = w → shpL us d = true → l.drop a.toNat = textL (List.replicate (us.length - 1) [44] ++ [[UInt8.ofNat c.toNat]]) us ++ r →
        0 ≤ e ∧ e < l.length ∧ ((l.getD e.toNat 0).toNat : Int) = (if i + 1 = w then c else 44) ∧ ∃ vs, us = (ts ++ [t]) ++ vs ∧ l.drop (e + 1).toNat = textL (List.replicate (vs.length - 1) [44] ++ [[UInt8.ofNat c.toNat]]) vs ++ r := fun us r k1 k2 k3 => by
      obtain ⟨vs, rfl, g⟩ := h7 us r k1 k2 k3
      cases vs with
      | nil => simp at k1; omega
      | cons v vs =>
        rw [ser_step, List.append_assoc, List.cons_append] at g
        have hv : v.shp d = true := shpL_mem k2 (by simp)
        have hn : nd ((if vs = [] then UInt8.ofNat c.toNat else 44) :: (textL (List.replicate (vs.length - 1) [44] ++ [[UInt8.ofNat c.toNat]]) vs ++ r)) := nd_cons (by
          split
          · exact hc8.2
          · exact .inl (by decide))
        obtain ⟨p1, p2⟩ := hf v _ hv hn g
        obtain ⟨q1, q2, q3, q4, q5⟩ := after1 (by omega) h2 g p2
        subst p1
        refine ⟨q1, q2, ?_, vs, by simp, q5⟩
        rw [q4]
        simp only [List.length_append, List.length_cons] at k1
        cases vs with
        | nil => simp only [List.length_nil] at k1; rw [if_pos rfl, if_pos (by omega)]; exact hc8.1
        | cons x xs => simp only [List.length_cons] at k1; rw [if_neg (by simp), if_neg (by omega)]; rfl
    have ok : 0 ≤ e → e < l.length → (↑ts.length + 1 ≤ (1099511627776 : Int) ∧ InR (e + 1) ∧ InR (i + 1) ∧ ∃ y : List T × Int × Int, (a ≤ y.2.1 ∧ y.2.1 ≤ l.length ∧ (sizeL y.1 : Int) ≤ y.2.1 - a ∧ 0 ≤ y.2.2 ∧ (y.1.length : Int) = y.2.2 ∧ (y.2.2 = 0 ∨ y.2.2 ≤ w) ∧ ∀ (us : List T) (r : List UInt8), (us.length : Int) = w → shpL us d = true → l.drop a.toNat = textL (List.replicate (us.length - 1) [44] ++ [[UInt8.ofNat c.toNat]]) us ++ r → ∃ vs, us = y.1 ++ vs ∧ l.drop y.2.1.toNat = textL (List.replicate (vs.length - 1) [44] ++ [[UInt8.ofNat c.toNat]]) vs ++ r) ∧
        True ∧ e + 1 = y.2.1 ∧ True ∧ True ∧ True ∧ ts ++ [t] = y.1 ∧ i + 1 = y.2.2 ∧ (w - y.2.2).toNat.succ ≤ (w - i).toNat) := fun e0 e1 =>
      ⟨by omega, by unfold InR; omega, by unfold InR; omega, (ts ++ [t], e + 1, i + 1), ⟨by show a ≤ e + 1; omega, by show e + 1 ≤ _; omega, by show (sizeL (ts ++ [t]) : Int) ≤ e + 1 - a; rw [app]; omega, by show 0 ≤ i + 1; omega, by show ((ts ++ [t]).length : Int) = i + 1; rw [List.length_append]; simp; omega, by show i + 1 = 0 ∨ i + 1 ≤ w; omega, fun us r k1 k2 k3 => (key us r k1 k2 k3).2.2.2⟩, trivial, rfl, trivial, trivial, trivial, rfl, rfl, by show (w - (i + 1)).toNat.succ ≤ _; omega⟩
    refine brd (fun g => bad (fun us r k1 k2 k3 => by have := key us r k1 k2 k3; omega)) (fun g1 => brd (fun g => bad (fun us r k1 k2 k3 => by have := key us r k1 k2 k3; omega)) (fun g2 => ⟨by unfold InR; omega, brd (fun g3 => ⟨⟨by omega, by omega⟩, brd (fun g => bad (fun us r k1 k2 k3 => ?_)) (fun g4 => ⟨by unfold InR; omega, brd (fun g5 => ⟨⟨by omega, by omega⟩, brd (fun g => absurd g5 (by omega)) (fun g6 => ok (by omega) (by omega))⟩) (fun g5 => ok (by omega) (by omega))⟩)⟩) (fun g3 => ⟨by unfold InR; omega, brd (fun g5 => ⟨⟨by omega, by omega⟩, brd (fun g => bad (fun us r k1 k2 k3 => ?_)) (fun g6 => ok (by omega) (by omega))⟩) (fun g5 => ok (by omega) (by omega))⟩)⟩))
    · obtain ⟨_, _, q, _⟩ := key us r k1 k2 k3
      rw [if_neg (by omega)] at q
      exact g q
    · obtain ⟨_, _, q, _⟩ := key us r k1 k2 k3
      rw [if_pos g5] at q
      exact g q
  · refine retSI (hk ts b (Or.inr ⟨h1, h2, h3⟩) (fun us r k1 k2 k3 => ?_)) rfl rfl
    obtain ⟨vs, rfl, g⟩ := h7 us r k1 k2 k3
    have : vs = [] := List.length_eq_zero_iff.1 (by rw [List.length_append] at k1; omega)
    subst this
    have hx : textL (List.replicate (([] : List T).length - 1) [44] ++ [[UInt8.ofNat c.toNat]]) [] = [] := rfl
    rw [hx, List.nil_append] at g
    have hl2 : (l.drop b.toNat).length = r.length := by rw [g]
    rw [List.length_drop] at hl2
    exact ⟨by simp, by omega⟩
theorem sParse_soundM : ∀ m : Nat, Sound Tryd.prog 25 (csParseM m) ∧ Sound Tryd.prog 46 (csPrefixM m) ∧ Sound Tryd.prog 47 (csRoundM m) ∧ Sound Tryd.prog 49 (csBlockM m) ∧ Sound Tryd.prog 69 (csSeriesM m)
  | 0 => ⟨by
      refine soundF (G := []) gnil Tryd.func25 rfl (by kernel_rfl) fun args hs K hCC => ?_
      unfold csParseM at hCC
      split at hCC
      case h_2 => exact hCC.elim
      exact absurd hCC.1.1 (Nat.not_lt_zero _), by
      refine soundF (G := []) gnil Tryd.func46 rfl (by kernel_rfl) fun args hs K hCC => ?_
      unfold csPrefixM at hCC
      split at hCC
      case h_2 => exact hCC.elim
      exact absurd hCC.1.1 (Nat.not_lt_zero _), by
      refine soundF (G := []) gnil Tryd.func47 rfl (by kernel_rfl) fun args hs K hCC => ?_
      unfold csRoundM at hCC
      split at hCC
      case h_2 => exact hCC.elim
      exact absurd hCC.1.1 (Nat.not_lt_zero _), by
      refine soundF (G := []) gnil Tryd.func49 rfl (by kernel_rfl) fun args hs K hCC => ?_
      unfold csBlockM at hCC
      split at hCC
      case h_2 => exact hCC.elim
      exact absurd hCC.1.1 (Nat.not_lt_zero _), by
      refine soundF (G := []) gnil Tryd.func69 rfl (by kernel_rfl) fun args hs K hCC => ?_
      unfold csSeriesM at hCC
      split at hCC
      case h_2 => exact hCC.elim
      exact absurd hCC.1.1 (Nat.not_lt_zero _)⟩
  | m + 1 => ⟨by
      refine soundF (G := [(25, csParseM m), (46, csPrefixM m), (47, csRoundM m), (49, csBlockM m), (69, csSeriesM m), (44, csNumber), (45, csLeaf), (48, csNode)]) ((gcons (sParse_soundM m).1 (gcons (sParse_soundM m).2.1 (gcons (sParse_soundM m).2.2.1 (gcons (sParse_soundM m).2.2.2.1 (gcons (sParse_soundM m).2.2.2.2 (gcons sNumber_sound (gcons sLeaf_sound (gcons sNode_sound gnil))))))))) Tryd.func25 rfl (by kernel_rfl) fun args hs K hCC => ?_
      unfold csParseM at hCC
      split at hCC
      case h_2 => exact hCC.elim
      rename_i l a d
      exact ⟨Nat.le_of_ble_eq_true rfl, _, sParse_ok m l a d K hCC.1.1 hCC.1.2 hCC.2⟩, by
      refine soundF (G := [(25, csParseM m), (46, csPrefixM m), (47, csRoundM m), (49, csBlockM m), (69, csSeriesM m), (48, csNode)]) ((gcons (sParse_soundM m).1 (gcons (sParse_soundM m).2.1 (gcons (sParse_soundM m).2.2.1 (gcons (sParse_soundM m).2.2.2.1 (gcons (sParse_soundM m).2.2.2.2 (gcons sNode_sound gnil))))))) Tryd.func46 rfl (by kernel_rfl) fun args hs K hCC => ?_
      unfold csPrefixM at hCC
      split at hCC
      case h_2 => exact hCC.elim
      rename_i l a d
      exact ⟨Nat.le_of_ble_eq_true rfl, _, sPrefix_ok m l a d K hCC.1.1 hCC.1.2 hCC.2⟩, by
      refine soundF (G := [(25, csParseM m), (46, csPrefixM m), (47, csRoundM m), (49, csBlockM m), (69, csSeriesM m), (48, csNode)]) ((gcons (sParse_soundM m).1 (gcons (sParse_soundM m).2.1 (gcons (sParse_soundM m).2.2.1 (gcons (sParse_soundM m).2.2.2.1 (gcons (sParse_soundM m).2.2.2.2 (gcons sNode_sound gnil))))))) Tryd.func47 rfl (by kernel_rfl) fun args hs K hCC => ?_
      unfold csRoundM at hCC
      split at hCC
      case h_2 => exact hCC.elim
      rename_i l a d
      exact ⟨Nat.le_of_ble_eq_true rfl, _, sRound_ok m l a d K hCC.1.1 hCC.1.2 hCC.2⟩, by
      refine soundF (G := [(25, csParseM m), (46, csPrefixM m), (47, csRoundM m), (49, csBlockM m), (69, csSeriesM m), (63, csKids)]) ((gcons (sParse_soundM m).1 (gcons (sParse_soundM m).2.1 (gcons (sParse_soundM m).2.2.1 (gcons (sParse_soundM m).2.2.2.1 (gcons (sParse_soundM m).2.2.2.2 (gcons sKids_sound gnil))))))) Tryd.func49 rfl (by kernel_rfl) fun args hs K hCC => ?_
      unfold csBlockM at hCC
      split at hCC
      case h_2 => exact hCC.elim
      rename_i l a d
      exact ⟨Nat.le_of_ble_eq_true rfl, _, sBlock_ok m l a d K hCC.1.1 hCC.1.2 hCC.2⟩, by
      refine soundF (G := [(25, csParseM m), (46, csPrefixM m), (47, csRoundM m), (49, csBlockM m), (69, csSeriesM m)]) ((gcons (sParse_soundM m).1 (gcons (sParse_soundM m).2.1 (gcons (sParse_soundM m).2.2.1 (gcons (sParse_soundM m).2.2.2.1 (gcons (sParse_soundM m).2.2.2.2 gnil)))))) Tryd.func69 rfl (by kernel_rfl) fun args hs K hCC => ?_
      unfold csSeriesM at hCC
      split at hCC
      case h_2 => exact hCC.elim
      rename_i l a d w c
      exact ⟨Nat.le_of_ble_eq_true rfl, _, sSeries_ok m l a d w c K hCC.1.1 hCC.1.2 hCC.2⟩⟩
theorem sParse_sound : Sound Tryd.prog 25 csParse := by
  refine sound_of_all (c := csParseM) (fun m => (sParse_soundM m).1) fun args hs K hCC => ?_
  unfold csParse at hCC
  split at hCC
  case h_2 => exact hCC.elim
  exact ⟨_, ⟨Nat.lt_succ_self _, hCC.1⟩, hCC.2⟩
theorem sPrefix_sound : Sound Tryd.prog 46 csPrefix := by
  refine sound_of_all (c := csPrefixM) (fun m => (sParse_soundM m).2.1) fun args hs K hCC => ?_
  unfold csPrefix at hCC
  split at hCC
  case h_2 => exact hCC.elim
  exact ⟨_, ⟨Nat.lt_succ_self _, hCC.1⟩, hCC.2⟩
theorem sRound_sound : Sound Tryd.prog 47 csRound := by
  refine sound_of_all (c := csRoundM) (fun m => (sParse_soundM m).2.2.1) fun args hs K hCC => ?_
  unfold csRound at hCC
  split at hCC
  case h_2 => exact hCC.elim
  exact ⟨_, ⟨Nat.lt_succ_self _, hCC.1⟩, hCC.2⟩
theorem sBlock_sound : Sound Tryd.prog 49 csBlock := by
  refine sound_of_all (c := csBlockM) (fun m => (sParse_soundM m).2.2.2.1) fun args hs K hCC => ?_
  unfold csBlock at hCC
  split at hCC
  case h_2 => exact hCC.elim
  exact ⟨_, ⟨Nat.lt_succ_self _, hCC.1⟩, hCC.2⟩
theorem sSeries_sound : Sound Tryd.prog 69 csSeries := by
  refine sound_of_all (c := csSeriesM) (fun m => (sParse_soundM m).2.2.2.2) fun args hs K hCC => ?_
  unfold csSeries at hCC
  split at hCC
  case h_2 => exact hCC.elim
  exact ⟨_, ⟨Nat.lt_succ_self _, hCC.1⟩, hCC.2⟩
/-- spec.ParseTerm -/
def csParseTerm : Con
  | [.str l], [], K => ((l.length ≤ 1048576)) ∧ ((∀ (t : T) (b : Bool), PrT l t b → K (.tup [t.av fz, .bool b]) []))
  | _, _, _ => False
theorem sParseTerm_ok (l : List UInt8) (K : AV → List AV → Prop) (hp : ((l.length ≤ 1048576))) (hk : ((∀ (t : T) (b : Bool), PrT l t b → K (.tup [t.av fz, .bool b]) []))) :
    bodyQ [(25, csParse), (15, csFormat)] TY [] Tryd.f8 (body Tryd.f8) [.str l] [] K := by
  refine of_vc (A :=
    (((((List.length l) ≤ (1048576 : Nat)) ∧ (((0 : Int) ≤ (0 : Int)) ∧ ((0 : Int) ≤ (2000000 : Int)))) ∧ (((0 : Int) ≤ (30 : Int)) ∧ ((30 : Int) ≤ (30 : Int)))) ∧
     (∀ t : T,
     (∀ e : Int,
     ((prs (((List.length l) : Nat) : Int) (0 : Int) t e) →
     ((fnd l (0 : Int) (30 : Int) t e) →
     (Br (Decidable.decide (l = (Array.toList (ByteArray.data (ByteArray.mk (List.toArray ([] : List UInt8)))))))
     (Ret K (.tup [(.st [(.int .i64 0), (.int .i64 0), (.slc [] (.iv 0 0 true .full))]), (.bool false)]) [])
     (Br (Decidable.decide (e ≠ (((List.length l) : Nat) : Int)))
     (Ret K (.tup [(.st [(.int .i64 0), (.int .i64 0), (.slc [] (.iv 0 0 true .full))]), (.bool false)]) [])
     (True ∧
     (Br (Decidable.decide ((if ((T.valid (T.mk (T.k t) (T.n t) (T.kids t))) = true) then (T.text (T.mk (T.k t) (T.n t) (T.kids t))) else ([] : List UInt8)) ≠ l))
     (Ret K (.tup [(.st [(.int .i64 0), (.int .i64 0), (.slc [] (.iv 0 0 true .full))]), (.bool false)]) [])
     (Ret K (.tup [(.st [(.int .i64 (T.k t)), (.int .i64 (T.n t)), (.slc (T.kids t) (.iv 7 7 false .no))]), (.bool true)]) []))))))))))) ?_ (by kernel_rfl)
  have no : ∀ {t : T} {e : Int}, fnd l 0 30 t e → ∀ u : T, u.valid = true → u.text = l → t = u ∧ e = l.length := fun h u hu he => by
    obtain ⟨h1, h2⟩ := h u [] (T.valid_shp hu) nd_nil (by rw [List.append_nil, he]; rfl)
    exact ⟨h1, by simpa using h2⟩
  refine ⟨⟨⟨hp, by omega, by omega⟩, by omega, by omega⟩, fun t e h hf => ?_⟩
  simp only [T.eta]
  have bad : (∀ u : T, u.valid = true → u.text = l → False) → Ret K (.tup [.st [.int .i64 0, .int .i64 0, .slc [] (.iv 0 0 true .full)], .bool false]) [] := fun hb => retTB (hk (.mk 0 0 []) false ⟨(fun h => by cases h), fun _ => ⟨rfl, fun u hu he => hb u hu he⟩⟩) rfl rfl
  refine brd (fun g => bad (fun u hu he => ?_)) (fun g1 => brd (fun g => bad (fun u hu he => g (no hf u hu he).2)) (fun g2 => ⟨trivial, brd (fun g => bad (fun u hu he => ?_)) (fun g3 => ?_)⟩))
  · have := T.text_ge u 30 (T.valid_shp hu)
    have hz := u.size_eq
    rw [he, g] at this
    simp at this; omega
  · obtain ⟨h1, h2⟩ := no hf u hu he
    rw [h1, if_pos hu, he] at g
    exact g rfl
  · have g3 : (if t.valid = true then t.text else []) = l := Decidable.byContradiction g3
    by_cases hv : t.valid = true
    · rw [if_pos hv] at g3
      exact retTB (hk t true ⟨fun _ => ⟨hv, g3, fun u hu he => (no hf u hu he).1⟩, (fun h => by cases h)⟩) (T.eta t) rfl rfl
    · rw [if_neg hv] at g3
      exact absurd g3.symm g1
theorem sParseTerm_sound : Sound Tryd.prog 8 csParseTerm := by
  refine soundF (G := [(25, csParse), (15, csFormat)]) ((gcons sParse_sound (gcons sFormat_sound gnil))) Tryd.func8 rfl (by kernel_rfl) fun args hs K hCC => ?_
  unfold csParseTerm at hCC
  split at hCC
  case h_2 => exact hCC.elim
  rename_i l
  exact ⟨Nat.le_of_ble_eq_true rfl, _, sParseTerm_ok l K hCC.1 hCC.2⟩
end Go.Dk
