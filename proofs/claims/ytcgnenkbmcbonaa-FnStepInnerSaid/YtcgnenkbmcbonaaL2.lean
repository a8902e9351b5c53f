/- Binding: the program's functions. -/
import Derived.Test.YtcgnenkbmcbonaaL1
import Derived.Test.YtcgnenkbmcbonaaTb
namespace Go.Dk
set_option linter.unusedVariables false
open Go.Proofs
def shf (y c b n : Int) : T := vr (if c + b ≤ n then n + y else n)
def shk (y c b n : Int) : Bool := decide (n - b < c ∨ (c ≤ n + y - b ∧ n + y ≤ 20))
theorem shf_eq (y c b n : Int) : shf y c b n = vr (if c + b ≤ n then n + y else n) := rfl
/-- impl.isBinder -/
def cisBinder : Con
  | [.int .i64 (k)], [], K => True ∧ ((K (.bool (decide (k = 3 ∨ k = 4 ∨ k = 13))) []))
  | _, _, _ => False
theorem isBinder_ok (k : Int) (K : AV → List AV → Prop) (hp : True) (hk : ((K (.bool (decide (k = 3 ∨ k = 4 ∨ k = 13))) []))) :
    bodyQ [] TY [] Try.f108 (body Try.f108) [.int .i64 (k)] [] K := by
  refine of_vc (A :=
    (Br (Decidable.decide (k = (3 : Int)))
     (Ret K (.bool true) [])
     (Br (Decidable.decide (k = (4 : Int))) (Ret K (.bool true) []) (Ret K (.bool (Decidable.decide (k = (13 : Int)))) [])))) ?_ (by kernel_rfl)
  refine br (fun h => retB hk ?_) (fun h => br (fun h2 => retB hk ?_) (fun h2 => retB hk ?_))
  · have h := of_decide_eq_true h; simp [h]
  · have h2 := of_decide_eq_true h2; simp [h2]
  · have h := of_decide_eq_false h; have h2 := of_decide_eq_false h2; simp [h, h2]
theorem isBinder_sound : Sound Try.prog 108 cisBinder := by
  refine soundF (G := []) (gnil) Try.func108 rfl (by kernel_rfl) fun args hs K hCC => ?_
  unfold cisBinder at hCC
  split at hCC
  case h_2 => exact hCC.elim
  rename_i k
  exact ⟨Nat.le_of_ble_eq_true rfl, _, isBinder_ok k K hCC.1 hCC.2⟩
/-- impl.under -/
def cUnder : Con
  | [.int .i64 (k), .int .i64 (i)], [], K => True ∧ ((K (.int .i64 (und k i)) []))
  | _, _, _ => False
theorem Under_ok (k i : Int) (K : AV → List AV → Prop) (hp : True) (hk : ((K (.int .i64 (und k i)) []))) :
    bodyQ [(108, cisBinder)] TY [] Try.f96 (body Try.f96) [.int .i64 (k), .int .i64 (i)] [] K := by
  refine of_vc (A :=
    (Br (Decidable.decide (i = (1 : Int)))
     (True ∧ (Br (Decidable.decide ((k = (3 : Int)) ∨ ((k = (4 : Int)) ∨ (k = (13 : Int))))) (Ret K (.int .i64 1) []) (Ret K (.int .i64 0) [])))
     (Ret K (.int .i64 0) []))) ?_ (by kernel_rfl)
  refine br (fun h => ⟨trivial, br (fun h2 => retI hk ?_) (fun h2 => retI hk ?_)⟩) (fun h => retI hk ?_)
  · have h := of_decide_eq_true h; have h2 := of_decide_eq_true h2; simp [und, h, h2]
  · have h := of_decide_eq_true h; have h2 := of_decide_eq_false h2; simp [und, h2]
  · have h := of_decide_eq_false h; simp [und, h]
theorem Under_sound : Sound Try.prog 96 cUnder := by
  refine soundF (G := [(108, cisBinder)]) ((gcons isBinder_sound gnil)) Try.func96 rfl (by kernel_rfl) fun args hs K hCC => ?_
  unfold cUnder at hCC
  split at hCC
  case h_2 => exact hCC.elim
  rename_i k i
  exact ⟨Nat.le_of_ble_eq_true rfl, _, Under_ok k i K hCC.1 hCC.2⟩
/-- impl.variable -/
def cVariable : Con
  | [.int .i64 (n)], [], K => True ∧ ((K ((vr n).fr) []))
  | _, _, _ => False
theorem Variable_ok (n : Int) (K : AV → List AV → Prop) (hp : True) (hk : ((K ((vr n).fr) []))) :
    bodyQ [] TY [] Try.f100 (body Try.f100) [.int .i64 (n)] [] K := by
  refine of_vc (A :=
    (Ret K (.st [(.int .i64 1), (.int .i64 n), (.slc [] (.iv 0 0 true .full))]) [])) ?_ (by kernel_rfl)
  exact retT (t := vr n) hk rfl
theorem Variable_sound : Sound Try.prog 100 cVariable := by
  refine soundF (G := []) (gnil) Try.func100 rfl (by kernel_rfl) fun args hs K hCC => ?_
  unfold cVariable at hCC
  split at hCC
  case h_2 => exact hCC.elim
  rename_i n
  exact ⟨Nat.le_of_ble_eq_true rfl, _, Variable_ok n K hCC.1 hCC.2⟩
/-- impl.shift$1 -/
def cshiftC : Con
  | [.int .i64 (n), .int .i64 (b), .fptr 0, .fptr 1, .fptr 2], [.int .i64 (c), .int .i64 (y), .bool ok], K => ((0 ≤ n ∧ n ≤ 20 ∧ 0 ≤ b ∧ b ≤ 60 ∧ 0 ≤ c ∧ c ≤ 20 ∧ -100 ≤ y ∧ y ≤ 100)) ∧ ((K ((shf y c b n).fr) [.int .i64 (c), .int .i64 (y), .bool (ok && shk y c b n)]))
  | _, _, _ => False
theorem shiftC_ok (n b c y : Int) (ok : Bool) (K : AV → List AV → Prop) (hp : ((0 ≤ n ∧ n ≤ 20 ∧ 0 ≤ b ∧ b ≤ 60 ∧ 0 ≤ c ∧ c ≤ 20 ∧ -100 ≤ y ∧ y ≤ 100))) (hk : ((K ((shf y c b n).fr) [.int .i64 (c), .int .i64 (y), .bool (ok && shk y c b n)]))) :
    bodyQ [(100, cVariable)] TY [] Try.f109 (body Try.f109) [.int .i64 (n), .int .i64 (b), .fptr 0, .fptr 1, .fptr 2] [.int .i64 (c), .int .i64 (y), .bool ok] K := by
  refine of_vc (A :=
    ((InR (n - b)) ∧
     (Br (Decidable.decide (c ≤ (n - b)))
     ((InR (n + y)) ∧
     (Br ok
     ((InR ((n + y) - b)) ∧
     (Br (Decidable.decide (c ≤ ((n + y) - b)))
     (True ∧
     (Ret K (.st [(.int .i64 1), (.int .i64 (T.n (T.mk (1 : Int) (n + y) ([] : List T)))), (.slc [] (.iv 4 4 true (.tok 0)))]) [(.int .i64 c), (.int .i64 y), (.bool (Decidable.decide ((n + y) ≤ (20 : Int))))]))
     (True ∧
     (Ret K (.st [(.int .i64 1), (.int .i64 (T.n (T.mk (1 : Int) (n + y) ([] : List T)))), (.slc [] (.iv 4 4 true (.tok 0)))]) [(.int .i64 c), (.int .i64 y), (.bool false)]))))
     (True ∧
     (Ret K (.st [(.int .i64 1), (.int .i64 (T.n (T.mk (1 : Int) (n + y) ([] : List T)))), (.slc [] (.iv 4 4 true (.tok 0)))]) [(.int .i64 c), (.int .i64 y), (.bool false)]))))
     (True ∧
     (Ret K (.st [(.int .i64 1), (.int .i64 (T.n (T.mk (1 : Int) n ([] : List T)))), (.slc [] (.iv 4 4 true (.tok 0)))]) [(.int .i64 c), (.int .i64 y), (.bool ok)]))))) ?_ (by kernel_rfl)
  obtain ⟨h0, h1, h2, h3, h4, h5, h6, h7⟩ := hp
  have fin' : ∀ (m : Int) (o : Bool), vr m = shf y c b n → o = (ok && shk y c b n) → Ret K (.st [.int .i64 1, .int .i64 m, .slc [] (.iv 4 4 true (.tok 0))]) [.int .i64 c, .int .i64 y, .bool o] := by
    intro m o e1 e2
    have e3 : m = (shf y c b n).n := by rw [← e1]; rfl
    refine fin hk ⟨⟨rfl, ?_⟩, ⟨rfl, ?_⟩, ⟨?_, rfl⟩, trivial⟩ ⟨⟨rfl, rfl⟩, ⟨rfl, rfl⟩, e2, trivial⟩
    · rfl
    · exact e3
    · rfl
  refine ⟨by unfold InR; omega, br (fun g => ⟨by unfold InR; omega, br (fun g1 => ⟨by unfold InR; omega, br (fun g2 => ⟨trivial, fin' _ _ ?_ ?_⟩) (fun g2 => ⟨trivial, fin' _ _ ?_ ?_⟩)⟩) (fun g1 => ⟨trivial, fin' _ _ ?_ ?_⟩)⟩) (fun g => ⟨trivial, fin' _ _ ?_ ?_⟩)⟩
  all_goals (try have g := of_decide_eq_true g)
  all_goals (try have g := of_decide_eq_false g)
  all_goals (try have g2 := of_decide_eq_true g2)
  all_goals (try have g2 := of_decide_eq_false g2)
  · show vr (n + y) = _; rw [shf_eq, if_pos (by omega)]
  · rw [g1, Bool.true_and]; unfold shk; exact decide_eq_decide.2 (by constructor <;> omega)
  · show vr (n + y) = _; rw [shf_eq, if_pos (by omega)]
  · rw [g1, Bool.true_and]; unfold shk; exact (decide_eq_false (by omega)).symm
  · show vr (n + y) = _; rw [shf_eq, if_pos (by omega)]
  · rw [g1]; rfl
  · show vr n = _; rw [shf_eq, if_neg (by omega)]
  · unfold shk; rw [decide_eq_true (by omega)]; simp
theorem shiftC_sound : Sound Try.prog 109 cshiftC := by
  refine soundF (G := [(100, cVariable)]) ((gcons Variable_sound gnil)) Try.func109 rfl (by kernel_rfl) fun args hs K hCC => ?_
  unfold cshiftC at hCC
  split at hCC
  case h_2 => exact hCC.elim
  rename_i n b c y ok
  exact ⟨Nat.le_of_ble_eq_true rfl, _, shiftC_ok n b c y ok K hCC.1 hCC.2⟩
/-- impl.changed -/
def cchShiftM (m : Nat) : Con
  | [.st [.int .i64 k, .int .i64 n, .slc ts (.arg 0)], .int .i64 (b), .fn 109 [.fptr 0, .fptr 1, .fptr 2]], [.int .i64 (c), .int .i64 (y), .bool ok], K => (((T.mk k n ts).size) < m ∧ ((∃ d, (T.mk k n ts).shp d = true ∧ 0 ≤ b ∧ b + d ≤ 60) ∧ (0 ≤ c ∧ c ≤ 20 ∧ -100 ≤ y ∧ y ≤ 100))) ∧ ((K (((T.mk k n ts).mv (shf y c) b).fr) [.int .i64 (c), .int .i64 (y), .bool (ok && ((T.mk k n ts).vs b).all fun p => shk y c p.1 p.2)]))
  | _, _, _ => False
def cchShift : Con
  | [.st [.int .i64 k, .int .i64 n, .slc ts (.arg 0)], .int .i64 (b), .fn 109 [.fptr 0, .fptr 1, .fptr 2]], [.int .i64 (c), .int .i64 (y), .bool ok], K => ((∃ d, (T.mk k n ts).shp d = true ∧ 0 ≤ b ∧ b + d ≤ 60) ∧ (0 ≤ c ∧ c ≤ 20 ∧ -100 ≤ y ∧ y ≤ 100)) ∧ ((K (((T.mk k n ts).mv (shf y c) b).fr) [.int .i64 (c), .int .i64 (y), .bool (ok && ((T.mk k n ts).vs b).all fun p => shk y c p.1 p.2)]))
  | _, _, _ => False
theorem chShift_ok (m : Nat) (k n : Int) (ts : List T) (b c y : Int) (ok : Bool) (K : AV → List AV → Prop) (hm : ((T.mk k n ts).size) < m + 1) (hp : ((∃ d, (T.mk k n ts).shp d = true ∧ 0 ≤ b ∧ b + d ≤ 60) ∧ (0 ≤ c ∧ c ≤ 20 ∧ -100 ≤ y ∧ y ≤ 100))) (hk : ((K (((T.mk k n ts).mv (shf y c) b).fr) [.int .i64 (c), .int .i64 (y), .bool (ok && ((T.mk k n ts).vs b).all fun p => shk y c p.1 p.2)]))) :
    bodyQ [(97, cchShiftM m), (96, cUnder), (109, cshiftC)] TY [(5, { ι := Nat × (List T × Bool), ok := fun x => x.1 ≤ ts.length ∧ x.2.1.length = x.1 ∧ x.2.1 ++ mvL (shf y c) b k x.1 (ts.drop x.1) = mvL (shf y c) b k 0 ts ∧ (x.2.2 && (vsL b k x.1 (ts.drop x.1)).all fun p => shk y c p.1 p.2) = (ok && (vsL b k 0 ts).all fun p => shk y c p.1 p.2), tl := fun x => [(1, .int .i64 (b)), (2, (.fn 109 [(.fptr 0), (.fptr 1), (.fptr 2)])), (3, (.ptr 3)), (6, (.ptr 6)), (7, (.ptr 7)), (24, .slc ts (.arg 0)), (25, .int .i64 ts.length), (26, .int .i64 x.1)], hl := fun x => [(3, .st [.int .i64 k, .int .i64 n, .slc ts (.arg 0)]), (6, (T.mk 0 0 []).av (.iv 0 0 true .full)), (7, .st [.int .i64 k, .int .i64 n, .slc x.2.1 (.iv 4 4 true (.tok 43))])], fh := fun x => [.int .i64 (c), .int .i64 (y), .bool x.2.2], μ := fun x => ts.length - x.1 })] Try.f97 (body Try.f97) [.st [.int .i64 k, .int .i64 n, .slc ts (.arg 0)], .int .i64 (b), .fn 109 [.fptr 0, .fptr 1, .fptr 2]] [.int .i64 (c), .int .i64 (y), .bool ok] K := by
  refine of_vc (A :=
    (Br (Decidable.decide (k = (1 : Int)))
     ((((0 : Int) ≤ n) ∧
     ((n ≤ (20 : Int)) ∧ (((0 : Int) ≤ b) ∧ ((b ≤ (60 : Int)) ∧ (((0 : Int) ≤ c) ∧ ((c ≤ (20 : Int)) ∧ (((- (100 : Int)) ≤ y) ∧ (y ≤ (100 : Int))))))))) ∧
     (Ret K (.st [(.int .i64 1), (.int .i64 (T.n (T.mk (1 : Int) (if ((c + b) ≤ n) then (n + y) else n) ([] : List T)))), (.slc [] (.iv 4 4 true (.tok 0)))]) [(.int .i64 c), (.int .i64 y), (.bool (Bool.and ok (shk y c b n)))]))
     ((∃ x : (Prod Nat (Prod (List T) Bool)),
     ((((Prod.fst x) ≤ (List.length ts)) ∧
     (((List.length (Prod.fst (Prod.snd x))) = (Prod.fst x)) ∧
     ((((Prod.fst (Prod.snd x)) ++ (mvL (shf y c) b k (Prod.fst x) (List.drop (Prod.fst x) ts))) = (mvL (shf y c) b k (0 : Nat) ts)) ∧
     ((Bool.and (Prod.snd (Prod.snd x)) (List.all (vsL b k (Prod.fst x) (List.drop (Prod.fst x) ts)) (fun (p : (Prod Int Int)) => (shk y c (Prod.fst p) (Prod.snd p))))) = (Bool.and ok (List.all (vsL b k (0 : Nat) ts) (fun (p : (Prod Int Int)) => (shk y c (Prod.fst p) (Prod.snd p))))))))) ∧
     ((b = b) ∧
     ((ts = ts) ∧
     (((((List.length ts) : Nat) : Int) = (((List.length ts) : Nat) : Int)) ∧
     (((0 : Int) = (((Prod.fst x) : Nat) : Int)) ∧
     ((k = k) ∧
     ((n = n) ∧
     ((ts = ts) ∧
     (((0 : Int) = (0 : Int)) ∧
     (((0 : Int) = (0 : Int)) ∧
     ((([] : List T) = ([] : List T)) ∧
     ((k = k) ∧ ((n = n) ∧ ((([] : List T) = (Prod.fst (Prod.snd x))) ∧ ((c = c) ∧ ((y = y) ∧ ((ok = (Prod.snd (Prod.snd x))) ∧ True)))))))))))))))))) ∧
     (∀ x : (Prod Nat (Prod (List T) Bool)),
     ((((Prod.fst x) ≤ (List.length ts)) ∧ (((List.length (Prod.fst (Prod.snd x))) = (Prod.fst x)) ∧ ((((Prod.fst (Prod.snd x)) ++ (mvL (shf y c) b k (Prod.fst x) (List.drop (Prod.fst x) ts))) = (mvL (shf y c) b k (0 : Nat) ts)) ∧ ((Bool.and (Prod.snd (Prod.snd x)) (List.all (vsL b k (Prod.fst x) (List.drop (Prod.fst x) ts)) (fun (p : (Prod Int Int)) => (shk y c (Prod.fst p) (Prod.snd p))))) = (Bool.and ok (List.all (vsL b k (0 : Nat) ts) (fun (p : (Prod Int Int)) => (shk y c (Prod.fst p) (Prod.snd p))))))))) →
     (Br (Decidable.decide ((((Prod.fst x) : Nat) : Int) < (((List.length ts) : Nat) : Int)))
     ((((0 : Int) ≤ (((Prod.fst x) : Nat) : Int)) ∧ ((((Prod.fst x) : Nat) : Int) < (((List.length ts) : Nat) : Int))) ∧
     (True ∧
     (((T.k (List.getD ts (Int.toNat (((Prod.fst x) : Nat) : Int)) default)) = (T.k (List.getD ts (Int.toNat (((Prod.fst x) : Nat) : Int)) default))) ∧
     (((T.n (List.getD ts (Int.toNat (((Prod.fst x) : Nat) : Int)) default)) = (T.n (List.getD ts (Int.toNat (((Prod.fst x) : Nat) : Int)) default))) ∧
     (((T.kids (List.getD ts (Int.toNat (((Prod.fst x) : Nat) : Int)) default)) = (T.kids (List.getD ts (Int.toNat (((Prod.fst x) : Nat) : Int)) default))) ∧
     (((Prod.fst (Prod.snd x)) = (Prod.fst (Prod.snd x))) ∧
     ((InR (b + (und k (((Prod.fst x) : Nat) : Int)))) ∧
     ((((T.size (T.mk (T.k (List.getD ts (Int.toNat (((Prod.fst x) : Nat) : Int)) default)) (T.n (List.getD ts (Int.toNat (((Prod.fst x) : Nat) : Int)) default)) (T.kids (List.getD ts (Int.toNat (((Prod.fst x) : Nat) : Int)) default)))) < m) ∧
     ((∃ d : Int,
     (((T.shp (T.mk (T.k (List.getD ts (Int.toNat (((Prod.fst x) : Nat) : Int)) default)) (T.n (List.getD ts (Int.toNat (((Prod.fst x) : Nat) : Int)) default)) (T.kids (List.getD ts (Int.toNat (((Prod.fst x) : Nat) : Int)) default))) d) = true) ∧
     (((0 : Int) ≤ (b + (und k (((Prod.fst x) : Nat) : Int)))) ∧ (((b + (und k (((Prod.fst x) : Nat) : Int))) + d) ≤ (60 : Int))))) ∧
     (((0 : Int) ≤ c) ∧ ((c ≤ (20 : Int)) ∧ (((- (100 : Int)) ≤ y) ∧ (y ≤ (100 : Int))))))) ∧
     (((Prod.fst (Prod.snd x)) = (Prod.fst (Prod.snd x))) ∧
     ((((((List.length (Prod.fst (Prod.snd x))) : Nat) : Int) + (1 : Int)) ≤ (1099511627776 : Int)) ∧
     ((InR ((((Prod.fst x) : Nat) : Int) + (1 : Int))) ∧
     (∃ y1 : (Prod Nat (Prod (List T) Bool)),
     ((((Prod.fst y1) ≤ (List.length ts)) ∧
     (((List.length (Prod.fst (Prod.snd y1))) = (Prod.fst y1)) ∧
     ((((Prod.fst (Prod.snd y1)) ++ (mvL (shf y c) b k (Prod.fst y1) (List.drop (Prod.fst y1) ts))) = (mvL (shf y c) b k (0 : Nat) ts)) ∧
     ((Bool.and (Prod.snd (Prod.snd y1)) (List.all (vsL b k (Prod.fst y1) (List.drop (Prod.fst y1) ts)) (fun (p : (Prod Int Int)) => (shk y c (Prod.fst p) (Prod.snd p))))) = (Bool.and ok (List.all (vsL b k (0 : Nat) ts) (fun (p : (Prod Int Int)) => (shk y c (Prod.fst p) (Prod.snd p))))))))) ∧
     ((b = b) ∧
     ((ts = ts) ∧
     (((((List.length ts) : Nat) : Int) = (((List.length ts) : Nat) : Int)) ∧
     ((((((Prod.fst x) : Nat) : Int) + (1 : Int)) = (((Prod.fst y1) : Nat) : Int)) ∧
     ((k = k) ∧
     ((n = n) ∧
     ((ts = ts) ∧
     (((0 : Int) = (0 : Int)) ∧
     (((0 : Int) = (0 : Int)) ∧
     ((([] : List T) = ([] : List T)) ∧
     ((k = k) ∧
     ((n = n) ∧
     ((((Prod.fst (Prod.snd x)) ++ [(T.mk (T.k (T.mv (shf y c) (b + (und k (((Prod.fst x) : Nat) : Int))) (T.mk (T.k (List.getD ts (Int.toNat (((Prod.fst x) : Nat) : Int)) default)) (T.n (List.getD ts (Int.toNat (((Prod.fst x) : Nat) : Int)) default)) (T.kids (List.getD ts (Int.toNat (((Prod.fst x) : Nat) : Int)) default))))) (T.n (T.mv (shf y c) (b + (und k (((Prod.fst x) : Nat) : Int))) (T.mk (T.k (List.getD ts (Int.toNat (((Prod.fst x) : Nat) : Int)) default)) (T.n (List.getD ts (Int.toNat (((Prod.fst x) : Nat) : Int)) default)) (T.kids (List.getD ts (Int.toNat (((Prod.fst x) : Nat) : Int)) default))))) (T.kids (T.mv (shf y c) (b + (und k (((Prod.fst x) : Nat) : Int))) (T.mk (T.k (List.getD ts (Int.toNat (((Prod.fst x) : Nat) : Int)) default)) (T.n (List.getD ts (Int.toNat (((Prod.fst x) : Nat) : Int)) default)) (T.kids (List.getD ts (Int.toNat (((Prod.fst x) : Nat) : Int)) default))))))]) = (Prod.fst (Prod.snd y1))) ∧
     ((c = c) ∧
     ((y = y) ∧
     (((Bool.and (Prod.snd (Prod.snd x)) (List.all (T.vs (b + (und k (((Prod.fst x) : Nat) : Int))) (T.mk (T.k (List.getD ts (Int.toNat (((Prod.fst x) : Nat) : Int)) default)) (T.n (List.getD ts (Int.toNat (((Prod.fst x) : Nat) : Int)) default)) (T.kids (List.getD ts (Int.toNat (((Prod.fst x) : Nat) : Int)) default)))) (fun (p : (Prod Int Int)) => (shk y c (Prod.fst p) (Prod.snd p))))) = (Prod.snd (Prod.snd y1))) ∧
     ((Nat.succ ((List.length ts) - (Prod.fst y1))) ≤ ((List.length ts) - (Prod.fst x))))))))))))))))))))))))))))))))
     (Ret K (.st [(.int .i64 k), (.int .i64 n), (.slc (Prod.fst (Prod.snd x)) (.iv 4 4 true (.tok 0)))]) [(.int .i64 c), (.int .i64 y), (.bool (Prod.snd (Prod.snd x)))]))))))) ?_ (by kernel_rfl)
  obtain ⟨⟨d, hd, hb, hbd⟩, hc⟩ := hp
  have hd1 := T.shp_pos hd
  refine br (fun h => ?_) (fun h => ?_)
  · have h := of_decide_eq_true h
    subst h
    have hr := (T.shp_root hd).2
    rw [show mostN 1 = 20 from rfl] at hr
    rw [T.mv_var, T.vs_var] at hk
    refine ⟨⟨by omega, by omega, by omega, by omega, hc⟩, fin hk (by repeat' first | trivial | rfl | (simp; done) | apply And.intro) (by repeat' first | trivial | rfl | (simp; done) | apply And.intro)⟩
  · have h := of_decide_eq_false h
    rw [T.mv_node h, T.vs_node h] at hk
    have hsh := T.shp_kids hd
    have hm' : 1 + sizeL ts < m + 1 := hm
    have hll := length_le_sizeL ts
    have har := (T.shp_root hd).1
    have har2 := (arity_range k).2
    refine ⟨⟨(0, ([], ok)), ⟨Nat.zero_le _, rfl, rfl, rfl⟩, (by repeat' first | trivial | rfl | (simp; done) | apply And.intro)⟩, ?_⟩
    rintro ⟨i, ⟨acc, o⟩⟩ ⟨g1, g2, g3, g4⟩
    simp only at g1 g2 g3 g4
    refine br (fun h => ?_) (fun h => ?_)
    · have h := of_decide_eq_true h
      simp only at h
      have hi : i < ts.length := by omega
      have hmem := getD_mem hi
      have hs := sizeL_mem hmem
      have hu := und_range k i
      rw [drop_getD hi] at g3 g4
      simp only [mvL, vsL, List.all_append] at g3 g4
      simp only [Int.toNat_natCast, T.eta]
      refine ⟨⟨by omega, by omega⟩, (by first | trivial | rfl | (simp; done)), (by first | trivial | rfl | (simp; done)), (by first | trivial | rfl | (simp; done)), (by first | trivial | rfl | (simp; done)), (by first | trivial | rfl | (simp; done)), by unfold InR; omega, ⟨by omega, ⟨d - 1, shpL_mem hsh hmem, by omega, by omega⟩, hc⟩, (by first | trivial | rfl | (simp; done)), by omega, by unfold InR; omega, (i + 1, (acc ++ [(ts.getD i default).mv (shf y c) (b + und k i)], o && ((ts.getD i default).vs (b + und k i)).all fun p => shk y c p.1 p.2)), ⟨by show i + 1 ≤ _; omega, by show (acc ++ [_]).length = i + 1; simp [g2], ?_, ?_⟩, (by repeat' first | trivial | rfl | (simp; done) | (dsimp only; omega) | omega | apply And.intro)⟩
      · show (acc ++ [_]) ++ mvL (shf y c) b k (i + 1) (ts.drop (i + 1)) = _
        rw [← g3]; simp
      · show ((o && _) && _) = _
        rw [← g4, Bool.and_assoc]
    · have h := of_decide_eq_false h
      simp only at h
      have hi : ¬ i < ts.length := by omega
      rw [drop_len hi] at g3 g4
      simp only [mvL, vsL, List.append_nil, List.all_nil, Bool.and_true] at g3 g4
      rw [← g3, ← g4] at hk
      exact fin hk (by repeat' first | trivial | rfl | (simp; done) | apply And.intro) (by repeat' first | trivial | rfl | (simp; done) | apply And.intro)
theorem chShift_soundM : ∀ m : Nat, Sound Try.prog 97 (cchShiftM m)
  | 0 => by
      refine soundF (G := []) gnil Try.func97 rfl (by kernel_rfl) fun args hs K hCC => ?_
      unfold cchShiftM at hCC
      split at hCC
      case h_2 => exact hCC.elim
      exact absurd hCC.1.1 (Nat.not_lt_zero _)
  | m + 1 => by
      refine soundF (G := [(97, cchShiftM m), (96, cUnder), (109, cshiftC)]) ((gcons (chShift_soundM m) (gcons Under_sound (gcons shiftC_sound gnil)))) Try.func97 rfl (by kernel_rfl) fun args hs K hCC => ?_
      unfold cchShiftM at hCC
      split at hCC
      case h_2 => exact hCC.elim
      rename_i k n ts b c y ok
      exact ⟨Nat.le_of_ble_eq_true rfl, _, chShift_ok m k n ts b c y ok K hCC.1.1 hCC.1.2 hCC.2⟩
theorem chShift_sound : Sound Try.prog 97 cchShift := by
  refine sound_of_all (c := cchShiftM) (fun m => (chShift_soundM m)) fun args hs K hCC => ?_
  unfold cchShift at hCC
  split at hCC
  case h_2 => exact hCC.elim
  exact ⟨_, ⟨Nat.lt_succ_self _, hCC.1⟩, hCC.2⟩
/-- What the program's shift says. -/
def T.shO (y c : Int) (t : T) : Bool := (t.vs 0).all (fun p => shk y c p.1 p.2) && (t.mv (shf y c) 0).valid
def T.shR (y c : Int) (t : T) : T := if t.shO y c = true then t.mv (shf y c) 0 else .mk 0 0 []
/-- impl.shift -/
def cShift : Con
  | [.st [.int .i64 k, .int .i64 n, .slc ts (.arg 0)], .int .i64 (y), .int .i64 (c)], [], K => (((T.mk k n ts).shp 30 = true) ∧ (0 ≤ c ∧ c ≤ 20 ∧ -100 ≤ y ∧ y ≤ 100)) ∧ ((K (.tup [((T.mk k n ts).shR y c).fr, .bool ((T.mk k n ts).shO y c)]) []))
  | _, _, _ => False
theorem Shift_ok (k n : Int) (ts : List T) (y c : Int) (K : AV → List AV → Prop) (hp : (((T.mk k n ts).shp 30 = true) ∧ (0 ≤ c ∧ c ≤ 20 ∧ -100 ≤ y ∧ y ≤ 100))) (hk : ((K (.tup [((T.mk k n ts).shR y c).fr, .bool ((T.mk k n ts).shO y c)]) []))) :
    bodyQ [(97, cchShift), (76, cValid)] TY [] Try.f99 (body Try.f99) [.st [.int .i64 k, .int .i64 n, .slc ts (.arg 0)], .int .i64 (y), .int .i64 (c)] [] K := by
  refine of_vc (A :=
    (((∃ d : Int, (((T.shp (T.mk k n ts) d) = true) ∧ (((0 : Int) ≤ (0 : Int)) ∧ (((0 : Int) + d) ≤ (60 : Int))))) ∧
     (((0 : Int) ≤ c) ∧ ((c ≤ (20 : Int)) ∧ (((- (100 : Int)) ≤ y) ∧ (y ≤ (100 : Int)))))) ∧
     (Br (Bool.not (Bool.and true (List.all (T.vs (0 : Int) (T.mk k n ts)) (fun (p : (Prod Int Int)) => (shk y c (Prod.fst p) (Prod.snd p))))))
     (Ret K (.tup [(.st [(.int .i64 0), (.int .i64 0), (.slc [] (.iv 0 0 true .full))]), (.bool false)]) [])
     (True ∧
     ((((T.valid (T.mk (T.k (T.mv (shf y c) (0 : Int) (T.mk k n ts))) (T.n (T.mv (shf y c) (0 : Int) (T.mk k n ts))) (T.kids (T.mv (shf y c) (0 : Int) (T.mk k n ts))))) = true) →
     (Ret K (.tup [(.st [(.int .i64 (T.k (T.mv (shf y c) (0 : Int) (T.mk k n ts)))), (.int .i64 (T.n (T.mv (shf y c) (0 : Int) (T.mk k n ts)))), (.slc (T.kids (T.mv (shf y c) (0 : Int) (T.mk k n ts))) (.iv 4 4 true (.tok 0)))]), (.bool true)]) [])) ∧
     (((T.valid (T.mk (T.k (T.mv (shf y c) (0 : Int) (T.mk k n ts))) (T.n (T.mv (shf y c) (0 : Int) (T.mk k n ts))) (T.kids (T.mv (shf y c) (0 : Int) (T.mk k n ts))))) = false) →
     (Ret K (.tup [(.st [(.int .i64 0), (.int .i64 0), (.slc [] (.iv 4 4 true (.tok 0)))]), (.bool false)]) []))))))) ?_ (by kernel_rfl)
  refine ⟨⟨⟨30, hp.1, by omega, by omega⟩, hp.2⟩, br (fun h => ?_) (fun h => ⟨trivial, fun hv => ?_, fun hv => ?_⟩)⟩
  · have e : (T.mk k n ts).shO y c = false := by unfold T.shO; simp only [Bool.true_and] at h; rw [Bool.not_eq_true'] at h; rw [h]; rfl
    unfold T.shR at hk
    rw [e, if_neg (by simp)] at hk
    exact fin hk (by repeat' first | trivial | rfl | (simp; done) | apply And.intro) (by repeat' first | trivial | rfl | (simp; done) | apply And.intro)
  · rw [T.eta] at hv
    have e : (T.mk k n ts).shO y c = true := by unfold T.shO; simp only [Bool.true_and] at h; rw [Bool.not_eq_false'] at h; rw [h, hv]; rfl
    unfold T.shR at hk
    rw [e, if_pos rfl] at hk
    exact fin hk (by repeat' first | trivial | rfl | (simp; done) | apply And.intro) (by repeat' first | trivial | rfl | (simp; done) | apply And.intro)
  · rw [T.eta] at hv
    have e : (T.mk k n ts).shO y c = false := by unfold T.shO; rw [hv, Bool.and_false]
    unfold T.shR at hk
    rw [e, if_neg (by simp)] at hk
    exact fin hk (by repeat' first | trivial | rfl | (simp; done) | apply And.intro) (by repeat' first | trivial | rfl | (simp; done) | apply And.intro)
theorem Shift_sound : Sound Try.prog 99 cShift := by
  refine soundF (G := [(97, cchShift), (76, cValid)]) ((gcons chShift_sound (gcons Valid_sound gnil))) Try.func99 rfl (by kernel_rfl) fun args hs K hCC => ?_
  unfold cShift at hCC
  split at hCC
  case h_2 => exact hCC.elim
  rename_i k n ts y c
  exact ⟨Nat.le_of_ble_eq_true rfl, _, Shift_ok k n ts y c K hCC.1 hCC.2⟩
def sbfI (j : Int) (u : T) (b n : Int) : T := if n - b = j then u.shR b 0 else if j < n - b then vr (n - 1) else vr n
def sbk (j : Int) (u : T) (b n : Int) : Bool := if n - b = j then u.shO b 0 else true
/-- impl.subst$1 -/
def csubstC : Con
  | [.int .i64 (n), .int .i64 (b), .fptr 0, .fptr 1, .fptr 2], [.int .i64 (j), .st [.int .i64 (ku), .int .i64 (nu), .slc us .any], .bool ok], K => ((0 ≤ n ∧ n ≤ 20 ∧ 0 ≤ b ∧ b ≤ 60 ∧ 0 ≤ j ∧ j ≤ 20 ∧ (T.mk ku nu us).valid = true)) ∧ ((K ((sbfI j (.mk ku nu us) b n).fr) [.int .i64 (j), .st [.int .i64 (ku), .int .i64 (nu), .slc us .any], .bool (ok && sbk j (.mk ku nu us) b n)]))
  | _, _, _ => False
theorem substC_ok (n b j : Int) (ku nu : Int) (us : List T) (ok : Bool) (K : AV → List AV → Prop) (hp : ((0 ≤ n ∧ n ≤ 20 ∧ 0 ≤ b ∧ b ≤ 60 ∧ 0 ≤ j ∧ j ≤ 20 ∧ (T.mk ku nu us).valid = true))) (hk : ((K ((sbfI j (.mk ku nu us) b n).fr) [.int .i64 (j), .st [.int .i64 (ku), .int .i64 (nu), .slc us .any], .bool (ok && sbk j (.mk ku nu us) b n)]))) :
    bodyQ [(100, cVariable), (99, cShift)] TY [] Try.f98 (body Try.f98) [.int .i64 (n), .int .i64 (b), .fptr 0, .fptr 1, .fptr 2] [.int .i64 (j), .st [.int .i64 (ku), .int .i64 (nu), .slc us .any], .bool ok] K := by
  refine of_vc (A :=
    ((InR (n - b)) ∧
     (Br (Decidable.decide ((n - b) = j))
     ((((T.shp (T.mk ku nu us) (30 : Int)) = true) ∧ (((0 : Int) ≤ (0 : Int)) ∧ (((0 : Int) ≤ (20 : Int)) ∧ (((- (100 : Int)) ≤ b) ∧ (b ≤ (100 : Int)))))) ∧
     (Br ok
     (Ret K (.st [(.int .i64 (T.k (T.shR b (0 : Int) (T.mk ku nu us)))), (.int .i64 (T.n (T.shR b (0 : Int) (T.mk ku nu us)))), (.slc (T.kids (T.shR b (0 : Int) (T.mk ku nu us))) (.iv 4 4 true (.tok 0)))]) [(.int .i64 j), (.st [(.int .i64 ku), (.int .i64 nu), (.slc us .any)]), (.bool (T.shO b (0 : Int) (T.mk ku nu us)))])
     (Ret K (.st [(.int .i64 (T.k (T.shR b (0 : Int) (T.mk ku nu us)))), (.int .i64 (T.n (T.shR b (0 : Int) (T.mk ku nu us)))), (.slc (T.kids (T.shR b (0 : Int) (T.mk ku nu us))) (.iv 4 4 true (.tok 0)))]) [(.int .i64 j), (.st [(.int .i64 ku), (.int .i64 nu), (.slc us .any)]), (.bool false)])))
     (Br (Decidable.decide (j < (n - b)))
     ((InR (n - (1 : Int))) ∧
     (True ∧
     (Ret K (.st [(.int .i64 1), (.int .i64 (T.n (T.mk (1 : Int) (n - (1 : Int)) ([] : List T)))), (.slc [] (.iv 4 4 true (.tok 0)))]) [(.int .i64 j), (.st [(.int .i64 ku), (.int .i64 nu), (.slc us .any)]), (.bool ok)])))
     (True ∧
     (Ret K (.st [(.int .i64 1), (.int .i64 (T.n (T.mk (1 : Int) n ([] : List T)))), (.slc [] (.iv 4 4 true (.tok 0)))]) [(.int .i64 j), (.st [(.int .i64 ku), (.int .i64 nu), (.slc us .any)]), (.bool ok)])))))) ?_ (by kernel_rfl)
  obtain ⟨h0, h1, h2, h3, h4, h5, h6⟩ := hp
  unfold sbfI sbk at hk
  refine ⟨by unfold InR; omega, br (fun g => ⟨⟨T.valid_shp h6, by omega, by omega, by omega, by omega⟩, br (fun g2 => ?_) (fun g2 => ?_)⟩) (fun g => br (fun g2 => ⟨by unfold InR; omega, trivial, ?_⟩) (fun g2 => ⟨trivial, ?_⟩))⟩
  · rw [if_pos (of_decide_eq_true g), if_pos (of_decide_eq_true g), g2] at hk
    exact fin hk (by repeat' first | trivial | rfl | (simp; done) | apply And.intro) (by repeat' first | trivial | rfl | (simp; done) | apply And.intro)
  · rw [if_pos (of_decide_eq_true g), if_pos (of_decide_eq_true g), g2] at hk
    exact fin hk (by repeat' first | trivial | rfl | (simp; done) | apply And.intro) (by repeat' first | trivial | rfl | (simp; done) | apply And.intro)
  · rw [if_neg (of_decide_eq_false g), if_neg (of_decide_eq_false g), if_pos (of_decide_eq_true g2)] at hk
    exact fin hk (by repeat' first | trivial | rfl | (simp; done) | apply And.intro) (by repeat' first | trivial | rfl | (simp; done) | apply And.intro)
  · rw [if_neg (of_decide_eq_false g), if_neg (of_decide_eq_false g), if_neg (of_decide_eq_false g2)] at hk
    exact fin hk (by repeat' first | trivial | rfl | (simp; done) | apply And.intro) (by repeat' first | trivial | rfl | (simp; done) | apply And.intro)
theorem substC_sound : Sound Try.prog 98 csubstC := by
  refine soundF (G := [(100, cVariable), (99, cShift)]) ((gcons Variable_sound (gcons Shift_sound gnil))) Try.func98 rfl (by kernel_rfl) fun args hs K hCC => ?_
  unfold csubstC at hCC
  split at hCC
  case h_2 => exact hCC.elim
  rename_i n b j ku nu us ok
  exact ⟨Nat.le_of_ble_eq_true rfl, _, substC_ok n b j ku nu us ok K hCC.1 hCC.2⟩
/-- impl.changed -/
def cchSubstM (m : Nat) : Con
  | [.st [.int .i64 k, .int .i64 n, .slc ts (.arg 0)], .int .i64 (b), .fn 98 [.fptr 0, .fptr 1, .fptr 2]], [.int .i64 (j), .st [.int .i64 (ku), .int .i64 (nu), .slc us .any], .bool ok], K => (((T.mk k n ts).size) < m ∧ ((∃ d, (T.mk k n ts).shp d = true ∧ 0 ≤ b ∧ b + d ≤ 60) ∧ (0 ≤ j ∧ j ≤ 20 ∧ (T.mk ku nu us).valid = true))) ∧ ((K (((T.mk k n ts).mv (sbfI j (.mk ku nu us)) b).fr) [.int .i64 (j), .st [.int .i64 (ku), .int .i64 (nu), .slc us .any], .bool (ok && ((T.mk k n ts).vs b).all fun p => sbk j (.mk ku nu us) p.1 p.2)]))
  | _, _, _ => False
def cchSubst : Con
  | [.st [.int .i64 k, .int .i64 n, .slc ts (.arg 0)], .int .i64 (b), .fn 98 [.fptr 0, .fptr 1, .fptr 2]], [.int .i64 (j), .st [.int .i64 (ku), .int .i64 (nu), .slc us .any], .bool ok], K => ((∃ d, (T.mk k n ts).shp d = true ∧ 0 ≤ b ∧ b + d ≤ 60) ∧ (0 ≤ j ∧ j ≤ 20 ∧ (T.mk ku nu us).valid = true)) ∧ ((K (((T.mk k n ts).mv (sbfI j (.mk ku nu us)) b).fr) [.int .i64 (j), .st [.int .i64 (ku), .int .i64 (nu), .slc us .any], .bool (ok && ((T.mk k n ts).vs b).all fun p => sbk j (.mk ku nu us) p.1 p.2)]))
  | _, _, _ => False
theorem chSubst_ok (m : Nat) (k n : Int) (ts : List T) (b : Int) (j : Int) (ku nu : Int) (us : List T) (ok : Bool) (K : AV → List AV → Prop) (hm : ((T.mk k n ts).size) < m + 1) (hp : ((∃ d, (T.mk k n ts).shp d = true ∧ 0 ≤ b ∧ b + d ≤ 60) ∧ (0 ≤ j ∧ j ≤ 20 ∧ (T.mk ku nu us).valid = true))) (hk : ((K (((T.mk k n ts).mv (sbfI j (.mk ku nu us)) b).fr) [.int .i64 (j), .st [.int .i64 (ku), .int .i64 (nu), .slc us .any], .bool (ok && ((T.mk k n ts).vs b).all fun p => sbk j (.mk ku nu us) p.1 p.2)]))) :
    bodyQ [(97, cchSubstM m), (96, cUnder), (98, csubstC)] TY [(5, { ι := Nat × (List T × Bool), ok := fun x => x.1 ≤ ts.length ∧ x.2.1.length = x.1 ∧ x.2.1 ++ mvL (sbfI j (.mk ku nu us)) b k x.1 (ts.drop x.1) = mvL (sbfI j (.mk ku nu us)) b k 0 ts ∧ (x.2.2 && (vsL b k x.1 (ts.drop x.1)).all fun p => sbk j (.mk ku nu us) p.1 p.2) = (ok && (vsL b k 0 ts).all fun p => sbk j (.mk ku nu us) p.1 p.2), tl := fun x => [(1, .int .i64 (b)), (2, (.fn 98 [(.fptr 0), (.fptr 1), (.fptr 2)])), (3, (.ptr 3)), (6, (.ptr 6)), (7, (.ptr 7)), (24, .slc ts (.arg 0)), (25, .int .i64 ts.length), (26, .int .i64 x.1)], hl := fun x => [(3, .st [.int .i64 k, .int .i64 n, .slc ts (.arg 0)]), (6, (T.mk 0 0 []).av (.iv 0 0 true .full)), (7, .st [.int .i64 k, .int .i64 n, .slc x.2.1 (.iv 4 4 true (.tok 43))])], fh := fun x => [.int .i64 (j), .st [.int .i64 (ku), .int .i64 (nu), .slc us .any], .bool x.2.2], μ := fun x => ts.length - x.1 })] Try.f97 (body Try.f97) [.st [.int .i64 k, .int .i64 n, .slc ts (.arg 0)], .int .i64 (b), .fn 98 [.fptr 0, .fptr 1, .fptr 2]] [.int .i64 (j), .st [.int .i64 (ku), .int .i64 (nu), .slc us .any], .bool ok] K := by
  refine of_vc (A :=
    (Br (Decidable.decide (k = (1 : Int)))
     ((((0 : Int) ≤ n) ∧ ((n ≤ (20 : Int)) ∧ (((0 : Int) ≤ b) ∧ ((b ≤ (60 : Int)) ∧ (((0 : Int) ≤ j) ∧ ((j ≤ (20 : Int)) ∧ ((T.valid (T.mk ku nu us)) = true))))))) ∧
     (Ret K (.st [(.int .i64 (T.k (sbfI j (T.mk ku nu us) b n))), (.int .i64 (T.n (sbfI j (T.mk ku nu us) b n))), (.slc (T.kids (sbfI j (T.mk ku nu us) b n)) (.iv 4 4 true (.tok 0)))]) [(.int .i64 j), (.st [(.int .i64 ku), (.int .i64 nu), (.slc us .any)]), (.bool (Bool.and ok (sbk j (T.mk ku nu us) b n)))]))
     ((∃ x : (Prod Nat (Prod (List T) Bool)),
     ((((Prod.fst x) ≤ (List.length ts)) ∧
     (((List.length (Prod.fst (Prod.snd x))) = (Prod.fst x)) ∧
     ((((Prod.fst (Prod.snd x)) ++ (mvL (sbfI j (T.mk ku nu us)) b k (Prod.fst x) (List.drop (Prod.fst x) ts))) = (mvL (sbfI j (T.mk ku nu us)) b k (0 : Nat) ts)) ∧
     ((Bool.and (Prod.snd (Prod.snd x)) (List.all (vsL b k (Prod.fst x) (List.drop (Prod.fst x) ts)) (fun (p : (Prod Int Int)) => (sbk j (T.mk ku nu us) (Prod.fst p) (Prod.snd p))))) = (Bool.and ok (List.all (vsL b k (0 : Nat) ts) (fun (p : (Prod Int Int)) => (sbk j (T.mk ku nu us) (Prod.fst p) (Prod.snd p))))))))) ∧
     ((b = b) ∧
     ((ts = ts) ∧
     (((((List.length ts) : Nat) : Int) = (((List.length ts) : Nat) : Int)) ∧
     (((0 : Int) = (((Prod.fst x) : Nat) : Int)) ∧
     ((k = k) ∧
     ((n = n) ∧
     ((ts = ts) ∧
     (((0 : Int) = (0 : Int)) ∧
     (((0 : Int) = (0 : Int)) ∧
     ((([] : List T) = ([] : List T)) ∧
     ((k = k) ∧
     ((n = n) ∧ ((([] : List T) = (Prod.fst (Prod.snd x))) ∧ ((j = j) ∧ ((ku = ku) ∧ ((nu = nu) ∧ ((us = us) ∧ ((ok = (Prod.snd (Prod.snd x))) ∧ True)))))))))))))))))))) ∧
     (∀ x : (Prod Nat (Prod (List T) Bool)),
     ((((Prod.fst x) ≤ (List.length ts)) ∧ (((List.length (Prod.fst (Prod.snd x))) = (Prod.fst x)) ∧ ((((Prod.fst (Prod.snd x)) ++ (mvL (sbfI j (T.mk ku nu us)) b k (Prod.fst x) (List.drop (Prod.fst x) ts))) = (mvL (sbfI j (T.mk ku nu us)) b k (0 : Nat) ts)) ∧ ((Bool.and (Prod.snd (Prod.snd x)) (List.all (vsL b k (Prod.fst x) (List.drop (Prod.fst x) ts)) (fun (p : (Prod Int Int)) => (sbk j (T.mk ku nu us) (Prod.fst p) (Prod.snd p))))) = (Bool.and ok (List.all (vsL b k (0 : Nat) ts) (fun (p : (Prod Int Int)) => (sbk j (T.mk ku nu us) (Prod.fst p) (Prod.snd p))))))))) →
     (Br (Decidable.decide ((((Prod.fst x) : Nat) : Int) < (((List.length ts) : Nat) : Int)))
     ((((0 : Int) ≤ (((Prod.fst x) : Nat) : Int)) ∧ ((((Prod.fst x) : Nat) : Int) < (((List.length ts) : Nat) : Int))) ∧
     (True ∧
     (((T.k (List.getD ts (Int.toNat (((Prod.fst x) : Nat) : Int)) default)) = (T.k (List.getD ts (Int.toNat (((Prod.fst x) : Nat) : Int)) default))) ∧
     (((T.n (List.getD ts (Int.toNat (((Prod.fst x) : Nat) : Int)) default)) = (T.n (List.getD ts (Int.toNat (((Prod.fst x) : Nat) : Int)) default))) ∧
     (((T.kids (List.getD ts (Int.toNat (((Prod.fst x) : Nat) : Int)) default)) = (T.kids (List.getD ts (Int.toNat (((Prod.fst x) : Nat) : Int)) default))) ∧
     (((Prod.fst (Prod.snd x)) = (Prod.fst (Prod.snd x))) ∧
     ((InR (b + (und k (((Prod.fst x) : Nat) : Int)))) ∧
     ((((T.size (T.mk (T.k (List.getD ts (Int.toNat (((Prod.fst x) : Nat) : Int)) default)) (T.n (List.getD ts (Int.toNat (((Prod.fst x) : Nat) : Int)) default)) (T.kids (List.getD ts (Int.toNat (((Prod.fst x) : Nat) : Int)) default)))) < m) ∧
     ((∃ d : Int,
     (((T.shp (T.mk (T.k (List.getD ts (Int.toNat (((Prod.fst x) : Nat) : Int)) default)) (T.n (List.getD ts (Int.toNat (((Prod.fst x) : Nat) : Int)) default)) (T.kids (List.getD ts (Int.toNat (((Prod.fst x) : Nat) : Int)) default))) d) = true) ∧
     (((0 : Int) ≤ (b + (und k (((Prod.fst x) : Nat) : Int)))) ∧ (((b + (und k (((Prod.fst x) : Nat) : Int))) + d) ≤ (60 : Int))))) ∧
     (((0 : Int) ≤ j) ∧ ((j ≤ (20 : Int)) ∧ ((T.valid (T.mk ku nu us)) = true))))) ∧
     (((Prod.fst (Prod.snd x)) = (Prod.fst (Prod.snd x))) ∧
     ((((((List.length (Prod.fst (Prod.snd x))) : Nat) : Int) + (1 : Int)) ≤ (1099511627776 : Int)) ∧
     ((InR ((((Prod.fst x) : Nat) : Int) + (1 : Int))) ∧
     (∃ y : (Prod Nat (Prod (List T) Bool)),
     ((((Prod.fst y) ≤ (List.length ts)) ∧
     (((List.length (Prod.fst (Prod.snd y))) = (Prod.fst y)) ∧
     ((((Prod.fst (Prod.snd y)) ++ (mvL (sbfI j (T.mk ku nu us)) b k (Prod.fst y) (List.drop (Prod.fst y) ts))) = (mvL (sbfI j (T.mk ku nu us)) b k (0 : Nat) ts)) ∧
     ((Bool.and (Prod.snd (Prod.snd y)) (List.all (vsL b k (Prod.fst y) (List.drop (Prod.fst y) ts)) (fun (p : (Prod Int Int)) => (sbk j (T.mk ku nu us) (Prod.fst p) (Prod.snd p))))) = (Bool.and ok (List.all (vsL b k (0 : Nat) ts) (fun (p : (Prod Int Int)) => (sbk j (T.mk ku nu us) (Prod.fst p) (Prod.snd p))))))))) ∧
     ((b = b) ∧
     ((ts = ts) ∧
     (((((List.length ts) : Nat) : Int) = (((List.length ts) : Nat) : Int)) ∧
     ((((((Prod.fst x) : Nat) : Int) + (1 : Int)) = (((Prod.fst y) : Nat) : Int)) ∧
     ((k = k) ∧
     ((n = n) ∧
     ((ts = ts) ∧
     (((0 : Int) = (0 : Int)) ∧
     (((0 : Int) = (0 : Int)) ∧
     ((([] : List T) = ([] : List T)) ∧
     ((k = k) ∧
     ((n = n) ∧
     ((((Prod.fst (Prod.snd x)) ++ [(T.mk (T.k (T.mv (sbfI j (T.mk ku nu us)) (b + (und k (((Prod.fst x) : Nat) : Int))) (T.mk (T.k (List.getD ts (Int.toNat (((Prod.fst x) : Nat) : Int)) default)) (T.n (List.getD ts (Int.toNat (((Prod.fst x) : Nat) : Int)) default)) (T.kids (List.getD ts (Int.toNat (((Prod.fst x) : Nat) : Int)) default))))) (T.n (T.mv (sbfI j (T.mk ku nu us)) (b + (und k (((Prod.fst x) : Nat) : Int))) (T.mk (T.k (List.getD ts (Int.toNat (((Prod.fst x) : Nat) : Int)) default)) (T.n (List.getD ts (Int.toNat (((Prod.fst x) : Nat) : Int)) default)) (T.kids (List.getD ts (Int.toNat (((Prod.fst x) : Nat) : Int)) default))))) (T.kids (T.mv (sbfI j (T.mk ku nu us)) (b + (und k (((Prod.fst x) : Nat) : Int))) (T.mk (T.k (List.getD ts (Int.toNat (((Prod.fst x) : Nat) : Int)) default)) (T.n (List.getD ts (Int.toNat (((Prod.fst x) : Nat) : Int)) default)) (T.kids (List.getD ts (Int.toNat (((Prod.fst x) : Nat) : Int)) default))))))]) = (Prod.fst (Prod.snd y))) ∧
     ((j = j) ∧
     ((ku = ku) ∧
     ((nu = nu) ∧
     ((us = us) ∧
     (((Bool.and (Prod.snd (Prod.snd x)) (List.all (T.vs (b + (und k (((Prod.fst x) : Nat) : Int))) (T.mk (T.k (List.getD ts (Int.toNat (((Prod.fst x) : Nat) : Int)) default)) (T.n (List.getD ts (Int.toNat (((Prod.fst x) : Nat) : Int)) default)) (T.kids (List.getD ts (Int.toNat (((Prod.fst x) : Nat) : Int)) default)))) (fun (p : (Prod Int Int)) => (sbk j (T.mk ku nu us) (Prod.fst p) (Prod.snd p))))) = (Prod.snd (Prod.snd y))) ∧
     ((Nat.succ ((List.length ts) - (Prod.fst y))) ≤ ((List.length ts) - (Prod.fst x))))))))))))))))))))))))))))))))))
     (Ret K (.st [(.int .i64 k), (.int .i64 n), (.slc (Prod.fst (Prod.snd x)) (.iv 4 4 true (.tok 0)))]) [(.int .i64 j), (.st [(.int .i64 ku), (.int .i64 nu), (.slc us .any)]), (.bool (Prod.snd (Prod.snd x)))]))))))) ?_ (by kernel_rfl)
  obtain ⟨⟨d, hd, hb, hbd⟩, hc⟩ := hp
  have hd1 := T.shp_pos hd
  refine br (fun h => ?_) (fun h => ?_)
  · have h := of_decide_eq_true h
    subst h
    have hr := (T.shp_root hd).2
    rw [show mostN 1 = 20 from rfl] at hr
    rw [T.mv_var, T.vs_var] at hk
    refine ⟨⟨by omega, by omega, by omega, by omega, hc⟩, fin hk (by repeat' first | trivial | rfl | (simp; done) | apply And.intro) (by repeat' first | trivial | rfl | (simp; done) | apply And.intro)⟩
  · have h := of_decide_eq_false h
    rw [T.mv_node h, T.vs_node h] at hk
    have hsh := T.shp_kids hd
    have hm' : 1 + sizeL ts < m + 1 := hm
    have hll := length_le_sizeL ts
    have har := (T.shp_root hd).1
    have har2 := (arity_range k).2
    refine ⟨⟨(0, ([], ok)), ⟨Nat.zero_le _, rfl, rfl, rfl⟩, (by repeat' first | trivial | rfl | (simp; done) | apply And.intro)⟩, ?_⟩
    rintro ⟨i, ⟨acc, o⟩⟩ ⟨g1, g2, g3, g4⟩
    simp only at g1 g2 g3 g4
    refine br (fun h => ?_) (fun h => ?_)
    · have h := of_decide_eq_true h
      simp only at h
      have hi : i < ts.length := by omega
      have hmem := getD_mem hi
      have hs := sizeL_mem hmem
      have hu := und_range k i
      rw [drop_getD hi] at g3 g4
      simp only [mvL, vsL, List.all_append] at g3 g4
      simp only [Int.toNat_natCast, T.eta]
      refine ⟨⟨by omega, by omega⟩, (by first | trivial | rfl | (simp; done)), (by first | trivial | rfl | (simp; done)), (by first | trivial | rfl | (simp; done)), (by first | trivial | rfl | (simp; done)), (by first | trivial | rfl | (simp; done)), by unfold InR; omega, ⟨by omega, ⟨d - 1, shpL_mem hsh hmem, by omega, by omega⟩, hc⟩, (by first | trivial | rfl | (simp; done)), by omega, by unfold InR; omega, (i + 1, (acc ++ [(ts.getD i default).mv (sbfI j (.mk ku nu us)) (b + und k i)], o && ((ts.getD i default).vs (b + und k i)).all fun p => sbk j (.mk ku nu us) p.1 p.2)), ⟨by show i + 1 ≤ _; omega, by show (acc ++ [_]).length = i + 1; simp [g2], ?_, ?_⟩, (by repeat' first | trivial | rfl | (simp; done) | (dsimp only; omega) | omega | apply And.intro)⟩
      · show (acc ++ [_]) ++ mvL (sbfI j (.mk ku nu us)) b k (i + 1) (ts.drop (i + 1)) = _
        rw [← g3]; simp
      · show ((o && _) && _) = _
        rw [← g4, Bool.and_assoc]
    · have h := of_decide_eq_false h
      simp only at h
      have hi : ¬ i < ts.length := by omega
      rw [drop_len hi] at g3 g4
      simp only [mvL, vsL, List.append_nil, List.all_nil, Bool.and_true] at g3 g4
      rw [← g3, ← g4] at hk
      exact fin hk (by repeat' first | trivial | rfl | (simp; done) | apply And.intro) (by repeat' first | trivial | rfl | (simp; done) | apply And.intro)
theorem chSubst_soundM : ∀ m : Nat, Sound Try.prog 97 (cchSubstM m)
  | 0 => by
      refine soundF (G := []) gnil Try.func97 rfl (by kernel_rfl) fun args hs K hCC => ?_
      unfold cchSubstM at hCC
      split at hCC
      case h_2 => exact hCC.elim
      exact absurd hCC.1.1 (Nat.not_lt_zero _)
  | m + 1 => by
      refine soundF (G := [(97, cchSubstM m), (96, cUnder), (98, csubstC)]) ((gcons (chSubst_soundM m) (gcons Under_sound (gcons substC_sound gnil)))) Try.func97 rfl (by kernel_rfl) fun args hs K hCC => ?_
      unfold cchSubstM at hCC
      split at hCC
      case h_2 => exact hCC.elim
      rename_i k n ts b j ku nu us ok
      exact ⟨Nat.le_of_ble_eq_true rfl, _, chSubst_ok m k n ts b j ku nu us ok K hCC.1.1 hCC.1.2 hCC.2⟩
theorem chSubst_sound : Sound Try.prog 97 cchSubst := by
  refine sound_of_all (c := cchSubstM) (fun m => (chSubst_soundM m)) fun args hs K hCC => ?_
  unfold cchSubst at hCC
  split at hCC
  case h_2 => exact hCC.elim
  exact ⟨_, ⟨Nat.lt_succ_self _, hCC.1⟩, hCC.2⟩
/-- What the program's substitution says. -/
def T.sbO (t : T) (j : Int) (u : T) : Bool := (t.vs 0).all (fun p => sbk j u p.1 p.2) && (t.mv (sbfI j u) 0).valid
def T.sbR (t : T) (j : Int) (u : T) : T := if t.sbO j u = true then t.mv (sbfI j u) 0 else .mk 0 0 []
/-- impl.subst -/
def cSubst : Con
  | [.st [.int .i64 k, .int .i64 n, .slc ts (.arg 0)], .int .i64 (j), .st [.int .i64 ku, .int .i64 nu, .slc us (.arg 2)]], [], K => (((T.mk k n ts).shp 30 = true) ∧ (0 ≤ j ∧ j ≤ 20 ∧ (T.mk ku nu us).valid = true)) ∧ ((K (.tup [((T.mk k n ts).sbR j (.mk ku nu us)).fr, .bool ((T.mk k n ts).sbO j (.mk ku nu us))]) []))
  | _, _, _ => False
theorem Subst_ok (k n : Int) (ts : List T) (j : Int) (ku nu : Int) (us : List T) (K : AV → List AV → Prop) (hp : (((T.mk k n ts).shp 30 = true) ∧ (0 ≤ j ∧ j ≤ 20 ∧ (T.mk ku nu us).valid = true))) (hk : ((K (.tup [((T.mk k n ts).sbR j (.mk ku nu us)).fr, .bool ((T.mk k n ts).sbO j (.mk ku nu us))]) []))) :
    bodyQ [(97, cchSubst), (76, cValid)] TY [] Try.f75 (body Try.f75) [.st [.int .i64 k, .int .i64 n, .slc ts (.arg 0)], .int .i64 (j), .st [.int .i64 ku, .int .i64 nu, .slc us (.arg 2)]] [] K := by
  refine of_vc (A :=
    (((∃ d : Int, (((T.shp (T.mk k n ts) d) = true) ∧ (((0 : Int) ≤ (0 : Int)) ∧ (((0 : Int) + d) ≤ (60 : Int))))) ∧
     (((0 : Int) ≤ j) ∧ ((j ≤ (20 : Int)) ∧ ((T.valid (T.mk ku nu us)) = true)))) ∧
     (Br (Bool.not (Bool.and true (List.all (T.vs (0 : Int) (T.mk k n ts)) (fun (p : (Prod Int Int)) => (sbk j (T.mk ku nu us) (Prod.fst p) (Prod.snd p))))))
     (Ret K (.tup [(.st [(.int .i64 0), (.int .i64 0), (.slc [] (.iv 0 0 true .full))]), (.bool false)]) [])
     (True ∧
     ((((T.valid (T.mk (T.k (T.mv (sbfI j (T.mk ku nu us)) (0 : Int) (T.mk k n ts))) (T.n (T.mv (sbfI j (T.mk ku nu us)) (0 : Int) (T.mk k n ts))) (T.kids (T.mv (sbfI j (T.mk ku nu us)) (0 : Int) (T.mk k n ts))))) = true) →
     (Ret K (.tup [(.st [(.int .i64 (T.k (T.mv (sbfI j (T.mk ku nu us)) (0 : Int) (T.mk k n ts)))), (.int .i64 (T.n (T.mv (sbfI j (T.mk ku nu us)) (0 : Int) (T.mk k n ts)))), (.slc (T.kids (T.mv (sbfI j (T.mk ku nu us)) (0 : Int) (T.mk k n ts))) (.iv 4 4 true (.tok 0)))]), (.bool true)]) [])) ∧
     (((T.valid (T.mk (T.k (T.mv (sbfI j (T.mk ku nu us)) (0 : Int) (T.mk k n ts))) (T.n (T.mv (sbfI j (T.mk ku nu us)) (0 : Int) (T.mk k n ts))) (T.kids (T.mv (sbfI j (T.mk ku nu us)) (0 : Int) (T.mk k n ts))))) = false) →
     (Ret K (.tup [(.st [(.int .i64 0), (.int .i64 0), (.slc [] (.iv 4 4 true (.tok 0)))]), (.bool false)]) []))))))) ?_ (by kernel_rfl)
  refine ⟨⟨⟨30, hp.1, by omega, by omega⟩, hp.2⟩, br (fun h => ?_) (fun h => ⟨trivial, fun hv => ?_, fun hv => ?_⟩)⟩
  · have e : (T.mk k n ts).sbO j (.mk ku nu us) = false := by unfold T.sbO; simp only [Bool.true_and] at h; rw [Bool.not_eq_true'] at h; rw [h]; rfl
    unfold T.sbR at hk
    rw [e, if_neg (by simp)] at hk
    exact fin hk (by repeat' first | trivial | rfl | (simp; done) | apply And.intro) (by repeat' first | trivial | rfl | (simp; done) | apply And.intro)
  · rw [T.eta] at hv
    have e : (T.mk k n ts).sbO j (.mk ku nu us) = true := by unfold T.sbO; simp only [Bool.true_and] at h; rw [Bool.not_eq_false'] at h; rw [h, hv]; rfl
    unfold T.sbR at hk
    rw [e, if_pos rfl] at hk
    exact fin hk (by repeat' first | trivial | rfl | (simp; done) | apply And.intro) (by repeat' first | trivial | rfl | (simp; done) | apply And.intro)
  · rw [T.eta] at hv
    have e : (T.mk k n ts).sbO j (.mk ku nu us) = false := by unfold T.sbO; rw [hv, Bool.and_false]
    unfold T.sbR at hk
    rw [e, if_neg (by simp)] at hk
    exact fin hk (by repeat' first | trivial | rfl | (simp; done) | apply And.intro) (by repeat' first | trivial | rfl | (simp; done) | apply And.intro)
theorem Subst_sound : Sound Try.prog 75 cSubst := by
  refine soundF (G := [(97, cchSubst), (76, cValid)]) ((gcons chSubst_sound (gcons Valid_sound gnil))) Try.func75 rfl (by kernel_rfl) fun args hs K hCC => ?_
  unfold cSubst at hCC
  split at hCC
  case h_2 => exact hCC.elim
  rename_i k n ts j ku nu us
  exact ⟨Nat.le_of_ble_eq_true rfl, _, Subst_ok k n ts j ku nu us K hCC.1 hCC.2⟩
def rnf (ns : List Int) (b n : Int) : T := vr (if b ≤ n then ns.getD (n - b).toNat 0 + b else n)
/-- How often a free variable occurs. -/
def cnL (j : Int) (l : List (Int × Int)) : Int := (l.countP fun p => decide (p.2 = j + p.1) : Nat)
theorem cnL_nil {j : Int} : cnL j [] = 0 := rfl
theorem cnL_append {j : Int} {l l' : List (Int × Int)} : cnL j (l ++ l') = cnL j l + cnL j l' := by simp [cnL]
theorem cnL_le {j : Int} {l : List (Int × Int)} : 0 ≤ cnL j l ∧ cnL j l ≤ l.length := by
  have := List.countP_le_length (p := fun p : Int × Int => decide (p.2 = j + p.1)) (l := l)
  unfold cnL; omega
/-- The greatest free variable, and 1. -/
def mfL : List (Int × Int) → Int
  | [] => 0
  | p :: l => max (if p.1 ≤ p.2 then p.2 - p.1 + 1 else 0) (mfL l)
theorem mfL_nonneg : ∀ l, 0 ≤ mfL l
  | [] => Int.le_refl _
  | p :: l => by have := mfL_nonneg l; simp only [mfL]; omega
theorem mfL_append : ∀ l l', mfL (l ++ l') = max (mfL l) (mfL l')
  | [], l' => by have := mfL_nonneg l'; simp only [List.nil_append, mfL]; omega
  | p :: l, l' => by simp only [List.cons_append, mfL, mfL_append l]; omega
theorem mfL_mem {p : Int × Int} : ∀ {l : List (Int × Int)}, p ∈ l → p.2 - p.1 + 1 ≤ mfL l
  | q :: l, h => by
    simp only [mfL]
    rcases List.mem_cons.1 h with rfl | h
    · have := mfL_nonneg l; split <;> omega
    · have := mfL_mem h; omega
/-- impl.maxFree$1 -/
def cmaxC : Con
  | [.int .i64 (i), .fptr 0], [.int .i64 (c)], K => ((0 ≤ i ∧ i ≤ 1000)) ∧ ((K (.tup []) [.int .i64 (max c (i + 1))]))
  | _, _, _ => False
theorem maxC_ok (i c : Int) (K : AV → List AV → Prop) (hp : ((0 ≤ i ∧ i ≤ 1000))) (hk : ((K (.tup []) [.int .i64 (max c (i + 1))]))) :
    bodyQ [] TY [] Try.f74 (body Try.f74) [.int .i64 (i), .fptr 0] [.int .i64 (c)] K := by
  refine of_vc (A :=
    ((InR (i + (1 : Int))) ∧ (Ret K (.tup []) [(.int .i64 (Max.max c (i + (1 : Int))))]))) ?_ (by kernel_rfl)
  exact ⟨by unfold InR; omega, fin hk (by repeat' first | trivial | rfl | (simp; done) | apply And.intro) (by repeat' first | trivial | rfl | (simp; done) | apply And.intro)⟩
theorem maxC_sound : Sound Try.prog 74 cmaxC := by
  refine soundF (G := []) (gnil) Try.func74 rfl (by kernel_rfl) fun args hs K hCC => ?_
  unfold cmaxC at hCC
  split at hCC
  case h_2 => exact hCC.elim
  rename_i i c
  exact ⟨Nat.le_of_ble_eq_true rfl, _, maxC_ok i c K hCC.1 hCC.2⟩
/-- impl.free -/
def cfrMaxM (m : Nat) : Con
  | [.st [.int .i64 k, .int .i64 n, .slc ts (.arg 0)], .int .i64 (b), .fn 74 [.fptr 0]], [.int .i64 (c)], K => (((T.mk k n ts).size) < m ∧ ((∃ d, (T.mk k n ts).shp d = true ∧ 0 ≤ b ∧ b + d ≤ 60) ∧ (0 ≤ c))) ∧ ((K (.tup []) [.int .i64 (max c (mfL ((T.mk k n ts).vs b)))]))
  | _, _, _ => False
def cfrMax : Con
  | [.st [.int .i64 k, .int .i64 n, .slc ts (.arg 0)], .int .i64 (b), .fn 74 [.fptr 0]], [.int .i64 (c)], K => ((∃ d, (T.mk k n ts).shp d = true ∧ 0 ≤ b ∧ b + d ≤ 60) ∧ (0 ≤ c)) ∧ ((K (.tup []) [.int .i64 (max c (mfL ((T.mk k n ts).vs b)))]))
  | _, _, _ => False
theorem frMax_ok (m : Nat) (k n : Int) (ts : List T) (b c : Int) (K : AV → List AV → Prop) (hm : ((T.mk k n ts).size) < m + 1) (hp : ((∃ d, (T.mk k n ts).shp d = true ∧ 0 ≤ b ∧ b + d ≤ 60) ∧ (0 ≤ c))) (hk : ((K (.tup []) [.int .i64 (max c (mfL ((T.mk k n ts).vs b)))]))) :
    bodyQ [(73, cfrMaxM m), (96, cUnder), (74, cmaxC)] TY [(4, { ι := Nat × Int, ok := fun x => x.1 ≤ ts.length ∧ 0 ≤ x.2 ∧ max x.2 (mfL (vsL b k x.1 (ts.drop x.1))) = max c (mfL ((T.mk k n ts).vs b)), tl := fun x => [(1, .int .i64 (b)), (2, (.fn 74 [(.fptr 0)])), (3, (.ptr 3)), (24, .slc ts (.arg 0)), (25, .int .i64 ts.length), (26, .int .i64 x.1)], hl := fun x => [(3, .st [.int .i64 k, .int .i64 n, .slc ts (.arg 0)])], fh := fun x => [.int .i64 (x.2)], μ := fun x => ts.length - x.1 })] Try.f73 (body Try.f73) [.st [.int .i64 k, .int .i64 n, .slc ts (.arg 0)], .int .i64 (b), .fn 74 [.fptr 0]] [.int .i64 (c)] K := by
  refine of_vc (A :=
    (Br (Decidable.decide (k = (1 : Int)))
     (Br (Decidable.decide (b ≤ n))
     ((InR (n - b)) ∧
     ((((0 : Int) ≤ (n - b)) ∧ ((n - b) ≤ (1000 : Int))) ∧
     ((∃ x : (Prod Nat Int),
     ((((Prod.fst x) ≤ (List.length ts)) ∧
     (((0 : Int) ≤ (Prod.snd x)) ∧ ((Max.max (Prod.snd x) (mfL (vsL b k (Prod.fst x) (List.drop (Prod.fst x) ts)))) = (Max.max c (mfL (T.vs b (T.mk k n ts))))))) ∧
     ((b = b) ∧
     ((ts = ts) ∧
     (((((List.length ts) : Nat) : Int) = (((List.length ts) : Nat) : Int)) ∧
     (((0 : Int) = (((Prod.fst x) : Nat) : Int)) ∧ ((k = k) ∧ ((n = n) ∧ ((ts = ts) ∧ (((Max.max c ((n - b) + (1 : Int))) = (Prod.snd x)) ∧ True)))))))))) ∧
     (∀ x : (Prod Nat Int),
     ((((Prod.fst x) ≤ (List.length ts)) ∧ (((0 : Int) ≤ (Prod.snd x)) ∧ ((Max.max (Prod.snd x) (mfL (vsL b k (Prod.fst x) (List.drop (Prod.fst x) ts)))) = (Max.max c (mfL (T.vs b (T.mk k n ts))))))) →
     (Br (Decidable.decide ((((Prod.fst x) : Nat) : Int) < (((List.length ts) : Nat) : Int)))
     ((((0 : Int) ≤ (((Prod.fst x) : Nat) : Int)) ∧ ((((Prod.fst x) : Nat) : Int) < (((List.length ts) : Nat) : Int))) ∧
     (True ∧
     (((T.k (List.getD ts (Int.toNat (((Prod.fst x) : Nat) : Int)) default)) = (T.k (List.getD ts (Int.toNat (((Prod.fst x) : Nat) : Int)) default))) ∧
     (((T.n (List.getD ts (Int.toNat (((Prod.fst x) : Nat) : Int)) default)) = (T.n (List.getD ts (Int.toNat (((Prod.fst x) : Nat) : Int)) default))) ∧
     (((T.kids (List.getD ts (Int.toNat (((Prod.fst x) : Nat) : Int)) default)) = (T.kids (List.getD ts (Int.toNat (((Prod.fst x) : Nat) : Int)) default))) ∧
     ((InR (b + (und k (((Prod.fst x) : Nat) : Int)))) ∧
     ((((T.size (T.mk (T.k (List.getD ts (Int.toNat (((Prod.fst x) : Nat) : Int)) default)) (T.n (List.getD ts (Int.toNat (((Prod.fst x) : Nat) : Int)) default)) (T.kids (List.getD ts (Int.toNat (((Prod.fst x) : Nat) : Int)) default)))) < m) ∧
     ((∃ d : Int,
     (((T.shp (T.mk (T.k (List.getD ts (Int.toNat (((Prod.fst x) : Nat) : Int)) default)) (T.n (List.getD ts (Int.toNat (((Prod.fst x) : Nat) : Int)) default)) (T.kids (List.getD ts (Int.toNat (((Prod.fst x) : Nat) : Int)) default))) d) = true) ∧
     (((0 : Int) ≤ (b + (und k (((Prod.fst x) : Nat) : Int)))) ∧ (((b + (und k (((Prod.fst x) : Nat) : Int))) + d) ≤ (60 : Int))))) ∧
     ((0 : Int) ≤ (Prod.snd x)))) ∧
     ((InR ((((Prod.fst x) : Nat) : Int) + (1 : Int))) ∧
     (∃ y : (Prod Nat Int),
     ((((Prod.fst y) ≤ (List.length ts)) ∧
     (((0 : Int) ≤ (Prod.snd y)) ∧ ((Max.max (Prod.snd y) (mfL (vsL b k (Prod.fst y) (List.drop (Prod.fst y) ts)))) = (Max.max c (mfL (T.vs b (T.mk k n ts))))))) ∧
     ((b = b) ∧
     ((ts = ts) ∧
     (((((List.length ts) : Nat) : Int) = (((List.length ts) : Nat) : Int)) ∧
     ((((((Prod.fst x) : Nat) : Int) + (1 : Int)) = (((Prod.fst y) : Nat) : Int)) ∧
     ((k = k) ∧
     ((n = n) ∧
     ((ts = ts) ∧
     (((Max.max (Prod.snd x) (mfL (T.vs (b + (und k (((Prod.fst x) : Nat) : Int))) (T.mk (T.k (List.getD ts (Int.toNat (((Prod.fst x) : Nat) : Int)) default)) (T.n (List.getD ts (Int.toNat (((Prod.fst x) : Nat) : Int)) default)) (T.kids (List.getD ts (Int.toNat (((Prod.fst x) : Nat) : Int)) default)))))) = (Prod.snd y)) ∧
     ((Nat.succ ((List.length ts) - (Prod.fst y))) ≤ ((List.length ts) - (Prod.fst x)))))))))))))))))))))
     (Ret K (.tup []) [(.int .i64 (Prod.snd x))])))))))
     ((∃ x : (Prod Nat Int),
     ((((Prod.fst x) ≤ (List.length ts)) ∧
     (((0 : Int) ≤ (Prod.snd x)) ∧ ((Max.max (Prod.snd x) (mfL (vsL b k (Prod.fst x) (List.drop (Prod.fst x) ts)))) = (Max.max c (mfL (T.vs b (T.mk k n ts))))))) ∧
     ((b = b) ∧
     ((ts = ts) ∧
     (((((List.length ts) : Nat) : Int) = (((List.length ts) : Nat) : Int)) ∧
     (((0 : Int) = (((Prod.fst x) : Nat) : Int)) ∧ ((k = k) ∧ ((n = n) ∧ ((ts = ts) ∧ ((c = (Prod.snd x)) ∧ True)))))))))) ∧
     (∀ x : (Prod Nat Int),
     ((((Prod.fst x) ≤ (List.length ts)) ∧ (((0 : Int) ≤ (Prod.snd x)) ∧ ((Max.max (Prod.snd x) (mfL (vsL b k (Prod.fst x) (List.drop (Prod.fst x) ts)))) = (Max.max c (mfL (T.vs b (T.mk k n ts))))))) →
     (Br (Decidable.decide ((((Prod.fst x) : Nat) : Int) < (((List.length ts) : Nat) : Int)))
     ((((0 : Int) ≤ (((Prod.fst x) : Nat) : Int)) ∧ ((((Prod.fst x) : Nat) : Int) < (((List.length ts) : Nat) : Int))) ∧
     (True ∧
     (((T.k (List.getD ts (Int.toNat (((Prod.fst x) : Nat) : Int)) default)) = (T.k (List.getD ts (Int.toNat (((Prod.fst x) : Nat) : Int)) default))) ∧
     (((T.n (List.getD ts (Int.toNat (((Prod.fst x) : Nat) : Int)) default)) = (T.n (List.getD ts (Int.toNat (((Prod.fst x) : Nat) : Int)) default))) ∧
     (((T.kids (List.getD ts (Int.toNat (((Prod.fst x) : Nat) : Int)) default)) = (T.kids (List.getD ts (Int.toNat (((Prod.fst x) : Nat) : Int)) default))) ∧
     ((InR (b + (und k (((Prod.fst x) : Nat) : Int)))) ∧
     ((((T.size (T.mk (T.k (List.getD ts (Int.toNat (((Prod.fst x) : Nat) : Int)) default)) (T.n (List.getD ts (Int.toNat (((Prod.fst x) : Nat) : Int)) default)) (T.kids (List.getD ts (Int.toNat (((Prod.fst x) : Nat) : Int)) default)))) < m) ∧
     ((∃ d : Int,
     (((T.shp (T.mk (T.k (List.getD ts (Int.toNat (((Prod.fst x) : Nat) : Int)) default)) (T.n (List.getD ts (Int.toNat (((Prod.fst x) : Nat) : Int)) default)) (T.kids (List.getD ts (Int.toNat (((Prod.fst x) : Nat) : Int)) default))) d) = true) ∧
     (((0 : Int) ≤ (b + (und k (((Prod.fst x) : Nat) : Int)))) ∧ (((b + (und k (((Prod.fst x) : Nat) : Int))) + d) ≤ (60 : Int))))) ∧
     ((0 : Int) ≤ (Prod.snd x)))) ∧
     ((InR ((((Prod.fst x) : Nat) : Int) + (1 : Int))) ∧
     (∃ y : (Prod Nat Int),
     ((((Prod.fst y) ≤ (List.length ts)) ∧
     (((0 : Int) ≤ (Prod.snd y)) ∧ ((Max.max (Prod.snd y) (mfL (vsL b k (Prod.fst y) (List.drop (Prod.fst y) ts)))) = (Max.max c (mfL (T.vs b (T.mk k n ts))))))) ∧
     ((b = b) ∧
     ((ts = ts) ∧
     (((((List.length ts) : Nat) : Int) = (((List.length ts) : Nat) : Int)) ∧
     ((((((Prod.fst x) : Nat) : Int) + (1 : Int)) = (((Prod.fst y) : Nat) : Int)) ∧
     ((k = k) ∧
     ((n = n) ∧
     ((ts = ts) ∧
     (((Max.max (Prod.snd x) (mfL (T.vs (b + (und k (((Prod.fst x) : Nat) : Int))) (T.mk (T.k (List.getD ts (Int.toNat (((Prod.fst x) : Nat) : Int)) default)) (T.n (List.getD ts (Int.toNat (((Prod.fst x) : Nat) : Int)) default)) (T.kids (List.getD ts (Int.toNat (((Prod.fst x) : Nat) : Int)) default)))))) = (Prod.snd y)) ∧
     ((Nat.succ ((List.length ts) - (Prod.fst y))) ≤ ((List.length ts) - (Prod.fst x)))))))))))))))))))))
     (Ret K (.tup []) [(.int .i64 (Prod.snd x))]))))))
     ((∃ x : (Prod Nat Int),
     ((((Prod.fst x) ≤ (List.length ts)) ∧
     (((0 : Int) ≤ (Prod.snd x)) ∧ ((Max.max (Prod.snd x) (mfL (vsL b k (Prod.fst x) (List.drop (Prod.fst x) ts)))) = (Max.max c (mfL (T.vs b (T.mk k n ts))))))) ∧
     ((b = b) ∧
     ((ts = ts) ∧
     (((((List.length ts) : Nat) : Int) = (((List.length ts) : Nat) : Int)) ∧
     (((0 : Int) = (((Prod.fst x) : Nat) : Int)) ∧ ((k = k) ∧ ((n = n) ∧ ((ts = ts) ∧ ((c = (Prod.snd x)) ∧ True)))))))))) ∧
     (∀ x : (Prod Nat Int),
     ((((Prod.fst x) ≤ (List.length ts)) ∧ (((0 : Int) ≤ (Prod.snd x)) ∧ ((Max.max (Prod.snd x) (mfL (vsL b k (Prod.fst x) (List.drop (Prod.fst x) ts)))) = (Max.max c (mfL (T.vs b (T.mk k n ts))))))) →
     (Br (Decidable.decide ((((Prod.fst x) : Nat) : Int) < (((List.length ts) : Nat) : Int)))
     ((((0 : Int) ≤ (((Prod.fst x) : Nat) : Int)) ∧ ((((Prod.fst x) : Nat) : Int) < (((List.length ts) : Nat) : Int))) ∧
     (True ∧
     (((T.k (List.getD ts (Int.toNat (((Prod.fst x) : Nat) : Int)) default)) = (T.k (List.getD ts (Int.toNat (((Prod.fst x) : Nat) : Int)) default))) ∧
     (((T.n (List.getD ts (Int.toNat (((Prod.fst x) : Nat) : Int)) default)) = (T.n (List.getD ts (Int.toNat (((Prod.fst x) : Nat) : Int)) default))) ∧
     (((T.kids (List.getD ts (Int.toNat (((Prod.fst x) : Nat) : Int)) default)) = (T.kids (List.getD ts (Int.toNat (((Prod.fst x) : Nat) : Int)) default))) ∧
     ((InR (b + (und k (((Prod.fst x) : Nat) : Int)))) ∧
     ((((T.size (T.mk (T.k (List.getD ts (Int.toNat (((Prod.fst x) : Nat) : Int)) default)) (T.n (List.getD ts (Int.toNat (((Prod.fst x) : Nat) : Int)) default)) (T.kids (List.getD ts (Int.toNat (((Prod.fst x) : Nat) : Int)) default)))) < m) ∧
     ((∃ d : Int,
     (((T.shp (T.mk (T.k (List.getD ts (Int.toNat (((Prod.fst x) : Nat) : Int)) default)) (T.n (List.getD ts (Int.toNat (((Prod.fst x) : Nat) : Int)) default)) (T.kids (List.getD ts (Int.toNat (((Prod.fst x) : Nat) : Int)) default))) d) = true) ∧
     (((0 : Int) ≤ (b + (und k (((Prod.fst x) : Nat) : Int)))) ∧ (((b + (und k (((Prod.fst x) : Nat) : Int))) + d) ≤ (60 : Int))))) ∧
     ((0 : Int) ≤ (Prod.snd x)))) ∧
     ((InR ((((Prod.fst x) : Nat) : Int) + (1 : Int))) ∧
     (∃ y : (Prod Nat Int),
     ((((Prod.fst y) ≤ (List.length ts)) ∧
     (((0 : Int) ≤ (Prod.snd y)) ∧ ((Max.max (Prod.snd y) (mfL (vsL b k (Prod.fst y) (List.drop (Prod.fst y) ts)))) = (Max.max c (mfL (T.vs b (T.mk k n ts))))))) ∧
     ((b = b) ∧
     ((ts = ts) ∧
     (((((List.length ts) : Nat) : Int) = (((List.length ts) : Nat) : Int)) ∧
     ((((((Prod.fst x) : Nat) : Int) + (1 : Int)) = (((Prod.fst y) : Nat) : Int)) ∧
     ((k = k) ∧
     ((n = n) ∧
     ((ts = ts) ∧
     (((Max.max (Prod.snd x) (mfL (T.vs (b + (und k (((Prod.fst x) : Nat) : Int))) (T.mk (T.k (List.getD ts (Int.toNat (((Prod.fst x) : Nat) : Int)) default)) (T.n (List.getD ts (Int.toNat (((Prod.fst x) : Nat) : Int)) default)) (T.kids (List.getD ts (Int.toNat (((Prod.fst x) : Nat) : Int)) default)))))) = (Prod.snd y)) ∧
     ((Nat.succ ((List.length ts) - (Prod.fst y))) ≤ ((List.length ts) - (Prod.fst x)))))))))))))))))))))
     (Ret K (.tup []) [(.int .i64 (Prod.snd x))]))))))) ?_ (by kernel_rfl)
  obtain ⟨⟨d, hd, hb, hbd⟩, hc⟩ := hp
  have hd1 := T.shp_pos hd
  have hsh := T.shp_kids hd
  have hm' : 1 + sizeL ts < m + 1 := hm
  have hll := length_le_sizeL ts
  have hr := T.shp_root hd
  have har2 := (arity_range k).2
  have e1 : k = 1 → vsL b k 0 ts = [] ∧ (T.mk k n ts).vs b = [(b, n)] ∧ 0 ≤ n ∧ n ≤ 20 := fun e => by
    subst e
    rw [show mostN 1 = 20 from rfl] at hr
    exact ⟨by rw [T.shp_var hd]; rfl, T.vs_var, hr.2⟩
  have e2 : k ≠ 1 → (T.mk k n ts).vs b = vsL b k 0 ts := T.vs_node
  generalize hV : (T.mk k n ts).vs b = V at *
  refine br (fun g => br (fun g2 => ⟨?_, ?_, ⟨(0, _), ⟨?i1, ?i2, ?i4⟩, (by repeat' first | trivial | rfl | (simp; done) | apply And.intro)⟩, fun x hx => ?l1⟩) (fun g2 => ⟨⟨(0, c), ⟨?j1, ?j2, ?j4⟩, (by repeat' first | trivial | rfl | (simp; done) | apply And.intro)⟩, fun x hx => ?l2⟩)) (fun g => ⟨⟨(0, c), ⟨?k1, ?k2, ?k4⟩, (by repeat' first | trivial | rfl | (simp; done) | apply And.intro)⟩, fun x hx => ?l3⟩)
  case i1 | j1 | k1 => exact Nat.zero_le _
  case j2 | k2 => exact hc
  case l1 | l2 | l3 =>
    obtain ⟨i, q⟩ := x
    obtain ⟨g1, g2, g4⟩ := hx
    simp only at g1 g2 g4
    refine br (fun h => ?_) (fun h => ?_)
    · have h := of_decide_eq_true h
      simp only at h
      have hi : i < ts.length := by omega
      have hmem := getD_mem hi
      have hs := sizeL_mem hmem
      have hu := und_range k i
      rw [drop_getD hi] at g4
      simp only [vsL, mfL_append] at g4
      simp only [Int.toNat_natCast, T.eta]
      refine ⟨⟨by omega, by omega⟩, (by first | trivial | rfl | (simp; done)), (by first | trivial | rfl | (simp; done)), (by first | trivial | rfl | (simp; done)), (by first | trivial | rfl | (simp; done)), by unfold InR; omega, ⟨by omega, ⟨d - 1, shpL_mem hsh hmem, by omega, by omega⟩, by omega⟩, by unfold InR; omega, (i + 1, max q (mfL ((ts.getD i default).vs (b + und k i)))), ⟨by show i + 1 ≤ _; omega, by show 0 ≤ max q _; omega, ?_⟩, (by repeat' first | trivial | rfl | (simp; done) | (dsimp only; omega) | omega | apply And.intro)⟩
      show max (max q (mfL _)) (mfL (vsL b k (i + 1) (ts.drop (i + 1)))) = _; omega
    · have h := of_decide_eq_false h
      simp only at h
      have hi : ¬ i < ts.length := by omega
      rw [drop_len hi] at g4
      simp only [vsL, mfL] at g4
      rw [← g4] at hk
      exact fin hk (by repeat' first | trivial | rfl | (simp; done) | apply And.intro) ⟨⟨rfl, by omega⟩, trivial⟩
  case k4 => show max c (mfL (vsL b k 0 ts)) = max c (mfL V); rw [e2 (of_decide_eq_false g)]
  case j4 =>
    have g2 := of_decide_eq_false g2
    obtain ⟨h1, h2, -⟩ := e1 (of_decide_eq_true g)
    show max c (mfL (vsL b k 0 ts)) = max c (mfL V)
    rw [h1, h2]; simp only [mfL]; rw [if_neg (by show ¬ b ≤ n; omega)]; rfl
  case i4 =>
    have g2 := of_decide_eq_true g2
    obtain ⟨h1, h2, -⟩ := e1 (of_decide_eq_true g)
    show max (max c (n - b + 1)) (mfL (vsL b k 0 ts)) = max c (mfL V)
    rw [h1, h2]; simp only [mfL]; rw [if_pos (by show b ≤ n; omega)]; omega
  case i2 => show 0 ≤ max c _; omega
  · have := e1 (of_decide_eq_true g); unfold InR; omega
  · have := e1 (of_decide_eq_true g); have := of_decide_eq_true g2; omega
theorem frMax_soundM : ∀ m : Nat, Sound Try.prog 73 (cfrMaxM m)
  | 0 => by
      refine soundF (G := []) gnil Try.func73 rfl (by kernel_rfl) fun args hs K hCC => ?_
      unfold cfrMaxM at hCC
      split at hCC
      case h_2 => exact hCC.elim
      exact absurd hCC.1.1 (Nat.not_lt_zero _)
  | m + 1 => by
      refine soundF (G := [(73, cfrMaxM m), (96, cUnder), (74, cmaxC)]) ((gcons (frMax_soundM m) (gcons Under_sound (gcons maxC_sound gnil)))) Try.func73 rfl (by kernel_rfl) fun args hs K hCC => ?_
      unfold cfrMaxM at hCC
      split at hCC
      case h_2 => exact hCC.elim
      rename_i k n ts b c
      exact ⟨Nat.le_of_ble_eq_true rfl, _, frMax_ok m k n ts b c K hCC.1.1 hCC.1.2 hCC.2⟩
theorem frMax_sound : Sound Try.prog 73 cfrMax := by
  refine sound_of_all (c := cfrMaxM) (fun m => (frMax_soundM m)) fun args hs K hCC => ?_
  unfold cfrMax at hCC
  split at hCC
  case h_2 => exact hCC.elim
  exact ⟨_, ⟨Nat.lt_succ_self _, hCC.1⟩, hCC.2⟩
/-- What CountVar answers. -/
def T.cv (t : T) (j : Int) : Int := if t.valid = true ∧ 0 ≤ j ∧ j ≤ 20 then cnL j (t.vs 0) else 0
/-- impl.maxFree -/
def cmaxFree : Con
  | [.st [.int .i64 k, .int .i64 n, .slc ts (.arg 0)]], [], K => (((T.mk k n ts).valid = true)) ∧ ((K (.int .i64 (mfL ((T.mk k n ts).vs 0))) []))
  | _, _, _ => False
theorem maxFree_ok (k n : Int) (ts : List T) (K : AV → List AV → Prop) (hp : (((T.mk k n ts).valid = true))) (hk : ((K (.int .i64 (mfL ((T.mk k n ts).vs 0))) []))) :
    bodyQ [(73, cfrMax)] TY [] Try.f50 (body Try.f50) [.st [.int .i64 k, .int .i64 n, .slc ts (.arg 0)]] [] K := by
  refine of_vc (A :=
    (((∃ d : Int, (((T.shp (T.mk k n ts) d) = true) ∧ (((0 : Int) ≤ (0 : Int)) ∧ (((0 : Int) + d) ≤ (60 : Int))))) ∧ ((0 : Int) ≤ (0 : Int))) ∧
     (Ret K (.int .i64 (Max.max (0 : Int) (mfL (T.vs (0 : Int) (T.mk k n ts))))) []))) ?_ (by kernel_rfl)
  refine ⟨⟨⟨30, T.valid_shp hp, by omega, by omega⟩, by omega⟩, retI hk ?_⟩
  have := mfL_nonneg ((T.mk k n ts).vs 0); omega
theorem maxFree_sound : Sound Try.prog 50 cmaxFree := by
  refine soundF (G := [(73, cfrMax)]) ((gcons frMax_sound gnil)) Try.func50 rfl (by kernel_rfl) fun args hs K hCC => ?_
  unfold cmaxFree at hCC
  split at hCC
  case h_2 => exact hCC.elim
  rename_i k n ts
  exact ⟨Nat.le_of_ble_eq_true rfl, _, maxFree_ok k n ts K hCC.1 hCC.2⟩
def T.mf (t : T) : Int := if t.valid = true then mfL (t.vs 0) else -1
/-- impl.MaxFree -/
def cMaxFree : Con
  | [.st [.int .i64 k, .int .i64 n, .slc ts (.arg 0)]], [], K => True ∧ ((K (.int .i64 ((T.mk k n ts).mf)) []))
  | _, _, _ => False
theorem MaxFree_ok (k n : Int) (ts : List T) (K : AV → List AV → Prop) (hp : True) (hk : ((K (.int .i64 ((T.mk k n ts).mf)) []))) :
    bodyQ [(49, cTermValid), (50, cmaxFree)] TY [] Try.f19 (body Try.f19) [.st [.int .i64 k, .int .i64 n, .slc ts (.arg 0)]] [] K := by
  refine of_vc (A :=
    (True ∧
     (Br (Bool.not (T.valid (T.mk k n ts)))
     (Ret K (.int .i64 (- (1 : Int))) [])
     (((T.valid (T.mk k n ts)) = true) ∧ (Ret K (.int .i64 (mfL (T.vs (0 : Int) (T.mk k n ts)))) []))))) ?_ (by kernel_rfl)
  unfold T.mf at hk
  refine ⟨trivial, br (fun g => retI hk ?_) (fun g => ⟨by simpa using g, retI hk ?_⟩)⟩
  · rw [if_neg (by intro h; rw [h] at g; cases g)]
  · rw [if_pos (by simpa using g)]
theorem MaxFree_sound : Sound Try.prog 19 cMaxFree := by
  refine soundF (G := [(49, cTermValid), (50, cmaxFree)]) ((gcons TermValid_sound (gcons maxFree_sound gnil))) Try.func19 rfl (by kernel_rfl) fun args hs K hCC => ?_
  unfold cMaxFree at hCC
  split at hCC
  case h_2 => exact hCC.elim
  rename_i k n ts
  exact ⟨Nat.le_of_ble_eq_true rfl, _, MaxFree_ok k n ts K hCC.1 hCC.2⟩
/-- What ShiftTerm answers. -/
def T.ShO (t : T) (y c : Int) : Bool := t.valid && (decide (-20 ≤ y ∧ y ≤ 20 ∧ 0 ≤ c ∧ c ≤ 20) && t.shO y c)
def T.ShR (t : T) (y c : Int) : T := if t.ShO y c = true then t.mv (shf y c) 0 else .mk 0 0 []
/-- What SubstTerm answers. -/
def T.SbO (t : T) (j : Int) (u : T) : Bool := t.valid && (u.valid && (decide (0 ≤ j ∧ j ≤ 20) && t.sbO j u))
def T.SbR (t : T) (j : Int) (u : T) : T := if t.SbO j u = true then t.mv (sbfI j u) 0 else .mk 0 0 []
/-- impl.SubstTerm -/
def cSubstTerm : Con
  | [.st [.int .i64 k, .int .i64 n, .slc ts (.arg 0)], .int .i64 (j), .st [.int .i64 ku, .int .i64 nu, .slc us (.arg 2)]], [], K => True ∧ ((K (.tup [((T.mk k n ts).SbR j (.mk ku nu us)).fr, .bool ((T.mk k n ts).SbO j (.mk ku nu us))]) []))
  | _, _, _ => False
theorem SubstTerm_ok (k n : Int) (ts : List T) (j : Int) (ku nu : Int) (us : List T) (K : AV → List AV → Prop) (hp : True) (hk : ((K (.tup [((T.mk k n ts).SbR j (.mk ku nu us)).fr, .bool ((T.mk k n ts).SbO j (.mk ku nu us))]) []))) :
    bodyQ [(49, cTermValid), (71, cWithin), (75, cSubst)] TY [] Try.f63 (body Try.f63) [.st [.int .i64 k, .int .i64 n, .slc ts (.arg 0)], .int .i64 (j), .st [.int .i64 ku, .int .i64 nu, .slc us (.arg 2)]] [] K := by
  refine of_vc (A :=
    (True ∧
     (Br (Bool.not (T.valid (T.mk k n ts)))
     (Ret K (.tup [(.st [(.int .i64 0), (.int .i64 0), (.slc [] (.iv 0 0 true .full))]), (.bool false)]) [])
     (True ∧
     (Br (Bool.not (T.valid (T.mk ku nu us)))
     (Ret K (.tup [(.st [(.int .i64 0), (.int .i64 0), (.slc [] (.iv 0 0 true .full))]), (.bool false)]) [])
     (True ∧
     (Br (Bool.not (Decidable.decide (((0 : Int) ≤ j) ∧ (j ≤ (20 : Int)))))
     (Ret K (.tup [(.st [(.int .i64 0), (.int .i64 0), (.slc [] (.iv 0 0 true .full))]), (.bool false)]) [])
     ((((T.shp (T.mk k n ts) (30 : Int)) = true) ∧ (((0 : Int) ≤ j) ∧ ((j ≤ (20 : Int)) ∧ ((T.valid (T.mk ku nu us)) = true)))) ∧
     (Ret K (.tup [(.st [(.int .i64 (T.k (T.sbR (T.mk k n ts) j (T.mk ku nu us)))), (.int .i64 (T.n (T.sbR (T.mk k n ts) j (T.mk ku nu us)))), (.slc (T.kids (T.sbR (T.mk k n ts) j (T.mk ku nu us))) (.iv 4 4 true (.tok 0)))]), (.bool (T.sbO (T.mk k n ts) j (T.mk ku nu us)))]) []))))))))) ?_ (by kernel_rfl)
  have bad : (T.mk k n ts).SbO j (.mk ku nu us) = false → Ret K (.tup [(.st [(.int .i64 (0 : Int)), (.int .i64 (0 : Int)), (.slc ([] : List T) (.iv (0 : Nat) (0 : Nat) true .full))]), (.bool false)]) [] := by
    intro e
    unfold T.SbR at hk
    rw [e, if_neg (by simp)] at hk
    exact fin hk (by repeat' first | trivial | rfl | (simp; done) | apply And.intro) (by repeat' first | trivial | rfl | (simp; done) | apply And.intro)
  refine ⟨trivial, br (fun g => bad ?_) (fun g => ⟨trivial, br (fun g2 => bad ?_) (fun g2 => ⟨trivial, br (fun g3 => bad ?_) (fun g3 => ?_)⟩)⟩)⟩
  · unfold T.SbO; rw [Bool.not_eq_true'] at g; rw [g]; rfl
  · unfold T.SbO; rw [Bool.not_eq_true'] at g2; rw [g2]; simp
  · unfold T.SbO; rw [Bool.not_eq_true'] at g3; rw [g3]; simp
  · have g : (T.mk k n ts).valid = true := by simpa using g
    have g2 : (T.mk ku nu us).valid = true := by simpa using g2
    rw [Bool.not_eq_false'] at g3
    have e : (T.mk k n ts).SbO j (.mk ku nu us) = (T.mk k n ts).sbO j (.mk ku nu us) := by unfold T.SbO; rw [g, g2, g3]; rfl
    have e2 : (T.mk k n ts).SbR j (.mk ku nu us) = (T.mk k n ts).sbR j (.mk ku nu us) := by unfold T.SbR T.sbR; rw [e]
    rw [e, e2] at hk
    rw [decide_eq_true_eq] at g3
    exact ⟨⟨T.valid_shp g, by omega, by omega, g2⟩, fin hk (by repeat' first | trivial | rfl | (simp; done) | apply And.intro) (by repeat' first | trivial | rfl | (simp; done) | apply And.intro)⟩
theorem SubstTerm_sound : Sound Try.prog 63 cSubstTerm := by
  refine soundF (G := [(49, cTermValid), (71, cWithin), (75, cSubst)]) ((gcons TermValid_sound (gcons Within_sound (gcons Subst_sound gnil)))) Try.func63 rfl (by kernel_rfl) fun args hs K hCC => ?_
  unfold cSubstTerm at hCC
  split at hCC
  case h_2 => exact hCC.elim
  rename_i k n ts j ku nu us
  exact ⟨Nat.le_of_ble_eq_true rfl, _, SubstTerm_ok k n ts j ku nu us K hCC.1 hCC.2⟩
/-- impl.Instantiate -/
def cInstantiate : Con
  | [.st [.int .i64 k, .int .i64 n, .slc ts (.arg 0)], .st [.int .i64 ku, .int .i64 nu, .slc us (.arg 1)]], [], K => True ∧ ((K (.tup [((T.mk k n ts).SbR 0 (.mk ku nu us)).fr, .bool ((T.mk k n ts).SbO 0 (.mk ku nu us))]) []))
  | _, _, _ => False
theorem Instantiate_ok (k n : Int) (ts : List T) (ku nu : Int) (us : List T) (K : AV → List AV → Prop) (hp : True) (hk : ((K (.tup [((T.mk k n ts).SbR 0 (.mk ku nu us)).fr, .bool ((T.mk k n ts).SbO 0 (.mk ku nu us))]) []))) :
    bodyQ [(63, cSubstTerm)] TY [] Try.f34 (body Try.f34) [.st [.int .i64 k, .int .i64 n, .slc ts (.arg 0)], .st [.int .i64 ku, .int .i64 nu, .slc us (.arg 1)]] [] K := by
  refine of_vc (A :=
    (True ∧
     (Ret K (.tup [(.st [(.int .i64 (T.k (T.SbR (T.mk k n ts) (0 : Int) (T.mk ku nu us)))), (.int .i64 (T.n (T.SbR (T.mk k n ts) (0 : Int) (T.mk ku nu us)))), (.slc (T.kids (T.SbR (T.mk k n ts) (0 : Int) (T.mk ku nu us))) (.iv 4 4 true (.tok 0)))]), (.bool (T.SbO (T.mk k n ts) (0 : Int) (T.mk ku nu us)))]) []))) ?_ (by kernel_rfl)
  exact ⟨trivial, fin hk (by repeat' first | trivial | rfl | (simp; done) | apply And.intro) (by repeat' first | trivial | rfl | (simp; done) | apply And.intro)⟩
theorem Instantiate_sound : Sound Try.prog 34 cInstantiate := by
  refine soundF (G := [(63, cSubstTerm)]) ((gcons SubstTerm_sound gnil)) Try.func34 rfl (by kernel_rfl) fun args hs K hCC => ?_
  unfold cInstantiate at hCC
  split at hCC
  case h_2 => exact hCC.elim
  rename_i k n ts ku nu us
  exact ⟨Nat.le_of_ble_eq_true rfl, _, Instantiate_ok k n ts ku nu us K hCC.1 hCC.2⟩
/-- What RenameTerm answers. -/
def T.RnO (t : T) (ns : List Int) : Bool := t.valid && (decide (ns.length ≤ 21) && (decide (mfL (t.vs 0) ≤ ns.length) && (decide (∀ x ∈ ns, 0 ≤ x ∧ x ≤ 20) && (t.mv (rnf ns) 0).valid)))
def T.RnR (t : T) (ns : List Int) : T := if t.RnO ns = true then t.mv (rnf ns) 0 else .mk 0 0 []
end Go.Dk
