/- Binding: the program's functions. -/
import Derived.Test.YtnohobjbblbffaaL1
import Derived.Test.YtnohobjbblbffaaTb
namespace Go.Dk
set_option linter.unusedVariables false
open Go.Proofs
def shf (y c b n : Int) : T := vr (if c + b ≤ n then n + y else n)
def shk (y c b n : Int) : Bool := decide (n - b < c ∨ (c ≤ n + y - b ∧ n + y ≤ 20))
theorem shf_eq (y c b n : Int) : shf y c b n = vr (if c + b ≤ n then n + y else n) := rfl
/-- impl.isBinder -/
def cisBinder : Con
  | [.int .i64 (k)], [], K => True ∧ ((K (.bool (decide (k = 3 ∨ k = 4 ∨ k = 13))) []))
  | _, _, _ => False
theorem isBinder_ok (k : Int) (K : AV → List AV → Prop) (hp : True) (hk : ((K (.bool (decide (k = 3 ∨ k = 4 ∨ k = 13))) []))) :
    bodyQ [] TY [] Try.f125 (body Try.f125) [.int .i64 (k)] [] K := by
  refine of_vc (A :=
      (Br (Decidable.decide (k = (3 : Int)))
        (Ret K (.bool true) [])
        (Br (Decidable.decide (k = (4 : Int))) (Ret K (.bool true) []) (Ret K (.bool (Decidable.decide (k = (13 : Int)))) [])))) ?_ (by kernel_rfl)
  refine br (fun h => retB hk ?_) (fun h => br (fun h2 => retB hk ?_) (fun h2 => retB hk ?_))
  · have h := of_decide_eq_true h; simp [h]
  · have h2 := of_decide_eq_true h2; simp [h2]
  · have h := of_decide_eq_false h; have h2 := of_decide_eq_false h2; simp [h, h2]
theorem isBinder_sound : Sound Try.prog 125 cisBinder := by
  refine soundF (G := []) (gnil) Try.func125 rfl (by kernel_rfl) fun args hs K hCC => ?_
  unfold cisBinder at hCC
  split at hCC
  case h_2 => exact hCC.elim
  rename_i k
  exact ⟨Nat.le_of_ble_eq_true rfl, _, isBinder_ok k K hCC.1 hCC.2⟩
/-- impl.under -/
def cUnder : Con
  | [.int .i64 (k), .int .i64 (i)], [], K => True ∧ ((K (.int .i64 (und k i)) []))
  | _, _, _ => False
theorem Under_ok (k i : Int) (K : AV → List AV → Prop) (hp : True) (hk : ((K (.int .i64 (und k i)) []))) :
    bodyQ [(125, cisBinder)] TY [] Try.f119 (body Try.f119) [.int .i64 (k), .int .i64 (i)] [] K := by
  refine of_vc (A :=
      (Br (Decidable.decide (i = (1 : Int)))
        (True ∧ (Br (Decidable.decide ((k = (3 : Int)) ∨ ((k = (4 : Int)) ∨ (k = (13 : Int))))) (Ret K (.int .i64 (1 : Int)) []) (Ret K (.int .i64 (0 : Int)) [])))
        (Ret K (.int .i64 (0 : Int)) []))) ?_ (by kernel_rfl)
  refine br (fun h => ⟨trivial, br (fun h2 => retI hk ?_) (fun h2 => retI hk ?_)⟩) (fun h => retI hk ?_)
  · have h := of_decide_eq_true h; have h2 := of_decide_eq_true h2; simp [und, h, h2]
  · have h := of_decide_eq_true h; have h2 := of_decide_eq_false h2; simp [und, h2]
  · have h := of_decide_eq_false h; simp [und, h]
theorem Under_sound : Sound Try.prog 119 cUnder := by
  refine soundF (G := [(125, cisBinder)]) ((gcons isBinder_sound gnil)) Try.func119 rfl (by kernel_rfl) fun args hs K hCC => ?_
  unfold cUnder at hCC
  split at hCC
  case h_2 => exact hCC.elim
  rename_i k i
  exact ⟨Nat.le_of_ble_eq_true rfl, _, Under_ok k i K hCC.1 hCC.2⟩
/-- impl.variable -/
def cVariable : Con
  | [.int .i64 (n)], [], K => True ∧ ((K ((vr n).fr) []))
  | _, _, _ => False
theorem Variable_ok (n : Int) (K : AV → List AV → Prop) (hp : True) (hk : ((K ((vr n).fr) []))) :
    bodyQ [] TY [] Try.f112 (body Try.f112) [.int .i64 (n)] [] K := by
  refine of_vc (A :=
      (Ret K (.st [(.int .i64 (1 : Int)), (.int .i64 n), (.slc ([] : List T) (.iv (0 : Nat) (0 : Nat) true .full))]) [])) ?_ (by kernel_rfl)
  exact retT (t := vr n) hk rfl
theorem Variable_sound : Sound Try.prog 112 cVariable := by
  refine soundF (G := []) (gnil) Try.func112 rfl (by kernel_rfl) fun args hs K hCC => ?_
  unfold cVariable at hCC
  split at hCC
  case h_2 => exact hCC.elim
  rename_i n
  exact ⟨Nat.le_of_ble_eq_true rfl, _, Variable_ok n K hCC.1 hCC.2⟩
/-- impl.shift$1 -/
def cshiftC : Con
  | [.int .i64 (n), .int .i64 (b), .fptr 0, .fptr 1, .fptr 2], [.int .i64 (c), .int .i64 (y), .bool ok], K => ((0 ≤ n ∧ n ≤ 20 ∧ 0 ≤ b ∧ b ≤ 60 ∧ 0 ≤ c ∧ c ≤ 20 ∧ -100 ≤ y ∧ y ≤ 100)) ∧ ((K ((shf y c b n).fr) [.int .i64 (c), .int .i64 (y), .bool (ok && shk y c b n)]))
  | _, _, _ => False
theorem shiftC_ok (n b c y : Int) (ok : Bool) (K : AV → List AV → Prop) (hp : ((0 ≤ n ∧ n ≤ 20 ∧ 0 ≤ b ∧ b ≤ 60 ∧ 0 ≤ c ∧ c ≤ 20 ∧ -100 ≤ y ∧ y ≤ 100))) (hk : ((K ((shf y c b n).fr) [.int .i64 (c), .int .i64 (y), .bool (ok && shk y c b n)]))) :
    bodyQ [(112, cVariable)] TY [] Try.f120 (body Try.f120) [.int .i64 (n), .int .i64 (b), .fptr 0, .fptr 1, .fptr 2] [.int .i64 (c), .int .i64 (y), .bool ok] K := by
  refine of_vc (A :=
      ((InR (n - b)) ∧
       (Br (Decidable.decide (c ≤ (n - b)))
         ((InR (n + y)) ∧
          (Br ok
            ((InR ((n + y) - b)) ∧
             (Br (Decidable.decide (c ≤ ((n + y) - b)))
               (True ∧
                (Ret K (.st [(.int .i64 (1 : Int)), (.int .i64 (T.n (T.mk (1 : Int) (n + y) ([] : List T)))), (.slc ([] : List T) (.iv (4 : Nat) (4 : Nat) true (.tok (0 : Nat))))]) [(.int .i64 c), (.int .i64 y), (.bool (Decidable.decide ((n + y) ≤ (20 : Int))))]))
               (True ∧
                (Ret K (.st [(.int .i64 (1 : Int)), (.int .i64 (T.n (T.mk (1 : Int) (n + y) ([] : List T)))), (.slc ([] : List T) (.iv (4 : Nat) (4 : Nat) true (.tok (0 : Nat))))]) [(.int .i64 c), (.int .i64 y), (.bool false)]))))
            (True ∧
             (Ret K (.st [(.int .i64 (1 : Int)), (.int .i64 (T.n (T.mk (1 : Int) (n + y) ([] : List T)))), (.slc ([] : List T) (.iv (4 : Nat) (4 : Nat) true (.tok (0 : Nat))))]) [(.int .i64 c), (.int .i64 y), (.bool false)]))))
         (True ∧
          (Ret K (.st [(.int .i64 (1 : Int)), (.int .i64 (T.n (T.mk (1 : Int) n ([] : List T)))), (.slc ([] : List T) (.iv (4 : Nat) (4 : Nat) true (.tok (0 : Nat))))]) [(.int .i64 c), (.int .i64 y), (.bool ok)]))))) ?_ (by kernel_rfl)
  obtain ⟨h0, h1, h2, h3, h4, h5, h6, h7⟩ := hp
  have fin' : ∀ (m : Int) (o : Bool), vr m = shf y c b n → o = (ok && shk y c b n) → Ret K (.st [.int .i64 1, .int .i64 m, .slc [] (.iv 4 4 true (.tok 0))]) [.int .i64 c, .int .i64 y, .bool o] := by
    intro m o e1 e2
    have e3 : m = (shf y c b n).n := by rw [← e1]; rfl
    refine fin hk ⟨⟨rfl, ?_⟩, ⟨rfl, ?_⟩, ⟨?_, rfl⟩, trivial⟩ ⟨⟨rfl, rfl⟩, ⟨rfl, rfl⟩, e2, trivial⟩
    · rfl
    · exact e3
    · rfl
  refine ⟨by unfold InR; omega, br (fun g => ⟨by unfold InR; omega, br (fun g1 => ⟨by unfold InR; omega, br (fun g2 => ⟨trivial, fin' _ _ ?_ ?_⟩) (fun g2 => ⟨trivial, fin' _ _ ?_ ?_⟩)⟩) (fun g1 => ⟨trivial, fin' _ _ ?_ ?_⟩)⟩) (fun g => ⟨trivial, fin' _ _ ?_ ?_⟩)⟩
  all_goals (try have g := of_decide_eq_true g)
  all_goals (try have g := of_decide_eq_false g)
  all_goals (try have g2 := of_decide_eq_true g2)
  all_goals (try have g2 := of_decide_eq_false g2)
  · show vr (n + y) = _; rw [shf_eq, if_pos (by omega)]
  · rw [g1, Bool.true_and]; unfold shk; exact decide_eq_decide.2 (by constructor <;> omega)
  · show vr (n + y) = _; rw [shf_eq, if_pos (by omega)]
  · rw [g1, Bool.true_and]; unfold shk; exact (decide_eq_false (by omega)).symm
  · show vr (n + y) = _; rw [shf_eq, if_pos (by omega)]
  · rw [g1]; rfl
  · show vr n = _; rw [shf_eq, if_neg (by omega)]
  · unfold shk; rw [decide_eq_true (by omega)]; simp
theorem shiftC_sound : Sound Try.prog 120 cshiftC := by
  refine soundF (G := [(112, cVariable)]) ((gcons Variable_sound gnil)) Try.func120 rfl (by kernel_rfl) fun args hs K hCC => ?_
  unfold cshiftC at hCC
  split at hCC
  case h_2 => exact hCC.elim
  rename_i n b c y ok
  exact ⟨Nat.le_of_ble_eq_true rfl, _, shiftC_ok n b c y ok K hCC.1 hCC.2⟩
/-- impl.changed -/
def cchShiftM (m : Nat) : Con
  | [.st [.int .i64 k, .int .i64 n, .slc ts (.arg 0)], .int .i64 (b), .fn 120 [.fptr 0, .fptr 1, .fptr 2]], [.int .i64 (c), .int .i64 (y), .bool ok], K => (((T.mk k n ts).size) < m ∧ ((∃ d, (T.mk k n ts).shp d = true ∧ 0 ≤ b ∧ b + d ≤ 60) ∧ (0 ≤ c ∧ c ≤ 20 ∧ -100 ≤ y ∧ y ≤ 100))) ∧ ((K (((T.mk k n ts).mv (shf y c) b).fr) [.int .i64 (c), .int .i64 (y), .bool (ok && ((T.mk k n ts).vs b).all fun p => shk y c p.1 p.2)]))
  | _, _, _ => False
def cchShift : Con
  | [.st [.int .i64 k, .int .i64 n, .slc ts (.arg 0)], .int .i64 (b), .fn 120 [.fptr 0, .fptr 1, .fptr 2]], [.int .i64 (c), .int .i64 (y), .bool ok], K => ((∃ d, (T.mk k n ts).shp d = true ∧ 0 ≤ b ∧ b + d ≤ 60) ∧ (0 ≤ c ∧ c ≤ 20 ∧ -100 ≤ y ∧ y ≤ 100)) ∧ ((K (((T.mk k n ts).mv (shf y c) b).fr) [.int .i64 (c), .int .i64 (y), .bool (ok && ((T.mk k n ts).vs b).all fun p => shk y c p.1 p.2)]))
  | _, _, _ => False
theorem chShift_ok (m : Nat) (k n : Int) (ts : List T) (b c y : Int) (ok : Bool) (K : AV → List AV → Prop) (hm : ((T.mk k n ts).size) < m + 1) (hp : ((∃ d, (T.mk k n ts).shp d = true ∧ 0 ≤ b ∧ b + d ≤ 60) ∧ (0 ≤ c ∧ c ≤ 20 ∧ -100 ≤ y ∧ y ≤ 100))) (hk : ((K (((T.mk k n ts).mv (shf y c) b).fr) [.int .i64 (c), .int .i64 (y), .bool (ok && ((T.mk k n ts).vs b).all fun p => shk y c p.1 p.2)]))) :
    bodyQ [(109, cchShiftM m), (119, cUnder), (120, cshiftC)] TY [(5, { ι := Nat × (List T × Bool), ok := fun x => x.1 ≤ ts.length ∧ x.2.1.length = x.1 ∧ x.2.1 ++ mvL (shf y c) b k x.1 (ts.drop x.1) = mvL (shf y c) b k 0 ts ∧ (x.2.2 && (vsL b k x.1 (ts.drop x.1)).all fun p => shk y c p.1 p.2) = (ok && (vsL b k 0 ts).all fun p => shk y c p.1 p.2), tl := fun x => [(1, .int .i64 (b)), (2, (.fn 120 [(.fptr 0), (.fptr 1), (.fptr 2)])), (3, (.ptr 3)), (6, (.ptr 6)), (7, (.ptr 7)), (24, .slc ts (.arg 0)), (25, .int .i64 ts.length), (26, .int .i64 x.1)], hl := fun x => [(3, .st [.int .i64 k, .int .i64 n, .slc ts (.arg 0)]), (6, (T.mk 0 0 []).av (.iv 0 0 true .full)), (7, .st [.int .i64 k, .int .i64 n, .slc x.2.1 (.iv 4 4 true (.tok 43))])], fh := fun x => [.int .i64 (c), .int .i64 (y), .bool x.2.2], μ := fun x => ts.length - x.1 })] Try.f109 (body Try.f109) [.st [.int .i64 k, .int .i64 n, .slc ts (.arg 0)], .int .i64 (b), .fn 120 [.fptr 0, .fptr 1, .fptr 2]] [.int .i64 (c), .int .i64 (y), .bool ok] K := by
  refine of_vc (A :=
      (Br (Decidable.decide (k = (1 : Int)))
        ((((0 : Int) ≤ n) ∧
          ((n ≤ (20 : Int)) ∧ (((0 : Int) ≤ b) ∧ ((b ≤ (60 : Int)) ∧ (((0 : Int) ≤ c) ∧ ((c ≤ (20 : Int)) ∧ (((- (100 : Int)) ≤ y) ∧ (y ≤ (100 : Int))))))))) ∧
         (Ret K (.st [(.int .i64 (1 : Int)), (.int .i64 (T.n (T.mk (1 : Int) (if ((c + b) ≤ n) then (n + y) else n) ([] : List T)))), (.slc ([] : List T) (.iv (4 : Nat) (4 : Nat) true (.tok (0 : Nat))))]) [(.int .i64 c), (.int .i64 y), (.bool (Bool.and ok (shk y c b n)))]))
        ((∃ x : (Prod Nat (Prod (List T) Bool)),
           ((((Prod.fst x) ≤ (List.length ts)) ∧
             (((List.length (Prod.fst (Prod.snd x))) = (Prod.fst x)) ∧
              ((((Prod.fst (Prod.snd x)) ++ (mvL (shf y c) b k (Prod.fst x) (List.drop (Prod.fst x) ts))) = (mvL (shf y c) b k (0 : Nat) ts)) ∧
               ((Bool.and (Prod.snd (Prod.snd x)) (List.all (vsL b k (Prod.fst x) (List.drop (Prod.fst x) ts)) (fun (p : (Prod Int Int)) => (shk y c (Prod.fst p) (Prod.snd p))))) = (Bool.and ok (List.all (vsL b k (0 : Nat) ts) (fun (p : (Prod Int Int)) => (shk y c (Prod.fst p) (Prod.snd p))))))))) ∧
            ((b = b) ∧
             ((ts = ts) ∧
              (((((List.length ts) : Nat) : Int) = (((List.length ts) : Nat) : Int)) ∧
               (((0 : Int) = (((Prod.fst x) : Nat) : Int)) ∧
                ((k = k) ∧
                 ((n = n) ∧
                  ((ts = ts) ∧
                   (((0 : Int) = (0 : Int)) ∧
                    (((0 : Int) = (0 : Int)) ∧
                     ((([] : List T) = ([] : List T)) ∧
                      ((k = k) ∧ ((n = n) ∧ ((([] : List T) = (Prod.fst (Prod.snd x))) ∧ ((c = c) ∧ ((y = y) ∧ ((ok = (Prod.snd (Prod.snd x))) ∧ True)))))))))))))))))) ∧
         (∀ x : (Prod Nat (Prod (List T) Bool)),
           ((((Prod.fst x) ≤ (List.length ts)) ∧ (((List.length (Prod.fst (Prod.snd x))) = (Prod.fst x)) ∧ ((((Prod.fst (Prod.snd x)) ++ (mvL (shf y c) b k (Prod.fst x) (List.drop (Prod.fst x) ts))) = (mvL (shf y c) b k (0 : Nat) ts)) ∧ ((Bool.and (Prod.snd (Prod.snd x)) (List.all (vsL b k (Prod.fst x) (List.drop (Prod.fst x) ts)) (fun (p : (Prod Int Int)) => (shk y c (Prod.fst p) (Prod.snd p))))) = (Bool.and ok (List.all (vsL b k (0 : Nat) ts) (fun (p : (Prod Int Int)) => (shk y c (Prod.fst p) (Prod.snd p))))))))) →
            (Br (Decidable.decide ((((Prod.fst x) : Nat) : Int) < (((List.length ts) : Nat) : Int)))
              ((((0 : Int) ≤ (((Prod.fst x) : Nat) : Int)) ∧ ((((Prod.fst x) : Nat) : Int) < (((List.length ts) : Nat) : Int))) ∧
               (True ∧
                (((T.k (List.getD ts (Int.toNat (((Prod.fst x) : Nat) : Int)) (default : T))) = (T.k (List.getD ts (Int.toNat (((Prod.fst x) : Nat) : Int)) (default : T)))) ∧
                 (((T.n (List.getD ts (Int.toNat (((Prod.fst x) : Nat) : Int)) (default : T))) = (T.n (List.getD ts (Int.toNat (((Prod.fst x) : Nat) : Int)) (default : T)))) ∧
                  (((T.kids (List.getD ts (Int.toNat (((Prod.fst x) : Nat) : Int)) (default : T))) = (T.kids (List.getD ts (Int.toNat (((Prod.fst x) : Nat) : Int)) (default : T)))) ∧
                   (((Prod.fst (Prod.snd x)) = (Prod.fst (Prod.snd x))) ∧
                    ((InR (b + (und k (((Prod.fst x) : Nat) : Int)))) ∧
                     ((((T.size (T.mk (T.k (List.getD ts (Int.toNat (((Prod.fst x) : Nat) : Int)) (default : T))) (T.n (List.getD ts (Int.toNat (((Prod.fst x) : Nat) : Int)) (default : T))) (T.kids (List.getD ts (Int.toNat (((Prod.fst x) : Nat) : Int)) (default : T))))) < m) ∧
                       ((∃ d : Int,
                          (((T.shp (T.mk (T.k (List.getD ts (Int.toNat (((Prod.fst x) : Nat) : Int)) (default : T))) (T.n (List.getD ts (Int.toNat (((Prod.fst x) : Nat) : Int)) (default : T))) (T.kids (List.getD ts (Int.toNat (((Prod.fst x) : Nat) : Int)) (default : T)))) d) = true) ∧
                           (((0 : Int) ≤ (b + (und k (((Prod.fst x) : Nat) : Int)))) ∧ (((b + (und k (((Prod.fst x) : Nat) : Int))) + d) ≤ (60 : Int))))) ∧
                        (((0 : Int) ≤ c) ∧ ((c ≤ (20 : Int)) ∧ (((- (100 : Int)) ≤ y) ∧ (y ≤ (100 : Int))))))) ∧
                      (((Prod.fst (Prod.snd x)) = (Prod.fst (Prod.snd x))) ∧
                       ((((((List.length (Prod.fst (Prod.snd x))) : Nat) : Int) + (1 : Int)) ≤ (1099511627776 : Int)) ∧
                        ((InR ((((Prod.fst x) : Nat) : Int) + (1 : Int))) ∧
                         (∃ y1 : (Prod Nat (Prod (List T) Bool)),
                           ((((Prod.fst y1) ≤ (List.length ts)) ∧
                             (((List.length (Prod.fst (Prod.snd y1))) = (Prod.fst y1)) ∧
                              ((((Prod.fst (Prod.snd y1)) ++ (mvL (shf y c) b k (Prod.fst y1) (List.drop (Prod.fst y1) ts))) = (mvL (shf y c) b k (0 : Nat) ts)) ∧
                               ((Bool.and (Prod.snd (Prod.snd y1)) (List.all (vsL b k (Prod.fst y1) (List.drop (Prod.fst y1) ts)) (fun (p : (Prod Int Int)) => (shk y c (Prod.fst p) (Prod.snd p))))) = (Bool.and ok (List.all (vsL b k (0 : Nat) ts) (fun (p : (Prod Int Int)) => (shk y c (Prod.fst p) (Prod.snd p))))))))) ∧
                            ((b = b) ∧
                             ((ts = ts) ∧
                              (((((List.length ts) : Nat) : Int) = (((List.length ts) : Nat) : Int)) ∧
                               ((((((Prod.fst x) : Nat) : Int) + (1 : Int)) = (((Prod.fst y1) : Nat) : Int)) ∧
                                ((k = k) ∧
                                 ((n = n) ∧
                                  ((ts = ts) ∧
                                   (((0 : Int) = (0 : Int)) ∧
                                    (((0 : Int) = (0 : Int)) ∧
                                     ((([] : List T) = ([] : List T)) ∧
                                      ((k = k) ∧
                                       ((n = n) ∧
                                        ((((Prod.fst (Prod.snd x)) ++ [(T.mk (T.k (T.mv (shf y c) (b + (und k (((Prod.fst x) : Nat) : Int))) (T.mk (T.k (List.getD ts (Int.toNat (((Prod.fst x) : Nat) : Int)) (default : T))) (T.n (List.getD ts (Int.toNat (((Prod.fst x) : Nat) : Int)) (default : T))) (T.kids (List.getD ts (Int.toNat (((Prod.fst x) : Nat) : Int)) (default : T)))))) (T.n (T.mv (shf y c) (b + (und k (((Prod.fst x) : Nat) : Int))) (T.mk (T.k (List.getD ts (Int.toNat (((Prod.fst x) : Nat) : Int)) (default : T))) (T.n (List.getD ts (Int.toNat (((Prod.fst x) : Nat) : Int)) (default : T))) (T.kids (List.getD ts (Int.toNat (((Prod.fst x) : Nat) : Int)) (default : T)))))) (T.kids (T.mv (shf y c) (b + (und k (((Prod.fst x) : Nat) : Int))) (T.mk (T.k (List.getD ts (Int.toNat (((Prod.fst x) : Nat) : Int)) (default : T))) (T.n (List.getD ts (Int.toNat (((Prod.fst x) : Nat) : Int)) (default : T))) (T.kids (List.getD ts (Int.toNat (((Prod.fst x) : Nat) : Int)) (default : T)))))))]) = (Prod.fst (Prod.snd y1))) ∧
                                         ((c = c) ∧
                                          ((y = y) ∧
                                           (((Bool.and (Prod.snd (Prod.snd x)) (List.all (T.vs (b + (und k (((Prod.fst x) : Nat) : Int))) (T.mk (T.k (List.getD ts (Int.toNat (((Prod.fst x) : Nat) : Int)) (default : T))) (T.n (List.getD ts (Int.toNat (((Prod.fst x) : Nat) : Int)) (default : T))) (T.kids (List.getD ts (Int.toNat (((Prod.fst x) : Nat) : Int)) (default : T))))) (fun (p : (Prod Int Int)) => (shk y c (Prod.fst p) (Prod.snd p))))) = (Prod.snd (Prod.snd y1))) ∧
                                            ((Nat.succ ((List.length ts) - (Prod.fst y1))) ≤ ((List.length ts) - (Prod.fst x))))))))))))))))))))))))))))))))
              (Ret K (.st [(.int .i64 k), (.int .i64 n), (.slc (Prod.fst (Prod.snd x)) (.iv (4 : Nat) (4 : Nat) true (.tok (0 : Nat))))]) [(.int .i64 c), (.int .i64 y), (.bool (Prod.snd (Prod.snd x)))]))))))) ?_ (by kernel_rfl)
  obtain ⟨⟨d, hd, hb, hbd⟩, hc⟩ := hp
  have hd1 := T.shp_pos hd
  refine br (fun h => ?_) (fun h => ?_)
  · have h := of_decide_eq_true h
    subst h
    have hr := (T.shp_root hd).2
    rw [show mostN 1 = 20 from rfl] at hr
    rw [T.mv_var, T.vs_var] at hk
    refine ⟨⟨by omega, by omega, by omega, by omega, hc⟩, fin hk (by repeat' first | trivial | rfl | (simp; done) | apply And.intro) (by repeat' first | trivial | rfl | (simp; done) | apply And.intro)⟩
  · have h := of_decide_eq_false h
    rw [T.mv_node h, T.vs_node h] at hk
    have hsh := T.shp_kids hd
    have hm' : 1 + sizeL ts < m + 1 := hm
    have hll := length_le_sizeL ts
    have har := (T.shp_root hd).1
    have har2 := (arity_range k).2
    refine ⟨⟨(0, ([], ok)), ⟨Nat.zero_le _, rfl, rfl, rfl⟩, (by repeat' first | trivial | rfl | (simp; done) | apply And.intro)⟩, ?_⟩
    rintro ⟨i, ⟨acc, o⟩⟩ ⟨g1, g2, g3, g4⟩
    simp only at g1 g2 g3 g4
    refine br (fun h => ?_) (fun h => ?_)
    · have h := of_decide_eq_true h
      simp only at h
      have hi : i < ts.length := by omega
      have hmem := getD_mem hi
      have hs := sizeL_mem hmem
      have hu := und_range k i
      rw [drop_getD hi] at g3 g4
      simp only [mvL, vsL, List.all_append] at g3 g4
      simp only [Int.toNat_natCast, T.eta]
      refine ⟨⟨by omega, by omega⟩, (by first | trivial | rfl | (simp; done)), (by first | trivial | rfl | (simp; done)), (by first | trivial | rfl | (simp; done)), (by first | trivial | rfl | (simp; done)), (by first | trivial | rfl | (simp; done)), by unfold InR; omega, ⟨by omega, ⟨d - 1, shpL_mem hsh hmem, by omega, by omega⟩, hc⟩, (by first | trivial | rfl | (simp; done)), by omega, by unfold InR; omega, (i + 1, (acc ++ [(ts.getD i default).mv (shf y c) (b + und k i)], o && ((ts.getD i default).vs (b + und k i)).all fun p => shk y c p.1 p.2)), ⟨by show i + 1 ≤ _; omega, by show (acc ++ [_]).length = i + 1; simp [g2], ?_, ?_⟩, (by repeat' first | trivial | rfl | (simp; done) | (dsimp only; omega) | omega | apply And.intro)⟩
      · show (acc ++ [_]) ++ mvL (shf y c) b k (i + 1) (ts.drop (i + 1)) = _
        rw [← g3]; simp
      · show ((o && _) && _) = _
        rw [← g4, Bool.and_assoc]
    · have h := of_decide_eq_false h
      simp only at h
      have hi : ¬ i < ts.length := by omega
      rw [drop_len hi] at g3 g4
      simp only [mvL, vsL, List.append_nil, List.all_nil, Bool.and_true] at g3 g4
      rw [← g3, ← g4] at hk
      exact fin hk (by repeat' first | trivial | rfl | (simp; done) | apply And.intro) (by repeat' first | trivial | rfl | (simp; done) | apply And.intro)
theorem chShift_soundM : ∀ m : Nat, Sound Try.prog 109 (cchShiftM m)
  | 0 => by
      refine soundF (G := []) gnil Try.func109 rfl (by kernel_rfl) fun args hs K hCC => ?_
      unfold cchShiftM at hCC
      split at hCC
      case h_2 => exact hCC.elim
      exact absurd hCC.1.1 (Nat.not_lt_zero _)
  | m + 1 => by
      refine soundF (G := [(109, cchShiftM m), (119, cUnder), (120, cshiftC)]) ((gcons (chShift_soundM m) (gcons Under_sound (gcons shiftC_sound gnil)))) Try.func109 rfl (by kernel_rfl) fun args hs K hCC => ?_
      unfold cchShiftM at hCC
      split at hCC
      case h_2 => exact hCC.elim
      rename_i k n ts b c y ok
      exact ⟨Nat.le_of_ble_eq_true rfl, _, chShift_ok m k n ts b c y ok K hCC.1.1 hCC.1.2 hCC.2⟩
theorem chShift_sound : Sound Try.prog 109 cchShift := by
  refine sound_of_all (c := cchShiftM) (fun m => (chShift_soundM m)) fun args hs K hCC => ?_
  unfold cchShift at hCC
  split at hCC
  case h_2 => exact hCC.elim
  exact ⟨_, ⟨Nat.lt_succ_self _, hCC.1⟩, hCC.2⟩
/-- What the program's shift says. -/
def T.shO (y c : Int) (t : T) : Bool := (t.vs 0).all (fun p => shk y c p.1 p.2) && (t.mv (shf y c) 0).valid
def T.shR (y c : Int) (t : T) : T := if t.shO y c = true then t.mv (shf y c) 0 else .mk 0 0 []
/-- impl.shift -/
def cShift : Con
  | [.st [.int .i64 k, .int .i64 n, .slc ts (.arg 0)], .int .i64 (y), .int .i64 (c)], [], K => (((T.mk k n ts).shp 30 = true) ∧ (0 ≤ c ∧ c ≤ 20 ∧ -100 ≤ y ∧ y ≤ 100)) ∧ ((K (.tup [((T.mk k n ts).shR y c).fr, .bool ((T.mk k n ts).shO y c)]) []))
  | _, _, _ => False
theorem Shift_ok (k n : Int) (ts : List T) (y c : Int) (K : AV → List AV → Prop) (hp : (((T.mk k n ts).shp 30 = true) ∧ (0 ≤ c ∧ c ≤ 20 ∧ -100 ≤ y ∧ y ≤ 100))) (hk : ((K (.tup [((T.mk k n ts).shR y c).fr, .bool ((T.mk k n ts).shO y c)]) []))) :
    bodyQ [(109, cchShift), (87, cValid)] TY [] Try.f111 (body Try.f111) [.st [.int .i64 k, .int .i64 n, .slc ts (.arg 0)], .int .i64 (y), .int .i64 (c)] [] K := by
  refine of_vc (A :=
      (((∃ d : Int, (((T.shp (T.mk k n ts) d) = true) ∧ (((0 : Int) ≤ (0 : Int)) ∧ (((0 : Int) + d) ≤ (60 : Int))))) ∧
        (((0 : Int) ≤ c) ∧ ((c ≤ (20 : Int)) ∧ (((- (100 : Int)) ≤ y) ∧ (y ≤ (100 : Int)))))) ∧
       (Br (Bool.not (Bool.and true (List.all (T.vs (0 : Int) (T.mk k n ts)) (fun (p : (Prod Int Int)) => (shk y c (Prod.fst p) (Prod.snd p))))))
         (Ret K (.tup [(.st [(.int .i64 (0 : Int)), (.int .i64 (0 : Int)), (.slc ([] : List T) (.iv (0 : Nat) (0 : Nat) true .full))]), (.bool false)]) [])
         (True ∧
          ((((T.valid (T.mk (T.k (T.mv (shf y c) (0 : Int) (T.mk k n ts))) (T.n (T.mv (shf y c) (0 : Int) (T.mk k n ts))) (T.kids (T.mv (shf y c) (0 : Int) (T.mk k n ts))))) = true) →
            (Ret K (.tup [(.st [(.int .i64 (T.k (T.mv (shf y c) (0 : Int) (T.mk k n ts)))), (.int .i64 (T.n (T.mv (shf y c) (0 : Int) (T.mk k n ts)))), (.slc (T.kids (T.mv (shf y c) (0 : Int) (T.mk k n ts))) (.iv (4 : Nat) (4 : Nat) true (.tok (0 : Nat))))]), (.bool true)]) [])) ∧
           (((T.valid (T.mk (T.k (T.mv (shf y c) (0 : Int) (T.mk k n ts))) (T.n (T.mv (shf y c) (0 : Int) (T.mk k n ts))) (T.kids (T.mv (shf y c) (0 : Int) (T.mk k n ts))))) = false) →
            (Ret K (.tup [(.st [(.int .i64 (0 : Int)), (.int .i64 (0 : Int)), (.slc ([] : List T) (.iv (4 : Nat) (4 : Nat) true (.tok (0 : Nat))))]), (.bool false)]) []))))))) ?_ (by kernel_rfl)
  refine ⟨⟨⟨30, hp.1, by omega, by omega⟩, hp.2⟩, br (fun h => ?_) (fun h => ⟨trivial, fun hv => ?_, fun hv => ?_⟩)⟩
  · have e : (T.mk k n ts).shO y c = false := by unfold T.shO; simp only [Bool.true_and] at h; rw [Bool.not_eq_true'] at h; rw [h]; rfl
    unfold T.shR at hk
    rw [e, if_neg (by simp)] at hk
    exact fin hk (by repeat' first | trivial | rfl | (simp; done) | apply And.intro) (by repeat' first | trivial | rfl | (simp; done) | apply And.intro)
  · rw [T.eta] at hv
    have e : (T.mk k n ts).shO y c = true := by unfold T.shO; simp only [Bool.true_and] at h; rw [Bool.not_eq_false'] at h; rw [h, hv]; rfl
    unfold T.shR at hk
    rw [e, if_pos rfl] at hk
    exact fin hk (by repeat' first | trivial | rfl | (simp; done) | apply And.intro) (by repeat' first | trivial | rfl | (simp; done) | apply And.intro)
  · rw [T.eta] at hv
    have e : (T.mk k n ts).shO y c = false := by unfold T.shO; rw [hv, Bool.and_false]
    unfold T.shR at hk
    rw [e, if_neg (by simp)] at hk
    exact fin hk (by repeat' first | trivial | rfl | (simp; done) | apply And.intro) (by repeat' first | trivial | rfl | (simp; done) | apply And.intro)
theorem Shift_sound : Sound Try.prog 111 cShift := by
  refine soundF (G := [(109, cchShift), (87, cValid)]) ((gcons chShift_sound (gcons Valid_sound gnil))) Try.func111 rfl (by kernel_rfl) fun args hs K hCC => ?_
  unfold cShift at hCC
  split at hCC
  case h_2 => exact hCC.elim
  rename_i k n ts y c
  exact ⟨Nat.le_of_ble_eq_true rfl, _, Shift_ok k n ts y c K hCC.1 hCC.2⟩
def sbfI (j : Int) (u : T) (b n : Int) : T := if n - b = j then u.shR b 0 else if j < n - b then vr (n - 1) else vr n
def sbk (j : Int) (u : T) (b n : Int) : Bool := if n - b = j then u.shO b 0 else true
/-- impl.subst$1 -/
def csubstC : Con
  | [.int .i64 (n), .int .i64 (b), .fptr 0, .fptr 1, .fptr 2], [.int .i64 (j), .st [.int .i64 (ku), .int .i64 (nu), .slc us .any], .bool ok], K => ((0 ≤ n ∧ n ≤ 20 ∧ 0 ≤ b ∧ b ≤ 60 ∧ 0 ≤ j ∧ j ≤ 20 ∧ (T.mk ku nu us).valid = true)) ∧ ((K ((sbfI j (.mk ku nu us) b n).fr) [.int .i64 (j), .st [.int .i64 (ku), .int .i64 (nu), .slc us .any], .bool (ok && sbk j (.mk ku nu us) b n)]))
  | _, _, _ => False
theorem substC_ok (n b j : Int) (ku nu : Int) (us : List T) (ok : Bool) (K : AV → List AV → Prop) (hp : ((0 ≤ n ∧ n ≤ 20 ∧ 0 ≤ b ∧ b ≤ 60 ∧ 0 ≤ j ∧ j ≤ 20 ∧ (T.mk ku nu us).valid = true))) (hk : ((K ((sbfI j (.mk ku nu us) b n).fr) [.int .i64 (j), .st [.int .i64 (ku), .int .i64 (nu), .slc us .any], .bool (ok && sbk j (.mk ku nu us) b n)]))) :
    bodyQ [(112, cVariable), (111, cShift)] TY [] Try.f110 (body Try.f110) [.int .i64 (n), .int .i64 (b), .fptr 0, .fptr 1, .fptr 2] [.int .i64 (j), .st [.int .i64 (ku), .int .i64 (nu), .slc us .any], .bool ok] K := by
  refine of_vc (A :=
      ((InR (n - b)) ∧
       (Br (Decidable.decide ((n - b) = j))
         ((((T.shp (T.mk ku nu us) (30 : Int)) = true) ∧ (((0 : Int) ≤ (0 : Int)) ∧ (((0 : Int) ≤ (20 : Int)) ∧ (((- (100 : Int)) ≤ b) ∧ (b ≤ (100 : Int)))))) ∧
          (Br ok
            (Ret K (.st [(.int .i64 (T.k (T.shR b (0 : Int) (T.mk ku nu us)))), (.int .i64 (T.n (T.shR b (0 : Int) (T.mk ku nu us)))), (.slc (T.kids (T.shR b (0 : Int) (T.mk ku nu us))) (.iv (4 : Nat) (4 : Nat) true (.tok (0 : Nat))))]) [(.int .i64 j), (.st [(.int .i64 ku), (.int .i64 nu), (.slc us .any)]), (.bool (T.shO b (0 : Int) (T.mk ku nu us)))])
            (Ret K (.st [(.int .i64 (T.k (T.shR b (0 : Int) (T.mk ku nu us)))), (.int .i64 (T.n (T.shR b (0 : Int) (T.mk ku nu us)))), (.slc (T.kids (T.shR b (0 : Int) (T.mk ku nu us))) (.iv (4 : Nat) (4 : Nat) true (.tok (0 : Nat))))]) [(.int .i64 j), (.st [(.int .i64 ku), (.int .i64 nu), (.slc us .any)]), (.bool false)])))
         (Br (Decidable.decide (j < (n - b)))
           ((InR (n - (1 : Int))) ∧
            (True ∧
             (Ret K (.st [(.int .i64 (1 : Int)), (.int .i64 (T.n (T.mk (1 : Int) (n - (1 : Int)) ([] : List T)))), (.slc ([] : List T) (.iv (4 : Nat) (4 : Nat) true (.tok (0 : Nat))))]) [(.int .i64 j), (.st [(.int .i64 ku), (.int .i64 nu), (.slc us .any)]), (.bool ok)])))
           (True ∧
            (Ret K (.st [(.int .i64 (1 : Int)), (.int .i64 (T.n (T.mk (1 : Int) n ([] : List T)))), (.slc ([] : List T) (.iv (4 : Nat) (4 : Nat) true (.tok (0 : Nat))))]) [(.int .i64 j), (.st [(.int .i64 ku), (.int .i64 nu), (.slc us .any)]), (.bool ok)])))))) ?_ (by kernel_rfl)
  obtain ⟨h0, h1, h2, h3, h4, h5, h6⟩ := hp
  unfold sbfI sbk at hk
  refine ⟨by unfold InR; omega, br (fun g => ⟨⟨T.valid_shp h6, by omega, by omega, by omega, by omega⟩, br (fun g2 => ?_) (fun g2 => ?_)⟩) (fun g => br (fun g2 => ⟨by unfold InR; omega, trivial, ?_⟩) (fun g2 => ⟨trivial, ?_⟩))⟩
  · rw [if_pos (of_decide_eq_true g), if_pos (of_decide_eq_true g), g2] at hk
    exact fin hk (by repeat' first | trivial | rfl | (simp; done) | apply And.intro) (by repeat' first | trivial | rfl | (simp; done) | apply And.intro)
  · rw [if_pos (of_decide_eq_true g), if_pos (of_decide_eq_true g), g2] at hk
    exact fin hk (by repeat' first | trivial | rfl | (simp; done) | apply And.intro) (by repeat' first | trivial | rfl | (simp; done) | apply And.intro)
  · rw [if_neg (of_decide_eq_false g), if_neg (of_decide_eq_false g), if_pos (of_decide_eq_true g2)] at hk
    exact fin hk (by repeat' first | trivial | rfl | (simp; done) | apply And.intro) (by repeat' first | trivial | rfl | (simp; done) | apply And.intro)
  · rw [if_neg (of_decide_eq_false g), if_neg (of_decide_eq_false g), if_neg (of_decide_eq_false g2)] at hk
    exact fin hk (by repeat' first | trivial | rfl | (simp; done) | apply And.intro) (by repeat' first | trivial | rfl | (simp; done) | apply And.intro)
theorem substC_sound : Sound Try.prog 110 csubstC := by
  refine soundF (G := [(112, cVariable), (111, cShift)]) ((gcons Variable_sound (gcons Shift_sound gnil))) Try.func110 rfl (by kernel_rfl) fun args hs K hCC => ?_
  unfold csubstC at hCC
  split at hCC
  case h_2 => exact hCC.elim
  rename_i n b j ku nu us ok
  exact ⟨Nat.le_of_ble_eq_true rfl, _, substC_ok n b j ku nu us ok K hCC.1 hCC.2⟩
/-- impl.changed -/
def cchSubstM (m : Nat) : Con
  | [.st [.int .i64 k, .int .i64 n, .slc ts (.arg 0)], .int .i64 (b), .fn 110 [.fptr 0, .fptr 1, .fptr 2]], [.int .i64 (j), .st [.int .i64 (ku), .int .i64 (nu), .slc us .any], .bool ok], K => (((T.mk k n ts).size) < m ∧ ((∃ d, (T.mk k n ts).shp d = true ∧ 0 ≤ b ∧ b + d ≤ 60) ∧ (0 ≤ j ∧ j ≤ 20 ∧ (T.mk ku nu us).valid = true))) ∧ ((K (((T.mk k n ts).mv (sbfI j (.mk ku nu us)) b).fr) [.int .i64 (j), .st [.int .i64 (ku), .int .i64 (nu), .slc us .any], .bool (ok && ((T.mk k n ts).vs b).all fun p => sbk j (.mk ku nu us) p.1 p.2)]))
  | _, _, _ => False
def cchSubst : Con
  | [.st [.int .i64 k, .int .i64 n, .slc ts (.arg 0)], .int .i64 (b), .fn 110 [.fptr 0, .fptr 1, .fptr 2]], [.int .i64 (j), .st [.int .i64 (ku), .int .i64 (nu), .slc us .any], .bool ok], K => ((∃ d, (T.mk k n ts).shp d = true ∧ 0 ≤ b ∧ b + d ≤ 60) ∧ (0 ≤ j ∧ j ≤ 20 ∧ (T.mk ku nu us).valid = true)) ∧ ((K (((T.mk k n ts).mv (sbfI j (.mk ku nu us)) b).fr) [.int .i64 (j), .st [.int .i64 (ku), .int .i64 (nu), .slc us .any], .bool (ok && ((T.mk k n ts).vs b).all fun p => sbk j (.mk ku nu us) p.1 p.2)]))
  | _, _, _ => False
theorem chSubst_ok (m : Nat) (k n : Int) (ts : List T) (b : Int) (j : Int) (ku nu : Int) (us : List T) (ok : Bool) (K : AV → List AV → Prop) (hm : ((T.mk k n ts).size) < m + 1) (hp : ((∃ d, (T.mk k n ts).shp d = true ∧ 0 ≤ b ∧ b + d ≤ 60) ∧ (0 ≤ j ∧ j ≤ 20 ∧ (T.mk ku nu us).valid = true))) (hk : ((K (((T.mk k n ts).mv (sbfI j (.mk ku nu us)) b).fr) [.int .i64 (j), .st [.int .i64 (ku), .int .i64 (nu), .slc us .any], .bool (ok && ((T.mk k n ts).vs b).all fun p => sbk j (.mk ku nu us) p.1 p.2)]))) :
    bodyQ [(109, cchSubstM m), (119, cUnder), (110, csubstC)] TY [(5, { ι := Nat × (List T × Bool), ok := fun x => x.1 ≤ ts.length ∧ x.2.1.length = x.1 ∧ x.2.1 ++ mvL (sbfI j (.mk ku nu us)) b k x.1 (ts.drop x.1) = mvL (sbfI j (.mk ku nu us)) b k 0 ts ∧ (x.2.2 && (vsL b k x.1 (ts.drop x.1)).all fun p => sbk j (.mk ku nu us) p.1 p.2) = (ok && (vsL b k 0 ts).all fun p => sbk j (.mk ku nu us) p.1 p.2), tl := fun x => [(1, .int .i64 (b)), (2, (.fn 110 [(.fptr 0), (.fptr 1), (.fptr 2)])), (3, (.ptr 3)), (6, (.ptr 6)), (7, (.ptr 7)), (24, .slc ts (.arg 0)), (25, .int .i64 ts.length), (26, .int .i64 x.1)], hl := fun x => [(3, .st [.int .i64 k, .int .i64 n, .slc ts (.arg 0)]), (6, (T.mk 0 0 []).av (.iv 0 0 true .full)), (7, .st [.int .i64 k, .int .i64 n, .slc x.2.1 (.iv 4 4 true (.tok 43))])], fh := fun x => [.int .i64 (j), .st [.int .i64 (ku), .int .i64 (nu), .slc us .any], .bool x.2.2], μ := fun x => ts.length - x.1 })] Try.f109 (body Try.f109) [.st [.int .i64 k, .int .i64 n, .slc ts (.arg 0)], .int .i64 (b), .fn 110 [.fptr 0, .fptr 1, .fptr 2]] [.int .i64 (j), .st [.int .i64 (ku), .int .i64 (nu), .slc us .any], .bool ok] K := by
  refine of_vc (A :=
      (Br (Decidable.decide (k = (1 : Int)))
        ((((0 : Int) ≤ n) ∧ ((n ≤ (20 : Int)) ∧ (((0 : Int) ≤ b) ∧ ((b ≤ (60 : Int)) ∧ (((0 : Int) ≤ j) ∧ ((j ≤ (20 : Int)) ∧ ((T.valid (T.mk ku nu us)) = true))))))) ∧
         (Ret K (.st [(.int .i64 (T.k (sbfI j (T.mk ku nu us) b n))), (.int .i64 (T.n (sbfI j (T.mk ku nu us) b n))), (.slc (T.kids (sbfI j (T.mk ku nu us) b n)) (.iv (4 : Nat) (4 : Nat) true (.tok (0 : Nat))))]) [(.int .i64 j), (.st [(.int .i64 ku), (.int .i64 nu), (.slc us .any)]), (.bool (Bool.and ok (sbk j (T.mk ku nu us) b n)))]))
        ((∃ x : (Prod Nat (Prod (List T) Bool)),
           ((((Prod.fst x) ≤ (List.length ts)) ∧
             (((List.length (Prod.fst (Prod.snd x))) = (Prod.fst x)) ∧
              ((((Prod.fst (Prod.snd x)) ++ (mvL (sbfI j (T.mk ku nu us)) b k (Prod.fst x) (List.drop (Prod.fst x) ts))) = (mvL (sbfI j (T.mk ku nu us)) b k (0 : Nat) ts)) ∧
               ((Bool.and (Prod.snd (Prod.snd x)) (List.all (vsL b k (Prod.fst x) (List.drop (Prod.fst x) ts)) (fun (p : (Prod Int Int)) => (sbk j (T.mk ku nu us) (Prod.fst p) (Prod.snd p))))) = (Bool.and ok (List.all (vsL b k (0 : Nat) ts) (fun (p : (Prod Int Int)) => (sbk j (T.mk ku nu us) (Prod.fst p) (Prod.snd p))))))))) ∧
            ((b = b) ∧
             ((ts = ts) ∧
              (((((List.length ts) : Nat) : Int) = (((List.length ts) : Nat) : Int)) ∧
               (((0 : Int) = (((Prod.fst x) : Nat) : Int)) ∧
                ((k = k) ∧
                 ((n = n) ∧
                  ((ts = ts) ∧
                   (((0 : Int) = (0 : Int)) ∧
                    (((0 : Int) = (0 : Int)) ∧
                     ((([] : List T) = ([] : List T)) ∧
                      ((k = k) ∧
                       ((n = n) ∧ ((([] : List T) = (Prod.fst (Prod.snd x))) ∧ ((j = j) ∧ ((ku = ku) ∧ ((nu = nu) ∧ ((us = us) ∧ ((ok = (Prod.snd (Prod.snd x))) ∧ True)))))))))))))))))))) ∧
         (∀ x : (Prod Nat (Prod (List T) Bool)),
           ((((Prod.fst x) ≤ (List.length ts)) ∧ (((List.length (Prod.fst (Prod.snd x))) = (Prod.fst x)) ∧ ((((Prod.fst (Prod.snd x)) ++ (mvL (sbfI j (T.mk ku nu us)) b k (Prod.fst x) (List.drop (Prod.fst x) ts))) = (mvL (sbfI j (T.mk ku nu us)) b k (0 : Nat) ts)) ∧ ((Bool.and (Prod.snd (Prod.snd x)) (List.all (vsL b k (Prod.fst x) (List.drop (Prod.fst x) ts)) (fun (p : (Prod Int Int)) => (sbk j (T.mk ku nu us) (Prod.fst p) (Prod.snd p))))) = (Bool.and ok (List.all (vsL b k (0 : Nat) ts) (fun (p : (Prod Int Int)) => (sbk j (T.mk ku nu us) (Prod.fst p) (Prod.snd p))))))))) →
            (Br (Decidable.decide ((((Prod.fst x) : Nat) : Int) < (((List.length ts) : Nat) : Int)))
              ((((0 : Int) ≤ (((Prod.fst x) : Nat) : Int)) ∧ ((((Prod.fst x) : Nat) : Int) < (((List.length ts) : Nat) : Int))) ∧
               (True ∧
                (((T.k (List.getD ts (Int.toNat (((Prod.fst x) : Nat) : Int)) (default : T))) = (T.k (List.getD ts (Int.toNat (((Prod.fst x) : Nat) : Int)) (default : T)))) ∧
                 (((T.n (List.getD ts (Int.toNat (((Prod.fst x) : Nat) : Int)) (default : T))) = (T.n (List.getD ts (Int.toNat (((Prod.fst x) : Nat) : Int)) (default : T)))) ∧
                  (((T.kids (List.getD ts (Int.toNat (((Prod.fst x) : Nat) : Int)) (default : T))) = (T.kids (List.getD ts (Int.toNat (((Prod.fst x) : Nat) : Int)) (default : T)))) ∧
                   (((Prod.fst (Prod.snd x)) = (Prod.fst (Prod.snd x))) ∧
                    ((InR (b + (und k (((Prod.fst x) : Nat) : Int)))) ∧
                     ((((T.size (T.mk (T.k (List.getD ts (Int.toNat (((Prod.fst x) : Nat) : Int)) (default : T))) (T.n (List.getD ts (Int.toNat (((Prod.fst x) : Nat) : Int)) (default : T))) (T.kids (List.getD ts (Int.toNat (((Prod.fst x) : Nat) : Int)) (default : T))))) < m) ∧
                       ((∃ d : Int,
                          (((T.shp (T.mk (T.k (List.getD ts (Int.toNat (((Prod.fst x) : Nat) : Int)) (default : T))) (T.n (List.getD ts (Int.toNat (((Prod.fst x) : Nat) : Int)) (default : T))) (T.kids (List.getD ts (Int.toNat (((Prod.fst x) : Nat) : Int)) (default : T)))) d) = true) ∧
                           (((0 : Int) ≤ (b + (und k (((Prod.fst x) : Nat) : Int)))) ∧ (((b + (und k (((Prod.fst x) : Nat) : Int))) + d) ≤ (60 : Int))))) ∧
                        (((0 : Int) ≤ j) ∧ ((j ≤ (20 : Int)) ∧ ((T.valid (T.mk ku nu us)) = true))))) ∧
                      (((Prod.fst (Prod.snd x)) = (Prod.fst (Prod.snd x))) ∧
                       ((((((List.length (Prod.fst (Prod.snd x))) : Nat) : Int) + (1 : Int)) ≤ (1099511627776 : Int)) ∧
                        ((InR ((((Prod.fst x) : Nat) : Int) + (1 : Int))) ∧
                         (∃ y : (Prod Nat (Prod (List T) Bool)),
                           ((((Prod.fst y) ≤ (List.length ts)) ∧
                             (((List.length (Prod.fst (Prod.snd y))) = (Prod.fst y)) ∧
                              ((((Prod.fst (Prod.snd y)) ++ (mvL (sbfI j (T.mk ku nu us)) b k (Prod.fst y) (List.drop (Prod.fst y) ts))) = (mvL (sbfI j (T.mk ku nu us)) b k (0 : Nat) ts)) ∧
                               ((Bool.and (Prod.snd (Prod.snd y)) (List.all (vsL b k (Prod.fst y) (List.drop (Prod.fst y) ts)) (fun (p : (Prod Int Int)) => (sbk j (T.mk ku nu us) (Prod.fst p) (Prod.snd p))))) = (Bool.and ok (List.all (vsL b k (0 : Nat) ts) (fun (p : (Prod Int Int)) => (sbk j (T.mk ku nu us) (Prod.fst p) (Prod.snd p))))))))) ∧
                            ((b = b) ∧
                             ((ts = ts) ∧
                              (((((List.length ts) : Nat) : Int) = (((List.length ts) : Nat) : Int)) ∧
                               ((((((Prod.fst x) : Nat) : Int) + (1 : Int)) = (((Prod.fst y) : Nat) : Int)) ∧
                                ((k = k) ∧
                                 ((n = n) ∧
                                  ((ts = ts) ∧
                                   (((0 : Int) = (0 : Int)) ∧
                                    (((0 : Int) = (0 : Int)) ∧
                                     ((([] : List T) = ([] : List T)) ∧
                                      ((k = k) ∧
                                       ((n = n) ∧
                                        ((((Prod.fst (Prod.snd x)) ++ [(T.mk (T.k (T.mv (sbfI j (T.mk ku nu us)) (b + (und k (((Prod.fst x) : Nat) : Int))) (T.mk (T.k (List.getD ts (Int.toNat (((Prod.fst x) : Nat) : Int)) (default : T))) (T.n (List.getD ts (Int.toNat (((Prod.fst x) : Nat) : Int)) (default : T))) (T.kids (List.getD ts (Int.toNat (((Prod.fst x) : Nat) : Int)) (default : T)))))) (T.n (T.mv (sbfI j (T.mk ku nu us)) (b + (und k (((Prod.fst x) : Nat) : Int))) (T.mk (T.k (List.getD ts (Int.toNat (((Prod.fst x) : Nat) : Int)) (default : T))) (T.n (List.getD ts (Int.toNat (((Prod.fst x) : Nat) : Int)) (default : T))) (T.kids (List.getD ts (Int.toNat (((Prod.fst x) : Nat) : Int)) (default : T)))))) (T.kids (T.mv (sbfI j (T.mk ku nu us)) (b + (und k (((Prod.fst x) : Nat) : Int))) (T.mk (T.k (List.getD ts (Int.toNat (((Prod.fst x) : Nat) : Int)) (default : T))) (T.n (List.getD ts (Int.toNat (((Prod.fst x) : Nat) : Int)) (default : T))) (T.kids (List.getD ts (Int.toNat (((Prod.fst x) : Nat) : Int)) (default : T)))))))]) = (Prod.fst (Prod.snd y))) ∧
                                         ((j = j) ∧
                                          ((ku = ku) ∧
                                           ((nu = nu) ∧
                                            ((us = us) ∧
                                             (((Bool.and (Prod.snd (Prod.snd x)) (List.all (T.vs (b + (und k (((Prod.fst x) : Nat) : Int))) (T.mk (T.k (List.getD ts (Int.toNat (((Prod.fst x) : Nat) : Int)) (default : T))) (T.n (List.getD ts (Int.toNat (((Prod.fst x) : Nat) : Int)) (default : T))) (T.kids (List.getD ts (Int.toNat (((Prod.fst x) : Nat) : Int)) (default : T))))) (fun (p : (Prod Int Int)) => (sbk j (T.mk ku nu us) (Prod.fst p) (Prod.snd p))))) = (Prod.snd (Prod.snd y))) ∧
                                              ((Nat.succ ((List.length ts) - (Prod.fst y))) ≤ ((List.length ts) - (Prod.fst x))))))))))))))))))))))))))))))))))
              (Ret K (.st [(.int .i64 k), (.int .i64 n), (.slc (Prod.fst (Prod.snd x)) (.iv (4 : Nat) (4 : Nat) true (.tok (0 : Nat))))]) [(.int .i64 j), (.st [(.int .i64 ku), (.int .i64 nu), (.slc us .any)]), (.bool (Prod.snd (Prod.snd x)))]))))))) ?_ (by kernel_rfl)
  obtain ⟨⟨d, hd, hb, hbd⟩, hc⟩ := hp
  have hd1 := T.shp_pos hd
  refine br (fun h => ?_) (fun h => ?_)
  · have h := of_decide_eq_true h
    subst h
    have hr := (T.shp_root hd).2
    rw [show mostN 1 = 20 from rfl] at hr
    rw [T.mv_var, T.vs_var] at hk
    refine ⟨⟨by omega, by omega, by omega, by omega, hc⟩, fin hk (by repeat' first | trivial | rfl | (simp; done) | apply And.intro) (by repeat' first | trivial | rfl | (simp; done) | apply And.intro)⟩
  · have h := of_decide_eq_false h
    rw [T.mv_node h, T.vs_node h] at hk
    have hsh := T.shp_kids hd
    have hm' : 1 + sizeL ts < m + 1 := hm
    have hll := length_le_sizeL ts
    have har := (T.shp_root hd).1
    have har2 := (arity_range k).2
    refine ⟨⟨(0, ([], ok)), ⟨Nat.zero_le _, rfl, rfl, rfl⟩, (by repeat' first | trivial | rfl | (simp; done) | apply And.intro)⟩, ?_⟩
    rintro ⟨i, ⟨acc, o⟩⟩ ⟨g1, g2, g3, g4⟩
    simp only at g1 g2 g3 g4
    refine br (fun h => ?_) (fun h => ?_)
    · have h := of_decide_eq_true h
      simp only at h
      have hi : i < ts.length := by omega
      have hmem := getD_mem hi
      have hs := sizeL_mem hmem
      have hu := und_range k i
      rw [drop_getD hi] at g3 g4
      simp only [mvL, vsL, List.all_append] at g3 g4
      simp only [Int.toNat_natCast, T.eta]
      refine ⟨⟨by omega, by omega⟩, (by first | trivial | rfl | (simp; done)), (by first | trivial | rfl | (simp; done)), (by first | trivial | rfl | (simp; done)), (by first | trivial | rfl | (simp; done)), (by first | trivial | rfl | (simp; done)), by unfold InR; omega, ⟨by omega, ⟨d - 1, shpL_mem hsh hmem, by omega, by omega⟩, hc⟩, (by first | trivial | rfl | (simp; done)), by omega, by unfold InR; omega, (i + 1, (acc ++ [(ts.getD i default).mv (sbfI j (.mk ku nu us)) (b + und k i)], o && ((ts.getD i default).vs (b + und k i)).all fun p => sbk j (.mk ku nu us) p.1 p.2)), ⟨by show i + 1 ≤ _; omega, by show (acc ++ [_]).length = i + 1; simp [g2], ?_, ?_⟩, (by repeat' first | trivial | rfl | (simp; done) | (dsimp only; omega) | omega | apply And.intro)⟩
      · show (acc ++ [_]) ++ mvL (sbfI j (.mk ku nu us)) b k (i + 1) (ts.drop (i + 1)) = _
        rw [← g3]; simp
      · show ((o && _) && _) = _
        rw [← g4, Bool.and_assoc]
    · have h := of_decide_eq_false h
      simp only at h
      have hi : ¬ i < ts.length := by omega
      rw [drop_len hi] at g3 g4
      simp only [mvL, vsL, List.append_nil, List.all_nil, Bool.and_true] at g3 g4
      rw [← g3, ← g4] at hk
      exact fin hk (by repeat' first | trivial | rfl | (simp; done) | apply And.intro) (by repeat' first | trivial | rfl | (simp; done) | apply And.intro)
theorem chSubst_soundM : ∀ m : Nat, Sound Try.prog 109 (cchSubstM m)
  | 0 => by
      refine soundF (G := []) gnil Try.func109 rfl (by kernel_rfl) fun args hs K hCC => ?_
      unfold cchSubstM at hCC
      split at hCC
      case h_2 => exact hCC.elim
      exact absurd hCC.1.1 (Nat.not_lt_zero _)
  | m + 1 => by
      refine soundF (G := [(109, cchSubstM m), (119, cUnder), (110, csubstC)]) ((gcons (chSubst_soundM m) (gcons Under_sound (gcons substC_sound gnil)))) Try.func109 rfl (by kernel_rfl) fun args hs K hCC => ?_
      unfold cchSubstM at hCC
      split at hCC
      case h_2 => exact hCC.elim
      rename_i k n ts b j ku nu us ok
      exact ⟨Nat.le_of_ble_eq_true rfl, _, chSubst_ok m k n ts b j ku nu us ok K hCC.1.1 hCC.1.2 hCC.2⟩
theorem chSubst_sound : Sound Try.prog 109 cchSubst := by
  refine sound_of_all (c := cchSubstM) (fun m => (chSubst_soundM m)) fun args hs K hCC => ?_
  unfold cchSubst at hCC
  split at hCC
  case h_2 => exact hCC.elim
  exact ⟨_, ⟨Nat.lt_succ_self _, hCC.1⟩, hCC.2⟩
/-- What the program's substitution says. -/
def T.sbO (t : T) (j : Int) (u : T) : Bool := (t.vs 0).all (fun p => sbk j u p.1 p.2) && (t.mv (sbfI j u) 0).valid
def T.sbR (t : T) (j : Int) (u : T) : T := if t.sbO j u = true then t.mv (sbfI j u) 0 else .mk 0 0 []
/-- impl.subst -/
def cSubst : Con
  | [.st [.int .i64 k, .int .i64 n, .slc ts (.arg 0)], .int .i64 (j), .st [.int .i64 ku, .int .i64 nu, .slc us (.arg 2)]], [], K => (((T.mk k n ts).shp 30 = true) ∧ (0 ≤ j ∧ j ≤ 20 ∧ (T.mk ku nu us).valid = true)) ∧ ((K (.tup [((T.mk k n ts).sbR j (.mk ku nu us)).fr, .bool ((T.mk k n ts).sbO j (.mk ku nu us))]) []))
  | _, _, _ => False
theorem Subst_ok (k n : Int) (ts : List T) (j : Int) (ku nu : Int) (us : List T) (K : AV → List AV → Prop) (hp : (((T.mk k n ts).shp 30 = true) ∧ (0 ≤ j ∧ j ≤ 20 ∧ (T.mk ku nu us).valid = true))) (hk : ((K (.tup [((T.mk k n ts).sbR j (.mk ku nu us)).fr, .bool ((T.mk k n ts).sbO j (.mk ku nu us))]) []))) :
    bodyQ [(109, cchSubst), (87, cValid)] TY [] Try.f101 (body Try.f101) [.st [.int .i64 k, .int .i64 n, .slc ts (.arg 0)], .int .i64 (j), .st [.int .i64 ku, .int .i64 nu, .slc us (.arg 2)]] [] K := by
  refine of_vc (A :=
      (((∃ d : Int, (((T.shp (T.mk k n ts) d) = true) ∧ (((0 : Int) ≤ (0 : Int)) ∧ (((0 : Int) + d) ≤ (60 : Int))))) ∧
        (((0 : Int) ≤ j) ∧ ((j ≤ (20 : Int)) ∧ ((T.valid (T.mk ku nu us)) = true)))) ∧
       (Br (Bool.not (Bool.and true (List.all (T.vs (0 : Int) (T.mk k n ts)) (fun (p : (Prod Int Int)) => (sbk j (T.mk ku nu us) (Prod.fst p) (Prod.snd p))))))
         (Ret K (.tup [(.st [(.int .i64 (0 : Int)), (.int .i64 (0 : Int)), (.slc ([] : List T) (.iv (0 : Nat) (0 : Nat) true .full))]), (.bool false)]) [])
         (True ∧
          ((((T.valid (T.mk (T.k (T.mv (sbfI j (T.mk ku nu us)) (0 : Int) (T.mk k n ts))) (T.n (T.mv (sbfI j (T.mk ku nu us)) (0 : Int) (T.mk k n ts))) (T.kids (T.mv (sbfI j (T.mk ku nu us)) (0 : Int) (T.mk k n ts))))) = true) →
            (Ret K (.tup [(.st [(.int .i64 (T.k (T.mv (sbfI j (T.mk ku nu us)) (0 : Int) (T.mk k n ts)))), (.int .i64 (T.n (T.mv (sbfI j (T.mk ku nu us)) (0 : Int) (T.mk k n ts)))), (.slc (T.kids (T.mv (sbfI j (T.mk ku nu us)) (0 : Int) (T.mk k n ts))) (.iv (4 : Nat) (4 : Nat) true (.tok (0 : Nat))))]), (.bool true)]) [])) ∧
           (((T.valid (T.mk (T.k (T.mv (sbfI j (T.mk ku nu us)) (0 : Int) (T.mk k n ts))) (T.n (T.mv (sbfI j (T.mk ku nu us)) (0 : Int) (T.mk k n ts))) (T.kids (T.mv (sbfI j (T.mk ku nu us)) (0 : Int) (T.mk k n ts))))) = false) →
            (Ret K (.tup [(.st [(.int .i64 (0 : Int)), (.int .i64 (0 : Int)), (.slc ([] : List T) (.iv (4 : Nat) (4 : Nat) true (.tok (0 : Nat))))]), (.bool false)]) []))))))) ?_ (by kernel_rfl)
  refine ⟨⟨⟨30, hp.1, by omega, by omega⟩, hp.2⟩, br (fun h => ?_) (fun h => ⟨trivial, fun hv => ?_, fun hv => ?_⟩)⟩
  · have e : (T.mk k n ts).sbO j (.mk ku nu us) = false := by unfold T.sbO; simp only [Bool.true_and] at h; rw [Bool.not_eq_true'] at h; rw [h]; rfl
    unfold T.sbR at hk
    rw [e, if_neg (by simp)] at hk
    exact fin hk (by repeat' first | trivial | rfl | (simp; done) | apply And.intro) (by repeat' first | trivial | rfl | (simp; done) | apply And.intro)
  · rw [T.eta] at hv
    have e : (T.mk k n ts).sbO j (.mk ku nu us) = true := by unfold T.sbO; simp only [Bool.true_and] at h; rw [Bool.not_eq_false'] at h; rw [h, hv]; rfl
    unfold T.sbR at hk
    rw [e, if_pos rfl] at hk
    exact fin hk (by repeat' first | trivial | rfl | (simp; done) | apply And.intro) (by repeat' first | trivial | rfl | (simp; done) | apply And.intro)
  · rw [T.eta] at hv
    have e : (T.mk k n ts).sbO j (.mk ku nu us) = false := by unfold T.sbO; rw [hv, Bool.and_false]
    unfold T.sbR at hk
    rw [e, if_neg (by simp)] at hk
    exact fin hk (by repeat' first | trivial | rfl | (simp; done) | apply And.intro) (by repeat' first | trivial | rfl | (simp; done) | apply And.intro)
theorem Subst_sound : Sound Try.prog 101 cSubst := by
  refine soundF (G := [(109, cchSubst), (87, cValid)]) ((gcons chSubst_sound (gcons Valid_sound gnil))) Try.func101 rfl (by kernel_rfl) fun args hs K hCC => ?_
  unfold cSubst at hCC
  split at hCC
  case h_2 => exact hCC.elim
  rename_i k n ts j ku nu us
  exact ⟨Nat.le_of_ble_eq_true rfl, _, Subst_ok k n ts j ku nu us K hCC.1 hCC.2⟩
def rnf (ns : List Int) (b n : Int) : T := vr (if b ≤ n then ns.getD (n - b).toNat 0 + b else n)
/-- How often a free variable occurs. -/
def cnL (j : Int) (l : List (Int × Int)) : Int := (l.countP fun p => decide (p.2 = j + p.1) : Nat)
theorem cnL_nil {j : Int} : cnL j [] = 0 := rfl
theorem cnL_append {j : Int} {l l' : List (Int × Int)} : cnL j (l ++ l') = cnL j l + cnL j l' := by simp [cnL]
theorem cnL_le {j : Int} {l : List (Int × Int)} : 0 ≤ cnL j l ∧ cnL j l ≤ l.length := by
  have := List.countP_le_length (p := fun p : Int × Int => decide (p.2 = j + p.1)) (l := l)
  unfold cnL; omega
/-- The greatest free variable, and 1. -/
def mfL : List (Int × Int) → Int
  | [] => 0
  | p :: l => max (if p.1 ≤ p.2 then p.2 - p.1 + 1 else 0) (mfL l)
theorem mfL_nonneg : ∀ l, 0 ≤ mfL l
  | [] => Int.le_refl _
  | p :: l => by have := mfL_nonneg l; simp only [mfL]; omega
theorem mfL_append : ∀ l l', mfL (l ++ l') = max (mfL l) (mfL l')
  | [], l' => by have := mfL_nonneg l'; simp only [List.nil_append, mfL]; omega
  | p :: l, l' => by simp only [List.cons_append, mfL, mfL_append l]; omega
theorem mfL_mem {p : Int × Int} : ∀ {l : List (Int × Int)}, p ∈ l → p.2 - p.1 + 1 ≤ mfL l
  | q :: l, h => by
    simp only [mfL]
    rcases List.mem_cons.1 h with rfl | h
    · have := mfL_nonneg l; split <;> omega
    · have := mfL_mem h; omega
/-- What CountVar answers. -/
def T.cv (t : T) (j : Int) : Int := if t.valid = true ∧ 0 ≤ j ∧ j ≤ 20 then cnL j (t.vs 0) else 0
def T.mf (t : T) : Int := if t.valid = true then mfL (t.vs 0) else -1
/-- What ShiftTerm answers. -/
def T.ShO (t : T) (y c : Int) : Bool := t.valid && (decide (-20 ≤ y ∧ y ≤ 20 ∧ 0 ≤ c ∧ c ≤ 20) && t.shO y c)
def T.ShR (t : T) (y c : Int) : T := if t.ShO y c = true then t.mv (shf y c) 0 else .mk 0 0 []
/-- What SubstTerm answers. -/
def T.SbO (t : T) (j : Int) (u : T) : Bool := t.valid && (u.valid && (decide (0 ≤ j ∧ j ≤ 20) && t.sbO j u))
def T.SbR (t : T) (j : Int) (u : T) : T := if t.SbO j u = true then t.mv (sbfI j u) 0 else .mk 0 0 []
/-- What RenameTerm answers. -/
def T.RnO (t : T) (ns : List Int) : Bool := t.valid && (decide (ns.length ≤ 21) && (decide (mfL (t.vs 0) ≤ ns.length) && (decide (∀ x ∈ ns, 0 ≤ x ∧ x ≤ 20) && (t.mv (rnf ns) 0).valid)))
def T.RnR (t : T) (ns : List Int) : T := if t.RnO ns = true then t.mv (rnf ns) 0 else .mk 0 0 []
end Go.Dk
