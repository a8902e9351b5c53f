/- Binding: the reference's functions. -/
import Derived.Test.YtcgnenkbmcbonaaL1s
import Derived.Test.YtcgnenkbmcbonaaL2
namespace Go.Dk
set_option linter.unusedVariables false
open Go.Proofs
theorem cnL_add (t : T) (j b u : Int) : cnL (j + u) (t.vs b) = cnL j (t.vs (b + u)) := by
  rw [T.vs_add]
  unfold cnL
  rw [List.countP_map]
  congr 1
  apply List.countP_congr
  intro p _
  simp only [Function.comp, decide_eq_true_eq]
  constructor <;> intro h <;> omega
theorem shf_add (t : T) (y c b u : Int) : t.mv (shf y (c + u)) b = t.mv (shf y c) (b + u) :=
  T.mv_eq t b fun p _ => by rw [shf_eq, shf_eq, show c + u + p.1 = c + (p.1 + u) by omega]
def kpk (c r b n : Int) : Bool := !decide (c + b ≤ n ∧ n < c + b + r)
theorem kpk_add (t : T) (c r b u : Int) : ((t.vs b).all fun p => kpk (c + u) r p.1 p.2) = (t.vs (b + u)).all fun p => kpk c r p.1 p.2 := by
  rw [T.vs_add, List.all_map]
  congr 1
  funext p
  simp only [Function.comp, kpk, show c + u + p.1 = c + (p.1 + u) by omega]
/-- Substitution, as it is meant. -/
def sbf (j : Int) (u : T) (b n : Int) : T := if n = j + b then u.mv (shf b 0) 0 else if j + b < n then vr (n - 1) else vr n
/-- spec.l2Binds -/
def csBinds : Con
  | [.int .i64 (k), .int .i64 (i)], [], K => True ∧ ((K (.bool (decide (i = 1 ∧ (k = 3 ∨ k = 4 ∨ k = 13)))) []))
  | _, _, _ => False
theorem sBinds_ok (k i : Int) (K : AV → List AV → Prop) (hp : True) (hk : ((K (.bool (decide (i = 1 ∧ (k = 3 ∨ k = 4 ∨ k = 13)))) []))) :
    bodyQ [] TY [] Try.f110 (body Try.f110) [.int .i64 (k), .int .i64 (i)] [] K := by
  refine of_vc (A :=
    (Br (Decidable.decide (i = (1 : Int)))
     (Br (Decidable.decide (k = (3 : Int)))
     (Ret K (.bool true) [])
     (Br (Decidable.decide (k = (4 : Int))) (Ret K (.bool true) []) (Ret K (.bool (Decidable.decide (k = (13 : Int)))) [])))
     (Ret K (.bool false) []))) ?_ (by kernel_rfl)
  refine br (fun h => br (fun h1 => ?_) (fun h1 => br (fun h2 => ?_) (fun h2 => ?_))) (fun h => ?_)
  · have h := of_decide_eq_true h; have h1 := of_decide_eq_true h1; exact retB hk (by simp [h, h1])
  · have h := of_decide_eq_true h; have h2 := of_decide_eq_true h2; exact retB hk (by simp [h, h2])
  · have h := of_decide_eq_true h; have h1 := of_decide_eq_false h1; have h2 := of_decide_eq_false h2; exact retB hk (by simp [h, h1, h2])
  · have h := of_decide_eq_false h; exact retB hk (by simp [h])
theorem sBinds_sound : Sound Try.prog 110 csBinds := by
  refine soundF (G := []) (gnil) Try.func110 rfl (by kernel_rfl) fun args hs K hCC => ?_
  unfold csBinds at hCC
  split at hCC
  case h_2 => exact hCC.elim
  rename_i k i
  exact ⟨Nat.le_of_ble_eq_true rfl, _, sBinds_ok k i K hCC.1 hCC.2⟩
/-- spec.l2Under -/
def csUnder : Con
  | [.int .i64 (k), .int .i64 (i)], [], K => True ∧ ((K (.int .i64 (und k i)) []))
  | _, _, _ => False
theorem sUnder_ok (k i : Int) (K : AV → List AV → Prop) (hp : True) (hk : ((K (.int .i64 (und k i)) []))) :
    bodyQ [(110, csBinds)] TY [] Try.f102 (body Try.f102) [.int .i64 (k), .int .i64 (i)] [] K := by
  refine of_vc (A :=
    (True ∧
     (Br (Decidable.decide ((i = (1 : Int)) ∧ ((k = (3 : Int)) ∨ ((k = (4 : Int)) ∨ (k = (13 : Int))))))
     (Ret K (.int .i64 1) [])
     (Ret K (.int .i64 0) [])))) ?_ (by kernel_rfl)
  refine ⟨trivial, br (fun h => retI hk ?_) (fun h => retI hk ?_)⟩
  · unfold und; rw [if_pos (of_decide_eq_true h)]
  · unfold und; rw [if_neg (of_decide_eq_false h)]
theorem sUnder_sound : Sound Try.prog 102 csUnder := by
  refine soundF (G := [(110, csBinds)]) ((gcons sBinds_sound gnil)) Try.func102 rfl (by kernel_rfl) fun args hs K hCC => ?_
  unfold csUnder at hCC
  split at hCC
  case h_2 => exact hCC.elim
  rename_i k i
  exact ⟨Nat.le_of_ble_eq_true rfl, _, sUnder_ok k i K hCC.1 hCC.2⟩
/-- spec.l2Shift -/
def csShiftM (m : Nat) : Con
  | [.st [.int .i64 k, .int .i64 n, .slc ts (.arg 0)], .int .i64 (y), .int .i64 (c)], [], K => (((T.mk k n ts).size) < m ∧ ((∃ d, (T.mk k n ts).shp d = true ∧ 0 ≤ c ∧ c + d ≤ 100) ∧ (-100 ≤ y ∧ y ≤ 100))) ∧ ((K (((T.mk k n ts).mv (shf y c) 0).fr) []))
  | _, _, _ => False
def csShift : Con
  | [.st [.int .i64 k, .int .i64 n, .slc ts (.arg 0)], .int .i64 (y), .int .i64 (c)], [], K => ((∃ d, (T.mk k n ts).shp d = true ∧ 0 ≤ c ∧ c + d ≤ 100) ∧ (-100 ≤ y ∧ y ≤ 100)) ∧ ((K (((T.mk k n ts).mv (shf y c) 0).fr) []))
  | _, _, _ => False
theorem sShift_ok (m : Nat) (k n : Int) (ts : List T) (y c : Int) (K : AV → List AV → Prop) (hm : ((T.mk k n ts).size) < m + 1) (hp : ((∃ d, (T.mk k n ts).shp d = true ∧ 0 ≤ c ∧ c + d ≤ 100) ∧ (-100 ≤ y ∧ y ≤ 100))) (hk : ((K (((T.mk k n ts).mv (shf y c) 0).fr) []))) :
    bodyQ [(101, csShiftM m), (102, csUnder)] TY [(5, { ι := Nat × (List T × Int), ok := fun x => x.1 ≤ ts.length ∧ x.2.1.length = x.1 ∧ T.mk k x.2.2 (x.2.1 ++ mvL (shf y c) 0 k x.1 (ts.drop x.1)) = (T.mk k n ts).mv (shf y c) 0, tl := fun x => [(1, .int .i64 (y)), (2, .int .i64 (c)), (3, .ptr 3), (6, .ptr 6), (7, .ptr 7), (8, .int .i64 x.1)], hl := fun x => [(3, .st [.int .i64 k, .int .i64 n, .slc ts (.arg 0)]), (6, (T.mk 0 0 []).av (.iv 0 0 true .full)), (7, .st [.int .i64 k, .int .i64 x.2.2, .slc x.2.1 (.iv 4 4 true (.tok 51))])], fh := fun x => [], μ := fun x => ts.length - x.1 })] Try.f101 (body Try.f101) [.st [.int .i64 k, .int .i64 n, .slc ts (.arg 0)], .int .i64 (y), .int .i64 (c)] [] K := by
  refine of_vc (A :=
    (Br (Decidable.decide (k = (1 : Int)))
     (Br (Decidable.decide (c ≤ n))
     ((InR (n + y)) ∧
     ((∃ x : (Prod Nat (Prod (List T) Int)),
     ((((Prod.fst x) ≤ (List.length ts)) ∧
     (((List.length (Prod.fst (Prod.snd x))) = (Prod.fst x)) ∧
     ((T.mk k (Prod.snd (Prod.snd x)) ((Prod.fst (Prod.snd x)) ++ (mvL (shf y c) (0 : Int) k (Prod.fst x) (List.drop (Prod.fst x) ts)))) = (T.mv (shf y c) (0 : Int) (T.mk k n ts))))) ∧
     ((y = y) ∧
     ((c = c) ∧
     (((0 : Int) = (((Prod.fst x) : Nat) : Int)) ∧
     ((k = k) ∧
     ((n = n) ∧
     ((ts = ts) ∧
     (((0 : Int) = (0 : Int)) ∧
     (((0 : Int) = (0 : Int)) ∧
     ((([] : List T) = ([] : List T)) ∧ ((k = k) ∧ (((n + y) = (Prod.snd (Prod.snd x))) ∧ ((([] : List T) = (Prod.fst (Prod.snd x))) ∧ True)))))))))))))) ∧
     (∀ x : (Prod Nat (Prod (List T) Int)),
     ((((Prod.fst x) ≤ (List.length ts)) ∧ (((List.length (Prod.fst (Prod.snd x))) = (Prod.fst x)) ∧ ((T.mk k (Prod.snd (Prod.snd x)) ((Prod.fst (Prod.snd x)) ++ (mvL (shf y c) (0 : Int) k (Prod.fst x) (List.drop (Prod.fst x) ts)))) = (T.mv (shf y c) (0 : Int) (T.mk k n ts))))) →
     (Br (Decidable.decide ((((Prod.fst x) : Nat) : Int) < (((List.length ts) : Nat) : Int)))
     ((((0 : Int) ≤ (((Prod.fst x) : Nat) : Int)) ∧ ((((Prod.fst x) : Nat) : Int) < (((List.length ts) : Nat) : Int))) ∧
     (True ∧
     (((T.k (List.getD ts (Int.toNat (((Prod.fst x) : Nat) : Int)) default)) = (T.k (List.getD ts (Int.toNat (((Prod.fst x) : Nat) : Int)) default))) ∧
     (((T.n (List.getD ts (Int.toNat (((Prod.fst x) : Nat) : Int)) default)) = (T.n (List.getD ts (Int.toNat (((Prod.fst x) : Nat) : Int)) default))) ∧
     (((T.kids (List.getD ts (Int.toNat (((Prod.fst x) : Nat) : Int)) default)) = (T.kids (List.getD ts (Int.toNat (((Prod.fst x) : Nat) : Int)) default))) ∧
     ((ts = ts) ∧
     (((Prod.fst (Prod.snd x)) = (Prod.fst (Prod.snd x))) ∧
     ((InR (c + (und k (((Prod.fst x) : Nat) : Int)))) ∧
     ((((T.size (T.mk (T.k (List.getD ts (Int.toNat (((Prod.fst x) : Nat) : Int)) default)) (T.n (List.getD ts (Int.toNat (((Prod.fst x) : Nat) : Int)) default)) (T.kids (List.getD ts (Int.toNat (((Prod.fst x) : Nat) : Int)) default)))) < m) ∧
     ((∃ d : Int,
     (((T.shp (T.mk (T.k (List.getD ts (Int.toNat (((Prod.fst x) : Nat) : Int)) default)) (T.n (List.getD ts (Int.toNat (((Prod.fst x) : Nat) : Int)) default)) (T.kids (List.getD ts (Int.toNat (((Prod.fst x) : Nat) : Int)) default))) d) = true) ∧
     (((0 : Int) ≤ (c + (und k (((Prod.fst x) : Nat) : Int)))) ∧ (((c + (und k (((Prod.fst x) : Nat) : Int))) + d) ≤ (100 : Int))))) ∧
     (((- (100 : Int)) ≤ y) ∧ (y ≤ (100 : Int))))) ∧
     (((Prod.fst (Prod.snd x)) = (Prod.fst (Prod.snd x))) ∧
     ((((((List.length (Prod.fst (Prod.snd x))) : Nat) : Int) + (1 : Int)) ≤ (1099511627776 : Int)) ∧
     ((InR ((((Prod.fst x) : Nat) : Int) + (1 : Int))) ∧
     (∃ y1 : (Prod Nat (Prod (List T) Int)),
     ((((Prod.fst y1) ≤ (List.length ts)) ∧
     (((List.length (Prod.fst (Prod.snd y1))) = (Prod.fst y1)) ∧
     ((T.mk k (Prod.snd (Prod.snd y1)) ((Prod.fst (Prod.snd y1)) ++ (mvL (shf y c) (0 : Int) k (Prod.fst y1) (List.drop (Prod.fst y1) ts)))) = (T.mv (shf y c) (0 : Int) (T.mk k n ts))))) ∧
     ((y = y) ∧
     ((c = c) ∧
     ((((((Prod.fst x) : Nat) : Int) + (1 : Int)) = (((Prod.fst y1) : Nat) : Int)) ∧
     ((k = k) ∧
     ((n = n) ∧
     ((ts = ts) ∧
     (((0 : Int) = (0 : Int)) ∧
     (((0 : Int) = (0 : Int)) ∧
     ((([] : List T) = ([] : List T)) ∧
     ((k = k) ∧
     (((Prod.snd (Prod.snd x)) = (Prod.snd (Prod.snd y1))) ∧
     ((((Prod.fst (Prod.snd x)) ++ [(T.mk (T.k (T.mv (shf y (c + (und k (((Prod.fst x) : Nat) : Int)))) (0 : Int) (T.mk (T.k (List.getD ts (Int.toNat (((Prod.fst x) : Nat) : Int)) default)) (T.n (List.getD ts (Int.toNat (((Prod.fst x) : Nat) : Int)) default)) (T.kids (List.getD ts (Int.toNat (((Prod.fst x) : Nat) : Int)) default))))) (T.n (T.mv (shf y (c + (und k (((Prod.fst x) : Nat) : Int)))) (0 : Int) (T.mk (T.k (List.getD ts (Int.toNat (((Prod.fst x) : Nat) : Int)) default)) (T.n (List.getD ts (Int.toNat (((Prod.fst x) : Nat) : Int)) default)) (T.kids (List.getD ts (Int.toNat (((Prod.fst x) : Nat) : Int)) default))))) (T.kids (T.mv (shf y (c + (und k (((Prod.fst x) : Nat) : Int)))) (0 : Int) (T.mk (T.k (List.getD ts (Int.toNat (((Prod.fst x) : Nat) : Int)) default)) (T.n (List.getD ts (Int.toNat (((Prod.fst x) : Nat) : Int)) default)) (T.kids (List.getD ts (Int.toNat (((Prod.fst x) : Nat) : Int)) default))))))]) = (Prod.fst (Prod.snd y1))) ∧
     ((Nat.succ ((List.length ts) - (Prod.fst y1))) ≤ ((List.length ts) - (Prod.fst x)))))))))))))))))))))))))))))
     (Ret K (.st [(.int .i64 k), (.int .i64 (Prod.snd (Prod.snd x))), (.slc (Prod.fst (Prod.snd x)) (.iv 4 4 true (.tok 0)))]) []))))))
     ((∃ x : (Prod Nat (Prod (List T) Int)),
     ((((Prod.fst x) ≤ (List.length ts)) ∧
     (((List.length (Prod.fst (Prod.snd x))) = (Prod.fst x)) ∧
     ((T.mk k (Prod.snd (Prod.snd x)) ((Prod.fst (Prod.snd x)) ++ (mvL (shf y c) (0 : Int) k (Prod.fst x) (List.drop (Prod.fst x) ts)))) = (T.mv (shf y c) (0 : Int) (T.mk k n ts))))) ∧
     ((y = y) ∧
     ((c = c) ∧
     (((0 : Int) = (((Prod.fst x) : Nat) : Int)) ∧
     ((k = k) ∧
     ((n = n) ∧
     ((ts = ts) ∧
     (((0 : Int) = (0 : Int)) ∧
     (((0 : Int) = (0 : Int)) ∧
     ((([] : List T) = ([] : List T)) ∧ ((k = k) ∧ ((n = (Prod.snd (Prod.snd x))) ∧ ((([] : List T) = (Prod.fst (Prod.snd x))) ∧ True)))))))))))))) ∧
     (∀ x : (Prod Nat (Prod (List T) Int)),
     ((((Prod.fst x) ≤ (List.length ts)) ∧ (((List.length (Prod.fst (Prod.snd x))) = (Prod.fst x)) ∧ ((T.mk k (Prod.snd (Prod.snd x)) ((Prod.fst (Prod.snd x)) ++ (mvL (shf y c) (0 : Int) k (Prod.fst x) (List.drop (Prod.fst x) ts)))) = (T.mv (shf y c) (0 : Int) (T.mk k n ts))))) →
     (Br (Decidable.decide ((((Prod.fst x) : Nat) : Int) < (((List.length ts) : Nat) : Int)))
     ((((0 : Int) ≤ (((Prod.fst x) : Nat) : Int)) ∧ ((((Prod.fst x) : Nat) : Int) < (((List.length ts) : Nat) : Int))) ∧
     (True ∧
     (((T.k (List.getD ts (Int.toNat (((Prod.fst x) : Nat) : Int)) default)) = (T.k (List.getD ts (Int.toNat (((Prod.fst x) : Nat) : Int)) default))) ∧
     (((T.n (List.getD ts (Int.toNat (((Prod.fst x) : Nat) : Int)) default)) = (T.n (List.getD ts (Int.toNat (((Prod.fst x) : Nat) : Int)) default))) ∧
     (((T.kids (List.getD ts (Int.toNat (((Prod.fst x) : Nat) : Int)) default)) = (T.kids (List.getD ts (Int.toNat (((Prod.fst x) : Nat) : Int)) default))) ∧
     ((ts = ts) ∧
     (((Prod.fst (Prod.snd x)) = (Prod.fst (Prod.snd x))) ∧
     ((InR (c + (und k (((Prod.fst x) : Nat) : Int)))) ∧
     ((((T.size (T.mk (T.k (List.getD ts (Int.toNat (((Prod.fst x) : Nat) : Int)) default)) (T.n (List.getD ts (Int.toNat (((Prod.fst x) : Nat) : Int)) default)) (T.kids (List.getD ts (Int.toNat (((Prod.fst x) : Nat) : Int)) default)))) < m) ∧
     ((∃ d : Int,
     (((T.shp (T.mk (T.k (List.getD ts (Int.toNat (((Prod.fst x) : Nat) : Int)) default)) (T.n (List.getD ts (Int.toNat (((Prod.fst x) : Nat) : Int)) default)) (T.kids (List.getD ts (Int.toNat (((Prod.fst x) : Nat) : Int)) default))) d) = true) ∧
     (((0 : Int) ≤ (c + (und k (((Prod.fst x) : Nat) : Int)))) ∧ (((c + (und k (((Prod.fst x) : Nat) : Int))) + d) ≤ (100 : Int))))) ∧
     (((- (100 : Int)) ≤ y) ∧ (y ≤ (100 : Int))))) ∧
     (((Prod.fst (Prod.snd x)) = (Prod.fst (Prod.snd x))) ∧
     ((((((List.length (Prod.fst (Prod.snd x))) : Nat) : Int) + (1 : Int)) ≤ (1099511627776 : Int)) ∧
     ((InR ((((Prod.fst x) : Nat) : Int) + (1 : Int))) ∧
     (∃ y1 : (Prod Nat (Prod (List T) Int)),
     ((((Prod.fst y1) ≤ (List.length ts)) ∧
     (((List.length (Prod.fst (Prod.snd y1))) = (Prod.fst y1)) ∧
     ((T.mk k (Prod.snd (Prod.snd y1)) ((Prod.fst (Prod.snd y1)) ++ (mvL (shf y c) (0 : Int) k (Prod.fst y1) (List.drop (Prod.fst y1) ts)))) = (T.mv (shf y c) (0 : Int) (T.mk k n ts))))) ∧
     ((y = y) ∧
     ((c = c) ∧
     ((((((Prod.fst x) : Nat) : Int) + (1 : Int)) = (((Prod.fst y1) : Nat) : Int)) ∧
     ((k = k) ∧
     ((n = n) ∧
     ((ts = ts) ∧
     (((0 : Int) = (0 : Int)) ∧
     (((0 : Int) = (0 : Int)) ∧
     ((([] : List T) = ([] : List T)) ∧
     ((k = k) ∧
     (((Prod.snd (Prod.snd x)) = (Prod.snd (Prod.snd y1))) ∧
     ((((Prod.fst (Prod.snd x)) ++ [(T.mk (T.k (T.mv (shf y (c + (und k (((Prod.fst x) : Nat) : Int)))) (0 : Int) (T.mk (T.k (List.getD ts (Int.toNat (((Prod.fst x) : Nat) : Int)) default)) (T.n (List.getD ts (Int.toNat (((Prod.fst x) : Nat) : Int)) default)) (T.kids (List.getD ts (Int.toNat (((Prod.fst x) : Nat) : Int)) default))))) (T.n (T.mv (shf y (c + (und k (((Prod.fst x) : Nat) : Int)))) (0 : Int) (T.mk (T.k (List.getD ts (Int.toNat (((Prod.fst x) : Nat) : Int)) default)) (T.n (List.getD ts (Int.toNat (((Prod.fst x) : Nat) : Int)) default)) (T.kids (List.getD ts (Int.toNat (((Prod.fst x) : Nat) : Int)) default))))) (T.kids (T.mv (shf y (c + (und k (((Prod.fst x) : Nat) : Int)))) (0 : Int) (T.mk (T.k (List.getD ts (Int.toNat (((Prod.fst x) : Nat) : Int)) default)) (T.n (List.getD ts (Int.toNat (((Prod.fst x) : Nat) : Int)) default)) (T.kids (List.getD ts (Int.toNat (((Prod.fst x) : Nat) : Int)) default))))))]) = (Prod.fst (Prod.snd y1))) ∧
     ((Nat.succ ((List.length ts) - (Prod.fst y1))) ≤ ((List.length ts) - (Prod.fst x)))))))))))))))))))))))))))))
     (Ret K (.st [(.int .i64 k), (.int .i64 (Prod.snd (Prod.snd x))), (.slc (Prod.fst (Prod.snd x)) (.iv 4 4 true (.tok 0)))]) []))))))
     ((∃ x : (Prod Nat (Prod (List T) Int)),
     ((((Prod.fst x) ≤ (List.length ts)) ∧
     (((List.length (Prod.fst (Prod.snd x))) = (Prod.fst x)) ∧
     ((T.mk k (Prod.snd (Prod.snd x)) ((Prod.fst (Prod.snd x)) ++ (mvL (shf y c) (0 : Int) k (Prod.fst x) (List.drop (Prod.fst x) ts)))) = (T.mv (shf y c) (0 : Int) (T.mk k n ts))))) ∧
     ((y = y) ∧
     ((c = c) ∧
     (((0 : Int) = (((Prod.fst x) : Nat) : Int)) ∧
     ((k = k) ∧
     ((n = n) ∧
     ((ts = ts) ∧
     (((0 : Int) = (0 : Int)) ∧
     (((0 : Int) = (0 : Int)) ∧
     ((([] : List T) = ([] : List T)) ∧ ((k = k) ∧ ((n = (Prod.snd (Prod.snd x))) ∧ ((([] : List T) = (Prod.fst (Prod.snd x))) ∧ True)))))))))))))) ∧
     (∀ x : (Prod Nat (Prod (List T) Int)),
     ((((Prod.fst x) ≤ (List.length ts)) ∧ (((List.length (Prod.fst (Prod.snd x))) = (Prod.fst x)) ∧ ((T.mk k (Prod.snd (Prod.snd x)) ((Prod.fst (Prod.snd x)) ++ (mvL (shf y c) (0 : Int) k (Prod.fst x) (List.drop (Prod.fst x) ts)))) = (T.mv (shf y c) (0 : Int) (T.mk k n ts))))) →
     (Br (Decidable.decide ((((Prod.fst x) : Nat) : Int) < (((List.length ts) : Nat) : Int)))
     ((((0 : Int) ≤ (((Prod.fst x) : Nat) : Int)) ∧ ((((Prod.fst x) : Nat) : Int) < (((List.length ts) : Nat) : Int))) ∧
     (True ∧
     (((T.k (List.getD ts (Int.toNat (((Prod.fst x) : Nat) : Int)) default)) = (T.k (List.getD ts (Int.toNat (((Prod.fst x) : Nat) : Int)) default))) ∧
     (((T.n (List.getD ts (Int.toNat (((Prod.fst x) : Nat) : Int)) default)) = (T.n (List.getD ts (Int.toNat (((Prod.fst x) : Nat) : Int)) default))) ∧
     (((T.kids (List.getD ts (Int.toNat (((Prod.fst x) : Nat) : Int)) default)) = (T.kids (List.getD ts (Int.toNat (((Prod.fst x) : Nat) : Int)) default))) ∧
     ((ts = ts) ∧
     (((Prod.fst (Prod.snd x)) = (Prod.fst (Prod.snd x))) ∧
     ((InR (c + (und k (((Prod.fst x) : Nat) : Int)))) ∧
     ((((T.size (T.mk (T.k (List.getD ts (Int.toNat (((Prod.fst x) : Nat) : Int)) default)) (T.n (List.getD ts (Int.toNat (((Prod.fst x) : Nat) : Int)) default)) (T.kids (List.getD ts (Int.toNat (((Prod.fst x) : Nat) : Int)) default)))) < m) ∧
     ((∃ d : Int,
     (((T.shp (T.mk (T.k (List.getD ts (Int.toNat (((Prod.fst x) : Nat) : Int)) default)) (T.n (List.getD ts (Int.toNat (((Prod.fst x) : Nat) : Int)) default)) (T.kids (List.getD ts (Int.toNat (((Prod.fst x) : Nat) : Int)) default))) d) = true) ∧
     (((0 : Int) ≤ (c + (und k (((Prod.fst x) : Nat) : Int)))) ∧ (((c + (und k (((Prod.fst x) : Nat) : Int))) + d) ≤ (100 : Int))))) ∧
     (((- (100 : Int)) ≤ y) ∧ (y ≤ (100 : Int))))) ∧
     (((Prod.fst (Prod.snd x)) = (Prod.fst (Prod.snd x))) ∧
     ((((((List.length (Prod.fst (Prod.snd x))) : Nat) : Int) + (1 : Int)) ≤ (1099511627776 : Int)) ∧
     ((InR ((((Prod.fst x) : Nat) : Int) + (1 : Int))) ∧
     (∃ y1 : (Prod Nat (Prod (List T) Int)),
     ((((Prod.fst y1) ≤ (List.length ts)) ∧
     (((List.length (Prod.fst (Prod.snd y1))) = (Prod.fst y1)) ∧
     ((T.mk k (Prod.snd (Prod.snd y1)) ((Prod.fst (Prod.snd y1)) ++ (mvL (shf y c) (0 : Int) k (Prod.fst y1) (List.drop (Prod.fst y1) ts)))) = (T.mv (shf y c) (0 : Int) (T.mk k n ts))))) ∧
     ((y = y) ∧
     ((c = c) ∧
     ((((((Prod.fst x) : Nat) : Int) + (1 : Int)) = (((Prod.fst y1) : Nat) : Int)) ∧
     ((k = k) ∧
     ((n = n) ∧
     ((ts = ts) ∧
     (((0 : Int) = (0 : Int)) ∧
     (((0 : Int) = (0 : Int)) ∧
     ((([] : List T) = ([] : List T)) ∧
     ((k = k) ∧
     (((Prod.snd (Prod.snd x)) = (Prod.snd (Prod.snd y1))) ∧
     ((((Prod.fst (Prod.snd x)) ++ [(T.mk (T.k (T.mv (shf y (c + (und k (((Prod.fst x) : Nat) : Int)))) (0 : Int) (T.mk (T.k (List.getD ts (Int.toNat (((Prod.fst x) : Nat) : Int)) default)) (T.n (List.getD ts (Int.toNat (((Prod.fst x) : Nat) : Int)) default)) (T.kids (List.getD ts (Int.toNat (((Prod.fst x) : Nat) : Int)) default))))) (T.n (T.mv (shf y (c + (und k (((Prod.fst x) : Nat) : Int)))) (0 : Int) (T.mk (T.k (List.getD ts (Int.toNat (((Prod.fst x) : Nat) : Int)) default)) (T.n (List.getD ts (Int.toNat (((Prod.fst x) : Nat) : Int)) default)) (T.kids (List.getD ts (Int.toNat (((Prod.fst x) : Nat) : Int)) default))))) (T.kids (T.mv (shf y (c + (und k (((Prod.fst x) : Nat) : Int)))) (0 : Int) (T.mk (T.k (List.getD ts (Int.toNat (((Prod.fst x) : Nat) : Int)) default)) (T.n (List.getD ts (Int.toNat (((Prod.fst x) : Nat) : Int)) default)) (T.kids (List.getD ts (Int.toNat (((Prod.fst x) : Nat) : Int)) default))))))]) = (Prod.fst (Prod.snd y1))) ∧
     ((Nat.succ ((List.length ts) - (Prod.fst y1))) ≤ ((List.length ts) - (Prod.fst x)))))))))))))))))))))))))))))
     (Ret K (.st [(.int .i64 k), (.int .i64 (Prod.snd (Prod.snd x))), (.slc (Prod.fst (Prod.snd x)) (.iv 4 4 true (.tok 0)))]) []))))))) ?_ (by kernel_rfl)
  obtain ⟨⟨d, hd, h0, h1⟩, hx⟩ := hp
  have hd1 := T.shp_pos hd
  have hsh := T.shp_kids hd
  have hm' : 1 + sizeL ts < m + 1 := hm
  have hll := length_le_sizeL ts
  have hr := T.shp_root hd
  have har2 := (arity_range k).2
  have e1 : k = 1 → ts = [] ∧ 0 ≤ n ∧ n ≤ 20 := fun e => by
    subst e
    rw [show mostN 1 = 20 from rfl] at hr
    exact ⟨T.shp_var hd, hr.2⟩

  have e2 : k ≠ 1 → (T.mk k n ts).mv (shf y c) 0 = .mk k n (mvL (shf y c) 0 k 0 ts) := T.mv_node
  have e3 : k = 1 → (T.mk k n ts).mv (shf y c) 0 = .mk k (if c ≤ n then n + y else n) [] ∧ mvL (shf y c) 0 k 0 ts = [] := fun e => by
    have := (e1 e).1; subst e this
    exact ⟨by rw [T.mv_var, shf_eq, Int.add_zero]; rfl, rfl⟩
  refine br (fun g => br (fun g2 => ⟨?_, ⟨(0, ([], n + y)), ⟨Nat.zero_le _, rfl, ?i4⟩, (by repeat' first | trivial | rfl | (simp; done) | apply And.intro)⟩, fun x hx => ?l1⟩) (fun g2 => ⟨⟨(0, ([], n)), ⟨Nat.zero_le _, rfl, ?j4⟩, (by repeat' first | trivial | rfl | (simp; done) | apply And.intro)⟩, fun x hx => ?l2⟩)) (fun g => ⟨⟨(0, ([], n)), ⟨Nat.zero_le _, rfl, ?k4⟩, (by repeat' first | trivial | rfl | (simp; done) | apply And.intro)⟩, fun x hx => ?l3⟩)
  case i4 =>
    obtain ⟨q1, q2⟩ := e3 (of_decide_eq_true g)
    show T.mk k (n + y) (mvL (shf y c) 0 k 0 ts) = _
    rw [q1, q2, if_pos (of_decide_eq_true g2)]
  case j4 =>
    obtain ⟨q1, q2⟩ := e3 (of_decide_eq_true g)
    show T.mk k n (mvL (shf y c) 0 k 0 ts) = _
    rw [q1, q2, if_neg (of_decide_eq_false g2)]
  case k4 => exact (e2 (of_decide_eq_false g)).symm
  case l1 | l2 | l3 =>
    obtain ⟨i, ⟨acc, q⟩⟩ := x
    obtain ⟨g1, g2, g4⟩ := hx
    simp only at g1 g2 g4
    refine br (fun h => ?_) (fun h => ?_)
    · have h := of_decide_eq_true h
      simp only at h
      have hi : i < ts.length := by omega
      have hmem := getD_mem hi
      have hs := sizeL_mem hmem
      have hu := und_range k i
      rw [drop_getD hi] at g4
      simp only [mvL] at g4
      have hsf := shf_add (ts.getD i default) y c 0 (und k i)
      simp only [Int.toNat_natCast, T.eta]
      refine ⟨⟨by omega, by omega⟩, (by first | trivial | rfl | (simp; done)), (by first | trivial | rfl | (simp; done)), (by first | trivial | rfl | (simp; done)), (by first | trivial | rfl | (simp; done)), (by first | trivial | rfl | (simp; done)), (by first | trivial | rfl | (simp; done)), by unfold InR; omega, ⟨by omega, ⟨d - 1, shpL_mem hsh hmem, by omega, by omega⟩, by omega⟩, (by first | trivial | rfl | (simp; done)), by omega, by unfold InR; omega, (i + 1, (acc ++ [(ts.getD i default).mv (shf y (c + und k i)) 0], q)), ⟨by show i + 1 ≤ _; omega, by show (acc ++ [_]).length = i + 1; simp [g2], ?_⟩, (by repeat' first | trivial | rfl | (simp; done) | (dsimp only; omega) | omega | apply And.intro)⟩
      show T.mk k q ((acc ++ [_]) ++ mvL (shf y c) 0 k (i + 1) (ts.drop (i + 1))) = _
      rw [← g4, hsf]; simp
    · have h := of_decide_eq_false h
      simp only at h
      have hi : ¬ i < ts.length := by omega
      rw [drop_len hi] at g4
      simp only [mvL, List.append_nil] at g4
      exact retT hk g4
  · have := e1 (of_decide_eq_true g); unfold InR; omega
theorem sShift_soundM : ∀ m : Nat, Sound Try.prog 101 (csShiftM m)
  | 0 => by
      refine soundF (G := []) gnil Try.func101 rfl (by kernel_rfl) fun args hs K hCC => ?_
      unfold csShiftM at hCC
      split at hCC
      case h_2 => exact hCC.elim
      exact absurd hCC.1.1 (Nat.not_lt_zero _)
  | m + 1 => by
      refine soundF (G := [(101, csShiftM m), (102, csUnder)]) ((gcons (sShift_soundM m) (gcons sUnder_sound gnil))) Try.func101 rfl (by kernel_rfl) fun args hs K hCC => ?_
      unfold csShiftM at hCC
      split at hCC
      case h_2 => exact hCC.elim
      rename_i k n ts y c
      exact ⟨Nat.le_of_ble_eq_true rfl, _, sShift_ok m k n ts y c K hCC.1.1 hCC.1.2 hCC.2⟩
theorem sShift_sound : Sound Try.prog 101 csShift := by
  refine sound_of_all (c := csShiftM) (fun m => (sShift_soundM m)) fun args hs K hCC => ?_
  unfold csShift at hCC
  split at hCC
  case h_2 => exact hCC.elim
  exact ⟨_, ⟨Nat.lt_succ_self _, hCC.1⟩, hCC.2⟩
/-- spec.l2Subst -/
def csSubstM (m : Nat) : Con
  | [.st [.int .i64 k, .int .i64 n, .slc ts (.arg 0)], .int .i64 (i), .st [.int .i64 ku, .int .i64 nu, .slc us (.arg 2)], .int .i64 (b)], [], K => (((T.mk k n ts).size) < m ∧ ((∃ d, (T.mk k n ts).shp d = true ∧ 0 ≤ b ∧ b ≤ i ∧ i + d ≤ 100) ∧ ((T.mk ku nu us).shp 30 = true))) ∧ ((K (((T.mk k n ts).mv (sbf (i - b) (.mk ku nu us)) b).fr) []))
  | _, _, _ => False
def csSubst : Con
  | [.st [.int .i64 k, .int .i64 n, .slc ts (.arg 0)], .int .i64 (i), .st [.int .i64 ku, .int .i64 nu, .slc us (.arg 2)], .int .i64 (b)], [], K => ((∃ d, (T.mk k n ts).shp d = true ∧ 0 ≤ b ∧ b ≤ i ∧ i + d ≤ 100) ∧ ((T.mk ku nu us).shp 30 = true)) ∧ ((K (((T.mk k n ts).mv (sbf (i - b) (.mk ku nu us)) b).fr) []))
  | _, _, _ => False
set_option maxHeartbeats 1000000 in
theorem sSubst_ok (m : Nat) (k n : Int) (ts : List T) (i : Int) (ku nu : Int) (us : List T) (b : Int) (K : AV → List AV → Prop) (hm : ((T.mk k n ts).size) < m + 1) (hp : ((∃ d, (T.mk k n ts).shp d = true ∧ 0 ≤ b ∧ b ≤ i ∧ i + d ≤ 100) ∧ ((T.mk ku nu us).shp 30 = true))) (hk : ((K (((T.mk k n ts).mv (sbf (i - b) (.mk ku nu us)) b).fr) []))) :
    bodyQ [(79, csSubstM m), (102, csUnder), (101, csShift)] TY [(7, { ι := Nat × (List T × Int), ok := fun x => x.1 ≤ ts.length ∧ x.2.1.length = x.1 ∧ T.mk k x.2.2 (x.2.1 ++ mvL (sbf (i - b) (.mk ku nu us)) b k x.1 (ts.drop x.1)) = (T.mk k n ts).mv (sbf (i - b) (.mk ku nu us)) b, tl := fun x => [(1, .int .i64 (i)), (3, .int .i64 (b)), (4, .ptr 4), (6, .ptr 6), (8, .ptr 8), (9, .ptr 9), (10, .int .i64 x.1)], hl := fun x => [(4, .st [.int .i64 k, .int .i64 n, .slc ts (.arg 0)]), (6, .st [.int .i64 ku, .int .i64 nu, .slc us (.arg 2)]), (8, (T.mk 0 0 []).av (.iv 0 0 true .full)), (9, .st [.int .i64 k, .int .i64 x.2.2, .slc x.2.1 (.iv 4 4 true (.tok 69))])], fh := fun x => [], μ := fun x => ts.length - x.1 })] Try.f79 (body Try.f79) [.st [.int .i64 k, .int .i64 n, .slc ts (.arg 0)], .int .i64 (i), .st [.int .i64 ku, .int .i64 nu, .slc us (.arg 2)], .int .i64 (b)] [] K := by
  refine of_vc (A :=
    (Br (Decidable.decide (k = (1 : Int)))
     (Br (Decidable.decide (n = i))
     (((∃ d : Int, (((T.shp (T.mk ku nu us) d) = true) ∧ (((0 : Int) ≤ (0 : Int)) ∧ (((0 : Int) + d) ≤ (100 : Int))))) ∧ (((- (100 : Int)) ≤ b) ∧ (b ≤ (100 : Int)))) ∧
     (Ret K (.st [(.int .i64 (T.k (T.mv (shf b (0 : Int)) (0 : Int) (T.mk ku nu us)))), (.int .i64 (T.n (T.mv (shf b (0 : Int)) (0 : Int) (T.mk ku nu us)))), (.slc (T.kids (T.mv (shf b (0 : Int)) (0 : Int) (T.mk ku nu us))) (.iv 4 4 true (.tok 0)))]) []))
     (Br (Decidable.decide (k = (1 : Int)))
     (Br (Decidable.decide (i < n))
     ((InR (n - (1 : Int))) ∧
     ((∃ x : (Prod Nat (Prod (List T) Int)),
     ((((Prod.fst x) ≤ (List.length ts)) ∧
     (((List.length (Prod.fst (Prod.snd x))) = (Prod.fst x)) ∧
     ((T.mk k (Prod.snd (Prod.snd x)) ((Prod.fst (Prod.snd x)) ++ (mvL (sbf (i - b) (T.mk ku nu us)) b k (Prod.fst x) (List.drop (Prod.fst x) ts)))) = (T.mv (sbf (i - b) (T.mk ku nu us)) b (T.mk k n ts))))) ∧
     ((i = i) ∧
     ((b = b) ∧
     (((0 : Int) = (((Prod.fst x) : Nat) : Int)) ∧
     ((k = k) ∧
     ((n = n) ∧
     ((ts = ts) ∧
     ((ku = ku) ∧
     ((nu = nu) ∧
     ((us = us) ∧
     (((0 : Int) = (0 : Int)) ∧
     (((0 : Int) = (0 : Int)) ∧
     ((([] : List T) = ([] : List T)) ∧ ((k = k) ∧ (((n - (1 : Int)) = (Prod.snd (Prod.snd x))) ∧ ((([] : List T) = (Prod.fst (Prod.snd x))) ∧ True))))))))))))))))) ∧
     (∀ x : (Prod Nat (Prod (List T) Int)),
     ((((Prod.fst x) ≤ (List.length ts)) ∧ (((List.length (Prod.fst (Prod.snd x))) = (Prod.fst x)) ∧ ((T.mk k (Prod.snd (Prod.snd x)) ((Prod.fst (Prod.snd x)) ++ (mvL (sbf (i - b) (T.mk ku nu us)) b k (Prod.fst x) (List.drop (Prod.fst x) ts)))) = (T.mv (sbf (i - b) (T.mk ku nu us)) b (T.mk k n ts))))) →
     (Br (Decidable.decide ((((Prod.fst x) : Nat) : Int) < (((List.length ts) : Nat) : Int)))
     (True ∧
     ((((0 : Int) ≤ (((Prod.fst x) : Nat) : Int)) ∧ ((((Prod.fst x) : Nat) : Int) < (((List.length ts) : Nat) : Int))) ∧
     ((InR (i + (und k (((Prod.fst x) : Nat) : Int)))) ∧
     ((InR (b + (und k (((Prod.fst x) : Nat) : Int)))) ∧
     ((((T.size (T.mk (T.k (List.getD ts (Int.toNat (((Prod.fst x) : Nat) : Int)) default)) (T.n (List.getD ts (Int.toNat (((Prod.fst x) : Nat) : Int)) default)) (T.kids (List.getD ts (Int.toNat (((Prod.fst x) : Nat) : Int)) default)))) < m) ∧
     ((∃ d : Int,
     (((T.shp (T.mk (T.k (List.getD ts (Int.toNat (((Prod.fst x) : Nat) : Int)) default)) (T.n (List.getD ts (Int.toNat (((Prod.fst x) : Nat) : Int)) default)) (T.kids (List.getD ts (Int.toNat (((Prod.fst x) : Nat) : Int)) default))) d) = true) ∧
     (((0 : Int) ≤ (b + (und k (((Prod.fst x) : Nat) : Int)))) ∧
     (((b + (und k (((Prod.fst x) : Nat) : Int))) ≤ (i + (und k (((Prod.fst x) : Nat) : Int)))) ∧ (((i + (und k (((Prod.fst x) : Nat) : Int))) + d) ≤ (100 : Int)))))) ∧
     ((T.shp (T.mk ku nu us) (30 : Int)) = true))) ∧
     (((Prod.fst (Prod.snd x)) = (Prod.fst (Prod.snd x))) ∧
     ((((((List.length (Prod.fst (Prod.snd x))) : Nat) : Int) + (1 : Int)) ≤ (1099511627776 : Int)) ∧
     ((InR ((((Prod.fst x) : Nat) : Int) + (1 : Int))) ∧
     (∃ y : (Prod Nat (Prod (List T) Int)),
     ((((Prod.fst y) ≤ (List.length ts)) ∧
     (((List.length (Prod.fst (Prod.snd y))) = (Prod.fst y)) ∧
     ((T.mk k (Prod.snd (Prod.snd y)) ((Prod.fst (Prod.snd y)) ++ (mvL (sbf (i - b) (T.mk ku nu us)) b k (Prod.fst y) (List.drop (Prod.fst y) ts)))) = (T.mv (sbf (i - b) (T.mk ku nu us)) b (T.mk k n ts))))) ∧
     ((i = i) ∧
     ((b = b) ∧
     ((((((Prod.fst x) : Nat) : Int) + (1 : Int)) = (((Prod.fst y) : Nat) : Int)) ∧
     ((k = k) ∧
     ((n = n) ∧
     ((ts = ts) ∧
     ((ku = ku) ∧
     ((nu = nu) ∧
     ((us = us) ∧
     (((0 : Int) = (0 : Int)) ∧
     (((0 : Int) = (0 : Int)) ∧
     ((([] : List T) = ([] : List T)) ∧
     ((k = k) ∧
     (((Prod.snd (Prod.snd x)) = (Prod.snd (Prod.snd y))) ∧
     ((((Prod.fst (Prod.snd x)) ++ [(T.mk (T.k (T.mv (sbf ((i + (und k (((Prod.fst x) : Nat) : Int))) - (b + (und k (((Prod.fst x) : Nat) : Int)))) (T.mk ku nu us)) (b + (und k (((Prod.fst x) : Nat) : Int))) (T.mk (T.k (List.getD ts (Int.toNat (((Prod.fst x) : Nat) : Int)) default)) (T.n (List.getD ts (Int.toNat (((Prod.fst x) : Nat) : Int)) default)) (T.kids (List.getD ts (Int.toNat (((Prod.fst x) : Nat) : Int)) default))))) (T.n (T.mv (sbf ((i + (und k (((Prod.fst x) : Nat) : Int))) - (b + (und k (((Prod.fst x) : Nat) : Int)))) (T.mk ku nu us)) (b + (und k (((Prod.fst x) : Nat) : Int))) (T.mk (T.k (List.getD ts (Int.toNat (((Prod.fst x) : Nat) : Int)) default)) (T.n (List.getD ts (Int.toNat (((Prod.fst x) : Nat) : Int)) default)) (T.kids (List.getD ts (Int.toNat (((Prod.fst x) : Nat) : Int)) default))))) (T.kids (T.mv (sbf ((i + (und k (((Prod.fst x) : Nat) : Int))) - (b + (und k (((Prod.fst x) : Nat) : Int)))) (T.mk ku nu us)) (b + (und k (((Prod.fst x) : Nat) : Int))) (T.mk (T.k (List.getD ts (Int.toNat (((Prod.fst x) : Nat) : Int)) default)) (T.n (List.getD ts (Int.toNat (((Prod.fst x) : Nat) : Int)) default)) (T.kids (List.getD ts (Int.toNat (((Prod.fst x) : Nat) : Int)) default))))))]) = (Prod.fst (Prod.snd y))) ∧
     ((Nat.succ ((List.length ts) - (Prod.fst y))) ≤ ((List.length ts) - (Prod.fst x))))))))))))))))))))))))))))
     (Ret K (.st [(.int .i64 k), (.int .i64 (Prod.snd (Prod.snd x))), (.slc (Prod.fst (Prod.snd x)) (.iv 4 4 true (.tok 0)))]) []))))))
     ((∃ x : (Prod Nat (Prod (List T) Int)),
     ((((Prod.fst x) ≤ (List.length ts)) ∧
     (((List.length (Prod.fst (Prod.snd x))) = (Prod.fst x)) ∧
     ((T.mk k (Prod.snd (Prod.snd x)) ((Prod.fst (Prod.snd x)) ++ (mvL (sbf (i - b) (T.mk ku nu us)) b k (Prod.fst x) (List.drop (Prod.fst x) ts)))) = (T.mv (sbf (i - b) (T.mk ku nu us)) b (T.mk k n ts))))) ∧
     ((i = i) ∧
     ((b = b) ∧
     (((0 : Int) = (((Prod.fst x) : Nat) : Int)) ∧
     ((k = k) ∧
     ((n = n) ∧
     ((ts = ts) ∧
     ((ku = ku) ∧
     ((nu = nu) ∧
     ((us = us) ∧
     (((0 : Int) = (0 : Int)) ∧
     (((0 : Int) = (0 : Int)) ∧
     ((([] : List T) = ([] : List T)) ∧ ((k = k) ∧ ((n = (Prod.snd (Prod.snd x))) ∧ ((([] : List T) = (Prod.fst (Prod.snd x))) ∧ True))))))))))))))))) ∧
     (∀ x : (Prod Nat (Prod (List T) Int)),
     ((((Prod.fst x) ≤ (List.length ts)) ∧ (((List.length (Prod.fst (Prod.snd x))) = (Prod.fst x)) ∧ ((T.mk k (Prod.snd (Prod.snd x)) ((Prod.fst (Prod.snd x)) ++ (mvL (sbf (i - b) (T.mk ku nu us)) b k (Prod.fst x) (List.drop (Prod.fst x) ts)))) = (T.mv (sbf (i - b) (T.mk ku nu us)) b (T.mk k n ts))))) →
     (Br (Decidable.decide ((((Prod.fst x) : Nat) : Int) < (((List.length ts) : Nat) : Int)))
     (True ∧
     ((((0 : Int) ≤ (((Prod.fst x) : Nat) : Int)) ∧ ((((Prod.fst x) : Nat) : Int) < (((List.length ts) : Nat) : Int))) ∧
     ((InR (i + (und k (((Prod.fst x) : Nat) : Int)))) ∧
     ((InR (b + (und k (((Prod.fst x) : Nat) : Int)))) ∧
     ((((T.size (T.mk (T.k (List.getD ts (Int.toNat (((Prod.fst x) : Nat) : Int)) default)) (T.n (List.getD ts (Int.toNat (((Prod.fst x) : Nat) : Int)) default)) (T.kids (List.getD ts (Int.toNat (((Prod.fst x) : Nat) : Int)) default)))) < m) ∧
     ((∃ d : Int,
     (((T.shp (T.mk (T.k (List.getD ts (Int.toNat (((Prod.fst x) : Nat) : Int)) default)) (T.n (List.getD ts (Int.toNat (((Prod.fst x) : Nat) : Int)) default)) (T.kids (List.getD ts (Int.toNat (((Prod.fst x) : Nat) : Int)) default))) d) = true) ∧
     (((0 : Int) ≤ (b + (und k (((Prod.fst x) : Nat) : Int)))) ∧
     (((b + (und k (((Prod.fst x) : Nat) : Int))) ≤ (i + (und k (((Prod.fst x) : Nat) : Int)))) ∧ (((i + (und k (((Prod.fst x) : Nat) : Int))) + d) ≤ (100 : Int)))))) ∧
     ((T.shp (T.mk ku nu us) (30 : Int)) = true))) ∧
     (((Prod.fst (Prod.snd x)) = (Prod.fst (Prod.snd x))) ∧
     ((((((List.length (Prod.fst (Prod.snd x))) : Nat) : Int) + (1 : Int)) ≤ (1099511627776 : Int)) ∧
     ((InR ((((Prod.fst x) : Nat) : Int) + (1 : Int))) ∧
     (∃ y : (Prod Nat (Prod (List T) Int)),
     ((((Prod.fst y) ≤ (List.length ts)) ∧
     (((List.length (Prod.fst (Prod.snd y))) = (Prod.fst y)) ∧
     ((T.mk k (Prod.snd (Prod.snd y)) ((Prod.fst (Prod.snd y)) ++ (mvL (sbf (i - b) (T.mk ku nu us)) b k (Prod.fst y) (List.drop (Prod.fst y) ts)))) = (T.mv (sbf (i - b) (T.mk ku nu us)) b (T.mk k n ts))))) ∧
     ((i = i) ∧
     ((b = b) ∧
     ((((((Prod.fst x) : Nat) : Int) + (1 : Int)) = (((Prod.fst y) : Nat) : Int)) ∧
     ((k = k) ∧
     ((n = n) ∧
     ((ts = ts) ∧
     ((ku = ku) ∧
     ((nu = nu) ∧
     ((us = us) ∧
     (((0 : Int) = (0 : Int)) ∧
     (((0 : Int) = (0 : Int)) ∧
     ((([] : List T) = ([] : List T)) ∧
     ((k = k) ∧
     (((Prod.snd (Prod.snd x)) = (Prod.snd (Prod.snd y))) ∧
     ((((Prod.fst (Prod.snd x)) ++ [(T.mk (T.k (T.mv (sbf ((i + (und k (((Prod.fst x) : Nat) : Int))) - (b + (und k (((Prod.fst x) : Nat) : Int)))) (T.mk ku nu us)) (b + (und k (((Prod.fst x) : Nat) : Int))) (T.mk (T.k (List.getD ts (Int.toNat (((Prod.fst x) : Nat) : Int)) default)) (T.n (List.getD ts (Int.toNat (((Prod.fst x) : Nat) : Int)) default)) (T.kids (List.getD ts (Int.toNat (((Prod.fst x) : Nat) : Int)) default))))) (T.n (T.mv (sbf ((i + (und k (((Prod.fst x) : Nat) : Int))) - (b + (und k (((Prod.fst x) : Nat) : Int)))) (T.mk ku nu us)) (b + (und k (((Prod.fst x) : Nat) : Int))) (T.mk (T.k (List.getD ts (Int.toNat (((Prod.fst x) : Nat) : Int)) default)) (T.n (List.getD ts (Int.toNat (((Prod.fst x) : Nat) : Int)) default)) (T.kids (List.getD ts (Int.toNat (((Prod.fst x) : Nat) : Int)) default))))) (T.kids (T.mv (sbf ((i + (und k (((Prod.fst x) : Nat) : Int))) - (b + (und k (((Prod.fst x) : Nat) : Int)))) (T.mk ku nu us)) (b + (und k (((Prod.fst x) : Nat) : Int))) (T.mk (T.k (List.getD ts (Int.toNat (((Prod.fst x) : Nat) : Int)) default)) (T.n (List.getD ts (Int.toNat (((Prod.fst x) : Nat) : Int)) default)) (T.kids (List.getD ts (Int.toNat (((Prod.fst x) : Nat) : Int)) default))))))]) = (Prod.fst (Prod.snd y))) ∧
     ((Nat.succ ((List.length ts) - (Prod.fst y))) ≤ ((List.length ts) - (Prod.fst x))))))))))))))))))))))))))))
     (Ret K (.st [(.int .i64 k), (.int .i64 (Prod.snd (Prod.snd x))), (.slc (Prod.fst (Prod.snd x)) (.iv 4 4 true (.tok 0)))]) []))))))
     ((∃ x : (Prod Nat (Prod (List T) Int)),
     ((((Prod.fst x) ≤ (List.length ts)) ∧
     (((List.length (Prod.fst (Prod.snd x))) = (Prod.fst x)) ∧
     ((T.mk k (Prod.snd (Prod.snd x)) ((Prod.fst (Prod.snd x)) ++ (mvL (sbf (i - b) (T.mk ku nu us)) b k (Prod.fst x) (List.drop (Prod.fst x) ts)))) = (T.mv (sbf (i - b) (T.mk ku nu us)) b (T.mk k n ts))))) ∧
     ((i = i) ∧
     ((b = b) ∧
     (((0 : Int) = (((Prod.fst x) : Nat) : Int)) ∧
     ((k = k) ∧
     ((n = n) ∧
     ((ts = ts) ∧
     ((ku = ku) ∧
     ((nu = nu) ∧
     ((us = us) ∧
     (((0 : Int) = (0 : Int)) ∧
     (((0 : Int) = (0 : Int)) ∧
     ((([] : List T) = ([] : List T)) ∧ ((k = k) ∧ ((n = (Prod.snd (Prod.snd x))) ∧ ((([] : List T) = (Prod.fst (Prod.snd x))) ∧ True))))))))))))))))) ∧
     (∀ x : (Prod Nat (Prod (List T) Int)),
     ((((Prod.fst x) ≤ (List.length ts)) ∧ (((List.length (Prod.fst (Prod.snd x))) = (Prod.fst x)) ∧ ((T.mk k (Prod.snd (Prod.snd x)) ((Prod.fst (Prod.snd x)) ++ (mvL (sbf (i - b) (T.mk ku nu us)) b k (Prod.fst x) (List.drop (Prod.fst x) ts)))) = (T.mv (sbf (i - b) (T.mk ku nu us)) b (T.mk k n ts))))) →
     (Br (Decidable.decide ((((Prod.fst x) : Nat) : Int) < (((List.length ts) : Nat) : Int)))
     (True ∧
     ((((0 : Int) ≤ (((Prod.fst x) : Nat) : Int)) ∧ ((((Prod.fst x) : Nat) : Int) < (((List.length ts) : Nat) : Int))) ∧
     ((InR (i + (und k (((Prod.fst x) : Nat) : Int)))) ∧
     ((InR (b + (und k (((Prod.fst x) : Nat) : Int)))) ∧
     ((((T.size (T.mk (T.k (List.getD ts (Int.toNat (((Prod.fst x) : Nat) : Int)) default)) (T.n (List.getD ts (Int.toNat (((Prod.fst x) : Nat) : Int)) default)) (T.kids (List.getD ts (Int.toNat (((Prod.fst x) : Nat) : Int)) default)))) < m) ∧
     ((∃ d : Int,
     (((T.shp (T.mk (T.k (List.getD ts (Int.toNat (((Prod.fst x) : Nat) : Int)) default)) (T.n (List.getD ts (Int.toNat (((Prod.fst x) : Nat) : Int)) default)) (T.kids (List.getD ts (Int.toNat (((Prod.fst x) : Nat) : Int)) default))) d) = true) ∧
     (((0 : Int) ≤ (b + (und k (((Prod.fst x) : Nat) : Int)))) ∧
     (((b + (und k (((Prod.fst x) : Nat) : Int))) ≤ (i + (und k (((Prod.fst x) : Nat) : Int)))) ∧ (((i + (und k (((Prod.fst x) : Nat) : Int))) + d) ≤ (100 : Int)))))) ∧
     ((T.shp (T.mk ku nu us) (30 : Int)) = true))) ∧
     (((Prod.fst (Prod.snd x)) = (Prod.fst (Prod.snd x))) ∧
     ((((((List.length (Prod.fst (Prod.snd x))) : Nat) : Int) + (1 : Int)) ≤ (1099511627776 : Int)) ∧
     ((InR ((((Prod.fst x) : Nat) : Int) + (1 : Int))) ∧
     (∃ y : (Prod Nat (Prod (List T) Int)),
     ((((Prod.fst y) ≤ (List.length ts)) ∧
     (((List.length (Prod.fst (Prod.snd y))) = (Prod.fst y)) ∧
     ((T.mk k (Prod.snd (Prod.snd y)) ((Prod.fst (Prod.snd y)) ++ (mvL (sbf (i - b) (T.mk ku nu us)) b k (Prod.fst y) (List.drop (Prod.fst y) ts)))) = (T.mv (sbf (i - b) (T.mk ku nu us)) b (T.mk k n ts))))) ∧
     ((i = i) ∧
     ((b = b) ∧
     ((((((Prod.fst x) : Nat) : Int) + (1 : Int)) = (((Prod.fst y) : Nat) : Int)) ∧
     ((k = k) ∧
     ((n = n) ∧
     ((ts = ts) ∧
     ((ku = ku) ∧
     ((nu = nu) ∧
     ((us = us) ∧
     (((0 : Int) = (0 : Int)) ∧
     (((0 : Int) = (0 : Int)) ∧
     ((([] : List T) = ([] : List T)) ∧
     ((k = k) ∧
     (((Prod.snd (Prod.snd x)) = (Prod.snd (Prod.snd y))) ∧
     ((((Prod.fst (Prod.snd x)) ++ [(T.mk (T.k (T.mv (sbf ((i + (und k (((Prod.fst x) : Nat) : Int))) - (b + (und k (((Prod.fst x) : Nat) : Int)))) (T.mk ku nu us)) (b + (und k (((Prod.fst x) : Nat) : Int))) (T.mk (T.k (List.getD ts (Int.toNat (((Prod.fst x) : Nat) : Int)) default)) (T.n (List.getD ts (Int.toNat (((Prod.fst x) : Nat) : Int)) default)) (T.kids (List.getD ts (Int.toNat (((Prod.fst x) : Nat) : Int)) default))))) (T.n (T.mv (sbf ((i + (und k (((Prod.fst x) : Nat) : Int))) - (b + (und k (((Prod.fst x) : Nat) : Int)))) (T.mk ku nu us)) (b + (und k (((Prod.fst x) : Nat) : Int))) (T.mk (T.k (List.getD ts (Int.toNat (((Prod.fst x) : Nat) : Int)) default)) (T.n (List.getD ts (Int.toNat (((Prod.fst x) : Nat) : Int)) default)) (T.kids (List.getD ts (Int.toNat (((Prod.fst x) : Nat) : Int)) default))))) (T.kids (T.mv (sbf ((i + (und k (((Prod.fst x) : Nat) : Int))) - (b + (und k (((Prod.fst x) : Nat) : Int)))) (T.mk ku nu us)) (b + (und k (((Prod.fst x) : Nat) : Int))) (T.mk (T.k (List.getD ts (Int.toNat (((Prod.fst x) : Nat) : Int)) default)) (T.n (List.getD ts (Int.toNat (((Prod.fst x) : Nat) : Int)) default)) (T.kids (List.getD ts (Int.toNat (((Prod.fst x) : Nat) : Int)) default))))))]) = (Prod.fst (Prod.snd y))) ∧
     ((Nat.succ ((List.length ts) - (Prod.fst y))) ≤ ((List.length ts) - (Prod.fst x))))))))))))))))))))))))))))
     (Ret K (.st [(.int .i64 k), (.int .i64 (Prod.snd (Prod.snd x))), (.slc (Prod.fst (Prod.snd x)) (.iv 4 4 true (.tok 0)))]) [])))))))
     (Br (Decidable.decide (k = (1 : Int)))
     (Br (Decidable.decide (i < n))
     ((InR (n - (1 : Int))) ∧
     ((∃ x : (Prod Nat (Prod (List T) Int)),
     ((((Prod.fst x) ≤ (List.length ts)) ∧
     (((List.length (Prod.fst (Prod.snd x))) = (Prod.fst x)) ∧
     ((T.mk k (Prod.snd (Prod.snd x)) ((Prod.fst (Prod.snd x)) ++ (mvL (sbf (i - b) (T.mk ku nu us)) b k (Prod.fst x) (List.drop (Prod.fst x) ts)))) = (T.mv (sbf (i - b) (T.mk ku nu us)) b (T.mk k n ts))))) ∧
     ((i = i) ∧
     ((b = b) ∧
     (((0 : Int) = (((Prod.fst x) : Nat) : Int)) ∧
     ((k = k) ∧
     ((n = n) ∧
     ((ts = ts) ∧
     ((ku = ku) ∧
     ((nu = nu) ∧
     ((us = us) ∧
     (((0 : Int) = (0 : Int)) ∧
     (((0 : Int) = (0 : Int)) ∧
     ((([] : List T) = ([] : List T)) ∧ ((k = k) ∧ (((n - (1 : Int)) = (Prod.snd (Prod.snd x))) ∧ ((([] : List T) = (Prod.fst (Prod.snd x))) ∧ True))))))))))))))))) ∧
     (∀ x : (Prod Nat (Prod (List T) Int)),
     ((((Prod.fst x) ≤ (List.length ts)) ∧ (((List.length (Prod.fst (Prod.snd x))) = (Prod.fst x)) ∧ ((T.mk k (Prod.snd (Prod.snd x)) ((Prod.fst (Prod.snd x)) ++ (mvL (sbf (i - b) (T.mk ku nu us)) b k (Prod.fst x) (List.drop (Prod.fst x) ts)))) = (T.mv (sbf (i - b) (T.mk ku nu us)) b (T.mk k n ts))))) →
     (Br (Decidable.decide ((((Prod.fst x) : Nat) : Int) < (((List.length ts) : Nat) : Int)))
     (True ∧
     ((((0 : Int) ≤ (((Prod.fst x) : Nat) : Int)) ∧ ((((Prod.fst x) : Nat) : Int) < (((List.length ts) : Nat) : Int))) ∧
     ((InR (i + (und k (((Prod.fst x) : Nat) : Int)))) ∧
     ((InR (b + (und k (((Prod.fst x) : Nat) : Int)))) ∧
     ((((T.size (T.mk (T.k (List.getD ts (Int.toNat (((Prod.fst x) : Nat) : Int)) default)) (T.n (List.getD ts (Int.toNat (((Prod.fst x) : Nat) : Int)) default)) (T.kids (List.getD ts (Int.toNat (((Prod.fst x) : Nat) : Int)) default)))) < m) ∧
     ((∃ d : Int,
     (((T.shp (T.mk (T.k (List.getD ts (Int.toNat (((Prod.fst x) : Nat) : Int)) default)) (T.n (List.getD ts (Int.toNat (((Prod.fst x) : Nat) : Int)) default)) (T.kids (List.getD ts (Int.toNat (((Prod.fst x) : Nat) : Int)) default))) d) = true) ∧
     (((0 : Int) ≤ (b + (und k (((Prod.fst x) : Nat) : Int)))) ∧
     (((b + (und k (((Prod.fst x) : Nat) : Int))) ≤ (i + (und k (((Prod.fst x) : Nat) : Int)))) ∧ (((i + (und k (((Prod.fst x) : Nat) : Int))) + d) ≤ (100 : Int)))))) ∧
     ((T.shp (T.mk ku nu us) (30 : Int)) = true))) ∧
     (((Prod.fst (Prod.snd x)) = (Prod.fst (Prod.snd x))) ∧
     ((((((List.length (Prod.fst (Prod.snd x))) : Nat) : Int) + (1 : Int)) ≤ (1099511627776 : Int)) ∧
     ((InR ((((Prod.fst x) : Nat) : Int) + (1 : Int))) ∧
     (∃ y : (Prod Nat (Prod (List T) Int)),
     ((((Prod.fst y) ≤ (List.length ts)) ∧
     (((List.length (Prod.fst (Prod.snd y))) = (Prod.fst y)) ∧
     ((T.mk k (Prod.snd (Prod.snd y)) ((Prod.fst (Prod.snd y)) ++ (mvL (sbf (i - b) (T.mk ku nu us)) b k (Prod.fst y) (List.drop (Prod.fst y) ts)))) = (T.mv (sbf (i - b) (T.mk ku nu us)) b (T.mk k n ts))))) ∧
     ((i = i) ∧
     ((b = b) ∧
     ((((((Prod.fst x) : Nat) : Int) + (1 : Int)) = (((Prod.fst y) : Nat) : Int)) ∧
     ((k = k) ∧
     ((n = n) ∧
     ((ts = ts) ∧
     ((ku = ku) ∧
     ((nu = nu) ∧
     ((us = us) ∧
     (((0 : Int) = (0 : Int)) ∧
     (((0 : Int) = (0 : Int)) ∧
     ((([] : List T) = ([] : List T)) ∧
     ((k = k) ∧
     (((Prod.snd (Prod.snd x)) = (Prod.snd (Prod.snd y))) ∧
     ((((Prod.fst (Prod.snd x)) ++ [(T.mk (T.k (T.mv (sbf ((i + (und k (((Prod.fst x) : Nat) : Int))) - (b + (und k (((Prod.fst x) : Nat) : Int)))) (T.mk ku nu us)) (b + (und k (((Prod.fst x) : Nat) : Int))) (T.mk (T.k (List.getD ts (Int.toNat (((Prod.fst x) : Nat) : Int)) default)) (T.n (List.getD ts (Int.toNat (((Prod.fst x) : Nat) : Int)) default)) (T.kids (List.getD ts (Int.toNat (((Prod.fst x) : Nat) : Int)) default))))) (T.n (T.mv (sbf ((i + (und k (((Prod.fst x) : Nat) : Int))) - (b + (und k (((Prod.fst x) : Nat) : Int)))) (T.mk ku nu us)) (b + (und k (((Prod.fst x) : Nat) : Int))) (T.mk (T.k (List.getD ts (Int.toNat (((Prod.fst x) : Nat) : Int)) default)) (T.n (List.getD ts (Int.toNat (((Prod.fst x) : Nat) : Int)) default)) (T.kids (List.getD ts (Int.toNat (((Prod.fst x) : Nat) : Int)) default))))) (T.kids (T.mv (sbf ((i + (und k (((Prod.fst x) : Nat) : Int))) - (b + (und k (((Prod.fst x) : Nat) : Int)))) (T.mk ku nu us)) (b + (und k (((Prod.fst x) : Nat) : Int))) (T.mk (T.k (List.getD ts (Int.toNat (((Prod.fst x) : Nat) : Int)) default)) (T.n (List.getD ts (Int.toNat (((Prod.fst x) : Nat) : Int)) default)) (T.kids (List.getD ts (Int.toNat (((Prod.fst x) : Nat) : Int)) default))))))]) = (Prod.fst (Prod.snd y))) ∧
     ((Nat.succ ((List.length ts) - (Prod.fst y))) ≤ ((List.length ts) - (Prod.fst x))))))))))))))))))))))))))))
     (Ret K (.st [(.int .i64 k), (.int .i64 (Prod.snd (Prod.snd x))), (.slc (Prod.fst (Prod.snd x)) (.iv 4 4 true (.tok 0)))]) []))))))
     ((∃ x : (Prod Nat (Prod (List T) Int)),
     ((((Prod.fst x) ≤ (List.length ts)) ∧
     (((List.length (Prod.fst (Prod.snd x))) = (Prod.fst x)) ∧
     ((T.mk k (Prod.snd (Prod.snd x)) ((Prod.fst (Prod.snd x)) ++ (mvL (sbf (i - b) (T.mk ku nu us)) b k (Prod.fst x) (List.drop (Prod.fst x) ts)))) = (T.mv (sbf (i - b) (T.mk ku nu us)) b (T.mk k n ts))))) ∧
     ((i = i) ∧
     ((b = b) ∧
     (((0 : Int) = (((Prod.fst x) : Nat) : Int)) ∧
     ((k = k) ∧
     ((n = n) ∧
     ((ts = ts) ∧
     ((ku = ku) ∧
     ((nu = nu) ∧
     ((us = us) ∧
     (((0 : Int) = (0 : Int)) ∧
     (((0 : Int) = (0 : Int)) ∧
     ((([] : List T) = ([] : List T)) ∧ ((k = k) ∧ ((n = (Prod.snd (Prod.snd x))) ∧ ((([] : List T) = (Prod.fst (Prod.snd x))) ∧ True))))))))))))))))) ∧
     (∀ x : (Prod Nat (Prod (List T) Int)),
     ((((Prod.fst x) ≤ (List.length ts)) ∧ (((List.length (Prod.fst (Prod.snd x))) = (Prod.fst x)) ∧ ((T.mk k (Prod.snd (Prod.snd x)) ((Prod.fst (Prod.snd x)) ++ (mvL (sbf (i - b) (T.mk ku nu us)) b k (Prod.fst x) (List.drop (Prod.fst x) ts)))) = (T.mv (sbf (i - b) (T.mk ku nu us)) b (T.mk k n ts))))) →
     (Br (Decidable.decide ((((Prod.fst x) : Nat) : Int) < (((List.length ts) : Nat) : Int)))
     (True ∧
     ((((0 : Int) ≤ (((Prod.fst x) : Nat) : Int)) ∧ ((((Prod.fst x) : Nat) : Int) < (((List.length ts) : Nat) : Int))) ∧
     ((InR (i + (und k (((Prod.fst x) : Nat) : Int)))) ∧
     ((InR (b + (und k (((Prod.fst x) : Nat) : Int)))) ∧
     ((((T.size (T.mk (T.k (List.getD ts (Int.toNat (((Prod.fst x) : Nat) : Int)) default)) (T.n (List.getD ts (Int.toNat (((Prod.fst x) : Nat) : Int)) default)) (T.kids (List.getD ts (Int.toNat (((Prod.fst x) : Nat) : Int)) default)))) < m) ∧
     ((∃ d : Int,
     (((T.shp (T.mk (T.k (List.getD ts (Int.toNat (((Prod.fst x) : Nat) : Int)) default)) (T.n (List.getD ts (Int.toNat (((Prod.fst x) : Nat) : Int)) default)) (T.kids (List.getD ts (Int.toNat (((Prod.fst x) : Nat) : Int)) default))) d) = true) ∧
     (((0 : Int) ≤ (b + (und k (((Prod.fst x) : Nat) : Int)))) ∧
     (((b + (und k (((Prod.fst x) : Nat) : Int))) ≤ (i + (und k (((Prod.fst x) : Nat) : Int)))) ∧ (((i + (und k (((Prod.fst x) : Nat) : Int))) + d) ≤ (100 : Int)))))) ∧
     ((T.shp (T.mk ku nu us) (30 : Int)) = true))) ∧
     (((Prod.fst (Prod.snd x)) = (Prod.fst (Prod.snd x))) ∧
     ((((((List.length (Prod.fst (Prod.snd x))) : Nat) : Int) + (1 : Int)) ≤ (1099511627776 : Int)) ∧
     ((InR ((((Prod.fst x) : Nat) : Int) + (1 : Int))) ∧
     (∃ y : (Prod Nat (Prod (List T) Int)),
     ((((Prod.fst y) ≤ (List.length ts)) ∧
     (((List.length (Prod.fst (Prod.snd y))) = (Prod.fst y)) ∧
     ((T.mk k (Prod.snd (Prod.snd y)) ((Prod.fst (Prod.snd y)) ++ (mvL (sbf (i - b) (T.mk ku nu us)) b k (Prod.fst y) (List.drop (Prod.fst y) ts)))) = (T.mv (sbf (i - b) (T.mk ku nu us)) b (T.mk k n ts))))) ∧
     ((i = i) ∧
     ((b = b) ∧
     ((((((Prod.fst x) : Nat) : Int) + (1 : Int)) = (((Prod.fst y) : Nat) : Int)) ∧
     ((k = k) ∧
     ((n = n) ∧
     ((ts = ts) ∧
     ((ku = ku) ∧
     ((nu = nu) ∧
     ((us = us) ∧
     (((0 : Int) = (0 : Int)) ∧
     (((0 : Int) = (0 : Int)) ∧
     ((([] : List T) = ([] : List T)) ∧
     ((k = k) ∧
     (((Prod.snd (Prod.snd x)) = (Prod.snd (Prod.snd y))) ∧
     ((((Prod.fst (Prod.snd x)) ++ [(T.mk (T.k (T.mv (sbf ((i + (und k (((Prod.fst x) : Nat) : Int))) - (b + (und k (((Prod.fst x) : Nat) : Int)))) (T.mk ku nu us)) (b + (und k (((Prod.fst x) : Nat) : Int))) (T.mk (T.k (List.getD ts (Int.toNat (((Prod.fst x) : Nat) : Int)) default)) (T.n (List.getD ts (Int.toNat (((Prod.fst x) : Nat) : Int)) default)) (T.kids (List.getD ts (Int.toNat (((Prod.fst x) : Nat) : Int)) default))))) (T.n (T.mv (sbf ((i + (und k (((Prod.fst x) : Nat) : Int))) - (b + (und k (((Prod.fst x) : Nat) : Int)))) (T.mk ku nu us)) (b + (und k (((Prod.fst x) : Nat) : Int))) (T.mk (T.k (List.getD ts (Int.toNat (((Prod.fst x) : Nat) : Int)) default)) (T.n (List.getD ts (Int.toNat (((Prod.fst x) : Nat) : Int)) default)) (T.kids (List.getD ts (Int.toNat (((Prod.fst x) : Nat) : Int)) default))))) (T.kids (T.mv (sbf ((i + (und k (((Prod.fst x) : Nat) : Int))) - (b + (und k (((Prod.fst x) : Nat) : Int)))) (T.mk ku nu us)) (b + (und k (((Prod.fst x) : Nat) : Int))) (T.mk (T.k (List.getD ts (Int.toNat (((Prod.fst x) : Nat) : Int)) default)) (T.n (List.getD ts (Int.toNat (((Prod.fst x) : Nat) : Int)) default)) (T.kids (List.getD ts (Int.toNat (((Prod.fst x) : Nat) : Int)) default))))))]) = (Prod.fst (Prod.snd y))) ∧
     ((Nat.succ ((List.length ts) - (Prod.fst y))) ≤ ((List.length ts) - (Prod.fst x))))))))))))))))))))))))))))
     (Ret K (.st [(.int .i64 k), (.int .i64 (Prod.snd (Prod.snd x))), (.slc (Prod.fst (Prod.snd x)) (.iv 4 4 true (.tok 0)))]) []))))))
     ((∃ x : (Prod Nat (Prod (List T) Int)),
     ((((Prod.fst x) ≤ (List.length ts)) ∧
     (((List.length (Prod.fst (Prod.snd x))) = (Prod.fst x)) ∧
     ((T.mk k (Prod.snd (Prod.snd x)) ((Prod.fst (Prod.snd x)) ++ (mvL (sbf (i - b) (T.mk ku nu us)) b k (Prod.fst x) (List.drop (Prod.fst x) ts)))) = (T.mv (sbf (i - b) (T.mk ku nu us)) b (T.mk k n ts))))) ∧
     ((i = i) ∧
     ((b = b) ∧
     (((0 : Int) = (((Prod.fst x) : Nat) : Int)) ∧
     ((k = k) ∧
     ((n = n) ∧
     ((ts = ts) ∧
     ((ku = ku) ∧
     ((nu = nu) ∧
     ((us = us) ∧
     (((0 : Int) = (0 : Int)) ∧
     (((0 : Int) = (0 : Int)) ∧
     ((([] : List T) = ([] : List T)) ∧ ((k = k) ∧ ((n = (Prod.snd (Prod.snd x))) ∧ ((([] : List T) = (Prod.fst (Prod.snd x))) ∧ True))))))))))))))))) ∧
     (∀ x : (Prod Nat (Prod (List T) Int)),
     ((((Prod.fst x) ≤ (List.length ts)) ∧ (((List.length (Prod.fst (Prod.snd x))) = (Prod.fst x)) ∧ ((T.mk k (Prod.snd (Prod.snd x)) ((Prod.fst (Prod.snd x)) ++ (mvL (sbf (i - b) (T.mk ku nu us)) b k (Prod.fst x) (List.drop (Prod.fst x) ts)))) = (T.mv (sbf (i - b) (T.mk ku nu us)) b (T.mk k n ts))))) →
     (Br (Decidable.decide ((((Prod.fst x) : Nat) : Int) < (((List.length ts) : Nat) : Int)))
     (True ∧
     ((((0 : Int) ≤ (((Prod.fst x) : Nat) : Int)) ∧ ((((Prod.fst x) : Nat) : Int) < (((List.length ts) : Nat) : Int))) ∧
     ((InR (i + (und k (((Prod.fst x) : Nat) : Int)))) ∧
     ((InR (b + (und k (((Prod.fst x) : Nat) : Int)))) ∧
     ((((T.size (T.mk (T.k (List.getD ts (Int.toNat (((Prod.fst x) : Nat) : Int)) default)) (T.n (List.getD ts (Int.toNat (((Prod.fst x) : Nat) : Int)) default)) (T.kids (List.getD ts (Int.toNat (((Prod.fst x) : Nat) : Int)) default)))) < m) ∧
     ((∃ d : Int,
     (((T.shp (T.mk (T.k (List.getD ts (Int.toNat (((Prod.fst x) : Nat) : Int)) default)) (T.n (List.getD ts (Int.toNat (((Prod.fst x) : Nat) : Int)) default)) (T.kids (List.getD ts (Int.toNat (((Prod.fst x) : Nat) : Int)) default))) d) = true) ∧
     (((0 : Int) ≤ (b + (und k (((Prod.fst x) : Nat) : Int)))) ∧
     (((b + (und k (((Prod.fst x) : Nat) : Int))) ≤ (i + (und k (((Prod.fst x) : Nat) : Int)))) ∧ (((i + (und k (((Prod.fst x) : Nat) : Int))) + d) ≤ (100 : Int)))))) ∧
     ((T.shp (T.mk ku nu us) (30 : Int)) = true))) ∧
     (((Prod.fst (Prod.snd x)) = (Prod.fst (Prod.snd x))) ∧
     ((((((List.length (Prod.fst (Prod.snd x))) : Nat) : Int) + (1 : Int)) ≤ (1099511627776 : Int)) ∧
     ((InR ((((Prod.fst x) : Nat) : Int) + (1 : Int))) ∧
     (∃ y : (Prod Nat (Prod (List T) Int)),
     ((((Prod.fst y) ≤ (List.length ts)) ∧
     (((List.length (Prod.fst (Prod.snd y))) = (Prod.fst y)) ∧
     ((T.mk k (Prod.snd (Prod.snd y)) ((Prod.fst (Prod.snd y)) ++ (mvL (sbf (i - b) (T.mk ku nu us)) b k (Prod.fst y) (List.drop (Prod.fst y) ts)))) = (T.mv (sbf (i - b) (T.mk ku nu us)) b (T.mk k n ts))))) ∧
     ((i = i) ∧
     ((b = b) ∧
     ((((((Prod.fst x) : Nat) : Int) + (1 : Int)) = (((Prod.fst y) : Nat) : Int)) ∧
     ((k = k) ∧
     ((n = n) ∧
     ((ts = ts) ∧
     ((ku = ku) ∧
     ((nu = nu) ∧
     ((us = us) ∧
     (((0 : Int) = (0 : Int)) ∧
     (((0 : Int) = (0 : Int)) ∧
     ((([] : List T) = ([] : List T)) ∧
     ((k = k) ∧
     (((Prod.snd (Prod.snd x)) = (Prod.snd (Prod.snd y))) ∧
     ((((Prod.fst (Prod.snd x)) ++ [(T.mk (T.k (T.mv (sbf ((i + (und k (((Prod.fst x) : Nat) : Int))) - (b + (und k (((Prod.fst x) : Nat) : Int)))) (T.mk ku nu us)) (b + (und k (((Prod.fst x) : Nat) : Int))) (T.mk (T.k (List.getD ts (Int.toNat (((Prod.fst x) : Nat) : Int)) default)) (T.n (List.getD ts (Int.toNat (((Prod.fst x) : Nat) : Int)) default)) (T.kids (List.getD ts (Int.toNat (((Prod.fst x) : Nat) : Int)) default))))) (T.n (T.mv (sbf ((i + (und k (((Prod.fst x) : Nat) : Int))) - (b + (und k (((Prod.fst x) : Nat) : Int)))) (T.mk ku nu us)) (b + (und k (((Prod.fst x) : Nat) : Int))) (T.mk (T.k (List.getD ts (Int.toNat (((Prod.fst x) : Nat) : Int)) default)) (T.n (List.getD ts (Int.toNat (((Prod.fst x) : Nat) : Int)) default)) (T.kids (List.getD ts (Int.toNat (((Prod.fst x) : Nat) : Int)) default))))) (T.kids (T.mv (sbf ((i + (und k (((Prod.fst x) : Nat) : Int))) - (b + (und k (((Prod.fst x) : Nat) : Int)))) (T.mk ku nu us)) (b + (und k (((Prod.fst x) : Nat) : Int))) (T.mk (T.k (List.getD ts (Int.toNat (((Prod.fst x) : Nat) : Int)) default)) (T.n (List.getD ts (Int.toNat (((Prod.fst x) : Nat) : Int)) default)) (T.kids (List.getD ts (Int.toNat (((Prod.fst x) : Nat) : Int)) default))))))]) = (Prod.fst (Prod.snd y))) ∧
     ((Nat.succ ((List.length ts) - (Prod.fst y))) ≤ ((List.length ts) - (Prod.fst x))))))))))))))))))))))))))))
     (Ret K (.st [(.int .i64 k), (.int .i64 (Prod.snd (Prod.snd x))), (.slc (Prod.fst (Prod.snd x)) (.iv 4 4 true (.tok 0)))]) [])))))))) ?_ (by kernel_rfl)
  obtain ⟨⟨d, hd, h0, h1⟩, hx⟩ := hp
  have hd1 := T.shp_pos hd
  have hsh := T.shp_kids hd
  have hm' : 1 + sizeL ts < m + 1 := hm
  have hll := length_le_sizeL ts
  have hr := T.shp_root hd
  have har2 := (arity_range k).2
  have e1 : k = 1 → ts = [] ∧ 0 ≤ n ∧ n ≤ 20 := fun e => by
    subst e
    rw [show mostN 1 = 20 from rfl] at hr
    exact ⟨T.shp_var hd, hr.2⟩

  have e2 : k ≠ 1 → (T.mk k n ts).mv (sbf (i - b) (.mk ku nu us)) b = .mk k n (mvL (sbf (i - b) (.mk ku nu us)) b k 0 ts) := T.mv_node
  have e3 : k = 1 → (T.mk k n ts).mv (sbf (i - b) (.mk ku nu us)) b = sbf (i - b) (.mk ku nu us) b n ∧ mvL (sbf (i - b) (.mk ku nu us)) b k 0 ts = [] := fun e => by
    have := (e1 e).1; subst e this
    exact ⟨T.mv_var, rfl⟩
  have body : ∀ x : Nat × (List T × Int), (x.1 ≤ ts.length ∧ x.2.1.length = x.1 ∧ T.mk k x.2.2 (x.2.1 ++ mvL (sbf (i - b) (.mk ku nu us)) b k x.1 (ts.drop x.1)) = (T.mk k n ts).mv (sbf (i - b) (.mk ku nu us)) b) → x.1 < ts.length → T.mk k x.2.2 ((x.2.1 ++ [(ts.getD x.1 default).mv (sbf (i + und k x.1 - (b + und k x.1)) (.mk ku nu us)) (b + und k x.1)]) ++ mvL (sbf (i - b) (.mk ku nu us)) b k (x.1 + 1) (ts.drop (x.1 + 1))) = (T.mk k n ts).mv (sbf (i - b) (.mk ku nu us)) b := by
    rintro ⟨i', acc, q⟩ ⟨g1, g2, g4⟩ hi
    simp only at g1 g2 g4 hi ⊢
    rw [drop_getD hi] at g4
    simp only [mvL] at g4
    rw [← g4, show i + und k i' - (b + und k i') = i - b by omega]; simp
  refine br (fun g => br (fun g2 => ⟨⟨⟨30, hx, by omega, by omega⟩, by omega, by omega⟩, ?_⟩) (fun g2 => br (fun _ => br (fun g3 => ⟨?_, ⟨(0, ([], n - 1)), ⟨Nat.zero_le _, rfl, ?i4⟩, (by repeat' first | trivial | rfl | (simp; done) | apply And.intro)⟩, fun x hx => ?l1⟩) (fun g3 => ⟨⟨(0, ([], n)), ⟨Nat.zero_le _, rfl, ?j4⟩, (by repeat' first | trivial | rfl | (simp; done) | apply And.intro)⟩, fun x hx => ?l2⟩)) (fun g' => absurd g (by rw [g']; decide)))) (fun g => br (fun g' => absurd g' (by rw [g]; decide)) (fun _ => ⟨⟨(0, ([], n)), ⟨Nat.zero_le _, rfl, ?k4⟩, (by repeat' first | trivial | rfl | (simp; done) | apply And.intro)⟩, fun x hx => ?l3⟩))
  case i4 =>
    obtain ⟨q1, q2⟩ := e3 (of_decide_eq_true g)
    have hk1 := of_decide_eq_true g
    have g2 := of_decide_eq_false g2
    have g3 := of_decide_eq_true g3
    show T.mk k (n - 1) (mvL _ b k 0 ts) = _
    rw [q1, q2, sbf, if_neg (by omega), if_pos (by omega), hk1]; rfl
  case j4 =>
    obtain ⟨q1, q2⟩ := e3 (of_decide_eq_true g)
    have hk1 := of_decide_eq_true g
    have g2 := of_decide_eq_false g2
    have g3 := of_decide_eq_false g3
    show T.mk k n (mvL _ b k 0 ts) = _
    rw [q1, q2, sbf, if_neg (by omega), if_neg (by omega), hk1]; rfl
  case k4 => exact (e2 (of_decide_eq_false g)).symm
  case l1 | l2 | l3 =>
    refine br (fun h => ?_) (fun h => ?_)
    · have L := body x hx (by have := of_decide_eq_true h; omega)
      obtain ⟨i', ⟨acc, q⟩⟩ := x
      obtain ⟨g1, g2, g4⟩ := hx
      simp only at g1 g2 g4 L
      have h := of_decide_eq_true h
      simp only at h
      have hi : i' < ts.length := by omega
      have hmem := getD_mem hi
      have hs := sizeL_mem hmem
      have hu := und_range k i'
      simp only [Int.toNat_natCast, T.eta]
      exact ⟨trivial, ⟨by omega, by omega⟩, by unfold InR; omega, by unfold InR; omega, ⟨by omega, ⟨d - 1, shpL_mem hsh hmem, by omega, by omega, by omega⟩, by assumption⟩, (by first | trivial | rfl | (simp; done)), by omega, by unfold InR; omega, (i' + 1, (acc ++ [_], q)), ⟨by show i' + 1 ≤ _; omega, by show (acc ++ [_]).length = i' + 1; simp [g2], L⟩, (by repeat' first | trivial | rfl | (simp; done) | (dsimp only; omega) | omega | apply And.intro)⟩
    · obtain ⟨i', ⟨acc, q⟩⟩ := x
      obtain ⟨g1, g2, g4⟩ := hx
      simp only at g1 g2 g4
      have h := of_decide_eq_false h
      simp only at h
      have hi : ¬ i' < ts.length := by omega
      rw [drop_len hi] at g4
      simp only [mvL, List.append_nil] at g4
      exact retT hk g4
  · have g2 := of_decide_eq_true g2
    obtain ⟨q1, q2⟩ := e3 (of_decide_eq_true g)
    rw [q1, sbf, if_pos (by omega)] at hk
    exact retTv hk
  · have := e1 (of_decide_eq_true g); unfold InR; omega
theorem sSubst_soundM : ∀ m : Nat, Sound Try.prog 79 (csSubstM m)
  | 0 => by
      refine soundF (G := []) gnil Try.func79 rfl (by kernel_rfl) fun args hs K hCC => ?_
      unfold csSubstM at hCC
      split at hCC
      case h_2 => exact hCC.elim
      exact absurd hCC.1.1 (Nat.not_lt_zero _)
  | m + 1 => by
      refine soundF (G := [(79, csSubstM m), (102, csUnder), (101, csShift)]) ((gcons (sSubst_soundM m) (gcons sUnder_sound (gcons sShift_sound gnil)))) Try.func79 rfl (by kernel_rfl) fun args hs K hCC => ?_
      unfold csSubstM at hCC
      split at hCC
      case h_2 => exact hCC.elim
      rename_i k n ts i ku nu us b
      exact ⟨Nat.le_of_ble_eq_true rfl, _, sSubst_ok m k n ts i ku nu us b K hCC.1.1 hCC.1.2 hCC.2⟩
theorem sSubst_sound : Sound Try.prog 79 csSubst := by
  refine sound_of_all (c := csSubstM) (fun m => (sSubst_soundM m)) fun args hs K hCC => ?_
  unfold csSubst at hCC
  split at hCC
  case h_2 => exact hCC.elim
  exact ⟨_, ⟨Nat.lt_succ_self _, hCC.1⟩, hCC.2⟩

/-- The program's shift answers as the reference's. -/
theorem shR_shp {t : T} {y c : Int} (h : t.valid = true) : (t.mv (shf y c) 0).valid = (t.vs 0).all fun p => decide (0 ≤ (if c + p.1 ≤ p.2 then p.2 + y else p.2) ∧ (if c + p.1 ≤ p.2 then p.2 + y else p.2) ≤ 20) :=
  T.valid_ren (g := fun b n => if c + b ≤ n then n + y else n) h
theorem all_congr' {α : Type} {l : List α} {p q : α → Bool} (h : ∀ x ∈ l, p x = q x) : l.all p = l.all q := by
  induction l with
  | nil => rfl
  | cons x l ih => simp only [List.all_cons]; rw [h x (by simp), ih fun y hy => h y (by simp [hy])]
theorem shO_eq {t : T} {y c : Int} (h : t.valid = true) (hc : 0 ≤ c) : t.shO y c = ((if y < 0 then (t.vs 0).all (fun p => kpk c (-y) p.1 p.2) else true) && (t.mv (shf y c) 0).valid) := by
  have hr := T.vs_range t 0 30 (T.valid_shp h)
  unfold T.shO
  rw [shR_shp h]
  have key : (((t.vs 0).all fun p => shk y c p.1 p.2) && ((t.vs 0).all fun p => decide (0 ≤ (if c + p.1 ≤ p.2 then p.2 + y else p.2) ∧ (if c + p.1 ≤ p.2 then p.2 + y else p.2) ≤ 20))) = true ↔ ((if y < 0 then (t.vs 0).all (fun p => kpk c (-y) p.1 p.2) else true) && ((t.vs 0).all fun p => decide (0 ≤ (if c + p.1 ≤ p.2 then p.2 + y else p.2) ∧ (if c + p.1 ≤ p.2 then p.2 + y else p.2) ≤ 20))) = true := by
    simp only [Bool.and_eq_true]
    constructor
    · rintro ⟨h1, h2⟩
      refine ⟨?_, h2⟩
      split
      · rw [List.all_eq_true] at h1 ⊢
        intro p hp
        have := h1 p hp
        simp only [shk, kpk, decide_eq_true_eq, Bool.not_eq_true', decide_eq_false_iff_not] at this ⊢
        omega
      · rfl
    · rintro ⟨h1, h2⟩
      refine ⟨?_, h2⟩
      rw [List.all_eq_true] at h2 ⊢
      intro p hp
      have h2 := h2 p hp
      have h3 := hr p hp
      simp only [shk, decide_eq_true_eq] at h2 ⊢
      by_cases hy : y < 0
      · rw [if_pos hy, List.all_eq_true] at h1
        have := h1 p hp
        simp only [kpk, Bool.not_eq_true', decide_eq_false_iff_not] at this
        split at h2 <;> omega
      · split at h2 <;> omega
  exact Bool.eq_iff_iff.2 key
/-- Where no shift fails, the program's substitution is the one that is meant. -/
theorem sbfI_eq {t u : T} {j : Int} (h : ∀ p ∈ t.vs 0, sbk j u p.1 p.2 = true) : t.mv (sbfI j u) 0 = t.mv (sbf j u) 0 := by
  have := T.mv_eq (f := sbfI j u) (g := sbf j u) (u := 0) t 0 fun p hp => by
    have h1 := h p hp
    unfold sbk at h1
    unfold sbfI sbf
    rw [Int.add_zero]
    by_cases e : p.2 - p.1 = j
    · rw [if_pos e] at h1
      rw [if_pos e, if_pos (c := p.2 = j + p.1) (by omega), T.shR, if_pos h1]
    · rw [if_neg e, if_neg (c := p.2 = j + p.1) (by omega)]
      by_cases e2 : j < p.2 - p.1
      · rw [if_pos e2, if_pos (c := j + p.1 < p.2) (by omega)]
      · rw [if_neg e2, if_neg (c := j + p.1 < p.2) (by omega)]
  rw [Int.add_zero] at this; exact this
theorem sh_valid {u : T} {b : Int} (hu : u.valid = true) (hb : 0 ≤ b) : u.shO b 0 = (u.mv (shf b 0) 0).valid := by
  rw [shO_eq hu (Int.le_refl _), if_neg (by omega), Bool.true_and]
theorem sbO_eq {t u : T} {j : Int} (ht : t.valid = true) (hu : u.valid = true) : t.sbO j u = (t.mv (sbf j u) 0).valid := by
  have hr := T.vs_range t 0 30 (T.valid_shp ht)
  unfold T.sbO
  cases ha : ((t.vs 0).all fun p => sbk j u p.1 p.2) with
  | true =>
    rw [List.all_eq_true] at ha
    rw [sbfI_eq ha]; rfl
  | false =>
    cases hv : (t.mv (sbf j u) 0).valid with
    | false => rfl
    | true =>
      exfalso
      rw [List.all_eq_false] at ha
      obtain ⟨p, hp, h1⟩ := ha
      apply h1
      unfold sbk
      split
      · rename_i e
        have h2 := T.valid_sub hv hp
        unfold sbf at h2
        rw [if_pos (by omega)] at h2
        rw [sh_valid hu (by have := hr p hp; omega)]; exact h2
      · rfl
theorem SbR_eq {t u : T} {j : Int} (h : t.SbO j u = true) : t.SbR j u = t.mv (sbf j u) 0 := by
  unfold T.SbR
  rw [if_pos h]
  unfold T.SbO T.sbO at h
  simp only [Bool.and_eq_true] at h
  exact sbfI_eq (List.all_eq_true.1 h.2.2.2.1)
theorem small_of {t : T} (h : t.valid = true) : sizeL t.kids ≤ 400 := by have := T.valid_size h; rw [T.size_eq] at this; omega
theorem small_zero : sizeL (T.mk 0 0 []).kids ≤ 400 := Nat.zero_le _
theorem ShR_valid {t : T} {y c : Int} (h : t.ShO y c = true) : (t.ShR y c).valid = true := by
  unfold T.ShR
  rw [if_pos h]
  unfold T.ShO T.shO at h
  simp only [Bool.and_eq_true] at h
  exact h.2.2.2
theorem ShR_small (t : T) (y c : Int) : sizeL (t.ShR y c).kids ≤ 400 := by
  cases h : t.ShO y c with
  | true => exact small_of (ShR_valid h)
  | false => unfold T.ShR; rw [if_neg (by simp [h])]; exact small_zero
theorem SbR_valid {t u : T} {j : Int} (h : t.SbO j u = true) : (t.SbR j u).valid = true := by
  unfold T.SbR
  rw [if_pos h]
  unfold T.SbO T.sbO at h
  simp only [Bool.and_eq_true] at h
  exact h.2.2.2.2
theorem SbR_small (t : T) (j : Int) (u : T) : sizeL (t.SbR j u).kids ≤ 400 := by
  cases h : t.SbO j u with
  | true => exact small_of (SbR_valid h)
  | false => unfold T.SbR; rw [if_neg (by simp [h])]; exact small_zero
theorem RnR_small (t : T) (ns : List Int) : sizeL (t.RnR ns).kids ≤ 400 := by
  unfold T.RnR
  split
  · rename_i h
    unfold T.RnO at h
    simp only [Bool.and_eq_true] at h
    exact small_of h.2.2.2.2
  · exact small_zero
end Go.Dk
