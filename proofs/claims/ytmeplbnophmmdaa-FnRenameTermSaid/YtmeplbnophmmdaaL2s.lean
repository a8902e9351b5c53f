/- Binding: the reference's functions. -/
import Derived.Test.YtmeplbnophmmdaaL1s
import Derived.Test.YtmeplbnophmmdaaL2
namespace Go.Dk
set_option linter.unusedVariables false
open Go.Proofs
theorem cnL_add (t : T) (j b u : Int) : cnL (j + u) (t.vs b) = cnL j (t.vs (b + u)) := by
  rw [T.vs_add]
  unfold cnL
  rw [List.countP_map]
  congr 1
  apply List.countP_congr
  intro p _
  simp only [Function.comp, decide_eq_true_eq]
  constructor <;> intro h <;> omega
theorem shf_add (t : T) (y c b u : Int) : t.mv (shf y (c + u)) b = t.mv (shf y c) (b + u) :=
  T.mv_eq t b fun p _ => by rw [shf_eq, shf_eq, show c + u + p.1 = c + (p.1 + u) by omega]
def kpk (c r b n : Int) : Bool := !decide (c + b ≤ n ∧ n < c + b + r)
theorem kpk_add (t : T) (c r b u : Int) : ((t.vs b).all fun p => kpk (c + u) r p.1 p.2) = (t.vs (b + u)).all fun p => kpk c r p.1 p.2 := by
  rw [T.vs_add, List.all_map]
  congr 1
  funext p
  simp only [Function.comp, kpk, show c + u + p.1 = c + (p.1 + u) by omega]
/-- Substitution, as it is meant. -/
def sbf (j : Int) (u : T) (b n : Int) : T := if n = j + b then u.mv (shf b 0) 0 else if j + b < n then vr (n - 1) else vr n
/-- spec.l2Binds -/
def csBinds : Con
  | [.int .i64 (k), .int .i64 (i)], [], K => True ∧ ((K (.bool (decide (i = 1 ∧ (k = 3 ∨ k = 4 ∨ k = 13)))) []))
  | _, _, _ => False
theorem sBinds_ok (k i : Int) (K : AV → List AV → Prop) (hp : True) (hk : ((K (.bool (decide (i = 1 ∧ (k = 3 ∨ k = 4 ∨ k = 13)))) []))) :
    bodyQ [] TY [] Try.f63 (body Try.f63) [.int .i64 (k), .int .i64 (i)] [] K := by
  refine of_vc (A :=
    (Br (Decidable.decide (i = (1 : Int)))
     (Br (Decidable.decide (k = (3 : Int)))
     (Ret K (.bool true) [])
     (Br (Decidable.decide (k = (4 : Int))) (Ret K (.bool true) []) (Ret K (.bool (Decidable.decide (k = (13 : Int)))) [])))
     (Ret K (.bool false) []))) ?_ (by kernel_rfl)
  refine br (fun h => br (fun h1 => ?_) (fun h1 => br (fun h2 => ?_) (fun h2 => ?_))) (fun h => ?_)
  · have h := of_decide_eq_true h; have h1 := of_decide_eq_true h1; exact retB hk (by simp [h, h1])
  · have h := of_decide_eq_true h; have h2 := of_decide_eq_true h2; exact retB hk (by simp [h, h2])
  · have h := of_decide_eq_true h; have h1 := of_decide_eq_false h1; have h2 := of_decide_eq_false h2; exact retB hk (by simp [h, h1, h2])
  · have h := of_decide_eq_false h; exact retB hk (by simp [h])
theorem sBinds_sound : Sound Try.prog 63 csBinds := by
  refine soundF (G := []) (gnil) Try.func63 rfl (by kernel_rfl) fun args hs K hCC => ?_
  unfold csBinds at hCC
  split at hCC
  case h_2 => exact hCC.elim
  rename_i k i
  exact ⟨Nat.le_of_ble_eq_true rfl, _, sBinds_ok k i K hCC.1 hCC.2⟩
/-- spec.l2Under -/
def csUnder : Con
  | [.int .i64 (k), .int .i64 (i)], [], K => True ∧ ((K (.int .i64 (und k i)) []))
  | _, _, _ => False
theorem sUnder_ok (k i : Int) (K : AV → List AV → Prop) (hp : True) (hk : ((K (.int .i64 (und k i)) []))) :
    bodyQ [(63, csBinds)] TY [] Try.f55 (body Try.f55) [.int .i64 (k), .int .i64 (i)] [] K := by
  refine of_vc (A :=
    (True ∧
     (Br (Decidable.decide ((i = (1 : Int)) ∧ ((k = (3 : Int)) ∨ ((k = (4 : Int)) ∨ (k = (13 : Int))))))
     (Ret K (.int .i64 1) [])
     (Ret K (.int .i64 0) [])))) ?_ (by kernel_rfl)
  refine ⟨trivial, br (fun h => retI hk ?_) (fun h => retI hk ?_)⟩
  · unfold und; rw [if_pos (of_decide_eq_true h)]
  · unfold und; rw [if_neg (of_decide_eq_false h)]
theorem sUnder_sound : Sound Try.prog 55 csUnder := by
  refine soundF (G := [(63, csBinds)]) ((gcons sBinds_sound gnil)) Try.func55 rfl (by kernel_rfl) fun args hs K hCC => ?_
  unfold csUnder at hCC
  split at hCC
  case h_2 => exact hCC.elim
  rename_i k i
  exact ⟨Nat.le_of_ble_eq_true rfl, _, sUnder_ok k i K hCC.1 hCC.2⟩
/-- spec.l2Most -/
def csMost2M (m : Nat) : Con
  | [.st [.int .i64 k, .int .i64 n, .slc ts (.arg 0)], .int .i64 (b)], [], K => (((T.mk k n ts).size) < m ∧ ((∃ d, (T.mk k n ts).shp d = true ∧ 0 ≤ b ∧ b + d ≤ 100))) ∧ ((K (.int .i64 (mfL ((T.mk k n ts).vs b))) []))
  | _, _, _ => False
def csMost2 : Con
  | [.st [.int .i64 k, .int .i64 n, .slc ts (.arg 0)], .int .i64 (b)], [], K => ((∃ d, (T.mk k n ts).shp d = true ∧ 0 ≤ b ∧ b + d ≤ 100)) ∧ ((K (.int .i64 (mfL ((T.mk k n ts).vs b))) []))
  | _, _, _ => False
theorem sMost2_ok (m : Nat) (k n : Int) (ts : List T) (b : Int) (K : AV → List AV → Prop) (hm : ((T.mk k n ts).size) < m + 1) (hp : ((∃ d, (T.mk k n ts).shp d = true ∧ 0 ≤ b ∧ b + d ≤ 100))) (hk : ((K (.int .i64 (mfL ((T.mk k n ts).vs b))) []))) :
    bodyQ [(54, csMost2M m), (55, csUnder)] TY [(5, { ι := Nat × Int, ok := fun x => x.1 ≤ ts.length ∧ 0 ≤ x.2 ∧ max x.2 (mfL (vsL b k x.1 (ts.drop x.1))) = mfL ((T.mk k n ts).vs b), tl := fun x => [(1, .int .i64 (b)), (2, .ptr 2), (5, .int .i64 x.2), (6, .int .i64 x.1)], hl := fun x => [(2, .st [.int .i64 k, .int .i64 n, .slc ts (.arg 0)])], fh := fun x => [], μ := fun x => ts.length - x.1 })] Try.f54 (body Try.f54) [.st [.int .i64 k, .int .i64 n, .slc ts (.arg 0)], .int .i64 (b)] [] K := by
  refine of_vc (A :=
    (Br (Decidable.decide (k = (1 : Int)))
     (Br (Decidable.decide (b ≤ n))
     ((InR (n - b)) ∧
     ((InR ((n - b) + (1 : Int))) ∧
     ((∃ x : (Prod Nat Int),
     ((((Prod.fst x) ≤ (List.length ts)) ∧
     (((0 : Int) ≤ (Prod.snd x)) ∧ ((Max.max (Prod.snd x) (mfL (vsL b k (Prod.fst x) (List.drop (Prod.fst x) ts)))) = (mfL (T.vs b (T.mk k n ts)))))) ∧
     ((b = b) ∧ ((((n - b) + (1 : Int)) = (Prod.snd x)) ∧ (((0 : Int) = (((Prod.fst x) : Nat) : Int)) ∧ ((k = k) ∧ ((n = n) ∧ ((ts = ts) ∧ True)))))))) ∧
     (∀ x : (Prod Nat Int),
     ((((Prod.fst x) ≤ (List.length ts)) ∧ (((0 : Int) ≤ (Prod.snd x)) ∧ ((Max.max (Prod.snd x) (mfL (vsL b k (Prod.fst x) (List.drop (Prod.fst x) ts)))) = (mfL (T.vs b (T.mk k n ts)))))) →
     (Br (Decidable.decide ((((Prod.fst x) : Nat) : Int) < (((List.length ts) : Nat) : Int)))
     ((((0 : Int) ≤ (((Prod.fst x) : Nat) : Int)) ∧ ((((Prod.fst x) : Nat) : Int) < (((List.length ts) : Nat) : Int))) ∧
     (True ∧
     (((T.k (List.getD ts (Int.toNat (((Prod.fst x) : Nat) : Int)) default)) = (T.k (List.getD ts (Int.toNat (((Prod.fst x) : Nat) : Int)) default))) ∧
     (((T.n (List.getD ts (Int.toNat (((Prod.fst x) : Nat) : Int)) default)) = (T.n (List.getD ts (Int.toNat (((Prod.fst x) : Nat) : Int)) default))) ∧
     (((T.kids (List.getD ts (Int.toNat (((Prod.fst x) : Nat) : Int)) default)) = (T.kids (List.getD ts (Int.toNat (((Prod.fst x) : Nat) : Int)) default))) ∧
     ((ts = ts) ∧
     ((InR (b + (und k (((Prod.fst x) : Nat) : Int)))) ∧
     ((((T.size (T.mk (T.k (List.getD ts (Int.toNat (((Prod.fst x) : Nat) : Int)) default)) (T.n (List.getD ts (Int.toNat (((Prod.fst x) : Nat) : Int)) default)) (T.kids (List.getD ts (Int.toNat (((Prod.fst x) : Nat) : Int)) default)))) < m) ∧
     (∃ d : Int,
     (((T.shp (T.mk (T.k (List.getD ts (Int.toNat (((Prod.fst x) : Nat) : Int)) default)) (T.n (List.getD ts (Int.toNat (((Prod.fst x) : Nat) : Int)) default)) (T.kids (List.getD ts (Int.toNat (((Prod.fst x) : Nat) : Int)) default))) d) = true) ∧
     (((0 : Int) ≤ (b + (und k (((Prod.fst x) : Nat) : Int)))) ∧ (((b + (und k (((Prod.fst x) : Nat) : Int))) + d) ≤ (100 : Int)))))) ∧
     (Br (Decidable.decide ((Prod.snd x) < (mfL (T.vs (b + (und k (((Prod.fst x) : Nat) : Int))) (T.mk (T.k (List.getD ts (Int.toNat (((Prod.fst x) : Nat) : Int)) default)) (T.n (List.getD ts (Int.toNat (((Prod.fst x) : Nat) : Int)) default)) (T.kids (List.getD ts (Int.toNat (((Prod.fst x) : Nat) : Int)) default)))))))
     ((InR ((((Prod.fst x) : Nat) : Int) + (1 : Int))) ∧
     (∃ y : (Prod Nat Int),
     ((((Prod.fst y) ≤ (List.length ts)) ∧
     (((0 : Int) ≤ (Prod.snd y)) ∧ ((Max.max (Prod.snd y) (mfL (vsL b k (Prod.fst y) (List.drop (Prod.fst y) ts)))) = (mfL (T.vs b (T.mk k n ts)))))) ∧
     ((b = b) ∧
     (((mfL (T.vs (b + (und k (((Prod.fst x) : Nat) : Int))) (T.mk (T.k (List.getD ts (Int.toNat (((Prod.fst x) : Nat) : Int)) default)) (T.n (List.getD ts (Int.toNat (((Prod.fst x) : Nat) : Int)) default)) (T.kids (List.getD ts (Int.toNat (((Prod.fst x) : Nat) : Int)) default))))) = (Prod.snd y)) ∧
     ((((((Prod.fst x) : Nat) : Int) + (1 : Int)) = (((Prod.fst y) : Nat) : Int)) ∧
     ((k = k) ∧ ((n = n) ∧ ((ts = ts) ∧ ((Nat.succ ((List.length ts) - (Prod.fst y))) ≤ ((List.length ts) - (Prod.fst x))))))))))))
     ((InR ((((Prod.fst x) : Nat) : Int) + (1 : Int))) ∧
     (∃ y : (Prod Nat Int),
     ((((Prod.fst y) ≤ (List.length ts)) ∧
     (((0 : Int) ≤ (Prod.snd y)) ∧ ((Max.max (Prod.snd y) (mfL (vsL b k (Prod.fst y) (List.drop (Prod.fst y) ts)))) = (mfL (T.vs b (T.mk k n ts)))))) ∧
     ((b = b) ∧
     (((Prod.snd x) = (Prod.snd y)) ∧
     ((((((Prod.fst x) : Nat) : Int) + (1 : Int)) = (((Prod.fst y) : Nat) : Int)) ∧
     ((k = k) ∧ ((n = n) ∧ ((ts = ts) ∧ ((Nat.succ ((List.length ts) - (Prod.fst y))) ≤ ((List.length ts) - (Prod.fst x)))))))))))))))))))))
     (Ret K (.int .i64 (Prod.snd x)) [])))))))
     ((∃ x : (Prod Nat Int),
     ((((Prod.fst x) ≤ (List.length ts)) ∧
     (((0 : Int) ≤ (Prod.snd x)) ∧ ((Max.max (Prod.snd x) (mfL (vsL b k (Prod.fst x) (List.drop (Prod.fst x) ts)))) = (mfL (T.vs b (T.mk k n ts)))))) ∧
     ((b = b) ∧ (((0 : Int) = (Prod.snd x)) ∧ (((0 : Int) = (((Prod.fst x) : Nat) : Int)) ∧ ((k = k) ∧ ((n = n) ∧ ((ts = ts) ∧ True)))))))) ∧
     (∀ x : (Prod Nat Int),
     ((((Prod.fst x) ≤ (List.length ts)) ∧ (((0 : Int) ≤ (Prod.snd x)) ∧ ((Max.max (Prod.snd x) (mfL (vsL b k (Prod.fst x) (List.drop (Prod.fst x) ts)))) = (mfL (T.vs b (T.mk k n ts)))))) →
     (Br (Decidable.decide ((((Prod.fst x) : Nat) : Int) < (((List.length ts) : Nat) : Int)))
     ((((0 : Int) ≤ (((Prod.fst x) : Nat) : Int)) ∧ ((((Prod.fst x) : Nat) : Int) < (((List.length ts) : Nat) : Int))) ∧
     (True ∧
     (((T.k (List.getD ts (Int.toNat (((Prod.fst x) : Nat) : Int)) default)) = (T.k (List.getD ts (Int.toNat (((Prod.fst x) : Nat) : Int)) default))) ∧
     (((T.n (List.getD ts (Int.toNat (((Prod.fst x) : Nat) : Int)) default)) = (T.n (List.getD ts (Int.toNat (((Prod.fst x) : Nat) : Int)) default))) ∧
     (((T.kids (List.getD ts (Int.toNat (((Prod.fst x) : Nat) : Int)) default)) = (T.kids (List.getD ts (Int.toNat (((Prod.fst x) : Nat) : Int)) default))) ∧
     ((ts = ts) ∧
     ((InR (b + (und k (((Prod.fst x) : Nat) : Int)))) ∧
     ((((T.size (T.mk (T.k (List.getD ts (Int.toNat (((Prod.fst x) : Nat) : Int)) default)) (T.n (List.getD ts (Int.toNat (((Prod.fst x) : Nat) : Int)) default)) (T.kids (List.getD ts (Int.toNat (((Prod.fst x) : Nat) : Int)) default)))) < m) ∧
     (∃ d : Int,
     (((T.shp (T.mk (T.k (List.getD ts (Int.toNat (((Prod.fst x) : Nat) : Int)) default)) (T.n (List.getD ts (Int.toNat (((Prod.fst x) : Nat) : Int)) default)) (T.kids (List.getD ts (Int.toNat (((Prod.fst x) : Nat) : Int)) default))) d) = true) ∧
     (((0 : Int) ≤ (b + (und k (((Prod.fst x) : Nat) : Int)))) ∧ (((b + (und k (((Prod.fst x) : Nat) : Int))) + d) ≤ (100 : Int)))))) ∧
     (Br (Decidable.decide ((Prod.snd x) < (mfL (T.vs (b + (und k (((Prod.fst x) : Nat) : Int))) (T.mk (T.k (List.getD ts (Int.toNat (((Prod.fst x) : Nat) : Int)) default)) (T.n (List.getD ts (Int.toNat (((Prod.fst x) : Nat) : Int)) default)) (T.kids (List.getD ts (Int.toNat (((Prod.fst x) : Nat) : Int)) default)))))))
     ((InR ((((Prod.fst x) : Nat) : Int) + (1 : Int))) ∧
     (∃ y : (Prod Nat Int),
     ((((Prod.fst y) ≤ (List.length ts)) ∧
     (((0 : Int) ≤ (Prod.snd y)) ∧ ((Max.max (Prod.snd y) (mfL (vsL b k (Prod.fst y) (List.drop (Prod.fst y) ts)))) = (mfL (T.vs b (T.mk k n ts)))))) ∧
     ((b = b) ∧
     (((mfL (T.vs (b + (und k (((Prod.fst x) : Nat) : Int))) (T.mk (T.k (List.getD ts (Int.toNat (((Prod.fst x) : Nat) : Int)) default)) (T.n (List.getD ts (Int.toNat (((Prod.fst x) : Nat) : Int)) default)) (T.kids (List.getD ts (Int.toNat (((Prod.fst x) : Nat) : Int)) default))))) = (Prod.snd y)) ∧
     ((((((Prod.fst x) : Nat) : Int) + (1 : Int)) = (((Prod.fst y) : Nat) : Int)) ∧
     ((k = k) ∧ ((n = n) ∧ ((ts = ts) ∧ ((Nat.succ ((List.length ts) - (Prod.fst y))) ≤ ((List.length ts) - (Prod.fst x))))))))))))
     ((InR ((((Prod.fst x) : Nat) : Int) + (1 : Int))) ∧
     (∃ y : (Prod Nat Int),
     ((((Prod.fst y) ≤ (List.length ts)) ∧
     (((0 : Int) ≤ (Prod.snd y)) ∧ ((Max.max (Prod.snd y) (mfL (vsL b k (Prod.fst y) (List.drop (Prod.fst y) ts)))) = (mfL (T.vs b (T.mk k n ts)))))) ∧
     ((b = b) ∧
     (((Prod.snd x) = (Prod.snd y)) ∧
     ((((((Prod.fst x) : Nat) : Int) + (1 : Int)) = (((Prod.fst y) : Nat) : Int)) ∧
     ((k = k) ∧ ((n = n) ∧ ((ts = ts) ∧ ((Nat.succ ((List.length ts) - (Prod.fst y))) ≤ ((List.length ts) - (Prod.fst x)))))))))))))))))))))
     (Ret K (.int .i64 (Prod.snd x)) []))))))
     ((∃ x : (Prod Nat Int),
     ((((Prod.fst x) ≤ (List.length ts)) ∧
     (((0 : Int) ≤ (Prod.snd x)) ∧ ((Max.max (Prod.snd x) (mfL (vsL b k (Prod.fst x) (List.drop (Prod.fst x) ts)))) = (mfL (T.vs b (T.mk k n ts)))))) ∧
     ((b = b) ∧ (((0 : Int) = (Prod.snd x)) ∧ (((0 : Int) = (((Prod.fst x) : Nat) : Int)) ∧ ((k = k) ∧ ((n = n) ∧ ((ts = ts) ∧ True)))))))) ∧
     (∀ x : (Prod Nat Int),
     ((((Prod.fst x) ≤ (List.length ts)) ∧ (((0 : Int) ≤ (Prod.snd x)) ∧ ((Max.max (Prod.snd x) (mfL (vsL b k (Prod.fst x) (List.drop (Prod.fst x) ts)))) = (mfL (T.vs b (T.mk k n ts)))))) →
     (Br (Decidable.decide ((((Prod.fst x) : Nat) : Int) < (((List.length ts) : Nat) : Int)))
     ((((0 : Int) ≤ (((Prod.fst x) : Nat) : Int)) ∧ ((((Prod.fst x) : Nat) : Int) < (((List.length ts) : Nat) : Int))) ∧
     (True ∧
     (((T.k (List.getD ts (Int.toNat (((Prod.fst x) : Nat) : Int)) default)) = (T.k (List.getD ts (Int.toNat (((Prod.fst x) : Nat) : Int)) default))) ∧
     (((T.n (List.getD ts (Int.toNat (((Prod.fst x) : Nat) : Int)) default)) = (T.n (List.getD ts (Int.toNat (((Prod.fst x) : Nat) : Int)) default))) ∧
     (((T.kids (List.getD ts (Int.toNat (((Prod.fst x) : Nat) : Int)) default)) = (T.kids (List.getD ts (Int.toNat (((Prod.fst x) : Nat) : Int)) default))) ∧
     ((ts = ts) ∧
     ((InR (b + (und k (((Prod.fst x) : Nat) : Int)))) ∧
     ((((T.size (T.mk (T.k (List.getD ts (Int.toNat (((Prod.fst x) : Nat) : Int)) default)) (T.n (List.getD ts (Int.toNat (((Prod.fst x) : Nat) : Int)) default)) (T.kids (List.getD ts (Int.toNat (((Prod.fst x) : Nat) : Int)) default)))) < m) ∧
     (∃ d : Int,
     (((T.shp (T.mk (T.k (List.getD ts (Int.toNat (((Prod.fst x) : Nat) : Int)) default)) (T.n (List.getD ts (Int.toNat (((Prod.fst x) : Nat) : Int)) default)) (T.kids (List.getD ts (Int.toNat (((Prod.fst x) : Nat) : Int)) default))) d) = true) ∧
     (((0 : Int) ≤ (b + (und k (((Prod.fst x) : Nat) : Int)))) ∧ (((b + (und k (((Prod.fst x) : Nat) : Int))) + d) ≤ (100 : Int)))))) ∧
     (Br (Decidable.decide ((Prod.snd x) < (mfL (T.vs (b + (und k (((Prod.fst x) : Nat) : Int))) (T.mk (T.k (List.getD ts (Int.toNat (((Prod.fst x) : Nat) : Int)) default)) (T.n (List.getD ts (Int.toNat (((Prod.fst x) : Nat) : Int)) default)) (T.kids (List.getD ts (Int.toNat (((Prod.fst x) : Nat) : Int)) default)))))))
     ((InR ((((Prod.fst x) : Nat) : Int) + (1 : Int))) ∧
     (∃ y : (Prod Nat Int),
     ((((Prod.fst y) ≤ (List.length ts)) ∧
     (((0 : Int) ≤ (Prod.snd y)) ∧ ((Max.max (Prod.snd y) (mfL (vsL b k (Prod.fst y) (List.drop (Prod.fst y) ts)))) = (mfL (T.vs b (T.mk k n ts)))))) ∧
     ((b = b) ∧
     (((mfL (T.vs (b + (und k (((Prod.fst x) : Nat) : Int))) (T.mk (T.k (List.getD ts (Int.toNat (((Prod.fst x) : Nat) : Int)) default)) (T.n (List.getD ts (Int.toNat (((Prod.fst x) : Nat) : Int)) default)) (T.kids (List.getD ts (Int.toNat (((Prod.fst x) : Nat) : Int)) default))))) = (Prod.snd y)) ∧
     ((((((Prod.fst x) : Nat) : Int) + (1 : Int)) = (((Prod.fst y) : Nat) : Int)) ∧
     ((k = k) ∧ ((n = n) ∧ ((ts = ts) ∧ ((Nat.succ ((List.length ts) - (Prod.fst y))) ≤ ((List.length ts) - (Prod.fst x))))))))))))
     ((InR ((((Prod.fst x) : Nat) : Int) + (1 : Int))) ∧
     (∃ y : (Prod Nat Int),
     ((((Prod.fst y) ≤ (List.length ts)) ∧
     (((0 : Int) ≤ (Prod.snd y)) ∧ ((Max.max (Prod.snd y) (mfL (vsL b k (Prod.fst y) (List.drop (Prod.fst y) ts)))) = (mfL (T.vs b (T.mk k n ts)))))) ∧
     ((b = b) ∧
     (((Prod.snd x) = (Prod.snd y)) ∧
     ((((((Prod.fst x) : Nat) : Int) + (1 : Int)) = (((Prod.fst y) : Nat) : Int)) ∧
     ((k = k) ∧ ((n = n) ∧ ((ts = ts) ∧ ((Nat.succ ((List.length ts) - (Prod.fst y))) ≤ ((List.length ts) - (Prod.fst x)))))))))))))))))))))
     (Ret K (.int .i64 (Prod.snd x)) []))))))) ?_ (by kernel_rfl)
  obtain ⟨d, hd, h0, h1⟩ := hp
  have hd1 := T.shp_pos hd
  have hsh := T.shp_kids hd
  have hm' : 1 + sizeL ts < m + 1 := hm
  have hll := length_le_sizeL ts
  have hr := T.shp_root hd
  have har2 := (arity_range k).2
  have e1 : k = 1 → ts = [] ∧ 0 ≤ n ∧ n ≤ 20 := fun e => by
    subst e
    rw [show mostN 1 = 20 from rfl] at hr
    exact ⟨T.shp_var hd, hr.2⟩

  have e2 : k ≠ 1 → (T.mk k n ts).vs b = vsL b k 0 ts := T.vs_node
  have e3 : k = 1 → (T.mk k n ts).vs b = [(b, n)] ∧ vsL b k 0 ts = [] := fun e => by
    have := (e1 e).1; subst e this; exact ⟨T.vs_var, rfl⟩
  have hnn := mfL_nonneg (vsL b k 0 ts)
  refine br (fun g => br (fun g2 => ⟨?_, ?_, ⟨(0, _), ⟨Nat.zero_le _, ?i2, ?i4⟩, (by repeat' first | trivial | rfl | (simp; done) | apply And.intro)⟩, fun x hx => ?l1⟩) (fun g2 => ⟨⟨(0, 0), ⟨Nat.zero_le _, Int.le_refl _, ?j4⟩, (by repeat' first | trivial | rfl | (simp; done) | apply And.intro)⟩, fun x hx => ?l2⟩)) (fun g => ⟨⟨(0, 0), ⟨Nat.zero_le _, Int.le_refl _, ?k4⟩, (by repeat' first | trivial | rfl | (simp; done) | apply And.intro)⟩, fun x hx => ?l3⟩)
  case i2 => have := of_decide_eq_true g2; show 0 ≤ n - b + 1; omega
  case i4 =>
    obtain ⟨q1, q2⟩ := e3 (of_decide_eq_true g)
    have g2 := of_decide_eq_true g2
    show max (n - b + 1) (mfL (vsL b k 0 ts)) = _
    rw [q1, q2]; simp only [mfL]; rw [if_pos (by show b ≤ n; omega)]
  case j4 =>
    obtain ⟨q1, q2⟩ := e3 (of_decide_eq_true g)
    have g2 := of_decide_eq_false g2
    show max 0 (mfL (vsL b k 0 ts)) = _
    rw [q1, q2]; simp only [mfL]; rw [if_neg (by show ¬ b ≤ n; omega)]
  case k4 =>
    show max 0 (mfL (vsL b k 0 ts)) = _
    rw [e2 (of_decide_eq_false g)]; omega
  case l1 | l2 | l3 =>
    obtain ⟨i, q⟩ := x
    obtain ⟨g1, g2, g4⟩ := hx
    simp only at g1 g2 g4
    refine br (fun h => ?_) (fun h => ?_)
    · have h := of_decide_eq_true h
      simp only at h
      have hi : i < ts.length := by omega
      have hmem := getD_mem hi
      have hs := sizeL_mem hmem
      have hu := und_range k i
      rw [drop_getD hi] at g4
      simp only [vsL, mfL_append] at g4
      have hq := mfL_nonneg ((ts.getD i default).vs (b + und k i))
      simp only [Int.toNat_natCast, T.eta]
      refine ⟨⟨by omega, by omega⟩, (by first | trivial | rfl | (simp; done)), (by first | trivial | rfl | (simp; done)), (by first | trivial | rfl | (simp; done)), (by first | trivial | rfl | (simp; done)), (by first | trivial | rfl | (simp; done)), by unfold InR; omega, ⟨by omega, ⟨d - 1, shpL_mem hsh hmem, by omega, by omega⟩⟩, br (fun h2 => ⟨by unfold InR; omega, (i + 1, mfL ((ts.getD i default).vs (b + und k i))), ⟨by show i + 1 ≤ _; omega, hq, ?_⟩, (by repeat' first | trivial | rfl | (simp; done) | (dsimp only; omega) | omega | apply And.intro)⟩) (fun h2 => ⟨by unfold InR; omega, (i + 1, q), ⟨by show i + 1 ≤ _; omega, g2, ?_⟩, (by repeat' first | trivial | rfl | (simp; done) | (dsimp only; omega) | omega | apply And.intro)⟩)⟩
      · have h2 := of_decide_eq_true h2
        show max (mfL _) (mfL (vsL b k (i + 1) (ts.drop (i + 1)))) = _; omega
      · have h2 := of_decide_eq_false h2
        show max q (mfL (vsL b k (i + 1) (ts.drop (i + 1)))) = _; omega
    · have h := of_decide_eq_false h
      simp only at h
      have hi : ¬ i < ts.length := by omega
      rw [drop_len hi] at g4
      simp only [vsL, mfL] at g4
      exact retI hk (by omega)
  · have := e1 (of_decide_eq_true g); unfold InR; omega
  · have := e1 (of_decide_eq_true g); unfold InR; omega
theorem sMost2_soundM : ∀ m : Nat, Sound Try.prog 54 (csMost2M m)
  | 0 => by
      refine soundF (G := []) gnil Try.func54 rfl (by kernel_rfl) fun args hs K hCC => ?_
      unfold csMost2M at hCC
      split at hCC
      case h_2 => exact hCC.elim
      exact absurd hCC.1.1 (Nat.not_lt_zero _)
  | m + 1 => by
      refine soundF (G := [(54, csMost2M m), (55, csUnder)]) ((gcons (sMost2_soundM m) (gcons sUnder_sound gnil))) Try.func54 rfl (by kernel_rfl) fun args hs K hCC => ?_
      unfold csMost2M at hCC
      split at hCC
      case h_2 => exact hCC.elim
      rename_i k n ts b
      exact ⟨Nat.le_of_ble_eq_true rfl, _, sMost2_ok m k n ts b K hCC.1.1 hCC.1.2 hCC.2⟩
theorem sMost2_sound : Sound Try.prog 54 csMost2 := by
  refine sound_of_all (c := csMost2M) (fun m => (sMost2_soundM m)) fun args hs K hCC => ?_
  unfold csMost2 at hCC
  split at hCC
  case h_2 => exact hCC.elim
  exact ⟨_, ⟨Nat.lt_succ_self _, hCC.1⟩, hCC.2⟩
/-- spec.l2Index -/
def csIndex : Con
  | [.int .i64 (n)], [], K => True ∧ ((K (.bool (decide (0 ≤ n ∧ n ≤ 20))) []))
  | _, _, _ => False
theorem sIndex_ok (n : Int) (K : AV → List AV → Prop) (hp : True) (hk : ((K (.bool (decide (0 ≤ n ∧ n ≤ 20))) []))) :
    bodyQ [] TY [] Try.f34 (body Try.f34) [.int .i64 (n)] [] K := by
  refine of_vc (A :=
    (Br (Decidable.decide ((0 : Int) ≤ n)) (Ret K (.bool (Decidable.decide (n ≤ (20 : Int)))) []) (Ret K (.bool false) []))) ?_ (by kernel_rfl)
  refine br (fun h => retB hk ?_) (fun h => retB hk ?_)
  · have h := of_decide_eq_true h; simp [h]
  · have h := of_decide_eq_false h; rw [decide_eq_false (by omega)]
theorem sIndex_sound : Sound Try.prog 34 csIndex := by
  refine soundF (G := []) (gnil) Try.func34 rfl (by kernel_rfl) fun args hs K hCC => ?_
  unfold csIndex at hCC
  split at hCC
  case h_2 => exact hCC.elim
  rename_i n
  exact ⟨Nat.le_of_ble_eq_true rfl, _, sIndex_ok n K hCC.1 hCC.2⟩
/-- spec.l2Rename -/
def csRenameM (m : Nat) : Con
  | [.st [.int .i64 k, .int .i64 n, .slc ts (.arg 0)], .ints .i64 ns (.arg 1), .int .i64 (b)], [], K => (((T.mk k n ts).size) < m ∧ ((∃ d, (T.mk k n ts).shp d = true ∧ 0 ≤ b ∧ b + d ≤ 100) ∧ ((∀ x ∈ ns, 0 ≤ x ∧ x ≤ 20) ∧ (∀ p ∈ (T.mk k n ts).vs b, p.2 - p.1 < ns.length)))) ∧ ((K (((T.mk k n ts).mv (rnf ns) b).fr) []))
  | _, _, _ => False
def csRename : Con
  | [.st [.int .i64 k, .int .i64 n, .slc ts (.arg 0)], .ints .i64 ns (.arg 1), .int .i64 (b)], [], K => ((∃ d, (T.mk k n ts).shp d = true ∧ 0 ≤ b ∧ b + d ≤ 100) ∧ ((∀ x ∈ ns, 0 ≤ x ∧ x ≤ 20) ∧ (∀ p ∈ (T.mk k n ts).vs b, p.2 - p.1 < ns.length))) ∧ ((K (((T.mk k n ts).mv (rnf ns) b).fr) []))
  | _, _, _ => False
theorem sRename_ok (m : Nat) (k n : Int) (ts : List T) (ns : List Int) (b : Int) (K : AV → List AV → Prop) (hm : ((T.mk k n ts).size) < m + 1) (hp : ((∃ d, (T.mk k n ts).shp d = true ∧ 0 ≤ b ∧ b + d ≤ 100) ∧ ((∀ x ∈ ns, 0 ≤ x ∧ x ≤ 20) ∧ (∀ p ∈ (T.mk k n ts).vs b, p.2 - p.1 < ns.length)))) (hk : ((K (((T.mk k n ts).mv (rnf ns) b).fr) []))) :
    bodyQ [(35, csRenameM m), (55, csUnder)] TY [(5, { ι := Nat × (List T × Int), ok := fun x => x.1 ≤ ts.length ∧ x.2.1.length = x.1 ∧ T.mk k x.2.2 (x.2.1 ++ mvL (rnf ns) b k x.1 (ts.drop x.1)) = (T.mk k n ts).mv (rnf ns) b, tl := fun x => [(1, .ints .i64 ns (.arg 1)), (2, .int .i64 (b)), (3, .ptr 3), (6, .ptr 6), (7, .ptr 7), (8, .int .i64 x.1)], hl := fun x => [(3, .st [.int .i64 k, .int .i64 n, .slc ts (.arg 0)]), (6, (T.mk 0 0 []).av (.iv 0 0 true .full)), (7, .st [.int .i64 k, .int .i64 x.2.2, .slc x.2.1 (.iv 4 4 true (.tok 56))])], fh := fun x => [], μ := fun x => ts.length - x.1 })] Try.f35 (body Try.f35) [.st [.int .i64 k, .int .i64 n, .slc ts (.arg 0)], .ints .i64 ns (.arg 1), .int .i64 (b)] [] K := by
  refine of_vc (A :=
    (Br (Decidable.decide (k = (1 : Int)))
     (Br (Decidable.decide (b ≤ n))
     ((InR (n - b)) ∧
     ((((0 : Int) ≤ (n - b)) ∧ ((n - b) < (((List.length ns) : Nat) : Int))) ∧
     ((InR ((List.getD ns (Int.toNat (n - b)) (0 : Int)) + b)) ∧
     ((∃ x : (Prod Nat (Prod (List T) Int)),
     ((((Prod.fst x) ≤ (List.length ts)) ∧
     (((List.length (Prod.fst (Prod.snd x))) = (Prod.fst x)) ∧
     ((T.mk k (Prod.snd (Prod.snd x)) ((Prod.fst (Prod.snd x)) ++ (mvL (rnf ns) b k (Prod.fst x) (List.drop (Prod.fst x) ts)))) = (T.mv (rnf ns) b (T.mk k n ts))))) ∧
     ((ns = ns) ∧
     ((b = b) ∧
     (((0 : Int) = (((Prod.fst x) : Nat) : Int)) ∧
     ((k = k) ∧
     ((n = n) ∧
     ((ts = ts) ∧
     (((0 : Int) = (0 : Int)) ∧
     (((0 : Int) = (0 : Int)) ∧
     ((([] : List T) = ([] : List T)) ∧
     ((k = k) ∧ ((((List.getD ns (Int.toNat (n - b)) (0 : Int)) + b) = (Prod.snd (Prod.snd x))) ∧ ((([] : List T) = (Prod.fst (Prod.snd x))) ∧ True)))))))))))))) ∧
     (∀ x : (Prod Nat (Prod (List T) Int)),
     ((((Prod.fst x) ≤ (List.length ts)) ∧ (((List.length (Prod.fst (Prod.snd x))) = (Prod.fst x)) ∧ ((T.mk k (Prod.snd (Prod.snd x)) ((Prod.fst (Prod.snd x)) ++ (mvL (rnf ns) b k (Prod.fst x) (List.drop (Prod.fst x) ts)))) = (T.mv (rnf ns) b (T.mk k n ts))))) →
     (Br (Decidable.decide ((((Prod.fst x) : Nat) : Int) < (((List.length ts) : Nat) : Int)))
     ((((0 : Int) ≤ (((Prod.fst x) : Nat) : Int)) ∧ ((((Prod.fst x) : Nat) : Int) < (((List.length ts) : Nat) : Int))) ∧
     (True ∧
     (((T.k (List.getD ts (Int.toNat (((Prod.fst x) : Nat) : Int)) default)) = (T.k (List.getD ts (Int.toNat (((Prod.fst x) : Nat) : Int)) default))) ∧
     (((T.n (List.getD ts (Int.toNat (((Prod.fst x) : Nat) : Int)) default)) = (T.n (List.getD ts (Int.toNat (((Prod.fst x) : Nat) : Int)) default))) ∧
     (((T.kids (List.getD ts (Int.toNat (((Prod.fst x) : Nat) : Int)) default)) = (T.kids (List.getD ts (Int.toNat (((Prod.fst x) : Nat) : Int)) default))) ∧
     ((ts = ts) ∧
     (((Prod.fst (Prod.snd x)) = (Prod.fst (Prod.snd x))) ∧
     ((InR (b + (und k (((Prod.fst x) : Nat) : Int)))) ∧
     ((((T.size (T.mk (T.k (List.getD ts (Int.toNat (((Prod.fst x) : Nat) : Int)) default)) (T.n (List.getD ts (Int.toNat (((Prod.fst x) : Nat) : Int)) default)) (T.kids (List.getD ts (Int.toNat (((Prod.fst x) : Nat) : Int)) default)))) < m) ∧
     ((∃ d : Int,
     (((T.shp (T.mk (T.k (List.getD ts (Int.toNat (((Prod.fst x) : Nat) : Int)) default)) (T.n (List.getD ts (Int.toNat (((Prod.fst x) : Nat) : Int)) default)) (T.kids (List.getD ts (Int.toNat (((Prod.fst x) : Nat) : Int)) default))) d) = true) ∧
     (((0 : Int) ≤ (b + (und k (((Prod.fst x) : Nat) : Int)))) ∧ (((b + (und k (((Prod.fst x) : Nat) : Int))) + d) ≤ (100 : Int))))) ∧
     ((∀ x1 : Int, ((Membership.mem ns x1) → (((0 : Int) ≤ x1) ∧ (x1 ≤ (20 : Int))))) ∧
     (∀ p : (Prod Int Int),
     ((Membership.mem (T.vs (b + (und k (((Prod.fst x) : Nat) : Int))) (T.mk (T.k (List.getD ts (Int.toNat (((Prod.fst x) : Nat) : Int)) default)) (T.n (List.getD ts (Int.toNat (((Prod.fst x) : Nat) : Int)) default)) (T.kids (List.getD ts (Int.toNat (((Prod.fst x) : Nat) : Int)) default)))) p) →
     (((Prod.snd p) - (Prod.fst p)) < (((List.length ns) : Nat) : Int))))))) ∧
     (((Prod.fst (Prod.snd x)) = (Prod.fst (Prod.snd x))) ∧
     ((((((List.length (Prod.fst (Prod.snd x))) : Nat) : Int) + (1 : Int)) ≤ (1099511627776 : Int)) ∧
     ((InR ((((Prod.fst x) : Nat) : Int) + (1 : Int))) ∧
     (∃ y : (Prod Nat (Prod (List T) Int)),
     ((((Prod.fst y) ≤ (List.length ts)) ∧
     (((List.length (Prod.fst (Prod.snd y))) = (Prod.fst y)) ∧
     ((T.mk k (Prod.snd (Prod.snd y)) ((Prod.fst (Prod.snd y)) ++ (mvL (rnf ns) b k (Prod.fst y) (List.drop (Prod.fst y) ts)))) = (T.mv (rnf ns) b (T.mk k n ts))))) ∧
     ((ns = ns) ∧
     ((b = b) ∧
     ((((((Prod.fst x) : Nat) : Int) + (1 : Int)) = (((Prod.fst y) : Nat) : Int)) ∧
     ((k = k) ∧
     ((n = n) ∧
     ((ts = ts) ∧
     (((0 : Int) = (0 : Int)) ∧
     (((0 : Int) = (0 : Int)) ∧
     ((([] : List T) = ([] : List T)) ∧
     ((k = k) ∧
     (((Prod.snd (Prod.snd x)) = (Prod.snd (Prod.snd y))) ∧
     ((((Prod.fst (Prod.snd x)) ++ [(T.mk (T.k (T.mv (rnf ns) (b + (und k (((Prod.fst x) : Nat) : Int))) (T.mk (T.k (List.getD ts (Int.toNat (((Prod.fst x) : Nat) : Int)) default)) (T.n (List.getD ts (Int.toNat (((Prod.fst x) : Nat) : Int)) default)) (T.kids (List.getD ts (Int.toNat (((Prod.fst x) : Nat) : Int)) default))))) (T.n (T.mv (rnf ns) (b + (und k (((Prod.fst x) : Nat) : Int))) (T.mk (T.k (List.getD ts (Int.toNat (((Prod.fst x) : Nat) : Int)) default)) (T.n (List.getD ts (Int.toNat (((Prod.fst x) : Nat) : Int)) default)) (T.kids (List.getD ts (Int.toNat (((Prod.fst x) : Nat) : Int)) default))))) (T.kids (T.mv (rnf ns) (b + (und k (((Prod.fst x) : Nat) : Int))) (T.mk (T.k (List.getD ts (Int.toNat (((Prod.fst x) : Nat) : Int)) default)) (T.n (List.getD ts (Int.toNat (((Prod.fst x) : Nat) : Int)) default)) (T.kids (List.getD ts (Int.toNat (((Prod.fst x) : Nat) : Int)) default))))))]) = (Prod.fst (Prod.snd y))) ∧
     ((Nat.succ ((List.length ts) - (Prod.fst y))) ≤ ((List.length ts) - (Prod.fst x)))))))))))))))))))))))))))))
     (Ret K (.st [(.int .i64 k), (.int .i64 (Prod.snd (Prod.snd x))), (.slc (Prod.fst (Prod.snd x)) (.iv 4 4 true (.tok 0)))]) []))))))))
     ((∃ x : (Prod Nat (Prod (List T) Int)),
     ((((Prod.fst x) ≤ (List.length ts)) ∧
     (((List.length (Prod.fst (Prod.snd x))) = (Prod.fst x)) ∧
     ((T.mk k (Prod.snd (Prod.snd x)) ((Prod.fst (Prod.snd x)) ++ (mvL (rnf ns) b k (Prod.fst x) (List.drop (Prod.fst x) ts)))) = (T.mv (rnf ns) b (T.mk k n ts))))) ∧
     ((ns = ns) ∧
     ((b = b) ∧
     (((0 : Int) = (((Prod.fst x) : Nat) : Int)) ∧
     ((k = k) ∧
     ((n = n) ∧
     ((ts = ts) ∧
     (((0 : Int) = (0 : Int)) ∧
     (((0 : Int) = (0 : Int)) ∧
     ((([] : List T) = ([] : List T)) ∧ ((k = k) ∧ ((n = (Prod.snd (Prod.snd x))) ∧ ((([] : List T) = (Prod.fst (Prod.snd x))) ∧ True)))))))))))))) ∧
     (∀ x : (Prod Nat (Prod (List T) Int)),
     ((((Prod.fst x) ≤ (List.length ts)) ∧ (((List.length (Prod.fst (Prod.snd x))) = (Prod.fst x)) ∧ ((T.mk k (Prod.snd (Prod.snd x)) ((Prod.fst (Prod.snd x)) ++ (mvL (rnf ns) b k (Prod.fst x) (List.drop (Prod.fst x) ts)))) = (T.mv (rnf ns) b (T.mk k n ts))))) →
     (Br (Decidable.decide ((((Prod.fst x) : Nat) : Int) < (((List.length ts) : Nat) : Int)))
     ((((0 : Int) ≤ (((Prod.fst x) : Nat) : Int)) ∧ ((((Prod.fst x) : Nat) : Int) < (((List.length ts) : Nat) : Int))) ∧
     (True ∧
     (((T.k (List.getD ts (Int.toNat (((Prod.fst x) : Nat) : Int)) default)) = (T.k (List.getD ts (Int.toNat (((Prod.fst x) : Nat) : Int)) default))) ∧
     (((T.n (List.getD ts (Int.toNat (((Prod.fst x) : Nat) : Int)) default)) = (T.n (List.getD ts (Int.toNat (((Prod.fst x) : Nat) : Int)) default))) ∧
     (((T.kids (List.getD ts (Int.toNat (((Prod.fst x) : Nat) : Int)) default)) = (T.kids (List.getD ts (Int.toNat (((Prod.fst x) : Nat) : Int)) default))) ∧
     ((ts = ts) ∧
     (((Prod.fst (Prod.snd x)) = (Prod.fst (Prod.snd x))) ∧
     ((InR (b + (und k (((Prod.fst x) : Nat) : Int)))) ∧
     ((((T.size (T.mk (T.k (List.getD ts (Int.toNat (((Prod.fst x) : Nat) : Int)) default)) (T.n (List.getD ts (Int.toNat (((Prod.fst x) : Nat) : Int)) default)) (T.kids (List.getD ts (Int.toNat (((Prod.fst x) : Nat) : Int)) default)))) < m) ∧
     ((∃ d : Int,
     (((T.shp (T.mk (T.k (List.getD ts (Int.toNat (((Prod.fst x) : Nat) : Int)) default)) (T.n (List.getD ts (Int.toNat (((Prod.fst x) : Nat) : Int)) default)) (T.kids (List.getD ts (Int.toNat (((Prod.fst x) : Nat) : Int)) default))) d) = true) ∧
     (((0 : Int) ≤ (b + (und k (((Prod.fst x) : Nat) : Int)))) ∧ (((b + (und k (((Prod.fst x) : Nat) : Int))) + d) ≤ (100 : Int))))) ∧
     ((∀ x1 : Int, ((Membership.mem ns x1) → (((0 : Int) ≤ x1) ∧ (x1 ≤ (20 : Int))))) ∧
     (∀ p : (Prod Int Int),
     ((Membership.mem (T.vs (b + (und k (((Prod.fst x) : Nat) : Int))) (T.mk (T.k (List.getD ts (Int.toNat (((Prod.fst x) : Nat) : Int)) default)) (T.n (List.getD ts (Int.toNat (((Prod.fst x) : Nat) : Int)) default)) (T.kids (List.getD ts (Int.toNat (((Prod.fst x) : Nat) : Int)) default)))) p) →
     (((Prod.snd p) - (Prod.fst p)) < (((List.length ns) : Nat) : Int))))))) ∧
     (((Prod.fst (Prod.snd x)) = (Prod.fst (Prod.snd x))) ∧
     ((((((List.length (Prod.fst (Prod.snd x))) : Nat) : Int) + (1 : Int)) ≤ (1099511627776 : Int)) ∧
     ((InR ((((Prod.fst x) : Nat) : Int) + (1 : Int))) ∧
     (∃ y : (Prod Nat (Prod (List T) Int)),
     ((((Prod.fst y) ≤ (List.length ts)) ∧
     (((List.length (Prod.fst (Prod.snd y))) = (Prod.fst y)) ∧
     ((T.mk k (Prod.snd (Prod.snd y)) ((Prod.fst (Prod.snd y)) ++ (mvL (rnf ns) b k (Prod.fst y) (List.drop (Prod.fst y) ts)))) = (T.mv (rnf ns) b (T.mk k n ts))))) ∧
     ((ns = ns) ∧
     ((b = b) ∧
     ((((((Prod.fst x) : Nat) : Int) + (1 : Int)) = (((Prod.fst y) : Nat) : Int)) ∧
     ((k = k) ∧
     ((n = n) ∧
     ((ts = ts) ∧
     (((0 : Int) = (0 : Int)) ∧
     (((0 : Int) = (0 : Int)) ∧
     ((([] : List T) = ([] : List T)) ∧
     ((k = k) ∧
     (((Prod.snd (Prod.snd x)) = (Prod.snd (Prod.snd y))) ∧
     ((((Prod.fst (Prod.snd x)) ++ [(T.mk (T.k (T.mv (rnf ns) (b + (und k (((Prod.fst x) : Nat) : Int))) (T.mk (T.k (List.getD ts (Int.toNat (((Prod.fst x) : Nat) : Int)) default)) (T.n (List.getD ts (Int.toNat (((Prod.fst x) : Nat) : Int)) default)) (T.kids (List.getD ts (Int.toNat (((Prod.fst x) : Nat) : Int)) default))))) (T.n (T.mv (rnf ns) (b + (und k (((Prod.fst x) : Nat) : Int))) (T.mk (T.k (List.getD ts (Int.toNat (((Prod.fst x) : Nat) : Int)) default)) (T.n (List.getD ts (Int.toNat (((Prod.fst x) : Nat) : Int)) default)) (T.kids (List.getD ts (Int.toNat (((Prod.fst x) : Nat) : Int)) default))))) (T.kids (T.mv (rnf ns) (b + (und k (((Prod.fst x) : Nat) : Int))) (T.mk (T.k (List.getD ts (Int.toNat (((Prod.fst x) : Nat) : Int)) default)) (T.n (List.getD ts (Int.toNat (((Prod.fst x) : Nat) : Int)) default)) (T.kids (List.getD ts (Int.toNat (((Prod.fst x) : Nat) : Int)) default))))))]) = (Prod.fst (Prod.snd y))) ∧
     ((Nat.succ ((List.length ts) - (Prod.fst y))) ≤ ((List.length ts) - (Prod.fst x)))))))))))))))))))))))))))))
     (Ret K (.st [(.int .i64 k), (.int .i64 (Prod.snd (Prod.snd x))), (.slc (Prod.fst (Prod.snd x)) (.iv 4 4 true (.tok 0)))]) []))))))
     ((∃ x : (Prod Nat (Prod (List T) Int)),
     ((((Prod.fst x) ≤ (List.length ts)) ∧
     (((List.length (Prod.fst (Prod.snd x))) = (Prod.fst x)) ∧
     ((T.mk k (Prod.snd (Prod.snd x)) ((Prod.fst (Prod.snd x)) ++ (mvL (rnf ns) b k (Prod.fst x) (List.drop (Prod.fst x) ts)))) = (T.mv (rnf ns) b (T.mk k n ts))))) ∧
     ((ns = ns) ∧
     ((b = b) ∧
     (((0 : Int) = (((Prod.fst x) : Nat) : Int)) ∧
     ((k = k) ∧
     ((n = n) ∧
     ((ts = ts) ∧
     (((0 : Int) = (0 : Int)) ∧
     (((0 : Int) = (0 : Int)) ∧
     ((([] : List T) = ([] : List T)) ∧ ((k = k) ∧ ((n = (Prod.snd (Prod.snd x))) ∧ ((([] : List T) = (Prod.fst (Prod.snd x))) ∧ True)))))))))))))) ∧
     (∀ x : (Prod Nat (Prod (List T) Int)),
     ((((Prod.fst x) ≤ (List.length ts)) ∧ (((List.length (Prod.fst (Prod.snd x))) = (Prod.fst x)) ∧ ((T.mk k (Prod.snd (Prod.snd x)) ((Prod.fst (Prod.snd x)) ++ (mvL (rnf ns) b k (Prod.fst x) (List.drop (Prod.fst x) ts)))) = (T.mv (rnf ns) b (T.mk k n ts))))) →
     (Br (Decidable.decide ((((Prod.fst x) : Nat) : Int) < (((List.length ts) : Nat) : Int)))
     ((((0 : Int) ≤ (((Prod.fst x) : Nat) : Int)) ∧ ((((Prod.fst x) : Nat) : Int) < (((List.length ts) : Nat) : Int))) ∧
     (True ∧
     (((T.k (List.getD ts (Int.toNat (((Prod.fst x) : Nat) : Int)) default)) = (T.k (List.getD ts (Int.toNat (((Prod.fst x) : Nat) : Int)) default))) ∧
     (((T.n (List.getD ts (Int.toNat (((Prod.fst x) : Nat) : Int)) default)) = (T.n (List.getD ts (Int.toNat (((Prod.fst x) : Nat) : Int)) default))) ∧
     (((T.kids (List.getD ts (Int.toNat (((Prod.fst x) : Nat) : Int)) default)) = (T.kids (List.getD ts (Int.toNat (((Prod.fst x) : Nat) : Int)) default))) ∧
     ((ts = ts) ∧
     (((Prod.fst (Prod.snd x)) = (Prod.fst (Prod.snd x))) ∧
     ((InR (b + (und k (((Prod.fst x) : Nat) : Int)))) ∧
     ((((T.size (T.mk (T.k (List.getD ts (Int.toNat (((Prod.fst x) : Nat) : Int)) default)) (T.n (List.getD ts (Int.toNat (((Prod.fst x) : Nat) : Int)) default)) (T.kids (List.getD ts (Int.toNat (((Prod.fst x) : Nat) : Int)) default)))) < m) ∧
     ((∃ d : Int,
     (((T.shp (T.mk (T.k (List.getD ts (Int.toNat (((Prod.fst x) : Nat) : Int)) default)) (T.n (List.getD ts (Int.toNat (((Prod.fst x) : Nat) : Int)) default)) (T.kids (List.getD ts (Int.toNat (((Prod.fst x) : Nat) : Int)) default))) d) = true) ∧
     (((0 : Int) ≤ (b + (und k (((Prod.fst x) : Nat) : Int)))) ∧ (((b + (und k (((Prod.fst x) : Nat) : Int))) + d) ≤ (100 : Int))))) ∧
     ((∀ x1 : Int, ((Membership.mem ns x1) → (((0 : Int) ≤ x1) ∧ (x1 ≤ (20 : Int))))) ∧
     (∀ p : (Prod Int Int),
     ((Membership.mem (T.vs (b + (und k (((Prod.fst x) : Nat) : Int))) (T.mk (T.k (List.getD ts (Int.toNat (((Prod.fst x) : Nat) : Int)) default)) (T.n (List.getD ts (Int.toNat (((Prod.fst x) : Nat) : Int)) default)) (T.kids (List.getD ts (Int.toNat (((Prod.fst x) : Nat) : Int)) default)))) p) →
     (((Prod.snd p) - (Prod.fst p)) < (((List.length ns) : Nat) : Int))))))) ∧
     (((Prod.fst (Prod.snd x)) = (Prod.fst (Prod.snd x))) ∧
     ((((((List.length (Prod.fst (Prod.snd x))) : Nat) : Int) + (1 : Int)) ≤ (1099511627776 : Int)) ∧
     ((InR ((((Prod.fst x) : Nat) : Int) + (1 : Int))) ∧
     (∃ y : (Prod Nat (Prod (List T) Int)),
     ((((Prod.fst y) ≤ (List.length ts)) ∧
     (((List.length (Prod.fst (Prod.snd y))) = (Prod.fst y)) ∧
     ((T.mk k (Prod.snd (Prod.snd y)) ((Prod.fst (Prod.snd y)) ++ (mvL (rnf ns) b k (Prod.fst y) (List.drop (Prod.fst y) ts)))) = (T.mv (rnf ns) b (T.mk k n ts))))) ∧
     ((ns = ns) ∧
     ((b = b) ∧
     ((((((Prod.fst x) : Nat) : Int) + (1 : Int)) = (((Prod.fst y) : Nat) : Int)) ∧
     ((k = k) ∧
     ((n = n) ∧
     ((ts = ts) ∧
     (((0 : Int) = (0 : Int)) ∧
     (((0 : Int) = (0 : Int)) ∧
     ((([] : List T) = ([] : List T)) ∧
     ((k = k) ∧
     (((Prod.snd (Prod.snd x)) = (Prod.snd (Prod.snd y))) ∧
     ((((Prod.fst (Prod.snd x)) ++ [(T.mk (T.k (T.mv (rnf ns) (b + (und k (((Prod.fst x) : Nat) : Int))) (T.mk (T.k (List.getD ts (Int.toNat (((Prod.fst x) : Nat) : Int)) default)) (T.n (List.getD ts (Int.toNat (((Prod.fst x) : Nat) : Int)) default)) (T.kids (List.getD ts (Int.toNat (((Prod.fst x) : Nat) : Int)) default))))) (T.n (T.mv (rnf ns) (b + (und k (((Prod.fst x) : Nat) : Int))) (T.mk (T.k (List.getD ts (Int.toNat (((Prod.fst x) : Nat) : Int)) default)) (T.n (List.getD ts (Int.toNat (((Prod.fst x) : Nat) : Int)) default)) (T.kids (List.getD ts (Int.toNat (((Prod.fst x) : Nat) : Int)) default))))) (T.kids (T.mv (rnf ns) (b + (und k (((Prod.fst x) : Nat) : Int))) (T.mk (T.k (List.getD ts (Int.toNat (((Prod.fst x) : Nat) : Int)) default)) (T.n (List.getD ts (Int.toNat (((Prod.fst x) : Nat) : Int)) default)) (T.kids (List.getD ts (Int.toNat (((Prod.fst x) : Nat) : Int)) default))))))]) = (Prod.fst (Prod.snd y))) ∧
     ((Nat.succ ((List.length ts) - (Prod.fst y))) ≤ ((List.length ts) - (Prod.fst x)))))))))))))))))))))))))))))
     (Ret K (.st [(.int .i64 k), (.int .i64 (Prod.snd (Prod.snd x))), (.slc (Prod.fst (Prod.snd x)) (.iv 4 4 true (.tok 0)))]) []))))))) ?_ (by kernel_rfl)
  obtain ⟨⟨d, hd, h0, h1⟩, hns, hvs⟩ := hp
  have hd1 := T.shp_pos hd
  have hsh := T.shp_kids hd
  have hm' : 1 + sizeL ts < m + 1 := hm
  have hll := length_le_sizeL ts
  have hr := T.shp_root hd
  have har2 := (arity_range k).2
  have e1 : k = 1 → ts = [] ∧ 0 ≤ n ∧ n ≤ 20 := fun e => by
    subst e
    rw [show mostN 1 = 20 from rfl] at hr
    exact ⟨T.shp_var hd, hr.2⟩
  have e2 : k ≠ 1 → (T.mk k n ts).mv (rnf ns) b = .mk k n (mvL (rnf ns) b k 0 ts) := T.mv_node
  have e3 : k = 1 → (T.mk k n ts).mv (rnf ns) b = .mk k (if b ≤ n then ns.getD (n - b).toNat 0 + b else n) [] ∧ mvL (rnf ns) b k 0 ts = [] := fun e => by
    have := (e1 e).1; subst e this
    exact ⟨T.mv_var, rfl⟩
  have e4 : k = 1 → n - b < ns.length := fun e => by subst e; exact hvs (b, n) (by rw [T.vs_var]; simp)
  have hvs' : k ≠ 1 → ∀ i, i < ts.length → ∀ p ∈ (ts.getD i default).vs (b + und k i), p.2 - p.1 < ns.length := fun h i hi p hp => hvs p (by rw [T.vs_node h]; exact vsL_mem hi (by simpa using hp))
  refine br (fun g => br (fun g2 => ⟨?_, ⟨?_, ?_⟩, ?_, ⟨(0, ([], _)), ⟨Nat.zero_le _, rfl, ?i4⟩, (by repeat' first | trivial | rfl | (simp; done) | apply And.intro)⟩, fun x hx => ?l1⟩) (fun g2 => ⟨⟨(0, ([], n)), ⟨Nat.zero_le _, rfl, ?j4⟩, (by repeat' first | trivial | rfl | (simp; done) | apply And.intro)⟩, fun x hx => ?l2⟩)) (fun g => ⟨⟨(0, ([], n)), ⟨Nat.zero_le _, rfl, ?k4⟩, (by repeat' first | trivial | rfl | (simp; done) | apply And.intro)⟩, fun x hx => ?l3⟩)
  case i4 =>
    obtain ⟨q1, q2⟩ := e3 (of_decide_eq_true g)
    show T.mk k _ (mvL (rnf ns) b k 0 ts) = _
    rw [q1, q2, if_pos (of_decide_eq_true g2)]
  case j4 =>
    obtain ⟨q1, q2⟩ := e3 (of_decide_eq_true g)
    show T.mk k n (mvL (rnf ns) b k 0 ts) = _
    rw [q1, q2, if_neg (of_decide_eq_false g2)]
  case k4 => exact (e2 (of_decide_eq_false g)).symm
  case l1 | l2 | l3 =>
    obtain ⟨i, ⟨acc, q⟩⟩ := x
    obtain ⟨g1, g2, g4⟩ := hx
    simp only at g1 g2 g4
    refine br (fun h => ?_) (fun h => ?_)
    · have h := of_decide_eq_true h
      simp only at h
      have hi : i < ts.length := by omega
      have hmem := getD_mem hi
      have hs := sizeL_mem hmem
      have hu := und_range k i
      have hk1 : k ≠ 1 := fun e => by rw [(e1 e).1] at hi; exact absurd hi (Nat.not_lt_zero _)
      rw [drop_getD hi] at g4
      simp only [mvL] at g4
      simp only [Int.toNat_natCast, T.eta]
      refine ⟨⟨by omega, by omega⟩, (by first | trivial | rfl | (simp; done)), (by first | trivial | rfl | (simp; done)), (by first | trivial | rfl | (simp; done)), (by first | trivial | rfl | (simp; done)), (by first | trivial | rfl | (simp; done)), (by first | trivial | rfl | (simp; done)), by unfold InR; omega, ⟨by omega, ⟨d - 1, shpL_mem hsh hmem, by omega, by omega⟩, hns, hvs' hk1 i hi⟩, (by first | trivial | rfl | (simp; done)), by omega, by unfold InR; omega, (i + 1, (acc ++ [(ts.getD i default).mv (rnf ns) (b + und k i)], q)), ⟨by show i + 1 ≤ _; omega, by show (acc ++ [_]).length = i + 1; simp [g2], ?_⟩, (by repeat' first | trivial | rfl | (simp; done) | (dsimp only; omega) | omega | apply And.intro)⟩
      show T.mk k q ((acc ++ [_]) ++ mvL (rnf ns) b k (i + 1) (ts.drop (i + 1))) = _
      rw [← g4]; simp
    · have h := of_decide_eq_false h
      simp only at h
      have hi : ¬ i < ts.length := by omega
      rw [drop_len hi] at g4
      simp only [mvL, List.append_nil] at g4
      exact retT hk g4
  · have := e1 (of_decide_eq_true g); unfold InR; omega
  · have := of_decide_eq_true g2; omega
  · exact e4 (of_decide_eq_true g)
  · have g2 := of_decide_eq_true g2
    have := e1 (of_decide_eq_true g)
    have := e4 (of_decide_eq_true g)
    have hx := hns (ns.getD (n - b).toNat 0) (by rw [List.getD_eq_getElem?_getD, List.getElem?_eq_getElem (by omega)]; exact List.getElem_mem _)
    unfold InR; omega
theorem sRename_soundM : ∀ m : Nat, Sound Try.prog 35 (csRenameM m)
  | 0 => by
      refine soundF (G := []) gnil Try.func35 rfl (by kernel_rfl) fun args hs K hCC => ?_
      unfold csRenameM at hCC
      split at hCC
      case h_2 => exact hCC.elim
      exact absurd hCC.1.1 (Nat.not_lt_zero _)
  | m + 1 => by
      refine soundF (G := [(35, csRenameM m), (55, csUnder)]) ((gcons (sRename_soundM m) (gcons sUnder_sound gnil))) Try.func35 rfl (by kernel_rfl) fun args hs K hCC => ?_
      unfold csRenameM at hCC
      split at hCC
      case h_2 => exact hCC.elim
      rename_i k n ts ns b
      exact ⟨Nat.le_of_ble_eq_true rfl, _, sRename_ok m k n ts ns b K hCC.1.1 hCC.1.2 hCC.2⟩
theorem sRename_sound : Sound Try.prog 35 csRename := by
  refine sound_of_all (c := csRenameM) (fun m => (sRename_soundM m)) fun args hs K hCC => ?_
  unfold csRename at hCC
  split at hCC
  case h_2 => exact hCC.elim
  exact ⟨_, ⟨Nat.lt_succ_self _, hCC.1⟩, hCC.2⟩

/-- The program's shift answers as the reference's. -/
theorem shR_shp {t : T} {y c : Int} (h : t.valid = true) : (t.mv (shf y c) 0).valid = (t.vs 0).all fun p => decide (0 ≤ (if c + p.1 ≤ p.2 then p.2 + y else p.2) ∧ (if c + p.1 ≤ p.2 then p.2 + y else p.2) ≤ 20) :=
  T.valid_ren (g := fun b n => if c + b ≤ n then n + y else n) h
theorem all_congr' {α : Type} {l : List α} {p q : α → Bool} (h : ∀ x ∈ l, p x = q x) : l.all p = l.all q := by
  induction l with
  | nil => rfl
  | cons x l ih => simp only [List.all_cons]; rw [h x (by simp), ih fun y hy => h y (by simp [hy])]
theorem shO_eq {t : T} {y c : Int} (h : t.valid = true) (hc : 0 ≤ c) : t.shO y c = ((if y < 0 then (t.vs 0).all (fun p => kpk c (-y) p.1 p.2) else true) && (t.mv (shf y c) 0).valid) := by
  have hr := T.vs_range t 0 30 (T.valid_shp h)
  unfold T.shO
  rw [shR_shp h]
  have key : (((t.vs 0).all fun p => shk y c p.1 p.2) && ((t.vs 0).all fun p => decide (0 ≤ (if c + p.1 ≤ p.2 then p.2 + y else p.2) ∧ (if c + p.1 ≤ p.2 then p.2 + y else p.2) ≤ 20))) = true ↔ ((if y < 0 then (t.vs 0).all (fun p => kpk c (-y) p.1 p.2) else true) && ((t.vs 0).all fun p => decide (0 ≤ (if c + p.1 ≤ p.2 then p.2 + y else p.2) ∧ (if c + p.1 ≤ p.2 then p.2 + y else p.2) ≤ 20))) = true := by
    simp only [Bool.and_eq_true]
    constructor
    · rintro ⟨h1, h2⟩
      refine ⟨?_, h2⟩
      split
      · rw [List.all_eq_true] at h1 ⊢
        intro p hp
        have := h1 p hp
        simp only [shk, kpk, decide_eq_true_eq, Bool.not_eq_true', decide_eq_false_iff_not] at this ⊢
        omega
      · rfl
    · rintro ⟨h1, h2⟩
      refine ⟨?_, h2⟩
      rw [List.all_eq_true] at h2 ⊢
      intro p hp
      have h2 := h2 p hp
      have h3 := hr p hp
      simp only [shk, decide_eq_true_eq] at h2 ⊢
      by_cases hy : y < 0
      · rw [if_pos hy, List.all_eq_true] at h1
        have := h1 p hp
        simp only [kpk, Bool.not_eq_true', decide_eq_false_iff_not] at this
        split at h2 <;> omega
      · split at h2 <;> omega
  exact Bool.eq_iff_iff.2 key
/-- Where no shift fails, the program's substitution is the one that is meant. -/
theorem sbfI_eq {t u : T} {j : Int} (h : ∀ p ∈ t.vs 0, sbk j u p.1 p.2 = true) : t.mv (sbfI j u) 0 = t.mv (sbf j u) 0 := by
  have := T.mv_eq (f := sbfI j u) (g := sbf j u) (u := 0) t 0 fun p hp => by
    have h1 := h p hp
    unfold sbk at h1
    unfold sbfI sbf
    rw [Int.add_zero]
    by_cases e : p.2 - p.1 = j
    · rw [if_pos e] at h1
      rw [if_pos e, if_pos (c := p.2 = j + p.1) (by omega), T.shR, if_pos h1]
    · rw [if_neg e, if_neg (c := p.2 = j + p.1) (by omega)]
      by_cases e2 : j < p.2 - p.1
      · rw [if_pos e2, if_pos (c := j + p.1 < p.2) (by omega)]
      · rw [if_neg e2, if_neg (c := j + p.1 < p.2) (by omega)]
  rw [Int.add_zero] at this; exact this
theorem sh_valid {u : T} {b : Int} (hu : u.valid = true) (hb : 0 ≤ b) : u.shO b 0 = (u.mv (shf b 0) 0).valid := by
  rw [shO_eq hu (Int.le_refl _), if_neg (by omega), Bool.true_and]
theorem sbO_eq {t u : T} {j : Int} (ht : t.valid = true) (hu : u.valid = true) : t.sbO j u = (t.mv (sbf j u) 0).valid := by
  have hr := T.vs_range t 0 30 (T.valid_shp ht)
  unfold T.sbO
  cases ha : ((t.vs 0).all fun p => sbk j u p.1 p.2) with
  | true =>
    rw [List.all_eq_true] at ha
    rw [sbfI_eq ha]; rfl
  | false =>
    cases hv : (t.mv (sbf j u) 0).valid with
    | false => rfl
    | true =>
      exfalso
      rw [List.all_eq_false] at ha
      obtain ⟨p, hp, h1⟩ := ha
      apply h1
      unfold sbk
      split
      · rename_i e
        have h2 := T.valid_sub hv hp
        unfold sbf at h2
        rw [if_pos (by omega)] at h2
        rw [sh_valid hu (by have := hr p hp; omega)]; exact h2
      · rfl
theorem SbR_eq {t u : T} {j : Int} (h : t.SbO j u = true) : t.SbR j u = t.mv (sbf j u) 0 := by
  unfold T.SbR
  rw [if_pos h]
  unfold T.SbO T.sbO at h
  simp only [Bool.and_eq_true] at h
  exact sbfI_eq (List.all_eq_true.1 h.2.2.2.1)
theorem small_of {t : T} (h : t.valid = true) : sizeL t.kids ≤ 400 := by have := T.valid_size h; rw [T.size_eq] at this; omega
theorem small_zero : sizeL (T.mk 0 0 []).kids ≤ 400 := Nat.zero_le _
theorem ShR_valid {t : T} {y c : Int} (h : t.ShO y c = true) : (t.ShR y c).valid = true := by
  unfold T.ShR
  rw [if_pos h]
  unfold T.ShO T.shO at h
  simp only [Bool.and_eq_true] at h
  exact h.2.2.2
theorem ShR_small (t : T) (y c : Int) : sizeL (t.ShR y c).kids ≤ 400 := by
  cases h : t.ShO y c with
  | true => exact small_of (ShR_valid h)
  | false => unfold T.ShR; rw [if_neg (by simp [h])]; exact small_zero
theorem SbR_valid {t u : T} {j : Int} (h : t.SbO j u = true) : (t.SbR j u).valid = true := by
  unfold T.SbR
  rw [if_pos h]
  unfold T.SbO T.sbO at h
  simp only [Bool.and_eq_true] at h
  exact h.2.2.2.2
theorem SbR_small (t : T) (j : Int) (u : T) : sizeL (t.SbR j u).kids ≤ 400 := by
  cases h : t.SbO j u with
  | true => exact small_of (SbR_valid h)
  | false => unfold T.SbR; rw [if_neg (by simp [h])]; exact small_zero
theorem RnR_small (t : T) (ns : List Int) : sizeL (t.RnR ns).kids ≤ 400 := by
  unfold T.RnR
  split
  · rename_i h
    unfold T.RnO at h
    simp only [Bool.and_eq_true] at h
    exact small_of h.2.2.2.2
  · exact small_zero
/-- spec.MaxFree -/
def csMaxFree : Con
  | [.st [.int .i64 k, .int .i64 n, .slc ts (.arg 0)]], [], K => True ∧ ((K (.int .i64 ((T.mk k n ts).mf)) []))
  | _, _, _ => False
theorem sMaxFree_ok (k n : Int) (ts : List T) (K : AV → List AV → Prop) (hp : True) (hk : ((K (.int .i64 ((T.mk k n ts).mf)) []))) :
    bodyQ [(32, csTermValid), (54, csMost2)] TY [] Try.f33 (body Try.f33) [.st [.int .i64 k, .int .i64 n, .slc ts (.arg 0)]] [] K := by
  refine of_vc (A :=
    (True ∧
     (Br (Bool.not (T.valid (T.mk k n ts)))
     (Ret K (.int .i64 (- (1 : Int))) [])
     ((∃ d : Int, (((T.shp (T.mk k n ts) d) = true) ∧ (((0 : Int) ≤ (0 : Int)) ∧ (((0 : Int) + d) ≤ (100 : Int))))) ∧
     (Ret K (.int .i64 (mfL (T.vs (0 : Int) (T.mk k n ts)))) []))))) ?_ (by kernel_rfl)
  unfold T.mf at hk
  refine ⟨trivial, br (fun g => retI hk ?_) (fun g => ?_)⟩
  · rw [if_neg (by intro h; rw [h] at g; cases g)]
  · have g : (T.mk k n ts).valid = true := by simpa using g
    rw [if_pos g] at hk
    exact ⟨⟨30, T.valid_shp g, by omega, by omega⟩, retI hk rfl⟩
theorem sMaxFree_sound : Sound Try.prog 33 csMaxFree := by
  refine soundF (G := [(32, csTermValid), (54, csMost2)]) ((gcons sTermValid_sound (gcons sMost2_sound gnil))) Try.func33 rfl (by kernel_rfl) fun args hs K hCC => ?_
  unfold csMaxFree at hCC
  split at hCC
  case h_2 => exact hCC.elim
  rename_i k n ts
  exact ⟨Nat.le_of_ble_eq_true rfl, _, sMaxFree_ok k n ts K hCC.1 hCC.2⟩
/-- spec.RenameTerm -/
def csRenameTerm : Con
  | [.st [.int .i64 k, .int .i64 n, .slc ts (.arg 0)], .ints .i64 ns (.arg 1)], [], K => ((ns.length ≤ 9223372036854775807)) ∧ ((K (.tup [((T.mk k n ts).RnR ns).fr, .bool ((T.mk k n ts).RnO ns)]) []))
  | _, _, _ => False
theorem sRenameTerm_ok (k n : Int) (ts : List T) (ns : List Int) (K : AV → List AV → Prop) (hp : ((ns.length ≤ 9223372036854775807))) (hk : ((K (.tup [((T.mk k n ts).RnR ns).fr, .bool ((T.mk k n ts).RnO ns)]) []))) :
    bodyQ [(32, csTermValid), (33, csMaxFree), (34, csIndex), (35, csRename)] TY [(4, { ι := Nat, ok := fun i => i ≤ ns.length ∧ ∀ x ∈ ns.take i, 0 ≤ x ∧ x ≤ 20, tl := fun i => [(1, .ints .i64 ns (.arg 1)), (2, .ptr 2), (4, .ptr 4), (6, .int .i64 i)], hl := fun _ => [(2, .st [.int .i64 k, .int .i64 n, .slc ts (.arg 0)]), (4, (T.mk 0 0 []).av (.iv 0 0 true .full))], fh := fun _ => [], μ := fun i => ns.length - i })] Try.f8 (body Try.f8) [.st [.int .i64 k, .int .i64 n, .slc ts (.arg 0)], .ints .i64 ns (.arg 1)] [] K := by
  refine of_vc (A :=
    (True ∧
     (Br (Bool.not (T.valid (T.mk k n ts)))
     (Ret K (.tup [(.st [(.int .i64 0), (.int .i64 0), (.slc [] (.iv 0 0 true .full))]), (.bool false)]) [])
     (Br (Decidable.decide ((21 : Int) < (((List.length ns) : Nat) : Int)))
     (Ret K (.tup [(.st [(.int .i64 0), (.int .i64 0), (.slc [] (.iv 0 0 true .full))]), (.bool false)]) [])
     (True ∧
     (Br (Decidable.decide ((((List.length ns) : Nat) : Int) < (T.mf (T.mk k n ts))))
     (Ret K (.tup [(.st [(.int .i64 0), (.int .i64 0), (.slc [] (.iv 0 0 true .full))]), (.bool false)]) [])
     ((∃ x : Nat,
     (((x ≤ (List.length ns)) ∧ (∀ x1 : Int, ((Membership.mem (List.take x ns) x1) → (((0 : Int) ≤ x1) ∧ (x1 ≤ (20 : Int)))))) ∧
     ((ns = ns) ∧
     (((0 : Int) = ((x : Nat) : Int)) ∧
     ((k = k) ∧ ((n = n) ∧ ((ts = ts) ∧ (((0 : Int) = (0 : Int)) ∧ (((0 : Int) = (0 : Int)) ∧ ((([] : List T) = ([] : List T)) ∧ True)))))))))) ∧
     (∀ x : Nat,
     (((x ≤ (List.length ns)) ∧ (∀ x1 : Int, ((Membership.mem (List.take x ns) x1) → (((0 : Int) ≤ x1) ∧ (x1 ≤ (20 : Int)))))) →
     (Br (Decidable.decide (((x : Nat) : Int) < (((List.length ns) : Nat) : Int)))
     ((((0 : Int) ≤ ((x : Nat) : Int)) ∧ (((x : Nat) : Int) < (((List.length ns) : Nat) : Int))) ∧
     (True ∧
     (Br (Bool.not (Decidable.decide (((0 : Int) ≤ (List.getD ns (Int.toNat ((x : Nat) : Int)) (0 : Int))) ∧ ((List.getD ns (Int.toNat ((x : Nat) : Int)) (0 : Int)) ≤ (20 : Int)))))
     (Ret K (.tup [(.st [(.int .i64 0), (.int .i64 0), (.slc [] (.iv 0 0 true .full))]), (.bool false)]) [])
     ((InR (((x : Nat) : Int) + (1 : Int))) ∧
     (∃ y : Nat,
     (((y ≤ (List.length ns)) ∧ (∀ x1 : Int, ((Membership.mem (List.take y ns) x1) → (((0 : Int) ≤ x1) ∧ (x1 ≤ (20 : Int)))))) ∧
     ((ns = ns) ∧
     (((((x : Nat) : Int) + (1 : Int)) = ((y : Nat) : Int)) ∧
     ((k = k) ∧
     ((n = n) ∧
     ((ts = ts) ∧
     (((0 : Int) = (0 : Int)) ∧ (((0 : Int) = (0 : Int)) ∧ ((([] : List T) = ([] : List T)) ∧ ((Nat.succ ((List.length ns) - y)) ≤ ((List.length ns) - x))))))))))))))))
     (((∃ d : Int, (((T.shp (T.mk k n ts) d) = true) ∧ (((0 : Int) ≤ (0 : Int)) ∧ (((0 : Int) + d) ≤ (100 : Int))))) ∧
     ((∀ x1 : Int, ((Membership.mem ns x1) → (((0 : Int) ≤ x1) ∧ (x1 ≤ (20 : Int))))) ∧
     (∀ p : (Prod Int Int), ((Membership.mem (T.vs (0 : Int) (T.mk k n ts)) p) → (((Prod.snd p) - (Prod.fst p)) < (((List.length ns) : Nat) : Int)))))) ∧
     (True ∧
     (Br (Bool.not (T.valid (T.mk (T.k (T.mv (rnf ns) (0 : Int) (T.mk k n ts))) (T.n (T.mv (rnf ns) (0 : Int) (T.mk k n ts))) (T.kids (T.mv (rnf ns) (0 : Int) (T.mk k n ts))))))
     (Ret K (.tup [(.st [(.int .i64 0), (.int .i64 0), (.slc [] (.iv 0 0 true .full))]), (.bool false)]) [])
     (Ret K (.tup [(.st [(.int .i64 (T.k (T.mv (rnf ns) (0 : Int) (T.mk k n ts)))), (.int .i64 (T.n (T.mv (rnf ns) (0 : Int) (T.mk k n ts)))), (.slc (T.kids (T.mv (rnf ns) (0 : Int) (T.mk k n ts))) (.iv 4 4 true (.tok 0)))]), (.bool true)]) [])))))))))))))) ?_ (by kernel_rfl)
  have bad : (T.mk k n ts).RnO ns = false → Ret K (.tup [(.st [(.int .i64 (0 : Int)), (.int .i64 (0 : Int)), (.slc ([] : List T) (.iv (0 : Nat) (0 : Nat) true .full))]), (.bool false)]) [] := by
    intro e
    unfold T.RnR at hk
    rw [e, if_neg (by simp)] at hk
    exact fin hk (by repeat' first | trivial | rfl | (simp; done) | apply And.intro) (by repeat' first | trivial | rfl | (simp; done) | apply And.intro)
  refine ⟨trivial, br (fun g => bad ?_) (fun g => br (fun g2 => bad ?_) (fun g2 => ⟨trivial, br (fun g3 => bad ?_) (fun g3 => ⟨⟨0, ⟨Nat.zero_le _, by simp⟩, (by repeat' first | trivial | rfl | (simp; done) | apply And.intro)⟩, fun i hi => ?_⟩)⟩))⟩
  · unfold T.RnO; rw [Bool.not_eq_true'] at g; rw [g]; rfl
  · have g2 := of_decide_eq_true g2
    unfold T.RnO; rw [decide_eq_false (p := ns.length ≤ 21) (by omega)]; simp
  · have g3 := of_decide_eq_true g3
    have g : (T.mk k n ts).valid = true := by simpa using g
    unfold T.mf at g3; rw [if_pos g] at g3
    unfold T.RnO; rw [decide_eq_false (p := mfL _ ≤ _) (by omega)]; simp
  have g : (T.mk k n ts).valid = true := by simpa using g
  have g2 := of_decide_eq_false g2
  have g3 := of_decide_eq_false g3
  unfold T.mf at g3; rw [if_pos g] at g3
  obtain ⟨q1, q2⟩ := hi
  refine br (fun h => ?_) (fun h => ?_)
  · have h := of_decide_eq_true h
    have hi : i < ns.length := by omega
    have hm : ns.getD i 0 ∈ ns := by rw [List.getD_eq_getElem?_getD, List.getElem?_eq_getElem hi]; exact List.getElem_mem _
    simp only [Int.toNat_natCast]
    refine ⟨⟨by omega, by omega⟩, trivial, br (fun h2 => bad ?_) (fun h2 => ⟨by unfold InR; omega, i + 1, ⟨by omega, ?_⟩, (by repeat' first | trivial | rfl | (simp; done) | (dsimp only; omega) | omega | apply And.intro)⟩)⟩
    · rw [Bool.not_eq_true', decide_eq_false_iff_not] at h2
      unfold T.RnO; rw [decide_eq_false (p := ∀ x ∈ ns, 0 ≤ x ∧ x ≤ 20) (fun c => h2 (c _ hm))]; simp
    · rw [Bool.not_eq_false', decide_eq_true_eq] at h2
      intro x hx
      rw [List.take_succ_eq_append_getElem hi, List.mem_append] at hx
      rcases hx with hx | hx
      · exact q2 x hx
      · rw [List.getD_eq_getElem?_getD, List.getElem?_eq_getElem hi] at h2
        simp at hx; subst hx; exact h2
  · have h := of_decide_eq_false h
    rw [List.take_of_length_le (by omega)] at q2
    refine ⟨⟨⟨30, T.valid_shp g, by omega, by omega⟩, q2, fun p hp => by have := mfL_mem hp; omega⟩, trivial, ?_⟩
    rw [T.eta]
    refine br (fun h5 => bad ?_) (fun h5 => ?_)
    · rw [Bool.not_eq_true'] at h5
      unfold T.RnO; rw [h5]; simp
    · rw [Bool.not_eq_false'] at h5
      have e : (T.mk k n ts).RnO ns = true := by unfold T.RnO; rw [g, decide_eq_true (p := ns.length ≤ 21) (by omega), decide_eq_true (p := mfL _ ≤ _) (by omega), decide_eq_true q2, h5]; rfl
      unfold T.RnR at hk
      rw [e, if_pos rfl] at hk
      exact fin hk (by repeat' first | trivial | rfl | (simp; done) | apply And.intro) (by repeat' first | trivial | rfl | (simp; done) | apply And.intro)
theorem sRenameTerm_sound : Sound Try.prog 8 csRenameTerm := by
  refine soundF (G := [(32, csTermValid), (33, csMaxFree), (34, csIndex), (35, csRename)]) ((gcons sTermValid_sound (gcons sMaxFree_sound (gcons sIndex_sound (gcons sRename_sound gnil))))) Try.func8 rfl (by kernel_rfl) fun args hs K hCC => ?_
  unfold csRenameTerm at hCC
  split at hCC
  case h_2 => exact hCC.elim
  rename_i k n ts ns
  exact ⟨Nat.le_of_ble_eq_true rfl, _, sRenameTerm_ok k n ts ns K hCC.1 hCC.2⟩
end Go.Dk
