/- Reduction: the reference's functions. -/
import Derived.Test.YtcgnenkbmcbonaaL2s
import Derived.Test.YtcgnenkbmcbonaaL3
namespace Go.Dk
set_option linter.unusedVariables false
open Go.Proofs
/-- spec.l3Redex -/
def csRedex : Con
  | [.st [.int .i64 k, .int .i64 n, .slc ts (.arg 0)]], [], K => ((arity k = ts.length)) ∧ ((K (.int .i64 (T.mk k n ts).rdx) []))
  | _, _, _ => False
theorem sRedex_ok (k n : Int) (ts : List T) (K : AV → List AV → Prop) (hp : ((arity k = ts.length))) (hk : ((K (.int .i64 (T.mk k n ts).rdx) []))) :
    bodyQ [] TY [] Try.f78 (body Try.f78) [.st [.int .i64 k, .int .i64 n, .slc ts (.arg 0)]] [] K := by
  refine of_vc (A :=
    (Br (Decidable.decide (k = (5 : Int)))
     ((((0 : Int) ≤ (0 : Int)) ∧ ((0 : Int) < (((List.length ts) : Nat) : Int))) ∧
     (Br (Decidable.decide ((T.k (List.getD ts (Int.toNat (0 : Int)) default)) = (4 : Int)))
     (Ret K (.int .i64 1) [])
     (Ret K (.int .i64 0) [])))
     (Br (Decidable.decide (k = (9 : Int)))
     ((((0 : Int) ≤ (3 : Int)) ∧ ((3 : Int) < (((List.length ts) : Nat) : Int))) ∧
     (Br (Decidable.decide ((T.k (List.getD ts (Int.toNat (3 : Int)) default)) = (7 : Int)))
     (Ret K (.int .i64 2) [])
     ((((0 : Int) ≤ (3 : Int)) ∧ ((3 : Int) < (((List.length ts) : Nat) : Int))) ∧
     (Br (Decidable.decide ((T.k (List.getD ts (Int.toNat (3 : Int)) default)) = (8 : Int)))
     (Ret K (.int .i64 3) [])
     (Ret K (.int .i64 0) [])))))
     (Br (Decidable.decide (k = (12 : Int)))
     ((((0 : Int) ≤ (1 : Int)) ∧ ((1 : Int) < (((List.length ts) : Nat) : Int))) ∧
     (Br (Decidable.decide ((T.k (List.getD ts (Int.toNat (1 : Int)) default)) = (11 : Int)))
     (Ret K (.int .i64 4) [])
     (Ret K (.int .i64 0) [])))
     (Br (Decidable.decide (k = (15 : Int)))
     ((((0 : Int) ≤ (0 : Int)) ∧ ((0 : Int) < (((List.length ts) : Nat) : Int))) ∧
     (Br (Decidable.decide ((T.k (List.getD ts (Int.toNat (0 : Int)) default)) = (14 : Int)))
     (Ret K (.int .i64 5) [])
     (Ret K (.int .i64 0) [])))
     (Br (Decidable.decide (k = (16 : Int)))
     ((((0 : Int) ≤ (0 : Int)) ∧ ((0 : Int) < (((List.length ts) : Nat) : Int))) ∧
     (Br (Decidable.decide ((T.k (List.getD ts (Int.toNat (0 : Int)) default)) = (14 : Int)))
     (Ret K (.int .i64 6) [])
     (Ret K (.int .i64 0) [])))
     (Ret K (.int .i64 0) []))))))) ?_ (by kernel_rfl)
  have ha := hp
  unfold arity at ha
  have t0 : (0 : Int).toNat = 0 := rfl
  have t1 : (1 : Int).toNat = 1 := rfl
  have t3 : (3 : Int).toNat = 3 := rfl
  simp only [t0, t1, t3]
  clear hp
  have e : (T.mk k n ts).rdx = rdxK k (ts.getD 0 default).k (ts.getD 1 default).k (ts.getD 3 default).k := rfl
  rw [e] at hk
  clear e
  generalize (ts.getD 0 default).k = a0 at *
  generalize (ts.getD 1 default).k = a1 at *
  generalize (ts.getD 3 default).k = a3 at *
  repeat' first | refine br (fun h => ?_) (fun h => ?_) | apply And.intro
  all_goals simp only [decide_eq_true_eq, decide_eq_false_iff_not] at *
  all_goals first | omega | (unfold InR; omega) | (refine retI hk ?_; unfold rdxK; repeat' split) <;> omega
theorem sRedex_sound : Sound Try.prog 78 csRedex := by
  refine soundF (G := []) (gnil) Try.func78 rfl (by kernel_rfl) fun args hs K hCC => ?_
  unfold csRedex at hCC
  split at hCC
  case h_2 => exact hCC.elim
  rename_i k n ts
  exact ⟨Nat.le_of_ble_eq_true rfl, _, sRedex_ok k n ts K hCC.1 hCC.2⟩
/-- spec.RedexOf -/
def csRedexOf : Con
  | [.st [.int .i64 k, .int .i64 n, .slc ts (.arg 0)]], [], K => True ∧ ((K (.int .i64 (if (T.mk k n ts).valid then (T.mk k n ts).rdx else 0)) []))
  | _, _, _ => False
theorem sRedexOf_ok (k n : Int) (ts : List T) (K : AV → List AV → Prop) (hp : True) (hk : ((K (.int .i64 (if (T.mk k n ts).valid then (T.mk k n ts).rdx else 0)) []))) :
    bodyQ [(44, csTermValid), (78, csRedex)] TY [] Try.f52 (body Try.f52) [.st [.int .i64 k, .int .i64 n, .slc ts (.arg 0)]] [] K := by
  refine of_vc (A :=
    (True ∧
     (Br (Bool.not (T.valid (T.mk k n ts)))
     (Ret K (.int .i64 0) [])
     (((arity k) = (((List.length ts) : Nat) : Int)) ∧ (Ret K (.int .i64 (T.rdx (T.mk k n ts))) []))))) ?_ (by kernel_rfl)
  refine ⟨trivial, br (fun h => retI hk ?_) (fun h => ⟨?_, retI hk ?_⟩)⟩
  · rw [Bool.not_eq_true'] at h; rw [h]; rfl
  · rw [Bool.not_eq_false'] at h
    exact valid_arity h
  · rw [Bool.not_eq_false'] at h; rw [h]; rfl
theorem sRedexOf_sound : Sound Try.prog 52 csRedexOf := by
  refine soundF (G := [(44, csTermValid), (78, csRedex)]) ((gcons sTermValid_sound (gcons sRedex_sound gnil))) Try.func52 rfl (by kernel_rfl) fun args hs K hCC => ?_
  unfold csRedexOf at hCC
  split at hCC
  case h_2 => exact hCC.elim
  rename_i k n ts
  exact ⟨Nat.le_of_ble_eq_true rfl, _, sRedexOf_ok k n ts K hCC.1 hCC.2⟩
end Go.Dk
