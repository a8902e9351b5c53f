/- Contraction: the program's functions. -/
import Derived.Test.YtcgnenkbmcbonaaL3
import Derived.Test.YtcgnenkbmcbonaaRd2
namespace Go.Dk
set_option linter.unusedVariables false
open Go.Proofs


/-- impl.own -/
def cOwnM (m : Nat) : Con
  | [.st [.int .i64 k, .int .i64 n, .slc ts (.arg 0)]], [], K => (((T.mk k n ts).size) < m ∧ ((sizeL ts ≤ 1048576))) ∧ ((K ((T.mk k n ts).fr) []))
  | _, _, _ => False
def cOwn : Con
  | [.st [.int .i64 k, .int .i64 n, .slc ts (.arg 0)]], [], K => ((sizeL ts ≤ 1048576)) ∧ ((K ((T.mk k n ts).fr) []))
  | _, _, _ => False
theorem Own_ok (m : Nat) (k n : Int) (ts : List T) (K : AV → List AV → Prop) (hm : ((T.mk k n ts).size) < m + 1) (hp : ((sizeL ts ≤ 1048576))) (hk : ((K ((T.mk k n ts).fr) []))) :
    bodyQ [(64, cOwnM m)] TY [(3, { ι := Nat, ok := fun i => i ≤ ts.length, tl := fun i => [(2, .ptr 2), (3, .ptr 3), (12, .slc ts (.arg 0)), (13, .int .i64 ts.length), (14, .int .i64 i)], hl := fun i => [(2, (T.mk 0 0 []).av (.iv 0 0 true .full)), (3, .st [.int .i64 k, .int .i64 n, .slc (ts.take i) (.iv 4 4 true (.tok 23))])], fh := fun _ => [], μ := fun i => ts.length - i })] Try.f64 (body Try.f64) [.st [.int .i64 k, .int .i64 n, .slc ts (.arg 0)]] [] K := by
  refine of_vc (A :=
    ((∃ x : Nat,
     ((x ≤ (List.length ts)) ∧
     ((ts = ts) ∧
     (((((List.length ts) : Nat) : Int) = (((List.length ts) : Nat) : Int)) ∧
     (((0 : Int) = ((x : Nat) : Int)) ∧
     (((0 : Int) = (0 : Int)) ∧ (((0 : Int) = (0 : Int)) ∧ ((([] : List T) = ([] : List T)) ∧ ((k = k) ∧ ((n = n) ∧ ((([] : List T) = (List.take x ts)) ∧ True))))))))))) ∧
     (∀ x : Nat,
     ((x ≤ (List.length ts)) →
     (Br (Decidable.decide (((x : Nat) : Int) < (((List.length ts) : Nat) : Int)))
     ((((0 : Int) ≤ ((x : Nat) : Int)) ∧ (((x : Nat) : Int) < (((List.length ts) : Nat) : Int))) ∧
     ((((T.size (T.mk (T.k (List.getD ts (Int.toNat ((x : Nat) : Int)) default)) (T.n (List.getD ts (Int.toNat ((x : Nat) : Int)) default)) (T.kids (List.getD ts (Int.toNat ((x : Nat) : Int)) default)))) < m) ∧
     ((sizeL (T.kids (List.getD ts (Int.toNat ((x : Nat) : Int)) default))) ≤ (1048576 : Nat))) ∧
     (((List.take x ts) = (List.take x ts)) ∧
     ((((((List.length (List.take x ts)) : Nat) : Int) + (1 : Int)) ≤ (1099511627776 : Int)) ∧
     ((InR (((x : Nat) : Int) + (1 : Int))) ∧
     (∃ y : Nat,
     ((y ≤ (List.length ts)) ∧
     ((ts = ts) ∧
     (((((List.length ts) : Nat) : Int) = (((List.length ts) : Nat) : Int)) ∧
     (((((x : Nat) : Int) + (1 : Int)) = ((y : Nat) : Int)) ∧
     (((0 : Int) = (0 : Int)) ∧
     (((0 : Int) = (0 : Int)) ∧
     ((([] : List T) = ([] : List T)) ∧
     ((k = k) ∧
     ((n = n) ∧
     ((((List.take x ts) ++ [(T.mk (T.k (T.mk (T.k (List.getD ts (Int.toNat ((x : Nat) : Int)) default)) (T.n (List.getD ts (Int.toNat ((x : Nat) : Int)) default)) (T.kids (List.getD ts (Int.toNat ((x : Nat) : Int)) default)))) (T.n (T.mk (T.k (List.getD ts (Int.toNat ((x : Nat) : Int)) default)) (T.n (List.getD ts (Int.toNat ((x : Nat) : Int)) default)) (T.kids (List.getD ts (Int.toNat ((x : Nat) : Int)) default)))) (T.kids (T.mk (T.k (List.getD ts (Int.toNat ((x : Nat) : Int)) default)) (T.n (List.getD ts (Int.toNat ((x : Nat) : Int)) default)) (T.kids (List.getD ts (Int.toNat ((x : Nat) : Int)) default)))))]) = (List.take y ts)) ∧
     ((Nat.succ ((List.length ts) - y)) ≤ ((List.length ts) - x))))))))))))))))))
     (Ret K (.st [(.int .i64 k), (.int .i64 n), (.slc (List.take x ts) (.iv 4 4 true (.tok 0)))]) [])))))) ?_ (by kernel_rfl)
  have hl := length_le_sizeL ts
  have hm' : 1 + sizeL ts < m + 1 := hm
  refine ⟨⟨0, Nat.zero_le _, (by repeat' first | trivial | rfl | (simp; done) | apply And.intro)⟩, ?_⟩
  intro i hi0
  refine br (fun h => ?_) (fun h => ?_)
  · have hi : i < ts.length := by simpa using h
    have hs := sizeL_mem (getD_mem hi)
    have hs' := hs
    rw [T.size_eq] at hs'
    simp only [Int.toNat_natCast, T.eta]
    refine ⟨⟨by omega, by omega⟩, ⟨by omega, by omega⟩, trivial, ?_, inR_succ hi (by omega), i + 1, by omega, trivial, trivial, by simp, trivial, trivial, trivial, trivial, trivial, ?_, by omega⟩
    · rw [List.length_take]; omega
    · exact (take_succ_getD hi).symm
  · have hi : ¬ i < ts.length := by simpa using h
    exact retT hk (by rw [List.take_of_length_le (by omega)])
theorem Own_soundM : ∀ m : Nat, Sound Try.prog 64 (cOwnM m)
  | 0 => by
      refine soundF (G := []) gnil Try.func64 rfl (by kernel_rfl) fun args hs K hCC => ?_
      unfold cOwnM at hCC
      split at hCC
      case h_2 => exact hCC.elim
      exact absurd hCC.1.1 (Nat.not_lt_zero _)
  | m + 1 => by
      refine soundF (G := [(64, cOwnM m)]) ((gcons (Own_soundM m) gnil)) Try.func64 rfl (by kernel_rfl) fun args hs K hCC => ?_
      unfold cOwnM at hCC
      split at hCC
      case h_2 => exact hCC.elim
      rename_i k n ts
      exact ⟨Nat.le_of_ble_eq_true rfl, _, Own_ok m k n ts K hCC.1.1 hCC.1.2 hCC.2⟩
theorem Own_sound : Sound Try.prog 64 cOwn := by
  refine sound_of_all (c := cOwnM) (fun m => (Own_soundM m)) fun args hs K hCC => ?_
  unfold cOwn at hCC
  split at hCC
  case h_2 => exact hCC.elim
  exact ⟨_, ⟨Nat.lt_succ_self _, hCC.1⟩, hCC.2⟩
/-- impl.contract -/
def cContract : Con
  | [.st [.int .i64 k, .int .i64 n, .slc ts (.arg 0)]], [], K => (((T.mk k n ts).valid = true)) ∧ ((K (.tup [(T.mk k n ts).coR.fr, .bool (T.mk k n ts).coO]) []))
  | _, _, _ => False
theorem Contract_ok (k n : Int) (ts : List T) (K : AV → List AV → Prop) (hp : (((T.mk k n ts).valid = true))) (hk : ((K (.tup [(T.mk k n ts).coR.fr, .bool (T.mk k n ts).coO]) []))) :
    bodyQ [(54, cRedex), (64, cOwn), (77, cNode), (75, cSubst), (76, cValid)] TY [(2000007, { ι := Unit, ok := fun _ => True, tl := fun _ => [(1, .ptr 1), (2, .ptr 2), (4, .ptr 4), (5, .ptr 5), (6, .ptr 6), (7, .ptr 7)], hl := fun _ => [(1, .st [.int .i64 k, .int .i64 n, .slc ts (.arg 0)]), (2, (T.mk 0 0 []).av (.iv 0 0 true .full)), (4, (ts.getD 0 default).av (.iv 2 2 false .no)), (5, (ts.getD 1 default).av (.iv 2 2 false .no)), (6, (ts.getD 2 default).av (.iv 2 2 false .no)), (7, ((ts.getD 3 default).kids.getD 0 default).av (.iv 2 2 false .no))], fh := fun _ => [], μ := fun _ => 0, plan := (.ord [(0, []), (1, []), (2, []), (3, []), (4, []), (5, []), (6, []), (7, []), (8, []), (9, []), (10, []), (11, []), (12, []), (13, []), (14, []), (15, []), (16, []), (17, []), (18, []), (19, [18, 17, 16, 15, 14, 13, 12, 11, 10, 9, 8, 7, 6, 5, 4, 3, 2, 1, 0]), (20, [18, 17, 16, 15, 14, 13, 12, 11, 10, 9, 8, 7, 6, 5, 4, 3, 2, 1, 0]), (21, [18, 17, 16, 15, 14, 13, 12, 11, 10, 9, 8, 7, 6, 5, 4, 3, 2, 1, 0]), (22, [18, 17, 16, 15, 14, 13, 12, 11, 10, 9, 8, 7, 6, 5, 4, 3, 2, 1, 0]), (23, [18, 17, 16, 15, 14, 13, 12, 11, 10, 9, 8, 7, 6, 5, 4]), (24, [18, 17, 16, 15, 14, 13, 12, 11, 10, 9, 8]), (25, [18, 17, 16, 15, 14, 13, 12]), (26, [])]) })] Try.f51 (body Try.f51) [.st [.int .i64 k, .int .i64 n, .slc ts (.arg 0)]] [] K := by
  refine of_vc (A :=
    (((arity k) = (((List.length ts) : Nat) : Int)) ∧
     (Br (Decidable.decide ((T.rdx (T.mk k n ts)) = (1 : Int)))
     ((((0 : Int) ≤ (0 : Int)) ∧ ((0 : Int) < (((List.length ts) : Nat) : Int))) ∧
     ((((0 : Int) ≤ (1 : Int)) ∧ ((1 : Int) < (((List.length (T.kids (List.getD ts 0 default))) : Nat) : Int))) ∧
     ((((0 : Int) ≤ (1 : Int)) ∧ ((1 : Int) < (((List.length ts) : Nat) : Int))) ∧
     ((((T.shp (T.mk (T.k (List.getD (T.kids (List.getD ts 0 default)) 1 default)) (T.n (List.getD (T.kids (List.getD ts 0 default)) 1 default)) (T.kids (List.getD (T.kids (List.getD ts 0 default)) 1 default))) (30 : Int)) = true) ∧
     (((0 : Int) ≤ (0 : Int)) ∧
     (((0 : Int) ≤ (20 : Int)) ∧
     ((T.valid (T.mk (T.k (List.getD ts 1 default)) (T.n (List.getD ts 1 default)) (T.kids (List.getD ts 1 default)))) = true)))) ∧
     (Ret K (.tup [(.st [(.int .i64 (T.k (T.sbR (T.mk (T.k (List.getD (T.kids (List.getD ts 0 default)) 1 default)) (T.n (List.getD (T.kids (List.getD ts 0 default)) 1 default)) (T.kids (List.getD (T.kids (List.getD ts 0 default)) 1 default))) (0 : Int) (T.mk (T.k (List.getD ts 1 default)) (T.n (List.getD ts 1 default)) (T.kids (List.getD ts 1 default)))))), (.int .i64 (T.n (T.sbR (T.mk (T.k (List.getD (T.kids (List.getD ts 0 default)) 1 default)) (T.n (List.getD (T.kids (List.getD ts 0 default)) 1 default)) (T.kids (List.getD (T.kids (List.getD ts 0 default)) 1 default))) (0 : Int) (T.mk (T.k (List.getD ts 1 default)) (T.n (List.getD ts 1 default)) (T.kids (List.getD ts 1 default)))))), (.slc (T.kids (T.sbR (T.mk (T.k (List.getD (T.kids (List.getD ts 0 default)) 1 default)) (T.n (List.getD (T.kids (List.getD ts 0 default)) 1 default)) (T.kids (List.getD (T.kids (List.getD ts 0 default)) 1 default))) (0 : Int) (T.mk (T.k (List.getD ts 1 default)) (T.n (List.getD ts 1 default)) (T.kids (List.getD ts 1 default))))) (.iv 4 4 true (.tok 0)))]), (.bool (T.sbO (T.mk (T.k (List.getD (T.kids (List.getD ts 0 default)) 1 default)) (T.n (List.getD (T.kids (List.getD ts 0 default)) 1 default)) (T.kids (List.getD (T.kids (List.getD ts 0 default)) 1 default))) (0 : Int) (T.mk (T.k (List.getD ts 1 default)) (T.n (List.getD ts 1 default)) (T.kids (List.getD ts 1 default)))))]) [])))))
     (Br (Decidable.decide ((T.rdx (T.mk k n ts)) = (2 : Int)))
     ((((0 : Int) ≤ (1 : Int)) ∧ ((1 : Int) < (((List.length ts) : Nat) : Int))) ∧
     (((sizeL (T.kids (List.getD ts 1 default))) ≤ (1048576 : Nat)) ∧
     (True ∧
     ((((T.valid (T.mk (T.k (T.mk (T.k (List.getD ts 1 default)) (T.n (List.getD ts 1 default)) (T.kids (List.getD ts 1 default)))) (T.n (T.mk (T.k (List.getD ts 1 default)) (T.n (List.getD ts 1 default)) (T.kids (List.getD ts 1 default)))) (T.kids (T.mk (T.k (List.getD ts 1 default)) (T.n (List.getD ts 1 default)) (T.kids (List.getD ts 1 default)))))) = true) →
     (Ret K (.tup [(.st [(.int .i64 (T.k (T.mk (T.k (List.getD ts 1 default)) (T.n (List.getD ts 1 default)) (T.kids (List.getD ts 1 default))))), (.int .i64 (T.n (T.mk (T.k (List.getD ts 1 default)) (T.n (List.getD ts 1 default)) (T.kids (List.getD ts 1 default))))), (.slc (T.kids (T.mk (T.k (List.getD ts 1 default)) (T.n (List.getD ts 1 default)) (T.kids (List.getD ts 1 default)))) (.iv 4 4 true (.tok 0)))]), (.bool true)]) [])) ∧
     (((T.valid (T.mk (T.k (T.mk (T.k (List.getD ts 1 default)) (T.n (List.getD ts 1 default)) (T.kids (List.getD ts 1 default)))) (T.n (T.mk (T.k (List.getD ts 1 default)) (T.n (List.getD ts 1 default)) (T.kids (List.getD ts 1 default)))) (T.kids (T.mk (T.k (List.getD ts 1 default)) (T.n (List.getD ts 1 default)) (T.kids (List.getD ts 1 default)))))) = false) →
     (Ret K (.tup [(.st [(.int .i64 0), (.int .i64 0), (.slc [] (.iv 4 4 true (.tok 0)))]), (.bool false)]) []))))))
     (Br (Decidable.decide ((T.rdx (T.mk k n ts)) = (3 : Int)))
     (((((0 : Int) ≤ (0 : Int)) ∧ ((0 : Int) < (((List.length ts) : Nat) : Int))) ∧
     ((((0 : Int) ≤ (1 : Int)) ∧ ((1 : Int) < (((List.length ts) : Nat) : Int))) ∧
     ((((0 : Int) ≤ (2 : Int)) ∧ ((2 : Int) < (((List.length ts) : Nat) : Int))) ∧
     ((((0 : Int) ≤ (3 : Int)) ∧ ((3 : Int) < (((List.length ts) : Nat) : Int))) ∧
     ((((0 : Int) ≤ (0 : Int)) ∧ ((0 : Int) < (((List.length (T.kids (List.getD ts 3 default))) : Nat) : Int))) ∧
     (∃ x : Unit,
     (True ∧
     ((k = k) ∧
     ((n = n) ∧
     ((ts = ts) ∧
     (((0 : Int) = (0 : Int)) ∧
     (((0 : Int) = (0 : Int)) ∧
     ((([] : List T) = ([] : List T)) ∧
     (((T.k (List.getD ts 0 default)) = (T.k (List.getD ts 0 default))) ∧
     (((T.n (List.getD ts 0 default)) = (T.n (List.getD ts 0 default))) ∧
     (((T.kids (List.getD ts 0 default)) = (T.kids (List.getD ts 0 default))) ∧
     (((T.k (List.getD ts 1 default)) = (T.k (List.getD ts 1 default))) ∧
     (((T.n (List.getD ts 1 default)) = (T.n (List.getD ts 1 default))) ∧
     (((T.kids (List.getD ts 1 default)) = (T.kids (List.getD ts 1 default))) ∧
     (((T.k (List.getD ts 2 default)) = (T.k (List.getD ts 2 default))) ∧
     (((T.n (List.getD ts 2 default)) = (T.n (List.getD ts 2 default))) ∧
     (((T.kids (List.getD ts 2 default)) = (T.kids (List.getD ts 2 default))) ∧
     (((T.k (List.getD (T.kids (List.getD ts 3 default)) 0 default)) = (T.k (List.getD (T.kids (List.getD ts 3 default)) 0 default))) ∧
     (((T.n (List.getD (T.kids (List.getD ts 3 default)) 0 default)) = (T.n (List.getD (T.kids (List.getD ts 3 default)) 0 default))) ∧
     (((T.kids (List.getD (T.kids (List.getD ts 3 default)) 0 default)) = (T.kids (List.getD (T.kids (List.getD ts 3 default)) 0 default))) ∧
     True))))))))))))))))))))))))) ∧
     (∀ x : Unit,
     (True →
     (True ∧
     (((T.k (List.getD (T.kids (List.getD ts 3 default)) 0 default)) = (T.k (List.getD (T.kids (List.getD ts 3 default)) 0 default))) ∧
     (((T.n (List.getD (T.kids (List.getD ts 3 default)) 0 default)) = (T.n (List.getD (T.kids (List.getD ts 3 default)) 0 default))) ∧
     (((T.kids (List.getD (T.kids (List.getD ts 3 default)) 0 default)) = (T.kids (List.getD (T.kids (List.getD ts 3 default)) 0 default))) ∧
     (((T.k (List.getD ts 2 default)) = (T.k (List.getD ts 2 default))) ∧
     (((T.n (List.getD ts 2 default)) = (T.n (List.getD ts 2 default))) ∧
     (((T.kids (List.getD ts 2 default)) = (T.kids (List.getD ts 2 default))) ∧
     (((T.k (List.getD ts 1 default)) = (T.k (List.getD ts 1 default))) ∧
     (((T.n (List.getD ts 1 default)) = (T.n (List.getD ts 1 default))) ∧
     (((T.kids (List.getD ts 1 default)) = (T.kids (List.getD ts 1 default))) ∧
     (((T.k (List.getD ts 0 default)) = (T.k (List.getD ts 0 default))) ∧
     (((T.n (List.getD ts 0 default)) = (T.n (List.getD ts 0 default))) ∧
     (((T.kids (List.getD ts 0 default)) = (T.kids (List.getD ts 0 default))) ∧
     (True ∧
     (True ∧
     (((sizeL [(T.mk (5 : Int) (0 : Int) [(T.mk (T.k (List.getD ts 2 default)) (T.n (List.getD ts 2 default)) (T.kids (List.getD ts 2 default))), (T.mk (T.k (List.getD (T.kids (List.getD ts 3 default)) 0 default)) (T.n (List.getD (T.kids (List.getD ts 3 default)) 0 default)) (T.kids (List.getD (T.kids (List.getD ts 3 default)) 0 default)))]), (T.mk (9 : Int) (0 : Int) [(T.mk (T.k (List.getD ts 0 default)) (T.n (List.getD ts 0 default)) (T.kids (List.getD ts 0 default))), (T.mk (T.k (List.getD ts 1 default)) (T.n (List.getD ts 1 default)) (T.kids (List.getD ts 1 default))), (T.mk (T.k (List.getD ts 2 default)) (T.n (List.getD ts 2 default)) (T.kids (List.getD ts 2 default))), (T.mk (T.k (List.getD (T.kids (List.getD ts 3 default)) 0 default)) (T.n (List.getD (T.kids (List.getD ts 3 default)) 0 default)) (T.kids (List.getD (T.kids (List.getD ts 3 default)) 0 default)))])]) ≤ (1048576 : Nat)) ∧
     (True ∧
     ((((T.valid (T.mk (5 : Int) (0 : Int) [(T.mk (5 : Int) (0 : Int) [(T.mk (T.k (List.getD ts 2 default)) (T.n (List.getD ts 2 default)) (T.kids (List.getD ts 2 default))), (T.mk (T.k (List.getD (T.kids (List.getD ts 3 default)) 0 default)) (T.n (List.getD (T.kids (List.getD ts 3 default)) 0 default)) (T.kids (List.getD (T.kids (List.getD ts 3 default)) 0 default)))]), (T.mk (9 : Int) (0 : Int) [(T.mk (T.k (List.getD ts 0 default)) (T.n (List.getD ts 0 default)) (T.kids (List.getD ts 0 default))), (T.mk (T.k (List.getD ts 1 default)) (T.n (List.getD ts 1 default)) (T.kids (List.getD ts 1 default))), (T.mk (T.k (List.getD ts 2 default)) (T.n (List.getD ts 2 default)) (T.kids (List.getD ts 2 default))), (T.mk (T.k (List.getD (T.kids (List.getD ts 3 default)) 0 default)) (T.n (List.getD (T.kids (List.getD ts 3 default)) 0 default)) (T.kids (List.getD (T.kids (List.getD ts 3 default)) 0 default)))])])) = true) →
     (Ret K (.tup [(.st [(.int .i64 5), (.int .i64 0), (.slc [(T.mk (5 : Int) (0 : Int) [(T.mk (T.k (List.getD ts 2 default)) (T.n (List.getD ts 2 default)) (T.kids (List.getD ts 2 default))), (T.mk (T.k (List.getD (T.kids (List.getD ts 3 default)) 0 default)) (T.n (List.getD (T.kids (List.getD ts 3 default)) 0 default)) (T.kids (List.getD (T.kids (List.getD ts 3 default)) 0 default)))]), (T.mk (9 : Int) (0 : Int) [(T.mk (T.k (List.getD ts 0 default)) (T.n (List.getD ts 0 default)) (T.kids (List.getD ts 0 default))), (T.mk (T.k (List.getD ts 1 default)) (T.n (List.getD ts 1 default)) (T.kids (List.getD ts 1 default))), (T.mk (T.k (List.getD ts 2 default)) (T.n (List.getD ts 2 default)) (T.kids (List.getD ts 2 default))), (T.mk (T.k (List.getD (T.kids (List.getD ts 3 default)) 0 default)) (T.n (List.getD (T.kids (List.getD ts 3 default)) 0 default)) (T.kids (List.getD (T.kids (List.getD ts 3 default)) 0 default)))])] (.iv 4 4 true (.tok 0)))]), (.bool true)]) [])) ∧
     (((T.valid (T.mk (5 : Int) (0 : Int) [(T.mk (5 : Int) (0 : Int) [(T.mk (T.k (List.getD ts 2 default)) (T.n (List.getD ts 2 default)) (T.kids (List.getD ts 2 default))), (T.mk (T.k (List.getD (T.kids (List.getD ts 3 default)) 0 default)) (T.n (List.getD (T.kids (List.getD ts 3 default)) 0 default)) (T.kids (List.getD (T.kids (List.getD ts 3 default)) 0 default)))]), (T.mk (9 : Int) (0 : Int) [(T.mk (T.k (List.getD ts 0 default)) (T.n (List.getD ts 0 default)) (T.kids (List.getD ts 0 default))), (T.mk (T.k (List.getD ts 1 default)) (T.n (List.getD ts 1 default)) (T.kids (List.getD ts 1 default))), (T.mk (T.k (List.getD ts 2 default)) (T.n (List.getD ts 2 default)) (T.kids (List.getD ts 2 default))), (T.mk (T.k (List.getD (T.kids (List.getD ts 3 default)) 0 default)) (T.n (List.getD (T.kids (List.getD ts 3 default)) 0 default)) (T.kids (List.getD (T.kids (List.getD ts 3 default)) 0 default)))])])) = false) →
     (Ret K (.tup [(.st [(.int .i64 0), (.int .i64 0), (.slc [] (.iv 4 4 true (.tok 0)))]), (.bool false)]) [])))))))))))))))))))))))
     (Br (Decidable.decide ((T.rdx (T.mk k n ts)) = (4 : Int)))
     ((((0 : Int) ≤ (2 : Int)) ∧ ((2 : Int) < (((List.length ts) : Nat) : Int))) ∧
     (((sizeL (T.kids (List.getD ts 2 default))) ≤ (1048576 : Nat)) ∧
     (True ∧
     ((((T.valid (T.mk (T.k (T.mk (T.k (List.getD ts 2 default)) (T.n (List.getD ts 2 default)) (T.kids (List.getD ts 2 default)))) (T.n (T.mk (T.k (List.getD ts 2 default)) (T.n (List.getD ts 2 default)) (T.kids (List.getD ts 2 default)))) (T.kids (T.mk (T.k (List.getD ts 2 default)) (T.n (List.getD ts 2 default)) (T.kids (List.getD ts 2 default)))))) = true) →
     (Ret K (.tup [(.st [(.int .i64 (T.k (T.mk (T.k (List.getD ts 2 default)) (T.n (List.getD ts 2 default)) (T.kids (List.getD ts 2 default))))), (.int .i64 (T.n (T.mk (T.k (List.getD ts 2 default)) (T.n (List.getD ts 2 default)) (T.kids (List.getD ts 2 default))))), (.slc (T.kids (T.mk (T.k (List.getD ts 2 default)) (T.n (List.getD ts 2 default)) (T.kids (List.getD ts 2 default)))) (.iv 4 4 true (.tok 0)))]), (.bool true)]) [])) ∧
     (((T.valid (T.mk (T.k (T.mk (T.k (List.getD ts 2 default)) (T.n (List.getD ts 2 default)) (T.kids (List.getD ts 2 default)))) (T.n (T.mk (T.k (List.getD ts 2 default)) (T.n (List.getD ts 2 default)) (T.kids (List.getD ts 2 default)))) (T.kids (T.mk (T.k (List.getD ts 2 default)) (T.n (List.getD ts 2 default)) (T.kids (List.getD ts 2 default)))))) = false) →
     (Ret K (.tup [(.st [(.int .i64 0), (.int .i64 0), (.slc [] (.iv 4 4 true (.tok 0)))]), (.bool false)]) []))))))
     (Br (Decidable.decide ((T.rdx (T.mk k n ts)) = (5 : Int)))
     ((((0 : Int) ≤ (0 : Int)) ∧ ((0 : Int) < (((List.length ts) : Nat) : Int))) ∧
     ((((0 : Int) ≤ (1 : Int)) ∧ ((1 : Int) < (((List.length (T.kids (List.getD ts 0 default))) : Nat) : Int))) ∧
     (((sizeL (T.kids (List.getD (T.kids (List.getD ts 0 default)) 1 default))) ≤ (1048576 : Nat)) ∧
     (True ∧
     ((((T.valid (T.mk (T.k (T.mk (T.k (List.getD (T.kids (List.getD ts 0 default)) 1 default)) (T.n (List.getD (T.kids (List.getD ts 0 default)) 1 default)) (T.kids (List.getD (T.kids (List.getD ts 0 default)) 1 default)))) (T.n (T.mk (T.k (List.getD (T.kids (List.getD ts 0 default)) 1 default)) (T.n (List.getD (T.kids (List.getD ts 0 default)) 1 default)) (T.kids (List.getD (T.kids (List.getD ts 0 default)) 1 default)))) (T.kids (T.mk (T.k (List.getD (T.kids (List.getD ts 0 default)) 1 default)) (T.n (List.getD (T.kids (List.getD ts 0 default)) 1 default)) (T.kids (List.getD (T.kids (List.getD ts 0 default)) 1 default)))))) = true) →
     (Ret K (.tup [(.st [(.int .i64 (T.k (T.mk (T.k (List.getD (T.kids (List.getD ts 0 default)) 1 default)) (T.n (List.getD (T.kids (List.getD ts 0 default)) 1 default)) (T.kids (List.getD (T.kids (List.getD ts 0 default)) 1 default))))), (.int .i64 (T.n (T.mk (T.k (List.getD (T.kids (List.getD ts 0 default)) 1 default)) (T.n (List.getD (T.kids (List.getD ts 0 default)) 1 default)) (T.kids (List.getD (T.kids (List.getD ts 0 default)) 1 default))))), (.slc (T.kids (T.mk (T.k (List.getD (T.kids (List.getD ts 0 default)) 1 default)) (T.n (List.getD (T.kids (List.getD ts 0 default)) 1 default)) (T.kids (List.getD (T.kids (List.getD ts 0 default)) 1 default)))) (.iv 4 4 true (.tok 0)))]), (.bool true)]) [])) ∧
     (((T.valid (T.mk (T.k (T.mk (T.k (List.getD (T.kids (List.getD ts 0 default)) 1 default)) (T.n (List.getD (T.kids (List.getD ts 0 default)) 1 default)) (T.kids (List.getD (T.kids (List.getD ts 0 default)) 1 default)))) (T.n (T.mk (T.k (List.getD (T.kids (List.getD ts 0 default)) 1 default)) (T.n (List.getD (T.kids (List.getD ts 0 default)) 1 default)) (T.kids (List.getD (T.kids (List.getD ts 0 default)) 1 default)))) (T.kids (T.mk (T.k (List.getD (T.kids (List.getD ts 0 default)) 1 default)) (T.n (List.getD (T.kids (List.getD ts 0 default)) 1 default)) (T.kids (List.getD (T.kids (List.getD ts 0 default)) 1 default)))))) = false) →
     (Ret K (.tup [(.st [(.int .i64 0), (.int .i64 0), (.slc [] (.iv 4 4 true (.tok 0)))]), (.bool false)]) [])))))))
     (Br (Decidable.decide ((T.rdx (T.mk k n ts)) = (6 : Int)))
     ((((0 : Int) ≤ (0 : Int)) ∧ ((0 : Int) < (((List.length ts) : Nat) : Int))) ∧
     ((((0 : Int) ≤ (2 : Int)) ∧ ((2 : Int) < (((List.length (T.kids (List.getD ts 0 default))) : Nat) : Int))) ∧
     (((sizeL (T.kids (List.getD (T.kids (List.getD ts 0 default)) 2 default))) ≤ (1048576 : Nat)) ∧
     (True ∧
     ((((T.valid (T.mk (T.k (T.mk (T.k (List.getD (T.kids (List.getD ts 0 default)) 2 default)) (T.n (List.getD (T.kids (List.getD ts 0 default)) 2 default)) (T.kids (List.getD (T.kids (List.getD ts 0 default)) 2 default)))) (T.n (T.mk (T.k (List.getD (T.kids (List.getD ts 0 default)) 2 default)) (T.n (List.getD (T.kids (List.getD ts 0 default)) 2 default)) (T.kids (List.getD (T.kids (List.getD ts 0 default)) 2 default)))) (T.kids (T.mk (T.k (List.getD (T.kids (List.getD ts 0 default)) 2 default)) (T.n (List.getD (T.kids (List.getD ts 0 default)) 2 default)) (T.kids (List.getD (T.kids (List.getD ts 0 default)) 2 default)))))) = true) →
     (Ret K (.tup [(.st [(.int .i64 (T.k (T.mk (T.k (List.getD (T.kids (List.getD ts 0 default)) 2 default)) (T.n (List.getD (T.kids (List.getD ts 0 default)) 2 default)) (T.kids (List.getD (T.kids (List.getD ts 0 default)) 2 default))))), (.int .i64 (T.n (T.mk (T.k (List.getD (T.kids (List.getD ts 0 default)) 2 default)) (T.n (List.getD (T.kids (List.getD ts 0 default)) 2 default)) (T.kids (List.getD (T.kids (List.getD ts 0 default)) 2 default))))), (.slc (T.kids (T.mk (T.k (List.getD (T.kids (List.getD ts 0 default)) 2 default)) (T.n (List.getD (T.kids (List.getD ts 0 default)) 2 default)) (T.kids (List.getD (T.kids (List.getD ts 0 default)) 2 default)))) (.iv 4 4 true (.tok 0)))]), (.bool true)]) [])) ∧
     (((T.valid (T.mk (T.k (T.mk (T.k (List.getD (T.kids (List.getD ts 0 default)) 2 default)) (T.n (List.getD (T.kids (List.getD ts 0 default)) 2 default)) (T.kids (List.getD (T.kids (List.getD ts 0 default)) 2 default)))) (T.n (T.mk (T.k (List.getD (T.kids (List.getD ts 0 default)) 2 default)) (T.n (List.getD (T.kids (List.getD ts 0 default)) 2 default)) (T.kids (List.getD (T.kids (List.getD ts 0 default)) 2 default)))) (T.kids (T.mk (T.k (List.getD (T.kids (List.getD ts 0 default)) 2 default)) (T.n (List.getD (T.kids (List.getD ts 0 default)) 2 default)) (T.kids (List.getD (T.kids (List.getD ts 0 default)) 2 default)))))) = false) →
     (Ret K (.tup [(.st [(.int .i64 0), (.int .i64 0), (.slc [] (.iv 4 4 true (.tok 0)))]), (.bool false)]) [])))))))
     (Ret K (.tup [(.st [(.int .i64 0), (.int .i64 0), (.slc [] (.iv 0 0 true .full))]), (.bool false)]) []))))))))) ?_ (by kernel_rfl)
  have ha := valid_arity hp
  have rc := fun h => rdx_cases (k := k) (n := n) (ts := ts) h
  have yes : ∀ c : T, (T.mk k n ts).rdx ≠ 0 → (T.mk k n ts).ctr = c → c.valid = true → K (.tup [c.fr, .bool true]) [] := fun c h1 h2 h3 => by
    have e : (T.mk k n ts).coO = true := by unfold T.coO; rw [h2, h3, decide_eq_true h1]; rfl
    have e2 : (T.mk k n ts).coR = c := by unfold T.coR; rw [if_pos e, h2]
    rw [e, e2] at hk; exact hk
  have no : ∀ c : T, (T.mk k n ts).ctr = c → c.valid = false → K (.tup [(T.mk 0 0 []).fr, .bool false]) [] := fun c h2 h3 => by
    have e : (T.mk k n ts).coO = false := by unfold T.coO; rw [h2, h3, Bool.and_false]
    have e2 : (T.mk k n ts).coR = .mk 0 0 [] := by unfold T.coR; rw [e, if_neg (by simp)]
    rw [e, e2] at hk; exact hk
  have no0 : (T.mk k n ts).rdx = 0 → K (.tup [(T.mk 0 0 []).fr, .bool false]) [] := fun h => by
    have e : (T.mk k n ts).coO = false := by unfold T.coO; rw [h]; rfl
    have e2 : (T.mk k n ts).coR = .mk 0 0 [] := by unfold T.coR; rw [e, if_neg (by simp)]
    rw [e, e2] at hk; exact hk
  have kv : ∀ {i : Nat}, i < ts.length → (ts.getD i default).valid = true := fun h => kid_valid hp h
  have out : ∀ x : T, (T.mk k n ts).rdx ≠ 0 → (T.mk k n ts).ctr = x → x.valid = true → (sizeL x.kids ≤ 1048576 ∧ True ∧ ((x.valid = true → Ret K (.tup [.st [.int .i64 x.k, .int .i64 x.n, .slc x.kids (.iv 4 4 true (.tok 0))], .bool true]) []) ∧ (x.valid = false → Ret K (.tup [.st [.int .i64 0, .int .i64 0, .slc [] (.iv 4 4 true (.tok 0))], .bool false]) []))) := fun x h1 h2 h3 =>
    ⟨by have := small_of h3; omega, trivial, fun h4 => retTB (yes x h1 h2 h4) (T.eta x) rfl, fun h4 => retTB (no x h2 h4) rfl rfl⟩
  simp only [T.eta]
  refine ⟨ha, br (fun h => ?c1) (fun h1 => br (fun h => ?c2) (fun h2 => br (fun h => ?c3) (fun h3 => br (fun h => ?c4) (fun h4 => br (fun h => ?c5) (fun h5 => br (fun h => ?c6) (fun h6 => ?c0))))))⟩
  case c1 =>
    have h := of_decide_eq_true h
    have q := rc (by omega)
    have q5 : k = 5 := by omega
    have q4 : (ts.getD 0 default).k = 4 := by omega
    rw [q5] at ha
    have ha : (2 : Int) = ts.length := ha
    have k0 := kid_valid' (kv (i := 0) (by omega)) (i := 1) (by rw [q4]; decide)
    have e : (T.mk k n ts).ctr = ((ts.getD 0 default).kids.getD 1 default).mv (sbf 0 (ts.getD 1 default)) 0 := by unfold T.ctr; rw [h]; rfl
    have k1 := kv (i := 1) (by omega)
    have hO := sbO_eq (j := 0) k0.2 k1
    refine ⟨⟨by omega, by omega⟩, ⟨by omega, by omega⟩, ⟨by omega, by omega⟩, ⟨valid_shp k0.2, by omega, by omega, k1⟩, ?_⟩
    rw [hO]
    cases hv : (((ts.getD 0 default).kids.getD 1 default).mv (sbf 0 (ts.getD 1 default)) 0).valid with
    | true =>
      have hR : ((ts.getD 0 default).kids.getD 1 default).sbR 0 (ts.getD 1 default) = ((ts.getD 0 default).kids.getD 1 default).mv (sbf 0 (ts.getD 1 default)) 0 := by
        have hO' := hO
        rw [hv] at hO'
        unfold T.sbR
        rw [if_pos hO']
        unfold T.sbO at hO'
        rw [Bool.and_eq_true] at hO'
        exact sbfI_eq (List.all_eq_true.1 hO'.1)
      rw [hR]
      exact retTB (yes _ (by omega) e hv) (T.eta _) rfl
    | false =>
      have hR : ((ts.getD 0 default).kids.getD 1 default).sbR 0 (ts.getD 1 default) = .mk 0 0 [] := by
        unfold T.sbR
        rw [hO, hv, if_neg (by simp)]
      rw [hR]
      exact retTB (no _ e hv) rfl rfl
  case c2 =>
    have h := of_decide_eq_true h
    have q := rc (by omega)
    have q5 : k = 9 := by omega
    rw [q5] at ha
    have ha : (4 : Int) = ts.length := ha
    exact ⟨⟨by omega, by omega⟩, out _ (by omega) (by unfold T.ctr; rw [h]; rfl) (kv (by omega))⟩
  case c3 =>
    have h := of_decide_eq_true h
    have q := rc (by omega)
    have q5 : k = 9 := by omega
    have q4 : (ts.getD 3 default).k = 8 := by omega
    rw [q5] at ha
    have ha : (4 : Int) = ts.length := ha
    have k0 := kid_valid' (kv (i := 3) (by omega)) (i := 0) (by rw [q4]; decide)
    have e : (T.mk k n ts).ctr = .mk 5 0 [.mk 5 0 [ts.getD 2 default, (ts.getD 3 default).kids.getD 0 default], .mk 9 0 [ts.getD 0 default, ts.getD 1 default, ts.getD 2 default, (ts.getD 3 default).kids.getD 0 default]] := by unfold T.ctr; rw [h]; rfl
    refine ⟨⟨⟨by omega, by omega⟩, ⟨by omega, by omega⟩, ⟨by omega, by omega⟩, ⟨by omega, by omega⟩, ⟨by omega, by omega⟩, ⟨(), by repeat' first | trivial | rfl | apply And.intro⟩⟩, fun _ _ => ?_⟩
    repeat' first | trivial | rfl | apply And.intro
    · have s0 := T.valid_size (kv (i := 0) (by omega))
      have s1 := T.valid_size (kv (i := 1) (by omega))
      have s2 := T.valid_size (kv (i := 2) (by omega))
      have s3 := T.valid_size k0.2
      simp only [sizeL, T.size]
      omega
    · exact fun hv => retTB (yes _ (by omega) e hv) rfl rfl
    · exact fun hv => retTB (no _ e hv) rfl rfl
  case c4 =>
    have h := of_decide_eq_true h
    have q := rc (by omega)
    have q5 : k = 12 := by omega
    rw [q5] at ha
    have ha : (3 : Int) = ts.length := ha
    exact ⟨⟨by omega, by omega⟩, out _ (by omega) (by unfold T.ctr; rw [h]; rfl) (kv (by omega))⟩
  case c5 =>
    have h := of_decide_eq_true h
    have q := rc (by omega)
    have q5 : k = 15 := by omega
    have q4 : (ts.getD 0 default).k = 14 := by omega
    rw [q5] at ha
    have ha : (1 : Int) = ts.length := ha
    have k0 := kid_valid' (kv (i := 0) (by omega)) (i := 1) (by rw [q4]; decide)
    exact ⟨⟨by omega, by omega⟩, ⟨by omega, by omega⟩, out _ (by omega) (by unfold T.ctr; rw [h]; rfl) k0.2⟩
  case c6 =>
    have h := of_decide_eq_true h
    have q := rc (by omega)
    have q5 : k = 16 := by omega
    have q4 : (ts.getD 0 default).k = 14 := by omega
    rw [q5] at ha
    have ha : (1 : Int) = ts.length := ha
    have k0 := kid_valid' (kv (i := 0) (by omega)) (i := 2) (by rw [q4]; decide)
    exact ⟨⟨by omega, by omega⟩, ⟨by omega, by omega⟩, out _ (by omega) (by unfold T.ctr; rw [h]; rfl) k0.2⟩
  case c0 =>
    have h1 := of_decide_eq_false h1; have h2 := of_decide_eq_false h2; have h3 := of_decide_eq_false h3
    have h4 := of_decide_eq_false h4; have h5 := of_decide_eq_false h5; have h6 := of_decide_eq_false h6
    have h : (T.mk k n ts).rdx = 0 := Decidable.byContradiction fun hn => by
      have q := rc hn
      omega
    exact retTB (no0 h) rfl rfl
theorem Contract_sound : Sound Try.prog 51 cContract := by
  refine soundF (G := [(54, cRedex), (64, cOwn), (77, cNode), (75, cSubst), (76, cValid)]) ((gcons Redex_sound (gcons Own_sound (gcons Node_sound (gcons Subst_sound (gcons Valid_sound gnil)))))) Try.func51 rfl (by kernel_rfl) fun args hs K hCC => ?_
  unfold cContract at hCC
  split at hCC
  case h_2 => exact hCC.elim
  rename_i k n ts
  exact ⟨Nat.le_of_ble_eq_true rfl, _, Contract_ok k n ts K hCC.1 hCC.2⟩
/-- impl.ContractTerm -/
def cContractTerm : Con
  | [.st [.int .i64 k, .int .i64 n, .slc ts (.arg 0)]], [], K => True ∧ ((K (.tup [(T.mk k n ts).CoR.fr, .bool (T.mk k n ts).CoO]) []))
  | _, _, _ => False
theorem ContractTerm_ok (k n : Int) (ts : List T) (K : AV → List AV → Prop) (hp : True) (hk : ((K (.tup [(T.mk k n ts).CoR.fr, .bool (T.mk k n ts).CoO]) []))) :
    bodyQ [(49, cTermValid), (51, cContract)] TY [] Try.f22 (body Try.f22) [.st [.int .i64 k, .int .i64 n, .slc ts (.arg 0)]] [] K := by
  refine of_vc (A :=
    (True ∧
     (Br (Bool.not (T.valid (T.mk k n ts)))
     (Ret K (.tup [(.st [(.int .i64 0), (.int .i64 0), (.slc [] (.iv 0 0 true .full))]), (.bool false)]) [])
     (((T.valid (T.mk k n ts)) = true) ∧
     (Ret K (.tup [(.st [(.int .i64 (T.k (T.coR (T.mk k n ts)))), (.int .i64 (T.n (T.coR (T.mk k n ts)))), (.slc (T.kids (T.coR (T.mk k n ts))) (.iv 4 4 true (.tok 0)))]), (.bool (T.coO (T.mk k n ts)))]) []))))) ?_ (by kernel_rfl)
  refine ⟨trivial, br (fun h => ?_) (fun h => ⟨?_, ?_⟩)⟩
  · rw [Bool.not_eq_true'] at h
    have e : (T.mk k n ts).CoO = false := by unfold T.CoO; rw [h]; rfl
    have e2 : (T.mk k n ts).CoR = .mk 0 0 [] := by unfold T.CoR; rw [e, if_neg (by simp)]
    rw [e, e2] at hk
    exact retTB hk rfl rfl
  · rw [Bool.not_eq_false'] at h; exact h
  · rw [Bool.not_eq_false'] at h
    have e : (T.mk k n ts).CoO = (T.mk k n ts).coO := by unfold T.CoO; rw [h]; rfl
    have e2 : (T.mk k n ts).CoR = (T.mk k n ts).coR := by unfold T.CoR T.coR; rw [e]
    rw [e, e2] at hk
    exact retTB hk (T.eta _) rfl
theorem ContractTerm_sound : Sound Try.prog 22 cContractTerm := by
  refine soundF (G := [(49, cTermValid), (51, cContract)]) ((gcons TermValid_sound (gcons Contract_sound gnil))) Try.func22 rfl (by kernel_rfl) fun args hs K hCC => ?_
  unfold cContractTerm at hCC
  split at hCC
  case h_2 => exact hCC.elim
  rename_i k n ts
  exact ⟨Nat.le_of_ble_eq_true rfl, _, ContractTerm_ok k n ts K hCC.1 hCC.2⟩
end Go.Dk
