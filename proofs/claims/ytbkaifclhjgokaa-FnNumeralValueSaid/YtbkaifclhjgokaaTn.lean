/- Numerals. -/
import Derived.Test.YtbkaifclhjgokaaTv
namespace Go.Dk
set_option linter.unusedVariables false
theorem T.num_shp : ∀ (n : Nat) (d : Int), (n : Int) + 1 ≤ d → (T.num n).shp d = true
  | 0, d, h => by
    have : rootOk 7 0 0 = true := by decide
    simp [T.num, T.shp, shpL, this]; omega
  | n + 1, d, h => by
    have h1 : rootOk 8 0 1 = true := by decide
    have h2 := T.num_shp n (d - 1) (by omega)
    simp [T.num, T.shp, shpL, h1, h2]; omega
theorem T.num_valid {n : Nat} (h : n ≤ 29) : (T.num n).valid = true := by
  simp only [T.valid, Bool.and_eq_true, decide_eq_true_eq, T.num_size]
  exact ⟨T.num_shp n 30 (by omega), by omega⟩
theorem T.num_strip : ∀ n, (T.num n).strip = (n, .mk 7 0 [])
  | 0 => rfl
  | n + 1 => by rw [T.num, T.strip_succ, T.num_strip n]
theorem T.num_dep : ∀ n, (T.num n).dep = n + 1
  | 0 => rfl
  | n + 1 => by simp only [T.num, T.dep, depL, T.num_dep n]; omega
theorem T.num_nv {n : Nat} (h : n ≤ 20) : (T.num n).nv = n ∧ (T.num n).nvOk = true := by
  have hc : (T.num n).valid = true ∧ (T.num n).strip.2.k = 7 ∧ (T.num n).strip.1 ≤ 20 := by rw [T.num_strip]; exact ⟨T.num_valid (by omega), rfl, h⟩
  unfold T.nv T.nvOk
  rw [if_pos hc, T.num_strip]
  exact ⟨rfl, by rw [T.num_strip] at hc; exact decide_eq_true hc⟩
theorem T.num_kids (m : Nat) : sizeL (T.num m).kids = m := by have := T.num_size m; rw [T.size_eq] at this; omega
end Go.Dk
