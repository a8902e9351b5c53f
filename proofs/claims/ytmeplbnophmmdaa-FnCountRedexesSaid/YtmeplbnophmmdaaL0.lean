/- The laws' helpers: sizes, copies, equality. -/
import Derived.Test.YtmeplbnophmmdaaTm
namespace Go.Dk
set_option linter.unusedVariables false
open Go.Proofs
@[reducible] def szI (b : Nat) (left : Int) : Int := if (b : Int) ≤ left then left - b else -1
theorem szI_ok {b : Nat} {l : Int} (h : ¬ szI b l < 0) (hl : 0 ≤ l) : (b : Int) ≤ l ∧ szI b l = l - b := by
  unfold szI at *; split at h
  · rename_i h'; exact ⟨h', if_pos h'⟩
  · omega
end Go.Dk
