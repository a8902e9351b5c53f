/- What a world's shape gives. -/
import Derived.Test.YteamklllllembaaDoorDd
namespace Go.Dk
set_option linter.unusedVariables false
open Go.Proofs Go.RowKit
theorem inv_of {w : World} (h : w.ShapedOpen Tryd.prog) : Inv w ∧ NG ≤ w.heap.size := by
  have h1 := max_of h
  refine ⟨⟨h1, True.intro⟩, ?_⟩
  obtain ⟨m, h1⟩ := h1
  exact block_lt h1
end Go.Dk
