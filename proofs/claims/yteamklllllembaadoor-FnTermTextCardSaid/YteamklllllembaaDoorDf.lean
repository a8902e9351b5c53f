/- What a world's shape and the listed variables give. -/
import Derived.Test.YteamklllllembaaDoorDd
namespace Go.Dk
set_option linter.unusedVariables false
open Go.Proofs Go.RowKit
theorem inv_of {w : World} (h : w.ShapedOpen Tryd.prog) (h2 : IfcCell w 0) (h3 : IfcCell w 1) : Inv w ∧ NG ≤ w.heap.size := by
  have h1 := max_of h
  refine ⟨⟨h1, h2, h3⟩, ?_⟩
  obtain ⟨m, h1⟩ := h1
  obtain ⟨e, h2, _⟩ := h2
  obtain ⟨e', h3, _⟩ := h3
  have k1 := block_lt h1
  have k2 := block_lt h2
  have k3 := block_lt h3
  unfold NG
  omega
end Go.Dk
