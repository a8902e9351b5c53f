/-
  No cell of these rows narrows 'for every input' (looked for: loops, veiled, ifaces, maps, wideKeys, modest, calm, conditions, laid).
  DERIVED. THE GIVEN ROWS OF THIS SEAT. 11 by the template 'for every input the law returns true; each argument reads behind the call as it read before'; 0 by the template 'total and deterministic' (their statements: YtcgnenkbmcbonaaTotals.lean).
  GIVEN WITH THE SEED: the statements are not yours to turn. If you find one false, say at which input.
  Laid BY PROGRAM, IN A SANDBOX (cutbox-rows.mjs): the forced cells as the released guide's own fill.sh prints them over the translation e0526490eef2cb86… (all of the seat's roots in one cut). By AI agents, Wed Nov 11 2026. No macro, syntax, notation, axiom, sorry.
-/
import Derived.Test.YtcgnenkbmcbonaaChecked
import GoSem.Claim
import GoSem.ClaimJoined
import GoSem.ClaimMapViews
import Derived.JoinedTies
import Derived.KernelRfl
namespace Go.Proofs.Ytcgnenkbmcbonaa
/- THE CELL 'sum', in the pinned program and in every row, IS THE sha256 OF THE DUMP (.gsa) THAT YtcgnenkbmcbonaaProg.lean LOADS. Nothing in Lean hashes anything: it is a label: what it is worth is what the hold of that sum in a sandbox is worth. -/
noncomputable def Try.pinned : Pinned := { name := "ytcgnenkbmcbonaa", sum := "e0526490eef2cb86c8f3d3fe0a26137b7e70b280f17eebabaa953521bdda5211", checked := Try.checked }
namespace Rows
def none {H : Type} : Left H := { results := [], args := [] }

/-- 'laws.FnStepInner': WHATEVER THE INPUT: true; the input reads as it did. -/
def fnStepInnerSpec : ChangeSpec := { name := "fnStepInner", fn := fun _ => fun
  | [d] => { results := [.lit (.bool true)], args := [d] }
  | _ => none }
def fnStepInnerRow : OpenClaim := { program := "ytcgnenkbmcbonaa", sum := "e0526490eef2cb86c8f3d3fe0a26137b7e70b280f17eebabaa953521bdda5211", func := "loop.example/depkernel/laws.FnStepInner", spec := "fnStepInner", unfollowed := true, recurses := true, apart := false }
def FnStepInnerSaid : Prop := fnStepInnerRow.holds Try.pinned (OpenSpec.ofChange fnStepInnerSpec)

/-- ITS FALSE NEIGHBOUR: 'it returns false'. Refute it at one input. -/
def fnStepInnerWrong : ChangeSpec := { name := "fnStepInner", fn := fun _ => fun
  | [d] => { results := [.lit (.bool false)], args := [d] }
  | _ => none }
def FnStepInnerWrongFalsely : Prop := fnStepInnerRow.holds Try.pinned (OpenSpec.ofChange fnStepInnerWrong)

/-- 'laws.FnContractTerm': WHATEVER THE INPUT: true; the input reads as it did. -/
def fnContractTermSpec : ChangeSpec := { name := "fnContractTerm", fn := fun _ => fun
  | [d] => { results := [.lit (.bool true)], args := [d] }
  | _ => none }
def fnContractTermRow : OpenClaim := { program := "ytcgnenkbmcbonaa", sum := "e0526490eef2cb86c8f3d3fe0a26137b7e70b280f17eebabaa953521bdda5211", func := "loop.example/depkernel/laws.FnContractTerm", spec := "fnContractTerm", unfollowed := true, recurses := true, apart := false }
def FnContractTermSaid : Prop := fnContractTermRow.holds Try.pinned (OpenSpec.ofChange fnContractTermSpec)

/-- ITS FALSE NEIGHBOUR: 'it returns false'. Refute it at one input. -/
def fnContractTermWrong : ChangeSpec := { name := "fnContractTerm", fn := fun _ => fun
  | [d] => { results := [.lit (.bool false)], args := [d] }
  | _ => none }
def FnContractTermWrongFalsely : Prop := fnContractTermRow.holds Try.pinned (OpenSpec.ofChange fnContractTermWrong)

/-- 'laws.FnReduceSteps': WHATEVER THE INPUT: true; the input reads as it did. -/
def fnReduceStepsSpec : ChangeSpec := { name := "fnReduceSteps", fn := fun _ => fun
  | [d] => { results := [.lit (.bool true)], args := [d] }
  | _ => none }
def fnReduceStepsRow : OpenClaim := { program := "ytcgnenkbmcbonaa", sum := "e0526490eef2cb86c8f3d3fe0a26137b7e70b280f17eebabaa953521bdda5211", func := "loop.example/depkernel/laws.FnReduceSteps", spec := "fnReduceSteps", unfollowed := true, recurses := true, apart := false }
def FnReduceStepsSaid : Prop := fnReduceStepsRow.holds Try.pinned (OpenSpec.ofChange fnReduceStepsSpec)

/-- ITS FALSE NEIGHBOUR: 'it returns false'. Refute it at one input. -/
def fnReduceStepsWrong : ChangeSpec := { name := "fnReduceSteps", fn := fun _ => fun
  | [d] => { results := [.lit (.bool false)], args := [d] }
  | _ => none }
def FnReduceStepsWrongFalsely : Prop := fnReduceStepsRow.holds Try.pinned (OpenSpec.ofChange fnReduceStepsWrong)

/-- 'laws.FnHeadValue': WHATEVER THE INPUT: true; the input reads as it did. -/
def fnHeadValueSpec : ChangeSpec := { name := "fnHeadValue", fn := fun _ => fun
  | [d] => { results := [.lit (.bool true)], args := [d] }
  | _ => none }
def fnHeadValueRow : OpenClaim := { program := "ytcgnenkbmcbonaa", sum := "e0526490eef2cb86c8f3d3fe0a26137b7e70b280f17eebabaa953521bdda5211", func := "loop.example/depkernel/laws.FnHeadValue", spec := "fnHeadValue", unfollowed := true, recurses := true, apart := false }
def FnHeadValueSaid : Prop := fnHeadValueRow.holds Try.pinned (OpenSpec.ofChange fnHeadValueSpec)

/-- ITS FALSE NEIGHBOUR: 'it returns false'. Refute it at one input. -/
def fnHeadValueWrong : ChangeSpec := { name := "fnHeadValue", fn := fun _ => fun
  | [d] => { results := [.lit (.bool false)], args := [d] }
  | _ => none }
def FnHeadValueWrongFalsely : Prop := fnHeadValueRow.holds Try.pinned (OpenSpec.ofChange fnHeadValueWrong)

/-- 'laws.FnSubstReduce': WHATEVER THE INPUT: true; the input reads as it did. -/
def fnSubstReduceSpec : ChangeSpec := { name := "fnSubstReduce", fn := fun _ => fun
  | [d1, d2] => { results := [.lit (.bool true)], args := [d1, d2] }
  | _ => none }
def fnSubstReduceRow : OpenClaim := { program := "ytcgnenkbmcbonaa", sum := "e0526490eef2cb86c8f3d3fe0a26137b7e70b280f17eebabaa953521bdda5211", func := "loop.example/depkernel/laws.FnSubstReduce", spec := "fnSubstReduce", unfollowed := true, recurses := true, apart := false }
def FnSubstReduceSaid : Prop := fnSubstReduceRow.holds Try.pinned (OpenSpec.ofChange fnSubstReduceSpec)

/-- ITS FALSE NEIGHBOUR: 'it returns false'. Refute it at one input. -/
def fnSubstReduceWrong : ChangeSpec := { name := "fnSubstReduce", fn := fun _ => fun
  | [d1, d2] => { results := [.lit (.bool false)], args := [d1, d2] }
  | _ => none }
def FnSubstReduceWrongFalsely : Prop := fnSubstReduceRow.holds Try.pinned (OpenSpec.ofChange fnSubstReduceWrong)

/-- 'laws.FnHeadNormal': WHATEVER THE INPUT: true; the input reads as it did. -/
def fnHeadNormalSpec : ChangeSpec := { name := "fnHeadNormal", fn := fun _ => fun
  | [d] => { results := [.lit (.bool true)], args := [d] }
  | _ => none }
def fnHeadNormalRow : OpenClaim := { program := "ytcgnenkbmcbonaa", sum := "e0526490eef2cb86c8f3d3fe0a26137b7e70b280f17eebabaa953521bdda5211", func := "loop.example/depkernel/laws.FnHeadNormal", spec := "fnHeadNormal", unfollowed := true, recurses := true, apart := false }
def FnHeadNormalSaid : Prop := fnHeadNormalRow.holds Try.pinned (OpenSpec.ofChange fnHeadNormalSpec)

/-- ITS FALSE NEIGHBOUR: 'it returns false'. Refute it at one input. -/
def fnHeadNormalWrong : ChangeSpec := { name := "fnHeadNormal", fn := fun _ => fun
  | [d] => { results := [.lit (.bool false)], args := [d] }
  | _ => none }
def FnHeadNormalWrongFalsely : Prop := fnHeadNormalRow.holds Try.pinned (OpenSpec.ofChange fnHeadNormalWrong)

/-- 'laws.FnConfluence': WHATEVER THE INPUT: true; the input reads as it did. -/
def fnConfluenceSpec : ChangeSpec := { name := "fnConfluence", fn := fun _ => fun
  | [d] => { results := [.lit (.bool true)], args := [d] }
  | _ => none }
def fnConfluenceRow : OpenClaim := { program := "ytcgnenkbmcbonaa", sum := "e0526490eef2cb86c8f3d3fe0a26137b7e70b280f17eebabaa953521bdda5211", func := "loop.example/depkernel/laws.FnConfluence", spec := "fnConfluence", unfollowed := true, recurses := true, apart := false }
def FnConfluenceSaid : Prop := fnConfluenceRow.holds Try.pinned (OpenSpec.ofChange fnConfluenceSpec)

/-- ITS FALSE NEIGHBOUR: 'it returns false'. Refute it at one input. -/
def fnConfluenceWrong : ChangeSpec := { name := "fnConfluence", fn := fun _ => fun
  | [d] => { results := [.lit (.bool false)], args := [d] }
  | _ => none }
def FnConfluenceWrongFalsely : Prop := fnConfluenceRow.holds Try.pinned (OpenSpec.ofChange fnConfluenceWrong)

/-- 'laws.FnNormalFree': WHATEVER THE INPUT: true; the input reads as it did. -/
def fnNormalFreeSpec : ChangeSpec := { name := "fnNormalFree", fn := fun _ => fun
  | [d] => { results := [.lit (.bool true)], args := [d] }
  | _ => none }
def fnNormalFreeRow : OpenClaim := { program := "ytcgnenkbmcbonaa", sum := "e0526490eef2cb86c8f3d3fe0a26137b7e70b280f17eebabaa953521bdda5211", func := "loop.example/depkernel/laws.FnNormalFree", spec := "fnNormalFree", unfollowed := true, recurses := true, apart := false }
def FnNormalFreeSaid : Prop := fnNormalFreeRow.holds Try.pinned (OpenSpec.ofChange fnNormalFreeSpec)

/-- ITS FALSE NEIGHBOUR: 'it returns false'. Refute it at one input. -/
def fnNormalFreeWrong : ChangeSpec := { name := "fnNormalFree", fn := fun _ => fun
  | [d] => { results := [.lit (.bool false)], args := [d] }
  | _ => none }
def FnNormalFreeWrongFalsely : Prop := fnNormalFreeRow.holds Try.pinned (OpenSpec.ofChange fnNormalFreeWrong)

/-- 'laws.FnInnerNormal': WHATEVER THE INPUT: true; the input reads as it did. -/
def fnInnerNormalSpec : ChangeSpec := { name := "fnInnerNormal", fn := fun _ => fun
  | [d] => { results := [.lit (.bool true)], args := [d] }
  | _ => none }
def fnInnerNormalRow : OpenClaim := { program := "ytcgnenkbmcbonaa", sum := "e0526490eef2cb86c8f3d3fe0a26137b7e70b280f17eebabaa953521bdda5211", func := "loop.example/depkernel/laws.FnInnerNormal", spec := "fnInnerNormal", unfollowed := true, recurses := true, apart := false }
def FnInnerNormalSaid : Prop := fnInnerNormalRow.holds Try.pinned (OpenSpec.ofChange fnInnerNormalSpec)

/-- ITS FALSE NEIGHBOUR: 'it returns false'. Refute it at one input. -/
def fnInnerNormalWrong : ChangeSpec := { name := "fnInnerNormal", fn := fun _ => fun
  | [d] => { results := [.lit (.bool false)], args := [d] }
  | _ => none }
def FnInnerNormalWrongFalsely : Prop := fnInnerNormalRow.holds Try.pinned (OpenSpec.ofChange fnInnerNormalWrong)

/-- 'laws.FnStepTerm': WHATEVER THE INPUT: true; the input reads as it did. -/
def fnStepTermSpec : ChangeSpec := { name := "fnStepTerm", fn := fun _ => fun
  | [d] => { results := [.lit (.bool true)], args := [d] }
  | _ => none }
def fnStepTermRow : OpenClaim := { program := "ytcgnenkbmcbonaa", sum := "e0526490eef2cb86c8f3d3fe0a26137b7e70b280f17eebabaa953521bdda5211", func := "loop.example/depkernel/laws.FnStepTerm", spec := "fnStepTerm", unfollowed := true, recurses := true, apart := false }
def FnStepTermSaid : Prop := fnStepTermRow.holds Try.pinned (OpenSpec.ofChange fnStepTermSpec)

/-- ITS FALSE NEIGHBOUR: 'it returns false'. Refute it at one input. -/
def fnStepTermWrong : ChangeSpec := { name := "fnStepTerm", fn := fun _ => fun
  | [d] => { results := [.lit (.bool false)], args := [d] }
  | _ => none }
def FnStepTermWrongFalsely : Prop := fnStepTermRow.holds Try.pinned (OpenSpec.ofChange fnStepTermWrong)

/-- 'laws.FnNormalize': WHATEVER THE INPUT: true; the input reads as it did. -/
def fnNormalizeSpec : ChangeSpec := { name := "fnNormalize", fn := fun _ => fun
  | [d] => { results := [.lit (.bool true)], args := [d] }
  | _ => none }
def fnNormalizeRow : OpenClaim := { program := "ytcgnenkbmcbonaa", sum := "e0526490eef2cb86c8f3d3fe0a26137b7e70b280f17eebabaa953521bdda5211", func := "loop.example/depkernel/laws.FnNormalize", spec := "fnNormalize", unfollowed := true, recurses := true, apart := false }
def FnNormalizeSaid : Prop := fnNormalizeRow.holds Try.pinned (OpenSpec.ofChange fnNormalizeSpec)

/-- ITS FALSE NEIGHBOUR: 'it returns false'. Refute it at one input. -/
def fnNormalizeWrong : ChangeSpec := { name := "fnNormalize", fn := fun _ => fun
  | [d] => { results := [.lit (.bool false)], args := [d] }
  | _ => none }
def FnNormalizeWrongFalsely : Prop := fnNormalizeRow.holds Try.pinned (OpenSpec.ofChange fnNormalizeWrong)

/- THE SECOND FORM. 'bulk': how many values and letters a reading holds, each counted each time it is reached (what is shared counts as often as it is met; a slice's spare places count too). A statement '..UptoSaid' is the law's where the arguments, and the package variables that the reading takes, are together of bulk at most 1048576: NARROWER than '..Said'. Prove '..Said' where nothing that the law and all that it calls make is longer than what came in: it says more and counts as full. Else prove '..UptoSaid'. A law counts once. -/
mutual
def uptoBulk {H : Type} : DataW H → Nat
  | .lit (.string bytes) => bytes.length + 1
  | .lit _ => 1
  | .nil => 1
  | .ptr d => uptoBulk d + 1
  | .slice elems spare => uptoBulkAll elems + uptoBulkAll spare + 1
  | .agg parts => uptoBulkAll parts + 1
  | .iface _ d => uptoBulk d + 1
  | .map entries => uptoBulkEntries entries + 1
  | .held _ => 1
def uptoBulkAll {H : Type} : List (DataW H) → Nat
  | [] => 0
  | d :: r => uptoBulk d + uptoBulkAll r
def uptoBulkEntries {H : Type} : List (Lit × DataW H) → Nat
  | [] => 0
  | x :: r => uptoBulkEntry x + uptoBulkEntries r
def uptoBulkEntry {H : Type} : Lit × DataW H → Nat
  | (.string bytes, d) => bytes.length + uptoBulk d + 1
  | (_, d) => uptoBulk d + 1
 end
def uptoSmall : (H : Type) → List (DataW H) → Bool := fun _ ds => decide (uptoBulkAll ds ≤ 1048576)
def OpenSpec.upto (s : _root_.Go.ChangeSpec) : _root_.Go.OpenSpec := { _root_.Go.OpenSpec.ofChange s with cond := some uptoSmall }

/-- 'laws.FnStepInner', WHERE WHAT IT READS IS OF BULK AT MOST 1048576: true; the input reads as it did. -/
def fnStepInnerUptoRow : OpenClaim := { program := "ytcgnenkbmcbonaa", sum := "e0526490eef2cb86c8f3d3fe0a26137b7e70b280f17eebabaa953521bdda5211", func := "loop.example/depkernel/laws.FnStepInner", spec := "fnStepInner", unfollowed := true, recurses := true, apart := false, narrowed := true }
def FnStepInnerUptoSaid : Prop := fnStepInnerUptoRow.holds Try.pinned (OpenSpec.upto fnStepInnerSpec)

/-- 'laws.FnContractTerm', WHERE WHAT IT READS IS OF BULK AT MOST 1048576: true; the input reads as it did. -/
def fnContractTermUptoRow : OpenClaim := { program := "ytcgnenkbmcbonaa", sum := "e0526490eef2cb86c8f3d3fe0a26137b7e70b280f17eebabaa953521bdda5211", func := "loop.example/depkernel/laws.FnContractTerm", spec := "fnContractTerm", unfollowed := true, recurses := true, apart := false, narrowed := true }
def FnContractTermUptoSaid : Prop := fnContractTermUptoRow.holds Try.pinned (OpenSpec.upto fnContractTermSpec)

/-- 'laws.FnReduceSteps', WHERE WHAT IT READS IS OF BULK AT MOST 1048576: true; the input reads as it did. -/
def fnReduceStepsUptoRow : OpenClaim := { program := "ytcgnenkbmcbonaa", sum := "e0526490eef2cb86c8f3d3fe0a26137b7e70b280f17eebabaa953521bdda5211", func := "loop.example/depkernel/laws.FnReduceSteps", spec := "fnReduceSteps", unfollowed := true, recurses := true, apart := false, narrowed := true }
def FnReduceStepsUptoSaid : Prop := fnReduceStepsUptoRow.holds Try.pinned (OpenSpec.upto fnReduceStepsSpec)

/-- 'laws.FnHeadValue', WHERE WHAT IT READS IS OF BULK AT MOST 1048576: true; the input reads as it did. -/
def fnHeadValueUptoRow : OpenClaim := { program := "ytcgnenkbmcbonaa", sum := "e0526490eef2cb86c8f3d3fe0a26137b7e70b280f17eebabaa953521bdda5211", func := "loop.example/depkernel/laws.FnHeadValue", spec := "fnHeadValue", unfollowed := true, recurses := true, apart := false, narrowed := true }
def FnHeadValueUptoSaid : Prop := fnHeadValueUptoRow.holds Try.pinned (OpenSpec.upto fnHeadValueSpec)

/-- 'laws.FnSubstReduce', WHERE WHAT IT READS IS OF BULK AT MOST 1048576: true; the input reads as it did. -/
def fnSubstReduceUptoRow : OpenClaim := { program := "ytcgnenkbmcbonaa", sum := "e0526490eef2cb86c8f3d3fe0a26137b7e70b280f17eebabaa953521bdda5211", func := "loop.example/depkernel/laws.FnSubstReduce", spec := "fnSubstReduce", unfollowed := true, recurses := true, apart := false, narrowed := true }
def FnSubstReduceUptoSaid : Prop := fnSubstReduceUptoRow.holds Try.pinned (OpenSpec.upto fnSubstReduceSpec)

/-- 'laws.FnHeadNormal', WHERE WHAT IT READS IS OF BULK AT MOST 1048576: true; the input reads as it did. -/
def fnHeadNormalUptoRow : OpenClaim := { program := "ytcgnenkbmcbonaa", sum := "e0526490eef2cb86c8f3d3fe0a26137b7e70b280f17eebabaa953521bdda5211", func := "loop.example/depkernel/laws.FnHeadNormal", spec := "fnHeadNormal", unfollowed := true, recurses := true, apart := false, narrowed := true }
def FnHeadNormalUptoSaid : Prop := fnHeadNormalUptoRow.holds Try.pinned (OpenSpec.upto fnHeadNormalSpec)

/-- 'laws.FnConfluence', WHERE WHAT IT READS IS OF BULK AT MOST 1048576: true; the input reads as it did. -/
def fnConfluenceUptoRow : OpenClaim := { program := "ytcgnenkbmcbonaa", sum := "e0526490eef2cb86c8f3d3fe0a26137b7e70b280f17eebabaa953521bdda5211", func := "loop.example/depkernel/laws.FnConfluence", spec := "fnConfluence", unfollowed := true, recurses := true, apart := false, narrowed := true }
def FnConfluenceUptoSaid : Prop := fnConfluenceUptoRow.holds Try.pinned (OpenSpec.upto fnConfluenceSpec)

/-- 'laws.FnNormalFree', WHERE WHAT IT READS IS OF BULK AT MOST 1048576: true; the input reads as it did. -/
def fnNormalFreeUptoRow : OpenClaim := { program := "ytcgnenkbmcbonaa", sum := "e0526490eef2cb86c8f3d3fe0a26137b7e70b280f17eebabaa953521bdda5211", func := "loop.example/depkernel/laws.FnNormalFree", spec := "fnNormalFree", unfollowed := true, recurses := true, apart := false, narrowed := true }
def FnNormalFreeUptoSaid : Prop := fnNormalFreeUptoRow.holds Try.pinned (OpenSpec.upto fnNormalFreeSpec)

/-- 'laws.FnInnerNormal', WHERE WHAT IT READS IS OF BULK AT MOST 1048576: true; the input reads as it did. -/
def fnInnerNormalUptoRow : OpenClaim := { program := "ytcgnenkbmcbonaa", sum := "e0526490eef2cb86c8f3d3fe0a26137b7e70b280f17eebabaa953521bdda5211", func := "loop.example/depkernel/laws.FnInnerNormal", spec := "fnInnerNormal", unfollowed := true, recurses := true, apart := false, narrowed := true }
def FnInnerNormalUptoSaid : Prop := fnInnerNormalUptoRow.holds Try.pinned (OpenSpec.upto fnInnerNormalSpec)

/-- 'laws.FnStepTerm', WHERE WHAT IT READS IS OF BULK AT MOST 1048576: true; the input reads as it did. -/
def fnStepTermUptoRow : OpenClaim := { program := "ytcgnenkbmcbonaa", sum := "e0526490eef2cb86c8f3d3fe0a26137b7e70b280f17eebabaa953521bdda5211", func := "loop.example/depkernel/laws.FnStepTerm", spec := "fnStepTerm", unfollowed := true, recurses := true, apart := false, narrowed := true }
def FnStepTermUptoSaid : Prop := fnStepTermUptoRow.holds Try.pinned (OpenSpec.upto fnStepTermSpec)

/-- 'laws.FnNormalize', WHERE WHAT IT READS IS OF BULK AT MOST 1048576: true; the input reads as it did. -/
def fnNormalizeUptoRow : OpenClaim := { program := "ytcgnenkbmcbonaa", sum := "e0526490eef2cb86c8f3d3fe0a26137b7e70b280f17eebabaa953521bdda5211", func := "loop.example/depkernel/laws.FnNormalize", spec := "fnNormalize", unfollowed := true, recurses := true, apart := false, narrowed := true }
def FnNormalizeUptoSaid : Prop := fnNormalizeUptoRow.holds Try.pinned (OpenSpec.upto fnNormalizeSpec)

end Rows
end Go.Proofs.Ytcgnenkbmcbonaa
