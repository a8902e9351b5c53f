/-
  NARROWER THAN 'FOR EVERY INPUT', by the rows' own cells (each row's printed sentence says how): FnExactReduceSteps: loops · FnExactStepInner: loops · FnExactStepTerm: loops · FnExactTraceTerm: loops · FnExactHeadNormal: loops · FnExactNormalizeInner: loops · FnExactNormalize: loops · FnExactConvertible: loops.
  DERIVED. THE GIVEN ROWS OF THIS SEAT. 10 by the template 'for every input the law returns true; each argument reads behind the call as it read before'; 0 by the template 'total and deterministic' (their statements: YtnohobjbblbffaaTotals.lean).
  GIVEN WITH THE SEED: the statements are not yours to turn. If you find one false, say at which input.
  Laid BY PROGRAM, IN A SANDBOX (cutbox-rows.mjs): the forced cells as the released guide's own fill.sh prints them over the translation adf8c3b35a406344… (all of the seat's roots in one cut). By AI agents, Wed Nov 11 2026. No macro, syntax, notation, axiom, sorry.
-/
import Derived.Test.YtnohobjbblbffaaChecked
import GoSem.Claim
import GoSem.ClaimJoined
import GoSem.ClaimMapViews
import Derived.JoinedTies
import Derived.KernelRfl
namespace Go.Proofs.Ytnohobjbblbffaa
/- THE CELL 'sum', in the pinned program and in every row, IS THE sha256 OF THE DUMP (.gsa) THAT YtnohobjbblbffaaProg.lean LOADS. Nothing in Lean hashes anything: it is a label: what it is worth is what the hold of that sum in a sandbox is worth. -/
noncomputable def Try.pinned : Pinned := { name := "ytnohobjbblbffaa", sum := "adf8c3b35a406344e73694bc08a26d4ad5471a8729501ae5335ddd35f2a0c963", checked := Try.checked }
namespace Rows
def none {H : Type} : Left H := { results := [], args := [] }

/-- 'laws.FnExactReduceSteps': WHATEVER THE INPUT: true; the input reads as it did. -/
def fnExactReduceStepsSpec : ChangeSpec := { name := "fnExactReduceSteps", fn := fun _ => fun
  | [d1, d2] => { results := [.lit (.bool true)], args := [d1, d2] }
  | _ => none }
def fnExactReduceStepsRow : OpenClaim := { program := "ytnohobjbblbffaa", sum := "adf8c3b35a406344e73694bc08a26d4ad5471a8729501ae5335ddd35f2a0c963", func := "loop.example/depkernel/laws.FnExactReduceSteps", spec := "fnExactReduceSteps", unfollowed := true, recurses := true, loops := true, apart := false }
def FnExactReduceStepsSaid : Prop := fnExactReduceStepsRow.holds Try.pinned (OpenSpec.ofChange fnExactReduceStepsSpec)

/-- ITS FALSE NEIGHBOUR: 'it returns false'. Refute it at one input. -/
def fnExactReduceStepsWrong : ChangeSpec := { name := "fnExactReduceSteps", fn := fun _ => fun
  | [d1, d2] => { results := [.lit (.bool false)], args := [d1, d2] }
  | _ => none }
def FnExactReduceStepsWrongFalsely : Prop := fnExactReduceStepsRow.holds Try.pinned (OpenSpec.ofChange fnExactReduceStepsWrong)

/-- 'laws.FnExactStepInner': WHATEVER THE INPUT: true; the input reads as it did. -/
def fnExactStepInnerSpec : ChangeSpec := { name := "fnExactStepInner", fn := fun _ => fun
  | [d] => { results := [.lit (.bool true)], args := [d] }
  | _ => none }
def fnExactStepInnerRow : OpenClaim := { program := "ytnohobjbblbffaa", sum := "adf8c3b35a406344e73694bc08a26d4ad5471a8729501ae5335ddd35f2a0c963", func := "loop.example/depkernel/laws.FnExactStepInner", spec := "fnExactStepInner", unfollowed := true, recurses := true, loops := true, apart := false }
def FnExactStepInnerSaid : Prop := fnExactStepInnerRow.holds Try.pinned (OpenSpec.ofChange fnExactStepInnerSpec)

/-- ITS FALSE NEIGHBOUR: 'it returns false'. Refute it at one input. -/
def fnExactStepInnerWrong : ChangeSpec := { name := "fnExactStepInner", fn := fun _ => fun
  | [d] => { results := [.lit (.bool false)], args := [d] }
  | _ => none }
def FnExactStepInnerWrongFalsely : Prop := fnExactStepInnerRow.holds Try.pinned (OpenSpec.ofChange fnExactStepInnerWrong)

/-- 'laws.FnExactStepTerm': WHATEVER THE INPUT: true; the input reads as it did. -/
def fnExactStepTermSpec : ChangeSpec := { name := "fnExactStepTerm", fn := fun _ => fun
  | [d] => { results := [.lit (.bool true)], args := [d] }
  | _ => none }
def fnExactStepTermRow : OpenClaim := { program := "ytnohobjbblbffaa", sum := "adf8c3b35a406344e73694bc08a26d4ad5471a8729501ae5335ddd35f2a0c963", func := "loop.example/depkernel/laws.FnExactStepTerm", spec := "fnExactStepTerm", unfollowed := true, recurses := true, loops := true, apart := false }
def FnExactStepTermSaid : Prop := fnExactStepTermRow.holds Try.pinned (OpenSpec.ofChange fnExactStepTermSpec)

/-- ITS FALSE NEIGHBOUR: 'it returns false'. Refute it at one input. -/
def fnExactStepTermWrong : ChangeSpec := { name := "fnExactStepTerm", fn := fun _ => fun
  | [d] => { results := [.lit (.bool false)], args := [d] }
  | _ => none }
def FnExactStepTermWrongFalsely : Prop := fnExactStepTermRow.holds Try.pinned (OpenSpec.ofChange fnExactStepTermWrong)

/-- 'laws.FnExactTraceTerm': WHATEVER THE INPUT: true; the input reads as it did. -/
def fnExactTraceTermSpec : ChangeSpec := { name := "fnExactTraceTerm", fn := fun _ => fun
  | [d] => { results := [.lit (.bool true)], args := [d] }
  | _ => none }
def fnExactTraceTermRow : OpenClaim := { program := "ytnohobjbblbffaa", sum := "adf8c3b35a406344e73694bc08a26d4ad5471a8729501ae5335ddd35f2a0c963", func := "loop.example/depkernel/laws.FnExactTraceTerm", spec := "fnExactTraceTerm", unfollowed := true, recurses := true, loops := true, apart := false }
def FnExactTraceTermSaid : Prop := fnExactTraceTermRow.holds Try.pinned (OpenSpec.ofChange fnExactTraceTermSpec)

/-- ITS FALSE NEIGHBOUR: 'it returns false'. Refute it at one input. -/
def fnExactTraceTermWrong : ChangeSpec := { name := "fnExactTraceTerm", fn := fun _ => fun
  | [d] => { results := [.lit (.bool false)], args := [d] }
  | _ => none }
def FnExactTraceTermWrongFalsely : Prop := fnExactTraceTermRow.holds Try.pinned (OpenSpec.ofChange fnExactTraceTermWrong)

/-- 'laws.FnExactHeadNormal': WHATEVER THE INPUT: true; the input reads as it did. -/
def fnExactHeadNormalSpec : ChangeSpec := { name := "fnExactHeadNormal", fn := fun _ => fun
  | [d1, d2] => { results := [.lit (.bool true)], args := [d1, d2] }
  | _ => none }
def fnExactHeadNormalRow : OpenClaim := { program := "ytnohobjbblbffaa", sum := "adf8c3b35a406344e73694bc08a26d4ad5471a8729501ae5335ddd35f2a0c963", func := "loop.example/depkernel/laws.FnExactHeadNormal", spec := "fnExactHeadNormal", unfollowed := true, recurses := true, loops := true, apart := false }
def FnExactHeadNormalSaid : Prop := fnExactHeadNormalRow.holds Try.pinned (OpenSpec.ofChange fnExactHeadNormalSpec)

/-- ITS FALSE NEIGHBOUR: 'it returns false'. Refute it at one input. -/
def fnExactHeadNormalWrong : ChangeSpec := { name := "fnExactHeadNormal", fn := fun _ => fun
  | [d1, d2] => { results := [.lit (.bool false)], args := [d1, d2] }
  | _ => none }
def FnExactHeadNormalWrongFalsely : Prop := fnExactHeadNormalRow.holds Try.pinned (OpenSpec.ofChange fnExactHeadNormalWrong)

/-- 'laws.FnExactNormalizeInner': WHATEVER THE INPUT: true; the input reads as it did. -/
def fnExactNormalizeInnerSpec : ChangeSpec := { name := "fnExactNormalizeInner", fn := fun _ => fun
  | [d1, d2] => { results := [.lit (.bool true)], args := [d1, d2] }
  | _ => none }
def fnExactNormalizeInnerRow : OpenClaim := { program := "ytnohobjbblbffaa", sum := "adf8c3b35a406344e73694bc08a26d4ad5471a8729501ae5335ddd35f2a0c963", func := "loop.example/depkernel/laws.FnExactNormalizeInner", spec := "fnExactNormalizeInner", unfollowed := true, recurses := true, loops := true, apart := false }
def FnExactNormalizeInnerSaid : Prop := fnExactNormalizeInnerRow.holds Try.pinned (OpenSpec.ofChange fnExactNormalizeInnerSpec)

/-- ITS FALSE NEIGHBOUR: 'it returns false'. Refute it at one input. -/
def fnExactNormalizeInnerWrong : ChangeSpec := { name := "fnExactNormalizeInner", fn := fun _ => fun
  | [d1, d2] => { results := [.lit (.bool false)], args := [d1, d2] }
  | _ => none }
def FnExactNormalizeInnerWrongFalsely : Prop := fnExactNormalizeInnerRow.holds Try.pinned (OpenSpec.ofChange fnExactNormalizeInnerWrong)

/-- 'laws.FnExactNormalize': WHATEVER THE INPUT: true; the input reads as it did. -/
def fnExactNormalizeSpec : ChangeSpec := { name := "fnExactNormalize", fn := fun _ => fun
  | [d1, d2] => { results := [.lit (.bool true)], args := [d1, d2] }
  | _ => none }
def fnExactNormalizeRow : OpenClaim := { program := "ytnohobjbblbffaa", sum := "adf8c3b35a406344e73694bc08a26d4ad5471a8729501ae5335ddd35f2a0c963", func := "loop.example/depkernel/laws.FnExactNormalize", spec := "fnExactNormalize", unfollowed := true, recurses := true, loops := true, apart := false }
def FnExactNormalizeSaid : Prop := fnExactNormalizeRow.holds Try.pinned (OpenSpec.ofChange fnExactNormalizeSpec)

/-- ITS FALSE NEIGHBOUR: 'it returns false'. Refute it at one input. -/
def fnExactNormalizeWrong : ChangeSpec := { name := "fnExactNormalize", fn := fun _ => fun
  | [d1, d2] => { results := [.lit (.bool false)], args := [d1, d2] }
  | _ => none }
def FnExactNormalizeWrongFalsely : Prop := fnExactNormalizeRow.holds Try.pinned (OpenSpec.ofChange fnExactNormalizeWrong)

/-- 'laws.FnExactConvertible': WHATEVER THE INPUT: true; the input reads as it did. -/
def fnExactConvertibleSpec : ChangeSpec := { name := "fnExactConvertible", fn := fun _ => fun
  | [d1, d2, d3] => { results := [.lit (.bool true)], args := [d1, d2, d3] }
  | _ => none }
def fnExactConvertibleRow : OpenClaim := { program := "ytnohobjbblbffaa", sum := "adf8c3b35a406344e73694bc08a26d4ad5471a8729501ae5335ddd35f2a0c963", func := "loop.example/depkernel/laws.FnExactConvertible", spec := "fnExactConvertible", unfollowed := true, recurses := true, loops := true, apart := false }
def FnExactConvertibleSaid : Prop := fnExactConvertibleRow.holds Try.pinned (OpenSpec.ofChange fnExactConvertibleSpec)

/-- ITS FALSE NEIGHBOUR: 'it returns false'. Refute it at one input. -/
def fnExactConvertibleWrong : ChangeSpec := { name := "fnExactConvertible", fn := fun _ => fun
  | [d1, d2, d3] => { results := [.lit (.bool false)], args := [d1, d2, d3] }
  | _ => none }
def FnExactConvertibleWrongFalsely : Prop := fnExactConvertibleRow.holds Try.pinned (OpenSpec.ofChange fnExactConvertibleWrong)

/-- 'laws.FnNormalParts': WHATEVER THE INPUT: true; the input reads as it did. -/
def fnNormalPartsSpec : ChangeSpec := { name := "fnNormalParts", fn := fun _ => fun
  | [d] => { results := [.lit (.bool true)], args := [d] }
  | _ => none }
def fnNormalPartsRow : OpenClaim := { program := "ytnohobjbblbffaa", sum := "adf8c3b35a406344e73694bc08a26d4ad5471a8729501ae5335ddd35f2a0c963", func := "loop.example/depkernel/laws.FnNormalParts", spec := "fnNormalParts", recurses := true, apart := false }
def FnNormalPartsSaid : Prop := fnNormalPartsRow.holds Try.pinned (OpenSpec.ofChange fnNormalPartsSpec)

/-- ITS FALSE NEIGHBOUR: 'it returns false'. Refute it at one input. -/
def fnNormalPartsWrong : ChangeSpec := { name := "fnNormalParts", fn := fun _ => fun
  | [d] => { results := [.lit (.bool false)], args := [d] }
  | _ => none }
def FnNormalPartsWrongFalsely : Prop := fnNormalPartsRow.holds Try.pinned (OpenSpec.ofChange fnNormalPartsWrong)

/-- 'laws.FnCountRedexes': WHATEVER THE INPUT: true; the input reads as it did. -/
def fnCountRedexesSpec : ChangeSpec := { name := "fnCountRedexes", fn := fun _ => fun
  | [d] => { results := [.lit (.bool true)], args := [d] }
  | _ => none }
def fnCountRedexesRow : OpenClaim := { program := "ytnohobjbblbffaa", sum := "adf8c3b35a406344e73694bc08a26d4ad5471a8729501ae5335ddd35f2a0c963", func := "loop.example/depkernel/laws.FnCountRedexes", spec := "fnCountRedexes", recurses := true, apart := false }
def FnCountRedexesSaid : Prop := fnCountRedexesRow.holds Try.pinned (OpenSpec.ofChange fnCountRedexesSpec)

/-- ITS FALSE NEIGHBOUR: 'it returns false'. Refute it at one input. -/
def fnCountRedexesWrong : ChangeSpec := { name := "fnCountRedexes", fn := fun _ => fun
  | [d] => { results := [.lit (.bool false)], args := [d] }
  | _ => none }
def FnCountRedexesWrongFalsely : Prop := fnCountRedexesRow.holds Try.pinned (OpenSpec.ofChange fnCountRedexesWrong)

/- THE SECOND FORM. 'bulk': how many values and letters a reading holds, each counted each time it is reached (what is shared counts as often as it is met; a slice's spare places count too). A statement '..UptoSaid' is the law's where the arguments, and the package variables that the reading takes, are together of bulk at most 1048576: NARROWER than '..Said'. Prove '..Said' where nothing that the law and all that it calls make is longer than what came in: it says more and counts as full. Else prove '..UptoSaid'. A law counts once. -/
mutual
def uptoBulk {H : Type} : DataW H → Nat
  | .lit (.string bytes) => bytes.length + 1
  | .lit _ => 1
  | .nil => 1
  | .ptr d => uptoBulk d + 1
  | .slice elems spare => uptoBulkAll elems + uptoBulkAll spare + 1
  | .agg parts => uptoBulkAll parts + 1
  | .iface _ d => uptoBulk d + 1
  | .map entries => uptoBulkEntries entries + 1
  | .held _ => 1
def uptoBulkAll {H : Type} : List (DataW H) → Nat
  | [] => 0
  | d :: r => uptoBulk d + uptoBulkAll r
def uptoBulkEntries {H : Type} : List (Lit × DataW H) → Nat
  | [] => 0
  | x :: r => uptoBulkEntry x + uptoBulkEntries r
def uptoBulkEntry {H : Type} : Lit × DataW H → Nat
  | (.string bytes, d) => bytes.length + uptoBulk d + 1
  | (_, d) => uptoBulk d + 1
 end
def uptoSmall : (H : Type) → List (DataW H) → Bool := fun _ ds => decide (uptoBulkAll ds ≤ 1048576)
def OpenSpec.upto (s : _root_.Go.ChangeSpec) : _root_.Go.OpenSpec := { _root_.Go.OpenSpec.ofChange s with cond := some uptoSmall }

/-- 'laws.FnExactReduceSteps', WHERE WHAT IT READS IS OF BULK AT MOST 1048576: true; the input reads as it did. -/
def fnExactReduceStepsUptoRow : OpenClaim := { program := "ytnohobjbblbffaa", sum := "adf8c3b35a406344e73694bc08a26d4ad5471a8729501ae5335ddd35f2a0c963", func := "loop.example/depkernel/laws.FnExactReduceSteps", spec := "fnExactReduceSteps", unfollowed := true, recurses := true, loops := true, apart := false, narrowed := true }
def FnExactReduceStepsUptoSaid : Prop := fnExactReduceStepsUptoRow.holds Try.pinned (OpenSpec.upto fnExactReduceStepsSpec)

/-- 'laws.FnExactStepInner', WHERE WHAT IT READS IS OF BULK AT MOST 1048576: true; the input reads as it did. -/
def fnExactStepInnerUptoRow : OpenClaim := { program := "ytnohobjbblbffaa", sum := "adf8c3b35a406344e73694bc08a26d4ad5471a8729501ae5335ddd35f2a0c963", func := "loop.example/depkernel/laws.FnExactStepInner", spec := "fnExactStepInner", unfollowed := true, recurses := true, loops := true, apart := false, narrowed := true }
def FnExactStepInnerUptoSaid : Prop := fnExactStepInnerUptoRow.holds Try.pinned (OpenSpec.upto fnExactStepInnerSpec)

/-- 'laws.FnExactStepTerm', WHERE WHAT IT READS IS OF BULK AT MOST 1048576: true; the input reads as it did. -/
def fnExactStepTermUptoRow : OpenClaim := { program := "ytnohobjbblbffaa", sum := "adf8c3b35a406344e73694bc08a26d4ad5471a8729501ae5335ddd35f2a0c963", func := "loop.example/depkernel/laws.FnExactStepTerm", spec := "fnExactStepTerm", unfollowed := true, recurses := true, loops := true, apart := false, narrowed := true }
def FnExactStepTermUptoSaid : Prop := fnExactStepTermUptoRow.holds Try.pinned (OpenSpec.upto fnExactStepTermSpec)

/-- 'laws.FnExactTraceTerm', WHERE WHAT IT READS IS OF BULK AT MOST 1048576: true; the input reads as it did. -/
def fnExactTraceTermUptoRow : OpenClaim := { program := "ytnohobjbblbffaa", sum := "adf8c3b35a406344e73694bc08a26d4ad5471a8729501ae5335ddd35f2a0c963", func := "loop.example/depkernel/laws.FnExactTraceTerm", spec := "fnExactTraceTerm", unfollowed := true, recurses := true, loops := true, apart := false, narrowed := true }
def FnExactTraceTermUptoSaid : Prop := fnExactTraceTermUptoRow.holds Try.pinned (OpenSpec.upto fnExactTraceTermSpec)

/-- 'laws.FnExactHeadNormal', WHERE WHAT IT READS IS OF BULK AT MOST 1048576: true; the input reads as it did. -/
def fnExactHeadNormalUptoRow : OpenClaim := { program := "ytnohobjbblbffaa", sum := "adf8c3b35a406344e73694bc08a26d4ad5471a8729501ae5335ddd35f2a0c963", func := "loop.example/depkernel/laws.FnExactHeadNormal", spec := "fnExactHeadNormal", unfollowed := true, recurses := true, loops := true, apart := false, narrowed := true }
def FnExactHeadNormalUptoSaid : Prop := fnExactHeadNormalUptoRow.holds Try.pinned (OpenSpec.upto fnExactHeadNormalSpec)

/-- 'laws.FnExactNormalizeInner', WHERE WHAT IT READS IS OF BULK AT MOST 1048576: true; the input reads as it did. -/
def fnExactNormalizeInnerUptoRow : OpenClaim := { program := "ytnohobjbblbffaa", sum := "adf8c3b35a406344e73694bc08a26d4ad5471a8729501ae5335ddd35f2a0c963", func := "loop.example/depkernel/laws.FnExactNormalizeInner", spec := "fnExactNormalizeInner", unfollowed := true, recurses := true, loops := true, apart := false, narrowed := true }
def FnExactNormalizeInnerUptoSaid : Prop := fnExactNormalizeInnerUptoRow.holds Try.pinned (OpenSpec.upto fnExactNormalizeInnerSpec)

/-- 'laws.FnExactNormalize', WHERE WHAT IT READS IS OF BULK AT MOST 1048576: true; the input reads as it did. -/
def fnExactNormalizeUptoRow : OpenClaim := { program := "ytnohobjbblbffaa", sum := "adf8c3b35a406344e73694bc08a26d4ad5471a8729501ae5335ddd35f2a0c963", func := "loop.example/depkernel/laws.FnExactNormalize", spec := "fnExactNormalize", unfollowed := true, recurses := true, loops := true, apart := false, narrowed := true }
def FnExactNormalizeUptoSaid : Prop := fnExactNormalizeUptoRow.holds Try.pinned (OpenSpec.upto fnExactNormalizeSpec)

/-- 'laws.FnExactConvertible', WHERE WHAT IT READS IS OF BULK AT MOST 1048576: true; the input reads as it did. -/
def fnExactConvertibleUptoRow : OpenClaim := { program := "ytnohobjbblbffaa", sum := "adf8c3b35a406344e73694bc08a26d4ad5471a8729501ae5335ddd35f2a0c963", func := "loop.example/depkernel/laws.FnExactConvertible", spec := "fnExactConvertible", unfollowed := true, recurses := true, loops := true, apart := false, narrowed := true }
def FnExactConvertibleUptoSaid : Prop := fnExactConvertibleUptoRow.holds Try.pinned (OpenSpec.upto fnExactConvertibleSpec)

/-- 'laws.FnNormalParts', WHERE WHAT IT READS IS OF BULK AT MOST 1048576: true; the input reads as it did. -/
def fnNormalPartsUptoRow : OpenClaim := { program := "ytnohobjbblbffaa", sum := "adf8c3b35a406344e73694bc08a26d4ad5471a8729501ae5335ddd35f2a0c963", func := "loop.example/depkernel/laws.FnNormalParts", spec := "fnNormalParts", recurses := true, apart := false, narrowed := true }
def FnNormalPartsUptoSaid : Prop := fnNormalPartsUptoRow.holds Try.pinned (OpenSpec.upto fnNormalPartsSpec)

/-- 'laws.FnCountRedexes', WHERE WHAT IT READS IS OF BULK AT MOST 1048576: true; the input reads as it did. -/
def fnCountRedexesUptoRow : OpenClaim := { program := "ytnohobjbblbffaa", sum := "adf8c3b35a406344e73694bc08a26d4ad5471a8729501ae5335ddd35f2a0c963", func := "loop.example/depkernel/laws.FnCountRedexes", spec := "fnCountRedexes", recurses := true, apart := false, narrowed := true }
def FnCountRedexesUptoSaid : Prop := fnCountRedexesUptoRow.holds Try.pinned (OpenSpec.upto fnCountRedexesSpec)

end Rows
end Go.Proofs.Ytnohobjbblbffaa
