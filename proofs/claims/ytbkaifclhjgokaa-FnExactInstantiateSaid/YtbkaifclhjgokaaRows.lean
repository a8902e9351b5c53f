/-
  NARROWER THAN 'FOR EVERY INPUT', by the rows' own cells (each row's printed sentence says how): FnExactMaxFree: loops · FnExactCountVar: loops · FnExactFreeAt: loops · FnExactShiftTerm: loops · FnExactSubstTerm: loops · FnExactInstantiate: loops.
  DERIVED. THE GIVEN ROWS OF THIS SEAT. 12 by the template 'for every input the law returns true; each argument reads behind the call as it read before'; 0 by the template 'total and deterministic' (their statements: YtbkaifclhjgokaaTotals.lean).
  GIVEN WITH THE SEED: the statements are not yours to turn. If you find one false, say at which input.
  Laid BY PROGRAM, IN A SANDBOX (cutbox-rows.mjs): the forced cells as the released guide's own fill.sh prints them over the translation f2a82cd669db7b86… (all of the seat's roots in one cut). By AI agents, Wed Nov 11 2026. No macro, syntax, notation, axiom, sorry.
-/
import Derived.Test.YtbkaifclhjgokaaChecked
import GoSem.Claim
import GoSem.ClaimJoined
import GoSem.ClaimMapViews
import Derived.JoinedTies
import Derived.KernelRfl
namespace Go.Proofs.Ytbkaifclhjgokaa
/- THE CELL 'sum', in the pinned program and in every row, IS THE sha256 OF THE DUMP (.gsa) THAT YtbkaifclhjgokaaProg.lean LOADS. Nothing in Lean hashes anything: it is a label: what it is worth is what the hold of that sum in a sandbox is worth. -/
noncomputable def Try.pinned : Pinned := { name := "ytbkaifclhjgokaa", sum := "f2a82cd669db7b86018806e8ad457e6abd6aa2900d28ad157676030d3960d2d8", checked := Try.checked }
namespace Rows
def none {H : Type} : Left H := { results := [], args := [] }

/-- 'laws.FnNumeralValue': WHATEVER THE INPUT: true; the input reads as it did. -/
def fnNumeralValueSpec : ChangeSpec := { name := "fnNumeralValue", fn := fun _ => fun
  | [d] => { results := [.lit (.bool true)], args := [d] }
  | _ => none }
def fnNumeralValueRow : OpenClaim := { program := "ytbkaifclhjgokaa", sum := "f2a82cd669db7b86018806e8ad457e6abd6aa2900d28ad157676030d3960d2d8", func := "loop.example/depkernel/laws.FnNumeralValue", spec := "fnNumeralValue", unfollowed := true, recurses := true, apart := false }
def FnNumeralValueSaid : Prop := fnNumeralValueRow.holds Try.pinned (OpenSpec.ofChange fnNumeralValueSpec)

/-- ITS FALSE NEIGHBOUR: 'it returns false'. Refute it at one input. -/
def fnNumeralValueWrong : ChangeSpec := { name := "fnNumeralValue", fn := fun _ => fun
  | [d] => { results := [.lit (.bool false)], args := [d] }
  | _ => none }
def FnNumeralValueWrongFalsely : Prop := fnNumeralValueRow.holds Try.pinned (OpenSpec.ofChange fnNumeralValueWrong)

/-- 'laws.FnExactMaxFree': WHATEVER THE INPUT: true; the input reads as it did. -/
def fnExactMaxFreeSpec : ChangeSpec := { name := "fnExactMaxFree", fn := fun _ => fun
  | [d] => { results := [.lit (.bool true)], args := [d] }
  | _ => none }
def fnExactMaxFreeRow : OpenClaim := { program := "ytbkaifclhjgokaa", sum := "f2a82cd669db7b86018806e8ad457e6abd6aa2900d28ad157676030d3960d2d8", func := "loop.example/depkernel/laws.FnExactMaxFree", spec := "fnExactMaxFree", unfollowed := true, recurses := true, loops := true, apart := false }
def FnExactMaxFreeSaid : Prop := fnExactMaxFreeRow.holds Try.pinned (OpenSpec.ofChange fnExactMaxFreeSpec)

/-- ITS FALSE NEIGHBOUR: 'it returns false'. Refute it at one input. -/
def fnExactMaxFreeWrong : ChangeSpec := { name := "fnExactMaxFree", fn := fun _ => fun
  | [d] => { results := [.lit (.bool false)], args := [d] }
  | _ => none }
def FnExactMaxFreeWrongFalsely : Prop := fnExactMaxFreeRow.holds Try.pinned (OpenSpec.ofChange fnExactMaxFreeWrong)

/-- 'laws.FnExactCountVar': WHATEVER THE INPUT: true; the input reads as it did. -/
def fnExactCountVarSpec : ChangeSpec := { name := "fnExactCountVar", fn := fun _ => fun
  | [d1, d2] => { results := [.lit (.bool true)], args := [d1, d2] }
  | _ => none }
def fnExactCountVarRow : OpenClaim := { program := "ytbkaifclhjgokaa", sum := "f2a82cd669db7b86018806e8ad457e6abd6aa2900d28ad157676030d3960d2d8", func := "loop.example/depkernel/laws.FnExactCountVar", spec := "fnExactCountVar", unfollowed := true, recurses := true, loops := true, apart := false }
def FnExactCountVarSaid : Prop := fnExactCountVarRow.holds Try.pinned (OpenSpec.ofChange fnExactCountVarSpec)

/-- ITS FALSE NEIGHBOUR: 'it returns false'. Refute it at one input. -/
def fnExactCountVarWrong : ChangeSpec := { name := "fnExactCountVar", fn := fun _ => fun
  | [d1, d2] => { results := [.lit (.bool false)], args := [d1, d2] }
  | _ => none }
def FnExactCountVarWrongFalsely : Prop := fnExactCountVarRow.holds Try.pinned (OpenSpec.ofChange fnExactCountVarWrong)

/-- 'laws.FnExactFreeAt': WHATEVER THE INPUT: true; the input reads as it did. -/
def fnExactFreeAtSpec : ChangeSpec := { name := "fnExactFreeAt", fn := fun _ => fun
  | [d1, d2] => { results := [.lit (.bool true)], args := [d1, d2] }
  | _ => none }
def fnExactFreeAtRow : OpenClaim := { program := "ytbkaifclhjgokaa", sum := "f2a82cd669db7b86018806e8ad457e6abd6aa2900d28ad157676030d3960d2d8", func := "loop.example/depkernel/laws.FnExactFreeAt", spec := "fnExactFreeAt", unfollowed := true, recurses := true, loops := true, apart := false }
def FnExactFreeAtSaid : Prop := fnExactFreeAtRow.holds Try.pinned (OpenSpec.ofChange fnExactFreeAtSpec)

/-- ITS FALSE NEIGHBOUR: 'it returns false'. Refute it at one input. -/
def fnExactFreeAtWrong : ChangeSpec := { name := "fnExactFreeAt", fn := fun _ => fun
  | [d1, d2] => { results := [.lit (.bool false)], args := [d1, d2] }
  | _ => none }
def FnExactFreeAtWrongFalsely : Prop := fnExactFreeAtRow.holds Try.pinned (OpenSpec.ofChange fnExactFreeAtWrong)

/-- 'laws.FnMaxFree': WHATEVER THE INPUT: true; the input reads as it did. -/
def fnMaxFreeSpec : ChangeSpec := { name := "fnMaxFree", fn := fun _ => fun
  | [d] => { results := [.lit (.bool true)], args := [d] }
  | _ => none }
def fnMaxFreeRow : OpenClaim := { program := "ytbkaifclhjgokaa", sum := "f2a82cd669db7b86018806e8ad457e6abd6aa2900d28ad157676030d3960d2d8", func := "loop.example/depkernel/laws.FnMaxFree", spec := "fnMaxFree", unfollowed := true, recurses := true, apart := false }
def FnMaxFreeSaid : Prop := fnMaxFreeRow.holds Try.pinned (OpenSpec.ofChange fnMaxFreeSpec)

/-- ITS FALSE NEIGHBOUR: 'it returns false'. Refute it at one input. -/
def fnMaxFreeWrong : ChangeSpec := { name := "fnMaxFree", fn := fun _ => fun
  | [d] => { results := [.lit (.bool false)], args := [d] }
  | _ => none }
def FnMaxFreeWrongFalsely : Prop := fnMaxFreeRow.holds Try.pinned (OpenSpec.ofChange fnMaxFreeWrong)

/-- 'laws.FnShiftBack': WHATEVER THE INPUT: true; the input reads as it did. -/
def fnShiftBackSpec : ChangeSpec := { name := "fnShiftBack", fn := fun _ => fun
  | [d1, d2] => { results := [.lit (.bool true)], args := [d1, d2] }
  | _ => none }
def fnShiftBackRow : OpenClaim := { program := "ytbkaifclhjgokaa", sum := "f2a82cd669db7b86018806e8ad457e6abd6aa2900d28ad157676030d3960d2d8", func := "loop.example/depkernel/laws.FnShiftBack", spec := "fnShiftBack", unfollowed := true, recurses := true, apart := false }
def FnShiftBackSaid : Prop := fnShiftBackRow.holds Try.pinned (OpenSpec.ofChange fnShiftBackSpec)

/-- ITS FALSE NEIGHBOUR: 'it returns false'. Refute it at one input. -/
def fnShiftBackWrong : ChangeSpec := { name := "fnShiftBack", fn := fun _ => fun
  | [d1, d2] => { results := [.lit (.bool false)], args := [d1, d2] }
  | _ => none }
def FnShiftBackWrongFalsely : Prop := fnShiftBackRow.holds Try.pinned (OpenSpec.ofChange fnShiftBackWrong)

/-- 'laws.FnExactShiftTerm': WHATEVER THE INPUT: true; the input reads as it did. -/
def fnExactShiftTermSpec : ChangeSpec := { name := "fnExactShiftTerm", fn := fun _ => fun
  | [d1, d2, d3] => { results := [.lit (.bool true)], args := [d1, d2, d3] }
  | _ => none }
def fnExactShiftTermRow : OpenClaim := { program := "ytbkaifclhjgokaa", sum := "f2a82cd669db7b86018806e8ad457e6abd6aa2900d28ad157676030d3960d2d8", func := "loop.example/depkernel/laws.FnExactShiftTerm", spec := "fnExactShiftTerm", unfollowed := true, recurses := true, loops := true, apart := false }
def FnExactShiftTermSaid : Prop := fnExactShiftTermRow.holds Try.pinned (OpenSpec.ofChange fnExactShiftTermSpec)

/-- ITS FALSE NEIGHBOUR: 'it returns false'. Refute it at one input. -/
def fnExactShiftTermWrong : ChangeSpec := { name := "fnExactShiftTerm", fn := fun _ => fun
  | [d1, d2, d3] => { results := [.lit (.bool false)], args := [d1, d2, d3] }
  | _ => none }
def FnExactShiftTermWrongFalsely : Prop := fnExactShiftTermRow.holds Try.pinned (OpenSpec.ofChange fnExactShiftTermWrong)

/-- 'laws.FnRenameSame': WHATEVER THE INPUT: true; the input reads as it did. -/
def fnRenameSameSpec : ChangeSpec := { name := "fnRenameSame", fn := fun _ => fun
  | [d] => { results := [.lit (.bool true)], args := [d] }
  | _ => none }
def fnRenameSameRow : OpenClaim := { program := "ytbkaifclhjgokaa", sum := "f2a82cd669db7b86018806e8ad457e6abd6aa2900d28ad157676030d3960d2d8", func := "loop.example/depkernel/laws.FnRenameSame", spec := "fnRenameSame", unfollowed := true, recurses := true, apart := false }
def FnRenameSameSaid : Prop := fnRenameSameRow.holds Try.pinned (OpenSpec.ofChange fnRenameSameSpec)

/-- ITS FALSE NEIGHBOUR: 'it returns false'. Refute it at one input. -/
def fnRenameSameWrong : ChangeSpec := { name := "fnRenameSame", fn := fun _ => fun
  | [d] => { results := [.lit (.bool false)], args := [d] }
  | _ => none }
def FnRenameSameWrongFalsely : Prop := fnRenameSameRow.holds Try.pinned (OpenSpec.ofChange fnRenameSameWrong)

/-- 'laws.FnExactSubstTerm': WHATEVER THE INPUT: true; the input reads as it did. -/
def fnExactSubstTermSpec : ChangeSpec := { name := "fnExactSubstTerm", fn := fun _ => fun
  | [d1, d2, d3] => { results := [.lit (.bool true)], args := [d1, d2, d3] }
  | _ => none }
def fnExactSubstTermRow : OpenClaim := { program := "ytbkaifclhjgokaa", sum := "f2a82cd669db7b86018806e8ad457e6abd6aa2900d28ad157676030d3960d2d8", func := "loop.example/depkernel/laws.FnExactSubstTerm", spec := "fnExactSubstTerm", unfollowed := true, recurses := true, loops := true, apart := false }
def FnExactSubstTermSaid : Prop := fnExactSubstTermRow.holds Try.pinned (OpenSpec.ofChange fnExactSubstTermSpec)

/-- ITS FALSE NEIGHBOUR: 'it returns false'. Refute it at one input. -/
def fnExactSubstTermWrong : ChangeSpec := { name := "fnExactSubstTerm", fn := fun _ => fun
  | [d1, d2, d3] => { results := [.lit (.bool false)], args := [d1, d2, d3] }
  | _ => none }
def FnExactSubstTermWrongFalsely : Prop := fnExactSubstTermRow.holds Try.pinned (OpenSpec.ofChange fnExactSubstTermWrong)

/-- 'laws.FnFreeShift': WHATEVER THE INPUT: true; the input reads as it did. -/
def fnFreeShiftSpec : ChangeSpec := { name := "fnFreeShift", fn := fun _ => fun
  | [d] => { results := [.lit (.bool true)], args := [d] }
  | _ => none }
def fnFreeShiftRow : OpenClaim := { program := "ytbkaifclhjgokaa", sum := "f2a82cd669db7b86018806e8ad457e6abd6aa2900d28ad157676030d3960d2d8", func := "loop.example/depkernel/laws.FnFreeShift", spec := "fnFreeShift", unfollowed := true, recurses := true, apart := false }
def FnFreeShiftSaid : Prop := fnFreeShiftRow.holds Try.pinned (OpenSpec.ofChange fnFreeShiftSpec)

/-- ITS FALSE NEIGHBOUR: 'it returns false'. Refute it at one input. -/
def fnFreeShiftWrong : ChangeSpec := { name := "fnFreeShift", fn := fun _ => fun
  | [d] => { results := [.lit (.bool false)], args := [d] }
  | _ => none }
def FnFreeShiftWrongFalsely : Prop := fnFreeShiftRow.holds Try.pinned (OpenSpec.ofChange fnFreeShiftWrong)

/-- 'laws.FnExactInstantiate': WHATEVER THE INPUT: true; the input reads as it did. -/
def fnExactInstantiateSpec : ChangeSpec := { name := "fnExactInstantiate", fn := fun _ => fun
  | [d1, d2] => { results := [.lit (.bool true)], args := [d1, d2] }
  | _ => none }
def fnExactInstantiateRow : OpenClaim := { program := "ytbkaifclhjgokaa", sum := "f2a82cd669db7b86018806e8ad457e6abd6aa2900d28ad157676030d3960d2d8", func := "loop.example/depkernel/laws.FnExactInstantiate", spec := "fnExactInstantiate", unfollowed := true, recurses := true, loops := true, apart := false }
def FnExactInstantiateSaid : Prop := fnExactInstantiateRow.holds Try.pinned (OpenSpec.ofChange fnExactInstantiateSpec)

/-- ITS FALSE NEIGHBOUR: 'it returns false'. Refute it at one input. -/
def fnExactInstantiateWrong : ChangeSpec := { name := "fnExactInstantiate", fn := fun _ => fun
  | [d1, d2] => { results := [.lit (.bool false)], args := [d1, d2] }
  | _ => none }
def FnExactInstantiateWrongFalsely : Prop := fnExactInstantiateRow.holds Try.pinned (OpenSpec.ofChange fnExactInstantiateWrong)

/-- 'laws.FnSubstCommute': WHATEVER THE INPUT: true; the input reads as it did. -/
def fnSubstCommuteSpec : ChangeSpec := { name := "fnSubstCommute", fn := fun _ => fun
  | [d1, d2] => { results := [.lit (.bool true)], args := [d1, d2] }
  | _ => none }
def fnSubstCommuteRow : OpenClaim := { program := "ytbkaifclhjgokaa", sum := "f2a82cd669db7b86018806e8ad457e6abd6aa2900d28ad157676030d3960d2d8", func := "loop.example/depkernel/laws.FnSubstCommute", spec := "fnSubstCommute", unfollowed := true, recurses := true, apart := false }
def FnSubstCommuteSaid : Prop := fnSubstCommuteRow.holds Try.pinned (OpenSpec.ofChange fnSubstCommuteSpec)

/-- ITS FALSE NEIGHBOUR: 'it returns false'. Refute it at one input. -/
def fnSubstCommuteWrong : ChangeSpec := { name := "fnSubstCommute", fn := fun _ => fun
  | [d1, d2] => { results := [.lit (.bool false)], args := [d1, d2] }
  | _ => none }
def FnSubstCommuteWrongFalsely : Prop := fnSubstCommuteRow.holds Try.pinned (OpenSpec.ofChange fnSubstCommuteWrong)

/- THE SECOND FORM. 'bulk': how many values and letters a reading holds, each counted each time it is reached (what is shared counts as often as it is met; a slice's spare places count too). A statement '..UptoSaid' is the law's where the arguments, and the package variables that the reading takes, are together of bulk at most 1048576: NARROWER than '..Said'. Prove '..Said' where nothing that the law and all that it calls make is longer than what came in: it says more and counts as full. Else prove '..UptoSaid'. A law counts once. -/
mutual
def uptoBulk {H : Type} : DataW H → Nat
  | .lit (.string bytes) => bytes.length + 1
  | .lit _ => 1
  | .nil => 1
  | .ptr d => uptoBulk d + 1
  | .slice elems spare => uptoBulkAll elems + uptoBulkAll spare + 1
  | .agg parts => uptoBulkAll parts + 1
  | .iface _ d => uptoBulk d + 1
  | .map entries => uptoBulkEntries entries + 1
  | .held _ => 1
def uptoBulkAll {H : Type} : List (DataW H) → Nat
  | [] => 0
  | d :: r => uptoBulk d + uptoBulkAll r
def uptoBulkEntries {H : Type} : List (Lit × DataW H) → Nat
  | [] => 0
  | x :: r => uptoBulkEntry x + uptoBulkEntries r
def uptoBulkEntry {H : Type} : Lit × DataW H → Nat
  | (.string bytes, d) => bytes.length + uptoBulk d + 1
  | (_, d) => uptoBulk d + 1
 end
def uptoSmall : (H : Type) → List (DataW H) → Bool := fun _ ds => decide (uptoBulkAll ds ≤ 1048576)
def OpenSpec.upto (s : _root_.Go.ChangeSpec) : _root_.Go.OpenSpec := { _root_.Go.OpenSpec.ofChange s with cond := some uptoSmall }

/-- 'laws.FnNumeralValue', WHERE WHAT IT READS IS OF BULK AT MOST 1048576: true; the input reads as it did. -/
def fnNumeralValueUptoRow : OpenClaim := { program := "ytbkaifclhjgokaa", sum := "f2a82cd669db7b86018806e8ad457e6abd6aa2900d28ad157676030d3960d2d8", func := "loop.example/depkernel/laws.FnNumeralValue", spec := "fnNumeralValue", unfollowed := true, recurses := true, apart := false, narrowed := true }
def FnNumeralValueUptoSaid : Prop := fnNumeralValueUptoRow.holds Try.pinned (OpenSpec.upto fnNumeralValueSpec)

/-- 'laws.FnExactMaxFree', WHERE WHAT IT READS IS OF BULK AT MOST 1048576: true; the input reads as it did. -/
def fnExactMaxFreeUptoRow : OpenClaim := { program := "ytbkaifclhjgokaa", sum := "f2a82cd669db7b86018806e8ad457e6abd6aa2900d28ad157676030d3960d2d8", func := "loop.example/depkernel/laws.FnExactMaxFree", spec := "fnExactMaxFree", unfollowed := true, recurses := true, loops := true, apart := false, narrowed := true }
def FnExactMaxFreeUptoSaid : Prop := fnExactMaxFreeUptoRow.holds Try.pinned (OpenSpec.upto fnExactMaxFreeSpec)

/-- 'laws.FnExactCountVar', WHERE WHAT IT READS IS OF BULK AT MOST 1048576: true; the input reads as it did. -/
def fnExactCountVarUptoRow : OpenClaim := { program := "ytbkaifclhjgokaa", sum := "f2a82cd669db7b86018806e8ad457e6abd6aa2900d28ad157676030d3960d2d8", func := "loop.example/depkernel/laws.FnExactCountVar", spec := "fnExactCountVar", unfollowed := true, recurses := true, loops := true, apart := false, narrowed := true }
def FnExactCountVarUptoSaid : Prop := fnExactCountVarUptoRow.holds Try.pinned (OpenSpec.upto fnExactCountVarSpec)

/-- 'laws.FnExactFreeAt', WHERE WHAT IT READS IS OF BULK AT MOST 1048576: true; the input reads as it did. -/
def fnExactFreeAtUptoRow : OpenClaim := { program := "ytbkaifclhjgokaa", sum := "f2a82cd669db7b86018806e8ad457e6abd6aa2900d28ad157676030d3960d2d8", func := "loop.example/depkernel/laws.FnExactFreeAt", spec := "fnExactFreeAt", unfollowed := true, recurses := true, loops := true, apart := false, narrowed := true }
def FnExactFreeAtUptoSaid : Prop := fnExactFreeAtUptoRow.holds Try.pinned (OpenSpec.upto fnExactFreeAtSpec)

/-- 'laws.FnMaxFree', WHERE WHAT IT READS IS OF BULK AT MOST 1048576: true; the input reads as it did. -/
def fnMaxFreeUptoRow : OpenClaim := { program := "ytbkaifclhjgokaa", sum := "f2a82cd669db7b86018806e8ad457e6abd6aa2900d28ad157676030d3960d2d8", func := "loop.example/depkernel/laws.FnMaxFree", spec := "fnMaxFree", unfollowed := true, recurses := true, apart := false, narrowed := true }
def FnMaxFreeUptoSaid : Prop := fnMaxFreeUptoRow.holds Try.pinned (OpenSpec.upto fnMaxFreeSpec)

/-- 'laws.FnShiftBack', WHERE WHAT IT READS IS OF BULK AT MOST 1048576: true; the input reads as it did. -/
def fnShiftBackUptoRow : OpenClaim := { program := "ytbkaifclhjgokaa", sum := "f2a82cd669db7b86018806e8ad457e6abd6aa2900d28ad157676030d3960d2d8", func := "loop.example/depkernel/laws.FnShiftBack", spec := "fnShiftBack", unfollowed := true, recurses := true, apart := false, narrowed := true }
def FnShiftBackUptoSaid : Prop := fnShiftBackUptoRow.holds Try.pinned (OpenSpec.upto fnShiftBackSpec)

/-- 'laws.FnExactShiftTerm', WHERE WHAT IT READS IS OF BULK AT MOST 1048576: true; the input reads as it did. -/
def fnExactShiftTermUptoRow : OpenClaim := { program := "ytbkaifclhjgokaa", sum := "f2a82cd669db7b86018806e8ad457e6abd6aa2900d28ad157676030d3960d2d8", func := "loop.example/depkernel/laws.FnExactShiftTerm", spec := "fnExactShiftTerm", unfollowed := true, recurses := true, loops := true, apart := false, narrowed := true }
def FnExactShiftTermUptoSaid : Prop := fnExactShiftTermUptoRow.holds Try.pinned (OpenSpec.upto fnExactShiftTermSpec)

/-- 'laws.FnRenameSame', WHERE WHAT IT READS IS OF BULK AT MOST 1048576: true; the input reads as it did. -/
def fnRenameSameUptoRow : OpenClaim := { program := "ytbkaifclhjgokaa", sum := "f2a82cd669db7b86018806e8ad457e6abd6aa2900d28ad157676030d3960d2d8", func := "loop.example/depkernel/laws.FnRenameSame", spec := "fnRenameSame", unfollowed := true, recurses := true, apart := false, narrowed := true }
def FnRenameSameUptoSaid : Prop := fnRenameSameUptoRow.holds Try.pinned (OpenSpec.upto fnRenameSameSpec)

/-- 'laws.FnExactSubstTerm', WHERE WHAT IT READS IS OF BULK AT MOST 1048576: true; the input reads as it did. -/
def fnExactSubstTermUptoRow : OpenClaim := { program := "ytbkaifclhjgokaa", sum := "f2a82cd669db7b86018806e8ad457e6abd6aa2900d28ad157676030d3960d2d8", func := "loop.example/depkernel/laws.FnExactSubstTerm", spec := "fnExactSubstTerm", unfollowed := true, recurses := true, loops := true, apart := false, narrowed := true }
def FnExactSubstTermUptoSaid : Prop := fnExactSubstTermUptoRow.holds Try.pinned (OpenSpec.upto fnExactSubstTermSpec)

/-- 'laws.FnFreeShift', WHERE WHAT IT READS IS OF BULK AT MOST 1048576: true; the input reads as it did. -/
def fnFreeShiftUptoRow : OpenClaim := { program := "ytbkaifclhjgokaa", sum := "f2a82cd669db7b86018806e8ad457e6abd6aa2900d28ad157676030d3960d2d8", func := "loop.example/depkernel/laws.FnFreeShift", spec := "fnFreeShift", unfollowed := true, recurses := true, apart := false, narrowed := true }
def FnFreeShiftUptoSaid : Prop := fnFreeShiftUptoRow.holds Try.pinned (OpenSpec.upto fnFreeShiftSpec)

/-- 'laws.FnExactInstantiate', WHERE WHAT IT READS IS OF BULK AT MOST 1048576: true; the input reads as it did. -/
def fnExactInstantiateUptoRow : OpenClaim := { program := "ytbkaifclhjgokaa", sum := "f2a82cd669db7b86018806e8ad457e6abd6aa2900d28ad157676030d3960d2d8", func := "loop.example/depkernel/laws.FnExactInstantiate", spec := "fnExactInstantiate", unfollowed := true, recurses := true, loops := true, apart := false, narrowed := true }
def FnExactInstantiateUptoSaid : Prop := fnExactInstantiateUptoRow.holds Try.pinned (OpenSpec.upto fnExactInstantiateSpec)

/-- 'laws.FnSubstCommute', WHERE WHAT IT READS IS OF BULK AT MOST 1048576: true; the input reads as it did. -/
def fnSubstCommuteUptoRow : OpenClaim := { program := "ytbkaifclhjgokaa", sum := "f2a82cd669db7b86018806e8ad457e6abd6aa2900d28ad157676030d3960d2d8", func := "loop.example/depkernel/laws.FnSubstCommute", spec := "fnSubstCommute", unfollowed := true, recurses := true, apart := false, narrowed := true }
def FnSubstCommuteUptoSaid : Prop := fnSubstCommuteUptoRow.holds Try.pinned (OpenSpec.upto fnSubstCommuteSpec)

end Rows
end Go.Proofs.Ytbkaifclhjgokaa
