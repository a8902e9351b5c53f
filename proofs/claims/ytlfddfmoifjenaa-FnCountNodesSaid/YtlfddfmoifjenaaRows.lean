/-
  NARROWER THAN 'FOR EVERY INPUT', by the rows' own cells (each row's printed sentence says how): FnExactTermSame: loops · FnExactTermValid: loops · FnExactCountNodes: loops · FnExactNumeralValue: loops · FnExactTermDepth: loops.
  DERIVED. THE GIVEN ROWS OF THIS SEAT. 12 by the template 'for every input the law returns true; each argument reads behind the call as it read before'; 0 by the template 'total and deterministic' (their statements: YtlfddfmoifjenaaTotals.lean).
  GIVEN WITH THE SEED: the statements are not yours to turn. If you find one false, say at which input.
  Laid BY PROGRAM, IN A SANDBOX (cutbox-rows.mjs): the forced cells as the released guide's own fill.sh prints them over the translation c73c65737d5910fa… (all of the seat's roots in one cut). By AI agents, Wed Nov 11 2026. No macro, syntax, notation, axiom, sorry.
-/
import Derived.Test.YtlfddfmoifjenaaChecked
import GoSem.Claim
import GoSem.ClaimJoined
import GoSem.ClaimMapViews
import Derived.JoinedTies
import Derived.KernelRfl
namespace Go.Proofs.Ytlfddfmoifjenaa
/- THE CELL 'sum', in the pinned program and in every row, IS THE sha256 OF THE DUMP (.gsa) THAT YtlfddfmoifjenaaProg.lean LOADS. Nothing in Lean hashes anything: it is a label: what it is worth is what the hold of that sum in a sandbox is worth. -/
noncomputable def Try.pinned : Pinned := { name := "ytlfddfmoifjenaa", sum := "c73c65737d5910fa2c214d6fd105375ada9b7bf2f394d2924c0c46028fff3b8a", checked := Try.checked }
namespace Rows
def none {H : Type} : Left H := { results := [], args := [] }

/-- 'laws.FnExactConstants': WHATEVER THE INPUT: true; the input reads as it did. -/
def fnExactConstantsSpec : ChangeSpec := { name := "fnExactConstants", fn := fun _ => fun
  | [] => { results := [.lit (.bool true)], args := [] }
  | _ => none }
def fnExactConstantsRow : OpenClaim := { program := "ytlfddfmoifjenaa", sum := "c73c65737d5910fa2c214d6fd105375ada9b7bf2f394d2924c0c46028fff3b8a", func := "loop.example/depkernel/laws.FnExactConstants", spec := "fnExactConstants", apart := false }
def FnExactConstantsSaid : Prop := fnExactConstantsRow.holds Try.pinned (OpenSpec.ofChange fnExactConstantsSpec)

/-- ITS FALSE NEIGHBOUR: 'it returns false'. Refute it at one input. -/
def fnExactConstantsWrong : ChangeSpec := { name := "fnExactConstants", fn := fun _ => fun
  | [] => { results := [.lit (.bool false)], args := [] }
  | _ => none }
def FnExactConstantsWrongFalsely : Prop := fnExactConstantsRow.holds Try.pinned (OpenSpec.ofChange fnExactConstantsWrong)

/-- 'laws.FnNumeralOrder': WHATEVER THE INPUT: true; the input reads as it did. -/
def fnNumeralOrderSpec : ChangeSpec := { name := "fnNumeralOrder", fn := fun _ => fun
  | [d1, d2] => { results := [.lit (.bool true)], args := [d1, d2] }
  | _ => none }
def fnNumeralOrderRow : OpenClaim := { program := "ytlfddfmoifjenaa", sum := "c73c65737d5910fa2c214d6fd105375ada9b7bf2f394d2924c0c46028fff3b8a", func := "loop.example/depkernel/laws.FnNumeralOrder", spec := "fnNumeralOrder", unfollowed := true, recurses := true, apart := false }
def FnNumeralOrderSaid : Prop := fnNumeralOrderRow.holds Try.pinned (OpenSpec.ofChange fnNumeralOrderSpec)

/-- ITS FALSE NEIGHBOUR: 'it returns false'. Refute it at one input. -/
def fnNumeralOrderWrong : ChangeSpec := { name := "fnNumeralOrder", fn := fun _ => fun
  | [d1, d2] => { results := [.lit (.bool false)], args := [d1, d2] }
  | _ => none }
def FnNumeralOrderWrongFalsely : Prop := fnNumeralOrderRow.holds Try.pinned (OpenSpec.ofChange fnNumeralOrderWrong)

/-- 'laws.FnExactTermSame': WHATEVER THE INPUT: true; the input reads as it did. -/
def fnExactTermSameSpec : ChangeSpec := { name := "fnExactTermSame", fn := fun _ => fun
  | [d1, d2] => { results := [.lit (.bool true)], args := [d1, d2] }
  | _ => none }
def fnExactTermSameRow : OpenClaim := { program := "ytlfddfmoifjenaa", sum := "c73c65737d5910fa2c214d6fd105375ada9b7bf2f394d2924c0c46028fff3b8a", func := "loop.example/depkernel/laws.FnExactTermSame", spec := "fnExactTermSame", unfollowed := true, recurses := true, loops := true, apart := false }
def FnExactTermSameSaid : Prop := fnExactTermSameRow.holds Try.pinned (OpenSpec.ofChange fnExactTermSameSpec)

/-- ITS FALSE NEIGHBOUR: 'it returns false'. Refute it at one input. -/
def fnExactTermSameWrong : ChangeSpec := { name := "fnExactTermSame", fn := fun _ => fun
  | [d1, d2] => { results := [.lit (.bool false)], args := [d1, d2] }
  | _ => none }
def FnExactTermSameWrongFalsely : Prop := fnExactTermSameRow.holds Try.pinned (OpenSpec.ofChange fnExactTermSameWrong)

/-- 'laws.FnExactNumeral': WHATEVER THE INPUT: true; the input reads as it did. -/
def fnExactNumeralSpec : ChangeSpec := { name := "fnExactNumeral", fn := fun _ => fun
  | [d] => { results := [.lit (.bool true)], args := [d] }
  | _ => none }
def fnExactNumeralRow : OpenClaim := { program := "ytlfddfmoifjenaa", sum := "c73c65737d5910fa2c214d6fd105375ada9b7bf2f394d2924c0c46028fff3b8a", func := "loop.example/depkernel/laws.FnExactNumeral", spec := "fnExactNumeral", recurses := true, apart := false }
def FnExactNumeralSaid : Prop := fnExactNumeralRow.holds Try.pinned (OpenSpec.ofChange fnExactNumeralSpec)

/-- ITS FALSE NEIGHBOUR: 'it returns false'. Refute it at one input. -/
def fnExactNumeralWrong : ChangeSpec := { name := "fnExactNumeral", fn := fun _ => fun
  | [d] => { results := [.lit (.bool false)], args := [d] }
  | _ => none }
def FnExactNumeralWrongFalsely : Prop := fnExactNumeralRow.holds Try.pinned (OpenSpec.ofChange fnExactNumeralWrong)

/-- 'laws.FnExactTermValid': WHATEVER THE INPUT: true; the input reads as it did. -/
def fnExactTermValidSpec : ChangeSpec := { name := "fnExactTermValid", fn := fun _ => fun
  | [d] => { results := [.lit (.bool true)], args := [d] }
  | _ => none }
def fnExactTermValidRow : OpenClaim := { program := "ytlfddfmoifjenaa", sum := "c73c65737d5910fa2c214d6fd105375ada9b7bf2f394d2924c0c46028fff3b8a", func := "loop.example/depkernel/laws.FnExactTermValid", spec := "fnExactTermValid", recurses := true, loops := true, apart := false }
def FnExactTermValidSaid : Prop := fnExactTermValidRow.holds Try.pinned (OpenSpec.ofChange fnExactTermValidSpec)

/-- ITS FALSE NEIGHBOUR: 'it returns false'. Refute it at one input. -/
def fnExactTermValidWrong : ChangeSpec := { name := "fnExactTermValid", fn := fun _ => fun
  | [d] => { results := [.lit (.bool false)], args := [d] }
  | _ => none }
def FnExactTermValidWrongFalsely : Prop := fnExactTermValidRow.holds Try.pinned (OpenSpec.ofChange fnExactTermValidWrong)

/-- 'laws.FnNumeral': WHATEVER THE INPUT: true; the input reads as it did. -/
def fnNumeralSpec : ChangeSpec := { name := "fnNumeral", fn := fun _ => fun
  | [d] => { results := [.lit (.bool true)], args := [d] }
  | _ => none }
def fnNumeralRow : OpenClaim := { program := "ytlfddfmoifjenaa", sum := "c73c65737d5910fa2c214d6fd105375ada9b7bf2f394d2924c0c46028fff3b8a", func := "loop.example/depkernel/laws.FnNumeral", spec := "fnNumeral", unfollowed := true, recurses := true, apart := false }
def FnNumeralSaid : Prop := fnNumeralRow.holds Try.pinned (OpenSpec.ofChange fnNumeralSpec)

/-- ITS FALSE NEIGHBOUR: 'it returns false'. Refute it at one input. -/
def fnNumeralWrong : ChangeSpec := { name := "fnNumeral", fn := fun _ => fun
  | [d] => { results := [.lit (.bool false)], args := [d] }
  | _ => none }
def FnNumeralWrongFalsely : Prop := fnNumeralRow.holds Try.pinned (OpenSpec.ofChange fnNumeralWrong)

/-- 'laws.FnExactCountNodes': WHATEVER THE INPUT: true; the input reads as it did. -/
def fnExactCountNodesSpec : ChangeSpec := { name := "fnExactCountNodes", fn := fun _ => fun
  | [d] => { results := [.lit (.bool true)], args := [d] }
  | _ => none }
def fnExactCountNodesRow : OpenClaim := { program := "ytlfddfmoifjenaa", sum := "c73c65737d5910fa2c214d6fd105375ada9b7bf2f394d2924c0c46028fff3b8a", func := "loop.example/depkernel/laws.FnExactCountNodes", spec := "fnExactCountNodes", recurses := true, loops := true, apart := false }
def FnExactCountNodesSaid : Prop := fnExactCountNodesRow.holds Try.pinned (OpenSpec.ofChange fnExactCountNodesSpec)

/-- ITS FALSE NEIGHBOUR: 'it returns false'. Refute it at one input. -/
def fnExactCountNodesWrong : ChangeSpec := { name := "fnExactCountNodes", fn := fun _ => fun
  | [d] => { results := [.lit (.bool false)], args := [d] }
  | _ => none }
def FnExactCountNodesWrongFalsely : Prop := fnExactCountNodesRow.holds Try.pinned (OpenSpec.ofChange fnExactCountNodesWrong)

/-- 'laws.FnSameParts': WHATEVER THE INPUT: true; the input reads as it did. -/
def fnSamePartsSpec : ChangeSpec := { name := "fnSameParts", fn := fun _ => fun
  | [d] => { results := [.lit (.bool true)], args := [d] }
  | _ => none }
def fnSamePartsRow : OpenClaim := { program := "ytlfddfmoifjenaa", sum := "c73c65737d5910fa2c214d6fd105375ada9b7bf2f394d2924c0c46028fff3b8a", func := "loop.example/depkernel/laws.FnSameParts", spec := "fnSameParts", unfollowed := true, recurses := true, apart := false }
def FnSamePartsSaid : Prop := fnSamePartsRow.holds Try.pinned (OpenSpec.ofChange fnSamePartsSpec)

/-- ITS FALSE NEIGHBOUR: 'it returns false'. Refute it at one input. -/
def fnSamePartsWrong : ChangeSpec := { name := "fnSameParts", fn := fun _ => fun
  | [d] => { results := [.lit (.bool false)], args := [d] }
  | _ => none }
def FnSamePartsWrongFalsely : Prop := fnSamePartsRow.holds Try.pinned (OpenSpec.ofChange fnSamePartsWrong)

/-- 'laws.FnExactNumeralValue': WHATEVER THE INPUT: true; the input reads as it did. -/
def fnExactNumeralValueSpec : ChangeSpec := { name := "fnExactNumeralValue", fn := fun _ => fun
  | [d] => { results := [.lit (.bool true)], args := [d] }
  | _ => none }
def fnExactNumeralValueRow : OpenClaim := { program := "ytlfddfmoifjenaa", sum := "c73c65737d5910fa2c214d6fd105375ada9b7bf2f394d2924c0c46028fff3b8a", func := "loop.example/depkernel/laws.FnExactNumeralValue", spec := "fnExactNumeralValue", recurses := true, loops := true, apart := false }
def FnExactNumeralValueSaid : Prop := fnExactNumeralValueRow.holds Try.pinned (OpenSpec.ofChange fnExactNumeralValueSpec)

/-- ITS FALSE NEIGHBOUR: 'it returns false'. Refute it at one input. -/
def fnExactNumeralValueWrong : ChangeSpec := { name := "fnExactNumeralValue", fn := fun _ => fun
  | [d] => { results := [.lit (.bool false)], args := [d] }
  | _ => none }
def FnExactNumeralValueWrongFalsely : Prop := fnExactNumeralValueRow.holds Try.pinned (OpenSpec.ofChange fnExactNumeralValueWrong)

/-- 'laws.FnExactTermDepth': WHATEVER THE INPUT: true; the input reads as it did. -/
def fnExactTermDepthSpec : ChangeSpec := { name := "fnExactTermDepth", fn := fun _ => fun
  | [d] => { results := [.lit (.bool true)], args := [d] }
  | _ => none }
def fnExactTermDepthRow : OpenClaim := { program := "ytlfddfmoifjenaa", sum := "c73c65737d5910fa2c214d6fd105375ada9b7bf2f394d2924c0c46028fff3b8a", func := "loop.example/depkernel/laws.FnExactTermDepth", spec := "fnExactTermDepth", recurses := true, loops := true, apart := false }
def FnExactTermDepthSaid : Prop := fnExactTermDepthRow.holds Try.pinned (OpenSpec.ofChange fnExactTermDepthSpec)

/-- ITS FALSE NEIGHBOUR: 'it returns false'. Refute it at one input. -/
def fnExactTermDepthWrong : ChangeSpec := { name := "fnExactTermDepth", fn := fun _ => fun
  | [d] => { results := [.lit (.bool false)], args := [d] }
  | _ => none }
def FnExactTermDepthWrongFalsely : Prop := fnExactTermDepthRow.holds Try.pinned (OpenSpec.ofChange fnExactTermDepthWrong)

/-- 'laws.FnTermParts': WHATEVER THE INPUT: true; the input reads as it did. -/
def fnTermPartsSpec : ChangeSpec := { name := "fnTermParts", fn := fun _ => fun
  | [d] => { results := [.lit (.bool true)], args := [d] }
  | _ => none }
def fnTermPartsRow : OpenClaim := { program := "ytlfddfmoifjenaa", sum := "c73c65737d5910fa2c214d6fd105375ada9b7bf2f394d2924c0c46028fff3b8a", func := "loop.example/depkernel/laws.FnTermParts", spec := "fnTermParts", recurses := true, apart := false }
def FnTermPartsSaid : Prop := fnTermPartsRow.holds Try.pinned (OpenSpec.ofChange fnTermPartsSpec)

/-- ITS FALSE NEIGHBOUR: 'it returns false'. Refute it at one input. -/
def fnTermPartsWrong : ChangeSpec := { name := "fnTermParts", fn := fun _ => fun
  | [d] => { results := [.lit (.bool false)], args := [d] }
  | _ => none }
def FnTermPartsWrongFalsely : Prop := fnTermPartsRow.holds Try.pinned (OpenSpec.ofChange fnTermPartsWrong)

/-- 'laws.FnCountNodes': WHATEVER THE INPUT: true; the input reads as it did. -/
def fnCountNodesSpec : ChangeSpec := { name := "fnCountNodes", fn := fun _ => fun
  | [d] => { results := [.lit (.bool true)], args := [d] }
  | _ => none }
def fnCountNodesRow : OpenClaim := { program := "ytlfddfmoifjenaa", sum := "c73c65737d5910fa2c214d6fd105375ada9b7bf2f394d2924c0c46028fff3b8a", func := "loop.example/depkernel/laws.FnCountNodes", spec := "fnCountNodes", recurses := true, apart := false }
def FnCountNodesSaid : Prop := fnCountNodesRow.holds Try.pinned (OpenSpec.ofChange fnCountNodesSpec)

/-- ITS FALSE NEIGHBOUR: 'it returns false'. Refute it at one input. -/
def fnCountNodesWrong : ChangeSpec := { name := "fnCountNodes", fn := fun _ => fun
  | [d] => { results := [.lit (.bool false)], args := [d] }
  | _ => none }
def FnCountNodesWrongFalsely : Prop := fnCountNodesRow.holds Try.pinned (OpenSpec.ofChange fnCountNodesWrong)

/- THE SECOND FORM. 'bulk': how many values and letters a reading holds, each counted each time it is reached (what is shared counts as often as it is met; a slice's spare places count too). A statement '..UptoSaid' is the law's where the arguments, and the package variables that the reading takes, are together of bulk at most 1048576: NARROWER than '..Said'. Prove '..Said' where nothing that the law and all that it calls make is longer than what came in: it says more and counts as full. Else prove '..UptoSaid'. A law counts once. -/
mutual
def uptoBulk {H : Type} : DataW H → Nat
  | .lit (.string bytes) => bytes.length + 1
  | .lit _ => 1
  | .nil => 1
  | .ptr d => uptoBulk d + 1
  | .slice elems spare => uptoBulkAll elems + uptoBulkAll spare + 1
  | .agg parts => uptoBulkAll parts + 1
  | .iface _ d => uptoBulk d + 1
  | .map entries => uptoBulkEntries entries + 1
  | .held _ => 1
def uptoBulkAll {H : Type} : List (DataW H) → Nat
  | [] => 0
  | d :: r => uptoBulk d + uptoBulkAll r
def uptoBulkEntries {H : Type} : List (Lit × DataW H) → Nat
  | [] => 0
  | x :: r => uptoBulkEntry x + uptoBulkEntries r
def uptoBulkEntry {H : Type} : Lit × DataW H → Nat
  | (.string bytes, d) => bytes.length + uptoBulk d + 1
  | (_, d) => uptoBulk d + 1
 end
def uptoSmall : (H : Type) → List (DataW H) → Bool := fun _ ds => decide (uptoBulkAll ds ≤ 1048576)
def OpenSpec.upto (s : _root_.Go.ChangeSpec) : _root_.Go.OpenSpec := { _root_.Go.OpenSpec.ofChange s with cond := some uptoSmall }

/-- 'laws.FnExactConstants', WHERE WHAT IT READS IS OF BULK AT MOST 1048576: true; the input reads as it did. -/
def fnExactConstantsUptoRow : OpenClaim := { program := "ytlfddfmoifjenaa", sum := "c73c65737d5910fa2c214d6fd105375ada9b7bf2f394d2924c0c46028fff3b8a", func := "loop.example/depkernel/laws.FnExactConstants", spec := "fnExactConstants", apart := false, narrowed := true }
def FnExactConstantsUptoSaid : Prop := fnExactConstantsUptoRow.holds Try.pinned (OpenSpec.upto fnExactConstantsSpec)

/-- 'laws.FnNumeralOrder', WHERE WHAT IT READS IS OF BULK AT MOST 1048576: true; the input reads as it did. -/
def fnNumeralOrderUptoRow : OpenClaim := { program := "ytlfddfmoifjenaa", sum := "c73c65737d5910fa2c214d6fd105375ada9b7bf2f394d2924c0c46028fff3b8a", func := "loop.example/depkernel/laws.FnNumeralOrder", spec := "fnNumeralOrder", unfollowed := true, recurses := true, apart := false, narrowed := true }
def FnNumeralOrderUptoSaid : Prop := fnNumeralOrderUptoRow.holds Try.pinned (OpenSpec.upto fnNumeralOrderSpec)

/-- 'laws.FnExactTermSame', WHERE WHAT IT READS IS OF BULK AT MOST 1048576: true; the input reads as it did. -/
def fnExactTermSameUptoRow : OpenClaim := { program := "ytlfddfmoifjenaa", sum := "c73c65737d5910fa2c214d6fd105375ada9b7bf2f394d2924c0c46028fff3b8a", func := "loop.example/depkernel/laws.FnExactTermSame", spec := "fnExactTermSame", unfollowed := true, recurses := true, loops := true, apart := false, narrowed := true }
def FnExactTermSameUptoSaid : Prop := fnExactTermSameUptoRow.holds Try.pinned (OpenSpec.upto fnExactTermSameSpec)

/-- 'laws.FnExactNumeral', WHERE WHAT IT READS IS OF BULK AT MOST 1048576: true; the input reads as it did. -/
def fnExactNumeralUptoRow : OpenClaim := { program := "ytlfddfmoifjenaa", sum := "c73c65737d5910fa2c214d6fd105375ada9b7bf2f394d2924c0c46028fff3b8a", func := "loop.example/depkernel/laws.FnExactNumeral", spec := "fnExactNumeral", recurses := true, apart := false, narrowed := true }
def FnExactNumeralUptoSaid : Prop := fnExactNumeralUptoRow.holds Try.pinned (OpenSpec.upto fnExactNumeralSpec)

/-- 'laws.FnExactTermValid', WHERE WHAT IT READS IS OF BULK AT MOST 1048576: true; the input reads as it did. -/
def fnExactTermValidUptoRow : OpenClaim := { program := "ytlfddfmoifjenaa", sum := "c73c65737d5910fa2c214d6fd105375ada9b7bf2f394d2924c0c46028fff3b8a", func := "loop.example/depkernel/laws.FnExactTermValid", spec := "fnExactTermValid", recurses := true, loops := true, apart := false, narrowed := true }
def FnExactTermValidUptoSaid : Prop := fnExactTermValidUptoRow.holds Try.pinned (OpenSpec.upto fnExactTermValidSpec)

/-- 'laws.FnNumeral', WHERE WHAT IT READS IS OF BULK AT MOST 1048576: true; the input reads as it did. -/
def fnNumeralUptoRow : OpenClaim := { program := "ytlfddfmoifjenaa", sum := "c73c65737d5910fa2c214d6fd105375ada9b7bf2f394d2924c0c46028fff3b8a", func := "loop.example/depkernel/laws.FnNumeral", spec := "fnNumeral", unfollowed := true, recurses := true, apart := false, narrowed := true }
def FnNumeralUptoSaid : Prop := fnNumeralUptoRow.holds Try.pinned (OpenSpec.upto fnNumeralSpec)

/-- 'laws.FnExactCountNodes', WHERE WHAT IT READS IS OF BULK AT MOST 1048576: true; the input reads as it did. -/
def fnExactCountNodesUptoRow : OpenClaim := { program := "ytlfddfmoifjenaa", sum := "c73c65737d5910fa2c214d6fd105375ada9b7bf2f394d2924c0c46028fff3b8a", func := "loop.example/depkernel/laws.FnExactCountNodes", spec := "fnExactCountNodes", recurses := true, loops := true, apart := false, narrowed := true }
def FnExactCountNodesUptoSaid : Prop := fnExactCountNodesUptoRow.holds Try.pinned (OpenSpec.upto fnExactCountNodesSpec)

/-- 'laws.FnSameParts', WHERE WHAT IT READS IS OF BULK AT MOST 1048576: true; the input reads as it did. -/
def fnSamePartsUptoRow : OpenClaim := { program := "ytlfddfmoifjenaa", sum := "c73c65737d5910fa2c214d6fd105375ada9b7bf2f394d2924c0c46028fff3b8a", func := "loop.example/depkernel/laws.FnSameParts", spec := "fnSameParts", unfollowed := true, recurses := true, apart := false, narrowed := true }
def FnSamePartsUptoSaid : Prop := fnSamePartsUptoRow.holds Try.pinned (OpenSpec.upto fnSamePartsSpec)

/-- 'laws.FnExactNumeralValue', WHERE WHAT IT READS IS OF BULK AT MOST 1048576: true; the input reads as it did. -/
def fnExactNumeralValueUptoRow : OpenClaim := { program := "ytlfddfmoifjenaa", sum := "c73c65737d5910fa2c214d6fd105375ada9b7bf2f394d2924c0c46028fff3b8a", func := "loop.example/depkernel/laws.FnExactNumeralValue", spec := "fnExactNumeralValue", recurses := true, loops := true, apart := false, narrowed := true }
def FnExactNumeralValueUptoSaid : Prop := fnExactNumeralValueUptoRow.holds Try.pinned (OpenSpec.upto fnExactNumeralValueSpec)

/-- 'laws.FnExactTermDepth', WHERE WHAT IT READS IS OF BULK AT MOST 1048576: true; the input reads as it did. -/
def fnExactTermDepthUptoRow : OpenClaim := { program := "ytlfddfmoifjenaa", sum := "c73c65737d5910fa2c214d6fd105375ada9b7bf2f394d2924c0c46028fff3b8a", func := "loop.example/depkernel/laws.FnExactTermDepth", spec := "fnExactTermDepth", recurses := true, loops := true, apart := false, narrowed := true }
def FnExactTermDepthUptoSaid : Prop := fnExactTermDepthUptoRow.holds Try.pinned (OpenSpec.upto fnExactTermDepthSpec)

/-- 'laws.FnTermParts', WHERE WHAT IT READS IS OF BULK AT MOST 1048576: true; the input reads as it did. -/
def fnTermPartsUptoRow : OpenClaim := { program := "ytlfddfmoifjenaa", sum := "c73c65737d5910fa2c214d6fd105375ada9b7bf2f394d2924c0c46028fff3b8a", func := "loop.example/depkernel/laws.FnTermParts", spec := "fnTermParts", recurses := true, apart := false, narrowed := true }
def FnTermPartsUptoSaid : Prop := fnTermPartsUptoRow.holds Try.pinned (OpenSpec.upto fnTermPartsSpec)

/-- 'laws.FnCountNodes', WHERE WHAT IT READS IS OF BULK AT MOST 1048576: true; the input reads as it did. -/
def fnCountNodesUptoRow : OpenClaim := { program := "ytlfddfmoifjenaa", sum := "c73c65737d5910fa2c214d6fd105375ada9b7bf2f394d2924c0c46028fff3b8a", func := "loop.example/depkernel/laws.FnCountNodes", spec := "fnCountNodes", recurses := true, apart := false, narrowed := true }
def FnCountNodesUptoSaid : Prop := fnCountNodesUptoRow.holds Try.pinned (OpenSpec.upto fnCountNodesSpec)

end Rows
end Go.Proofs.Ytlfddfmoifjenaa
