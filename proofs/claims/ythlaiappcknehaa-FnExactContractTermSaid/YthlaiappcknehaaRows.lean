/-
  NARROWER THAN 'FOR EVERY INPUT', by the rows' own cells (each row's printed sentence says how): FnExactRenameTerm: loops · FnExactRedexOf: loops · FnExactNormalTerm: loops · FnExactCountRedexes: loops · FnExactContractTerm: loops · FnExactDevelopTerm: loops.
  DERIVED. THE GIVEN ROWS OF THIS SEAT. 12 by the template 'for every input the law returns true; each argument reads behind the call as it read before'; 0 by the template 'total and deterministic' (their statements: YthlaiappcknehaaTotals.lean).
  GIVEN WITH THE SEED: the statements are not yours to turn. If you find one false, say at which input.
  Laid BY PROGRAM, IN A SANDBOX (cutbox-rows.mjs): the forced cells as the released guide's own fill.sh prints them over the translation f9fc73846c3a7f4b… (all of the seat's roots in one cut). By AI agents, Wed Nov 11 2026. No macro, syntax, notation, axiom, sorry.
-/
import Derived.Test.YthlaiappcknehaaChecked
import GoSem.Claim
import GoSem.ClaimJoined
import GoSem.ClaimMapViews
import Derived.JoinedTies
import Derived.KernelRfl
namespace Go.Proofs.Ythlaiappcknehaa
/- THE CELL 'sum', in the pinned program and in every row, IS THE sha256 OF THE DUMP (.gsa) THAT YthlaiappcknehaaProg.lean LOADS. Nothing in Lean hashes anything: it is a label: what it is worth is what the hold of that sum in a sandbox is worth. -/
noncomputable def Try.pinned : Pinned := { name := "ythlaiappcknehaa", sum := "f9fc73846c3a7f4b64abe086ca0ae58c3a4be1a8feed44348c7caeeb4f552082", checked := Try.checked }
namespace Rows
def none {H : Type} : Left H := { results := [], args := [] }

/-- 'laws.FnShiftFree': WHATEVER THE INPUT: true; the input reads as it did. -/
def fnShiftFreeSpec : ChangeSpec := { name := "fnShiftFree", fn := fun _ => fun
  | [d] => { results := [.lit (.bool true)], args := [d] }
  | _ => none }
def fnShiftFreeRow : OpenClaim := { program := "ythlaiappcknehaa", sum := "f9fc73846c3a7f4b64abe086ca0ae58c3a4be1a8feed44348c7caeeb4f552082", func := "loop.example/depkernel/laws.FnShiftFree", spec := "fnShiftFree", unfollowed := true, recurses := true, apart := false }
def FnShiftFreeSaid : Prop := fnShiftFreeRow.holds Try.pinned (OpenSpec.ofChange fnShiftFreeSpec)

/-- ITS FALSE NEIGHBOUR: 'it returns false'. Refute it at one input. -/
def fnShiftFreeWrong : ChangeSpec := { name := "fnShiftFree", fn := fun _ => fun
  | [d] => { results := [.lit (.bool false)], args := [d] }
  | _ => none }
def FnShiftFreeWrongFalsely : Prop := fnShiftFreeRow.holds Try.pinned (OpenSpec.ofChange fnShiftFreeWrong)

/-- 'laws.FnRenameTerm': WHATEVER THE INPUT: true; the input reads as it did. -/
def fnRenameTermSpec : ChangeSpec := { name := "fnRenameTerm", fn := fun _ => fun
  | [d1, d2] => { results := [.lit (.bool true)], args := [d1, d2] }
  | _ => none }
def fnRenameTermRow : OpenClaim := { program := "ythlaiappcknehaa", sum := "f9fc73846c3a7f4b64abe086ca0ae58c3a4be1a8feed44348c7caeeb4f552082", func := "loop.example/depkernel/laws.FnRenameTerm", spec := "fnRenameTerm", unfollowed := true, recurses := true, apart := false }
def FnRenameTermSaid : Prop := fnRenameTermRow.holds Try.pinned (OpenSpec.ofChange fnRenameTermSpec)

/-- ITS FALSE NEIGHBOUR: 'it returns false'. Refute it at one input. -/
def fnRenameTermWrong : ChangeSpec := { name := "fnRenameTerm", fn := fun _ => fun
  | [d1, d2] => { results := [.lit (.bool false)], args := [d1, d2] }
  | _ => none }
def FnRenameTermWrongFalsely : Prop := fnRenameTermRow.holds Try.pinned (OpenSpec.ofChange fnRenameTermWrong)

/-- 'laws.FnRenameShift': WHATEVER THE INPUT: true; the input reads as it did. -/
def fnRenameShiftSpec : ChangeSpec := { name := "fnRenameShift", fn := fun _ => fun
  | [d] => { results := [.lit (.bool true)], args := [d] }
  | _ => none }
def fnRenameShiftRow : OpenClaim := { program := "ythlaiappcknehaa", sum := "f9fc73846c3a7f4b64abe086ca0ae58c3a4be1a8feed44348c7caeeb4f552082", func := "loop.example/depkernel/laws.FnRenameShift", spec := "fnRenameShift", unfollowed := true, recurses := true, apart := false }
def FnRenameShiftSaid : Prop := fnRenameShiftRow.holds Try.pinned (OpenSpec.ofChange fnRenameShiftSpec)

/-- ITS FALSE NEIGHBOUR: 'it returns false'. Refute it at one input. -/
def fnRenameShiftWrong : ChangeSpec := { name := "fnRenameShift", fn := fun _ => fun
  | [d] => { results := [.lit (.bool false)], args := [d] }
  | _ => none }
def FnRenameShiftWrongFalsely : Prop := fnRenameShiftRow.holds Try.pinned (OpenSpec.ofChange fnRenameShiftWrong)

/-- 'laws.FnInstantiateClosed': WHATEVER THE INPUT: true; the input reads as it did. -/
def fnInstantiateClosedSpec : ChangeSpec := { name := "fnInstantiateClosed", fn := fun _ => fun
  | [d] => { results := [.lit (.bool true)], args := [d] }
  | _ => none }
def fnInstantiateClosedRow : OpenClaim := { program := "ythlaiappcknehaa", sum := "f9fc73846c3a7f4b64abe086ca0ae58c3a4be1a8feed44348c7caeeb4f552082", func := "loop.example/depkernel/laws.FnInstantiateClosed", spec := "fnInstantiateClosed", unfollowed := true, recurses := true, apart := false }
def FnInstantiateClosedSaid : Prop := fnInstantiateClosedRow.holds Try.pinned (OpenSpec.ofChange fnInstantiateClosedSpec)

/-- ITS FALSE NEIGHBOUR: 'it returns false'. Refute it at one input. -/
def fnInstantiateClosedWrong : ChangeSpec := { name := "fnInstantiateClosed", fn := fun _ => fun
  | [d] => { results := [.lit (.bool false)], args := [d] }
  | _ => none }
def FnInstantiateClosedWrongFalsely : Prop := fnInstantiateClosedRow.holds Try.pinned (OpenSpec.ofChange fnInstantiateClosedWrong)

/-- 'laws.FnSubstShift': WHATEVER THE INPUT: true; the input reads as it did. -/
def fnSubstShiftSpec : ChangeSpec := { name := "fnSubstShift", fn := fun _ => fun
  | [d] => { results := [.lit (.bool true)], args := [d] }
  | _ => none }
def fnSubstShiftRow : OpenClaim := { program := "ythlaiappcknehaa", sum := "f9fc73846c3a7f4b64abe086ca0ae58c3a4be1a8feed44348c7caeeb4f552082", func := "loop.example/depkernel/laws.FnSubstShift", spec := "fnSubstShift", unfollowed := true, recurses := true, apart := false }
def FnSubstShiftSaid : Prop := fnSubstShiftRow.holds Try.pinned (OpenSpec.ofChange fnSubstShiftSpec)

/-- ITS FALSE NEIGHBOUR: 'it returns false'. Refute it at one input. -/
def fnSubstShiftWrong : ChangeSpec := { name := "fnSubstShift", fn := fun _ => fun
  | [d] => { results := [.lit (.bool false)], args := [d] }
  | _ => none }
def FnSubstShiftWrongFalsely : Prop := fnSubstShiftRow.holds Try.pinned (OpenSpec.ofChange fnSubstShiftWrong)

/-- 'laws.FnExactRenameTerm': WHATEVER THE INPUT: true; the input reads as it did. -/
def fnExactRenameTermSpec : ChangeSpec := { name := "fnExactRenameTerm", fn := fun _ => fun
  | [d1, d2] => { results := [.lit (.bool true)], args := [d1, d2] }
  | _ => none }
def fnExactRenameTermRow : OpenClaim := { program := "ythlaiappcknehaa", sum := "f9fc73846c3a7f4b64abe086ca0ae58c3a4be1a8feed44348c7caeeb4f552082", func := "loop.example/depkernel/laws.FnExactRenameTerm", spec := "fnExactRenameTerm", unfollowed := true, recurses := true, loops := true, apart := false }
def FnExactRenameTermSaid : Prop := fnExactRenameTermRow.holds Try.pinned (OpenSpec.ofChange fnExactRenameTermSpec)

/-- ITS FALSE NEIGHBOUR: 'it returns false'. Refute it at one input. -/
def fnExactRenameTermWrong : ChangeSpec := { name := "fnExactRenameTerm", fn := fun _ => fun
  | [d1, d2] => { results := [.lit (.bool false)], args := [d1, d2] }
  | _ => none }
def FnExactRenameTermWrongFalsely : Prop := fnExactRenameTermRow.holds Try.pinned (OpenSpec.ofChange fnExactRenameTermWrong)

/-- 'laws.FnSubstFree': WHATEVER THE INPUT: true; the input reads as it did. -/
def fnSubstFreeSpec : ChangeSpec := { name := "fnSubstFree", fn := fun _ => fun
  | [d] => { results := [.lit (.bool true)], args := [d] }
  | _ => none }
def fnSubstFreeRow : OpenClaim := { program := "ythlaiappcknehaa", sum := "f9fc73846c3a7f4b64abe086ca0ae58c3a4be1a8feed44348c7caeeb4f552082", func := "loop.example/depkernel/laws.FnSubstFree", spec := "fnSubstFree", unfollowed := true, recurses := true, apart := false }
def FnSubstFreeSaid : Prop := fnSubstFreeRow.holds Try.pinned (OpenSpec.ofChange fnSubstFreeSpec)

/-- ITS FALSE NEIGHBOUR: 'it returns false'. Refute it at one input. -/
def fnSubstFreeWrong : ChangeSpec := { name := "fnSubstFree", fn := fun _ => fun
  | [d] => { results := [.lit (.bool false)], args := [d] }
  | _ => none }
def FnSubstFreeWrongFalsely : Prop := fnSubstFreeRow.holds Try.pinned (OpenSpec.ofChange fnSubstFreeWrong)

/-- 'laws.FnExactRedexOf': WHATEVER THE INPUT: true; the input reads as it did. -/
def fnExactRedexOfSpec : ChangeSpec := { name := "fnExactRedexOf", fn := fun _ => fun
  | [d] => { results := [.lit (.bool true)], args := [d] }
  | _ => none }
def fnExactRedexOfRow : OpenClaim := { program := "ythlaiappcknehaa", sum := "f9fc73846c3a7f4b64abe086ca0ae58c3a4be1a8feed44348c7caeeb4f552082", func := "loop.example/depkernel/laws.FnExactRedexOf", spec := "fnExactRedexOf", recurses := true, loops := true, apart := false }
def FnExactRedexOfSaid : Prop := fnExactRedexOfRow.holds Try.pinned (OpenSpec.ofChange fnExactRedexOfSpec)

/-- ITS FALSE NEIGHBOUR: 'it returns false'. Refute it at one input. -/
def fnExactRedexOfWrong : ChangeSpec := { name := "fnExactRedexOf", fn := fun _ => fun
  | [d] => { results := [.lit (.bool false)], args := [d] }
  | _ => none }
def FnExactRedexOfWrongFalsely : Prop := fnExactRedexOfRow.holds Try.pinned (OpenSpec.ofChange fnExactRedexOfWrong)

/-- 'laws.FnExactNormalTerm': WHATEVER THE INPUT: true; the input reads as it did. -/
def fnExactNormalTermSpec : ChangeSpec := { name := "fnExactNormalTerm", fn := fun _ => fun
  | [d] => { results := [.lit (.bool true)], args := [d] }
  | _ => none }
def fnExactNormalTermRow : OpenClaim := { program := "ythlaiappcknehaa", sum := "f9fc73846c3a7f4b64abe086ca0ae58c3a4be1a8feed44348c7caeeb4f552082", func := "loop.example/depkernel/laws.FnExactNormalTerm", spec := "fnExactNormalTerm", recurses := true, loops := true, apart := false }
def FnExactNormalTermSaid : Prop := fnExactNormalTermRow.holds Try.pinned (OpenSpec.ofChange fnExactNormalTermSpec)

/-- ITS FALSE NEIGHBOUR: 'it returns false'. Refute it at one input. -/
def fnExactNormalTermWrong : ChangeSpec := { name := "fnExactNormalTerm", fn := fun _ => fun
  | [d] => { results := [.lit (.bool false)], args := [d] }
  | _ => none }
def FnExactNormalTermWrongFalsely : Prop := fnExactNormalTermRow.holds Try.pinned (OpenSpec.ofChange fnExactNormalTermWrong)

/-- 'laws.FnExactCountRedexes': WHATEVER THE INPUT: true; the input reads as it did. -/
def fnExactCountRedexesSpec : ChangeSpec := { name := "fnExactCountRedexes", fn := fun _ => fun
  | [d] => { results := [.lit (.bool true)], args := [d] }
  | _ => none }
def fnExactCountRedexesRow : OpenClaim := { program := "ythlaiappcknehaa", sum := "f9fc73846c3a7f4b64abe086ca0ae58c3a4be1a8feed44348c7caeeb4f552082", func := "loop.example/depkernel/laws.FnExactCountRedexes", spec := "fnExactCountRedexes", recurses := true, loops := true, apart := false }
def FnExactCountRedexesSaid : Prop := fnExactCountRedexesRow.holds Try.pinned (OpenSpec.ofChange fnExactCountRedexesSpec)

/-- ITS FALSE NEIGHBOUR: 'it returns false'. Refute it at one input. -/
def fnExactCountRedexesWrong : ChangeSpec := { name := "fnExactCountRedexes", fn := fun _ => fun
  | [d] => { results := [.lit (.bool false)], args := [d] }
  | _ => none }
def FnExactCountRedexesWrongFalsely : Prop := fnExactCountRedexesRow.holds Try.pinned (OpenSpec.ofChange fnExactCountRedexesWrong)

/-- 'laws.FnExactContractTerm': WHATEVER THE INPUT: true; the input reads as it did. -/
def fnExactContractTermSpec : ChangeSpec := { name := "fnExactContractTerm", fn := fun _ => fun
  | [d] => { results := [.lit (.bool true)], args := [d] }
  | _ => none }
def fnExactContractTermRow : OpenClaim := { program := "ythlaiappcknehaa", sum := "f9fc73846c3a7f4b64abe086ca0ae58c3a4be1a8feed44348c7caeeb4f552082", func := "loop.example/depkernel/laws.FnExactContractTerm", spec := "fnExactContractTerm", unfollowed := true, recurses := true, loops := true, apart := false }
def FnExactContractTermSaid : Prop := fnExactContractTermRow.holds Try.pinned (OpenSpec.ofChange fnExactContractTermSpec)

/-- ITS FALSE NEIGHBOUR: 'it returns false'. Refute it at one input. -/
def fnExactContractTermWrong : ChangeSpec := { name := "fnExactContractTerm", fn := fun _ => fun
  | [d] => { results := [.lit (.bool false)], args := [d] }
  | _ => none }
def FnExactContractTermWrongFalsely : Prop := fnExactContractTermRow.holds Try.pinned (OpenSpec.ofChange fnExactContractTermWrong)

/-- 'laws.FnExactDevelopTerm': WHATEVER THE INPUT: true; the input reads as it did. -/
def fnExactDevelopTermSpec : ChangeSpec := { name := "fnExactDevelopTerm", fn := fun _ => fun
  | [d] => { results := [.lit (.bool true)], args := [d] }
  | _ => none }
def fnExactDevelopTermRow : OpenClaim := { program := "ythlaiappcknehaa", sum := "f9fc73846c3a7f4b64abe086ca0ae58c3a4be1a8feed44348c7caeeb4f552082", func := "loop.example/depkernel/laws.FnExactDevelopTerm", spec := "fnExactDevelopTerm", unfollowed := true, recurses := true, loops := true, apart := false }
def FnExactDevelopTermSaid : Prop := fnExactDevelopTermRow.holds Try.pinned (OpenSpec.ofChange fnExactDevelopTermSpec)

/-- ITS FALSE NEIGHBOUR: 'it returns false'. Refute it at one input. -/
def fnExactDevelopTermWrong : ChangeSpec := { name := "fnExactDevelopTerm", fn := fun _ => fun
  | [d] => { results := [.lit (.bool false)], args := [d] }
  | _ => none }
def FnExactDevelopTermWrongFalsely : Prop := fnExactDevelopTermRow.holds Try.pinned (OpenSpec.ofChange fnExactDevelopTermWrong)

/- THE SECOND FORM. 'bulk': how many values and letters a reading holds, each counted each time it is reached (what is shared counts as often as it is met; a slice's spare places count too). A statement '..UptoSaid' is the law's where the arguments, and the package variables that the reading takes, are together of bulk at most 1048576: NARROWER than '..Said'. Prove '..Said' where nothing that the law and all that it calls make is longer than what came in: it says more and counts as full. Else prove '..UptoSaid'. A law counts once. -/
mutual
def uptoBulk {H : Type} : DataW H → Nat
  | .lit (.string bytes) => bytes.length + 1
  | .lit _ => 1
  | .nil => 1
  | .ptr d => uptoBulk d + 1
  | .slice elems spare => uptoBulkAll elems + uptoBulkAll spare + 1
  | .agg parts => uptoBulkAll parts + 1
  | .iface _ d => uptoBulk d + 1
  | .map entries => uptoBulkEntries entries + 1
  | .held _ => 1
def uptoBulkAll {H : Type} : List (DataW H) → Nat
  | [] => 0
  | d :: r => uptoBulk d + uptoBulkAll r
def uptoBulkEntries {H : Type} : List (Lit × DataW H) → Nat
  | [] => 0
  | x :: r => uptoBulkEntry x + uptoBulkEntries r
def uptoBulkEntry {H : Type} : Lit × DataW H → Nat
  | (.string bytes, d) => bytes.length + uptoBulk d + 1
  | (_, d) => uptoBulk d + 1
 end
def uptoSmall : (H : Type) → List (DataW H) → Bool := fun _ ds => decide (uptoBulkAll ds ≤ 1048576)
def OpenSpec.upto (s : _root_.Go.ChangeSpec) : _root_.Go.OpenSpec := { _root_.Go.OpenSpec.ofChange s with cond := some uptoSmall }

/-- 'laws.FnShiftFree', WHERE WHAT IT READS IS OF BULK AT MOST 1048576: true; the input reads as it did. -/
def fnShiftFreeUptoRow : OpenClaim := { program := "ythlaiappcknehaa", sum := "f9fc73846c3a7f4b64abe086ca0ae58c3a4be1a8feed44348c7caeeb4f552082", func := "loop.example/depkernel/laws.FnShiftFree", spec := "fnShiftFree", unfollowed := true, recurses := true, apart := false, narrowed := true }
def FnShiftFreeUptoSaid : Prop := fnShiftFreeUptoRow.holds Try.pinned (OpenSpec.upto fnShiftFreeSpec)

/-- 'laws.FnRenameTerm', WHERE WHAT IT READS IS OF BULK AT MOST 1048576: true; the input reads as it did. -/
def fnRenameTermUptoRow : OpenClaim := { program := "ythlaiappcknehaa", sum := "f9fc73846c3a7f4b64abe086ca0ae58c3a4be1a8feed44348c7caeeb4f552082", func := "loop.example/depkernel/laws.FnRenameTerm", spec := "fnRenameTerm", unfollowed := true, recurses := true, apart := false, narrowed := true }
def FnRenameTermUptoSaid : Prop := fnRenameTermUptoRow.holds Try.pinned (OpenSpec.upto fnRenameTermSpec)

/-- 'laws.FnRenameShift', WHERE WHAT IT READS IS OF BULK AT MOST 1048576: true; the input reads as it did. -/
def fnRenameShiftUptoRow : OpenClaim := { program := "ythlaiappcknehaa", sum := "f9fc73846c3a7f4b64abe086ca0ae58c3a4be1a8feed44348c7caeeb4f552082", func := "loop.example/depkernel/laws.FnRenameShift", spec := "fnRenameShift", unfollowed := true, recurses := true, apart := false, narrowed := true }
def FnRenameShiftUptoSaid : Prop := fnRenameShiftUptoRow.holds Try.pinned (OpenSpec.upto fnRenameShiftSpec)

/-- 'laws.FnInstantiateClosed', WHERE WHAT IT READS IS OF BULK AT MOST 1048576: true; the input reads as it did. -/
def fnInstantiateClosedUptoRow : OpenClaim := { program := "ythlaiappcknehaa", sum := "f9fc73846c3a7f4b64abe086ca0ae58c3a4be1a8feed44348c7caeeb4f552082", func := "loop.example/depkernel/laws.FnInstantiateClosed", spec := "fnInstantiateClosed", unfollowed := true, recurses := true, apart := false, narrowed := true }
def FnInstantiateClosedUptoSaid : Prop := fnInstantiateClosedUptoRow.holds Try.pinned (OpenSpec.upto fnInstantiateClosedSpec)

/-- 'laws.FnSubstShift', WHERE WHAT IT READS IS OF BULK AT MOST 1048576: true; the input reads as it did. -/
def fnSubstShiftUptoRow : OpenClaim := { program := "ythlaiappcknehaa", sum := "f9fc73846c3a7f4b64abe086ca0ae58c3a4be1a8feed44348c7caeeb4f552082", func := "loop.example/depkernel/laws.FnSubstShift", spec := "fnSubstShift", unfollowed := true, recurses := true, apart := false, narrowed := true }
def FnSubstShiftUptoSaid : Prop := fnSubstShiftUptoRow.holds Try.pinned (OpenSpec.upto fnSubstShiftSpec)

/-- 'laws.FnExactRenameTerm', WHERE WHAT IT READS IS OF BULK AT MOST 1048576: true; the input reads as it did. -/
def fnExactRenameTermUptoRow : OpenClaim := { program := "ythlaiappcknehaa", sum := "f9fc73846c3a7f4b64abe086ca0ae58c3a4be1a8feed44348c7caeeb4f552082", func := "loop.example/depkernel/laws.FnExactRenameTerm", spec := "fnExactRenameTerm", unfollowed := true, recurses := true, loops := true, apart := false, narrowed := true }
def FnExactRenameTermUptoSaid : Prop := fnExactRenameTermUptoRow.holds Try.pinned (OpenSpec.upto fnExactRenameTermSpec)

/-- 'laws.FnSubstFree', WHERE WHAT IT READS IS OF BULK AT MOST 1048576: true; the input reads as it did. -/
def fnSubstFreeUptoRow : OpenClaim := { program := "ythlaiappcknehaa", sum := "f9fc73846c3a7f4b64abe086ca0ae58c3a4be1a8feed44348c7caeeb4f552082", func := "loop.example/depkernel/laws.FnSubstFree", spec := "fnSubstFree", unfollowed := true, recurses := true, apart := false, narrowed := true }
def FnSubstFreeUptoSaid : Prop := fnSubstFreeUptoRow.holds Try.pinned (OpenSpec.upto fnSubstFreeSpec)

/-- 'laws.FnExactRedexOf', WHERE WHAT IT READS IS OF BULK AT MOST 1048576: true; the input reads as it did. -/
def fnExactRedexOfUptoRow : OpenClaim := { program := "ythlaiappcknehaa", sum := "f9fc73846c3a7f4b64abe086ca0ae58c3a4be1a8feed44348c7caeeb4f552082", func := "loop.example/depkernel/laws.FnExactRedexOf", spec := "fnExactRedexOf", recurses := true, loops := true, apart := false, narrowed := true }
def FnExactRedexOfUptoSaid : Prop := fnExactRedexOfUptoRow.holds Try.pinned (OpenSpec.upto fnExactRedexOfSpec)

/-- 'laws.FnExactNormalTerm', WHERE WHAT IT READS IS OF BULK AT MOST 1048576: true; the input reads as it did. -/
def fnExactNormalTermUptoRow : OpenClaim := { program := "ythlaiappcknehaa", sum := "f9fc73846c3a7f4b64abe086ca0ae58c3a4be1a8feed44348c7caeeb4f552082", func := "loop.example/depkernel/laws.FnExactNormalTerm", spec := "fnExactNormalTerm", recurses := true, loops := true, apart := false, narrowed := true }
def FnExactNormalTermUptoSaid : Prop := fnExactNormalTermUptoRow.holds Try.pinned (OpenSpec.upto fnExactNormalTermSpec)

/-- 'laws.FnExactCountRedexes', WHERE WHAT IT READS IS OF BULK AT MOST 1048576: true; the input reads as it did. -/
def fnExactCountRedexesUptoRow : OpenClaim := { program := "ythlaiappcknehaa", sum := "f9fc73846c3a7f4b64abe086ca0ae58c3a4be1a8feed44348c7caeeb4f552082", func := "loop.example/depkernel/laws.FnExactCountRedexes", spec := "fnExactCountRedexes", recurses := true, loops := true, apart := false, narrowed := true }
def FnExactCountRedexesUptoSaid : Prop := fnExactCountRedexesUptoRow.holds Try.pinned (OpenSpec.upto fnExactCountRedexesSpec)

/-- 'laws.FnExactContractTerm', WHERE WHAT IT READS IS OF BULK AT MOST 1048576: true; the input reads as it did. -/
def fnExactContractTermUptoRow : OpenClaim := { program := "ythlaiappcknehaa", sum := "f9fc73846c3a7f4b64abe086ca0ae58c3a4be1a8feed44348c7caeeb4f552082", func := "loop.example/depkernel/laws.FnExactContractTerm", spec := "fnExactContractTerm", unfollowed := true, recurses := true, loops := true, apart := false, narrowed := true }
def FnExactContractTermUptoSaid : Prop := fnExactContractTermUptoRow.holds Try.pinned (OpenSpec.upto fnExactContractTermSpec)

/-- 'laws.FnExactDevelopTerm', WHERE WHAT IT READS IS OF BULK AT MOST 1048576: true; the input reads as it did. -/
def fnExactDevelopTermUptoRow : OpenClaim := { program := "ythlaiappcknehaa", sum := "f9fc73846c3a7f4b64abe086ca0ae58c3a4be1a8feed44348c7caeeb4f552082", func := "loop.example/depkernel/laws.FnExactDevelopTerm", spec := "fnExactDevelopTerm", unfollowed := true, recurses := true, loops := true, apart := false, narrowed := true }
def FnExactDevelopTermUptoSaid : Prop := fnExactDevelopTermUptoRow.holds Try.pinned (OpenSpec.upto fnExactDevelopTermSpec)

end Rows
end Go.Proofs.Ythlaiappcknehaa
