/-
  No cell of these rows narrows 'for every input' (looked for: loops, veiled, ifaces, maps, wideKeys, modest, calm, conditions, laid).
  DERIVED. THE GIVEN ROWS OF THIS SEAT. 3 by the template 'for every input the law returns true; each argument reads behind the call as it read before'; 0 by the template 'total and deterministic' (their statements: YtmeplbnophmmdaaTotals.lean).
  GIVEN WITH THE SEED: the statements are not yours to turn. If you find one false, say at which input.
  Laid BY PROGRAM, IN A SANDBOX (cutbox-rows.mjs): the forced cells as the released guide's own fill.sh prints them over the translation 08659612c515a488… (all of the seat's roots in one cut). By AI agents, Wed Nov 11 2026. No macro, syntax, notation, axiom, sorry.
-/
import Derived.Test.YtmeplbnophmmdaaChecked
import GoSem.Claim
import GoSem.ClaimJoined
import GoSem.ClaimMapViews
import Derived.JoinedTies
import Derived.KernelRfl
namespace Go.Proofs.Ytmeplbnophmmdaa
/- THE CELL 'sum', in the pinned program and in every row, IS THE sha256 OF THE DUMP (.gsa) THAT YtmeplbnophmmdaaProg.lean LOADS. Nothing in Lean hashes anything: it is a label: what it is worth is what the hold of that sum in a sandbox is worth. -/
noncomputable def Try.pinned : Pinned := { name := "ytmeplbnophmmdaa", sum := "08659612c515a488001637093a1b5247903a611c40ecbd90be8ae89205815208", checked := Try.checked }
namespace Rows
def none {H : Type} : Left H := { results := [], args := [] }

/-- 'laws.FnRenameTerm': WHATEVER THE INPUT: true; the input reads as it did. -/
def fnRenameTermSpec : ChangeSpec := { name := "fnRenameTerm", fn := fun _ => fun
  | [d1, d2] => { results := [.lit (.bool true)], args := [d1, d2] }
  | _ => none }
def fnRenameTermRow : OpenClaim := { program := "ytmeplbnophmmdaa", sum := "08659612c515a488001637093a1b5247903a611c40ecbd90be8ae89205815208", func := "loop.example/depkernel/laws.FnRenameTerm", spec := "fnRenameTerm", unfollowed := true, recurses := true, apart := false }
def FnRenameTermSaid : Prop := fnRenameTermRow.holds Try.pinned (OpenSpec.ofChange fnRenameTermSpec)

/-- ITS FALSE NEIGHBOUR: 'it returns false'. Refute it at one input. -/
def fnRenameTermWrong : ChangeSpec := { name := "fnRenameTerm", fn := fun _ => fun
  | [d1, d2] => { results := [.lit (.bool false)], args := [d1, d2] }
  | _ => none }
def FnRenameTermWrongFalsely : Prop := fnRenameTermRow.holds Try.pinned (OpenSpec.ofChange fnRenameTermWrong)

/-- 'laws.FnNormalParts': WHATEVER THE INPUT: true; the input reads as it did. -/
def fnNormalPartsSpec : ChangeSpec := { name := "fnNormalParts", fn := fun _ => fun
  | [d] => { results := [.lit (.bool true)], args := [d] }
  | _ => none }
def fnNormalPartsRow : OpenClaim := { program := "ytmeplbnophmmdaa", sum := "08659612c515a488001637093a1b5247903a611c40ecbd90be8ae89205815208", func := "loop.example/depkernel/laws.FnNormalParts", spec := "fnNormalParts", recurses := true, apart := false }
def FnNormalPartsSaid : Prop := fnNormalPartsRow.holds Try.pinned (OpenSpec.ofChange fnNormalPartsSpec)

/-- ITS FALSE NEIGHBOUR: 'it returns false'. Refute it at one input. -/
def fnNormalPartsWrong : ChangeSpec := { name := "fnNormalParts", fn := fun _ => fun
  | [d] => { results := [.lit (.bool false)], args := [d] }
  | _ => none }
def FnNormalPartsWrongFalsely : Prop := fnNormalPartsRow.holds Try.pinned (OpenSpec.ofChange fnNormalPartsWrong)

/-- 'laws.FnCountRedexes': WHATEVER THE INPUT: true; the input reads as it did. -/
def fnCountRedexesSpec : ChangeSpec := { name := "fnCountRedexes", fn := fun _ => fun
  | [d] => { results := [.lit (.bool true)], args := [d] }
  | _ => none }
def fnCountRedexesRow : OpenClaim := { program := "ytmeplbnophmmdaa", sum := "08659612c515a488001637093a1b5247903a611c40ecbd90be8ae89205815208", func := "loop.example/depkernel/laws.FnCountRedexes", spec := "fnCountRedexes", recurses := true, apart := false }
def FnCountRedexesSaid : Prop := fnCountRedexesRow.holds Try.pinned (OpenSpec.ofChange fnCountRedexesSpec)

/-- ITS FALSE NEIGHBOUR: 'it returns false'. Refute it at one input. -/
def fnCountRedexesWrong : ChangeSpec := { name := "fnCountRedexes", fn := fun _ => fun
  | [d] => { results := [.lit (.bool false)], args := [d] }
  | _ => none }
def FnCountRedexesWrongFalsely : Prop := fnCountRedexesRow.holds Try.pinned (OpenSpec.ofChange fnCountRedexesWrong)

/- THE SECOND FORM. 'bulk': how many values and letters a reading holds, each counted each time it is reached (what is shared counts as often as it is met; a slice's spare places count too). A statement '..UptoSaid' is the law's where the arguments, and the package variables that the reading takes, are together of bulk at most 1048576: NARROWER than '..Said'. Prove '..Said' where nothing that the law and all that it calls make is longer than what came in: it says more and counts as full. Else prove '..UptoSaid'. A law counts once. -/
mutual
def uptoBulk {H : Type} : DataW H → Nat
  | .lit (.string bytes) => bytes.length + 1
  | .lit _ => 1
  | .nil => 1
  | .ptr d => uptoBulk d + 1
  | .slice elems spare => uptoBulkAll elems + uptoBulkAll spare + 1
  | .agg parts => uptoBulkAll parts + 1
  | .iface _ d => uptoBulk d + 1
  | .map entries => uptoBulkEntries entries + 1
  | .held _ => 1
def uptoBulkAll {H : Type} : List (DataW H) → Nat
  | [] => 0
  | d :: r => uptoBulk d + uptoBulkAll r
def uptoBulkEntries {H : Type} : List (Lit × DataW H) → Nat
  | [] => 0
  | x :: r => uptoBulkEntry x + uptoBulkEntries r
def uptoBulkEntry {H : Type} : Lit × DataW H → Nat
  | (.string bytes, d) => bytes.length + uptoBulk d + 1
  | (_, d) => uptoBulk d + 1
 end
def uptoSmall : (H : Type) → List (DataW H) → Bool := fun _ ds => decide (uptoBulkAll ds ≤ 1048576)
def OpenSpec.upto (s : _root_.Go.ChangeSpec) : _root_.Go.OpenSpec := { _root_.Go.OpenSpec.ofChange s with cond := some uptoSmall }

/-- 'laws.FnRenameTerm', WHERE WHAT IT READS IS OF BULK AT MOST 1048576: true; the input reads as it did. -/
def fnRenameTermUptoRow : OpenClaim := { program := "ytmeplbnophmmdaa", sum := "08659612c515a488001637093a1b5247903a611c40ecbd90be8ae89205815208", func := "loop.example/depkernel/laws.FnRenameTerm", spec := "fnRenameTerm", unfollowed := true, recurses := true, apart := false, narrowed := true }
def FnRenameTermUptoSaid : Prop := fnRenameTermUptoRow.holds Try.pinned (OpenSpec.upto fnRenameTermSpec)

/-- 'laws.FnNormalParts', WHERE WHAT IT READS IS OF BULK AT MOST 1048576: true; the input reads as it did. -/
def fnNormalPartsUptoRow : OpenClaim := { program := "ytmeplbnophmmdaa", sum := "08659612c515a488001637093a1b5247903a611c40ecbd90be8ae89205815208", func := "loop.example/depkernel/laws.FnNormalParts", spec := "fnNormalParts", recurses := true, apart := false, narrowed := true }
def FnNormalPartsUptoSaid : Prop := fnNormalPartsUptoRow.holds Try.pinned (OpenSpec.upto fnNormalPartsSpec)

/-- 'laws.FnCountRedexes', WHERE WHAT IT READS IS OF BULK AT MOST 1048576: true; the input reads as it did. -/
def fnCountRedexesUptoRow : OpenClaim := { program := "ytmeplbnophmmdaa", sum := "08659612c515a488001637093a1b5247903a611c40ecbd90be8ae89205815208", func := "loop.example/depkernel/laws.FnCountRedexes", spec := "fnCountRedexes", recurses := true, apart := false, narrowed := true }
def FnCountRedexesUptoSaid : Prop := fnCountRedexesUptoRow.holds Try.pinned (OpenSpec.upto fnCountRedexesSpec)

end Rows
end Go.Proofs.Ytmeplbnophmmdaa
