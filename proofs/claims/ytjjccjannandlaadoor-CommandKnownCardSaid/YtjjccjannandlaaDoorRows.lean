/-
  NARROWER THAN 'FOR EVERY INPUT', by the rows' own cells (each row's printed sentence says how): CommandChecks: laid · CommandFits: laid · CommandKnown: laid.
  DERIVED. THE GIVEN ROWS OF THIS SEAT. 3 by the template 'for every input the law returns true; each argument reads behind the call as it read before'; 0 by the template 'total and deterministic' (their statements: YtjjccjannandlaaDoorTotals.lean).
  GIVEN WITH THE SEED: the statements are not yours to turn. If you find one false, say at which input.
  Laid BY PROGRAM, IN A SANDBOX (cutbox-rows.mjs): the forced cells as the released guide's own fill.sh prints them over the translation cfc58cb4a0783ec5… (all of the seat's roots in one cut). By AI agents, Wed Nov 11 2026. No macro, syntax, notation, axiom, sorry.
-/
import Derived.Test.YtjjccjannandlaaDoorChecked
import GoSem.Claim
import GoSem.ClaimJoined
import GoSem.ClaimMapViews
import Derived.JoinedTies
import Derived.KernelRfl
namespace Go.Proofs.YtjjccjannandlaaDoor
/- THE CELL 'sum', in the pinned program and in every row, IS THE sha256 OF THE DUMP (.gsa) THAT YtjjccjannandlaaDoorProg.lean LOADS. Nothing in Lean hashes anything: it is a label: what it is worth is what the hold of that sum in a sandbox is worth. -/
noncomputable def Tryd.pinned : Pinned := { name := "ytjjccjannandlaadoor", sum := "cfc58cb4a0783ec5a9dd767f6f186ac71d1da3e560c28111fab5b012807ce286", checked := Tryd.checked }
namespace Rows
def none {H : Type} : Left H := { results := [], args := [] }

/- WHAT THE LISTED PACKAGE-LEVEL VARIABLES READ AS WHEN THE CALL BEGINS. Each datum BY PROGRAM (the guide's laid-datum.mjs) off the statement by which the dump's own 'gosem.cut.vars' lays the variable. In a bare row this is a premise. The card (YtjjccjannandlaaDoorCards.lean) ties it to the program's text. -/
def laid_quayside_schema_policies {H : Type} : DataW H := .agg [.lit (.int .i64 0), .lit (.int .i64 2), .lit (.int .i64 14), .lit (.int .i64 6), .lit (.int .i64 6)]
def laid_quayside_schema_kinds {H : Type} : DataW H := .agg [.lit (.int .i64 0), .lit (.int .i64 1), .lit (.int .i64 2), .lit (.int .i64 3), .lit (.int .i64 3), .lit (.int .i64 4)]

/-- 'quaysidelaw08.CommandChecks': WHATEVER THE INPUT: true; the input reads as it did. -/
def commandChecksSpec : ChangeSpec := { name := "commandChecks", fn := fun _ => fun
  | [d1, d2, d3, d4, d5] => { results := [.lit (.bool true)], args := [d1, d2, d3, d4, d5] }
  | _ => none }
def commandChecksRow : OpenClaim := { program := "ytjjccjannandlaadoor", sum := "cfc58cb4a0783ec5a9dd767f6f186ac71d1da3e560c28111fab5b012807ce286", func := "quayside/quaysidelaw08.CommandChecks", spec := "commandChecks", unfollowed := true, recurses := true, named := ["quayside/schema.policies", "quayside/schema.kinds"], apart := false, laid := [("quayside/schema.policies", laid_quayside_schema_policies), ("quayside/schema.kinds", laid_quayside_schema_kinds)] }
def CommandChecksSaid : Prop := commandChecksRow.holds Tryd.pinned (OpenSpec.ofChange commandChecksSpec)

/-- ITS FALSE NEIGHBOUR: 'it returns false'. Refute it at one input. -/
def commandChecksWrong : ChangeSpec := { name := "commandChecks", fn := fun _ => fun
  | [d1, d2, d3, d4, d5] => { results := [.lit (.bool false)], args := [d1, d2, d3, d4, d5] }
  | _ => none }
def CommandChecksWrongFalsely : Prop := commandChecksRow.holds Tryd.pinned (OpenSpec.ofChange commandChecksWrong)

/-- 'quaysidelaw08.CommandFits': WHATEVER THE INPUT: true; the input reads as it did. -/
def commandFitsSpec : ChangeSpec := { name := "commandFits", fn := fun _ => fun
  | [d1, d2, d3, d4, d5] => { results := [.lit (.bool true)], args := [d1, d2, d3, d4, d5] }
  | _ => none }
def commandFitsRow : OpenClaim := { program := "ytjjccjannandlaadoor", sum := "cfc58cb4a0783ec5a9dd767f6f186ac71d1da3e560c28111fab5b012807ce286", func := "quayside/quaysidelaw08.CommandFits", spec := "commandFits", unfollowed := true, recurses := true, named := ["quayside/schema.policies", "quayside/schema.kinds"], apart := false, laid := [("quayside/schema.policies", laid_quayside_schema_policies), ("quayside/schema.kinds", laid_quayside_schema_kinds)] }
def CommandFitsSaid : Prop := commandFitsRow.holds Tryd.pinned (OpenSpec.ofChange commandFitsSpec)

/-- ITS FALSE NEIGHBOUR: 'it returns false'. Refute it at one input. -/
def commandFitsWrong : ChangeSpec := { name := "commandFits", fn := fun _ => fun
  | [d1, d2, d3, d4, d5] => { results := [.lit (.bool false)], args := [d1, d2, d3, d4, d5] }
  | _ => none }
def CommandFitsWrongFalsely : Prop := commandFitsRow.holds Tryd.pinned (OpenSpec.ofChange commandFitsWrong)

/-- 'quaysidelaw08.CommandKnown': WHATEVER THE INPUT: true; the input reads as it did. -/
def commandKnownSpec : ChangeSpec := { name := "commandKnown", fn := fun _ => fun
  | [] => { results := [.lit (.bool true)], args := [] }
  | _ => none }
def commandKnownRow : OpenClaim := { program := "ytjjccjannandlaadoor", sum := "cfc58cb4a0783ec5a9dd767f6f186ac71d1da3e560c28111fab5b012807ce286", func := "quayside/quaysidelaw08.CommandKnown", spec := "commandKnown", unfollowed := true, recurses := true, named := ["quayside/schema.policies", "quayside/schema.kinds"], apart := false, laid := [("quayside/schema.policies", laid_quayside_schema_policies), ("quayside/schema.kinds", laid_quayside_schema_kinds)] }
def CommandKnownSaid : Prop := commandKnownRow.holds Tryd.pinned (OpenSpec.ofChange commandKnownSpec)

/-- ITS FALSE NEIGHBOUR: 'it returns false'. Refute it at one input. -/
def commandKnownWrong : ChangeSpec := { name := "commandKnown", fn := fun _ => fun
  | [] => { results := [.lit (.bool false)], args := [] }
  | _ => none }
def CommandKnownWrongFalsely : Prop := commandKnownRow.holds Tryd.pinned (OpenSpec.ofChange commandKnownWrong)

/- THE SECOND FORM. 'bulk': how many values and letters a reading holds, each counted each time it is reached (what is shared counts as often as it is met; a slice's spare places count too). A statement '..UptoSaid' is the law's where the arguments, and the package variables that the reading takes, are together of bulk at most 1048576: NARROWER than '..Said'. Prove '..Said' where nothing that the law and all that it calls make is longer than what came in: it says more and counts as full. Else prove '..UptoSaid'. A law counts once. -/
mutual
def uptoBulk {H : Type} : DataW H → Nat
  | .lit (.string bytes) => bytes.length + 1
  | .lit _ => 1
  | .nil => 1
  | .ptr d => uptoBulk d + 1
  | .slice elems spare => uptoBulkAll elems + uptoBulkAll spare + 1
  | .agg parts => uptoBulkAll parts + 1
  | .iface _ d => uptoBulk d + 1
  | .map entries => uptoBulkEntries entries + 1
  | .held _ => 1
def uptoBulkAll {H : Type} : List (DataW H) → Nat
  | [] => 0
  | d :: r => uptoBulk d + uptoBulkAll r
def uptoBulkEntries {H : Type} : List (Lit × DataW H) → Nat
  | [] => 0
  | x :: r => uptoBulkEntry x + uptoBulkEntries r
def uptoBulkEntry {H : Type} : Lit × DataW H → Nat
  | (.string bytes, d) => bytes.length + uptoBulk d + 1
  | (_, d) => uptoBulk d + 1
 end
def uptoSmall : (H : Type) → List (DataW H) → Bool := fun _ ds => decide (uptoBulkAll ds ≤ 1048576)
def OpenSpec.upto (s : _root_.Go.ChangeSpec) : _root_.Go.OpenSpec := { _root_.Go.OpenSpec.ofChange s with cond := some uptoSmall }

/-- 'quaysidelaw08.CommandChecks', WHERE WHAT IT READS IS OF BULK AT MOST 1048576: true; the input reads as it did. -/
def commandChecksUptoRow : OpenClaim := { program := "ytjjccjannandlaadoor", sum := "cfc58cb4a0783ec5a9dd767f6f186ac71d1da3e560c28111fab5b012807ce286", func := "quayside/quaysidelaw08.CommandChecks", spec := "commandChecks", unfollowed := true, recurses := true, named := ["quayside/schema.policies", "quayside/schema.kinds"], apart := false, laid := [("quayside/schema.policies", laid_quayside_schema_policies), ("quayside/schema.kinds", laid_quayside_schema_kinds)], narrowed := true }
def CommandChecksUptoSaid : Prop := commandChecksUptoRow.holds Tryd.pinned (OpenSpec.upto commandChecksSpec)

/-- 'quaysidelaw08.CommandFits', WHERE WHAT IT READS IS OF BULK AT MOST 1048576: true; the input reads as it did. -/
def commandFitsUptoRow : OpenClaim := { program := "ytjjccjannandlaadoor", sum := "cfc58cb4a0783ec5a9dd767f6f186ac71d1da3e560c28111fab5b012807ce286", func := "quayside/quaysidelaw08.CommandFits", spec := "commandFits", unfollowed := true, recurses := true, named := ["quayside/schema.policies", "quayside/schema.kinds"], apart := false, laid := [("quayside/schema.policies", laid_quayside_schema_policies), ("quayside/schema.kinds", laid_quayside_schema_kinds)], narrowed := true }
def CommandFitsUptoSaid : Prop := commandFitsUptoRow.holds Tryd.pinned (OpenSpec.upto commandFitsSpec)

/-- 'quaysidelaw08.CommandKnown', WHERE WHAT IT READS IS OF BULK AT MOST 1048576: true; the input reads as it did. -/
def commandKnownUptoRow : OpenClaim := { program := "ytjjccjannandlaadoor", sum := "cfc58cb4a0783ec5a9dd767f6f186ac71d1da3e560c28111fab5b012807ce286", func := "quayside/quaysidelaw08.CommandKnown", spec := "commandKnown", unfollowed := true, recurses := true, named := ["quayside/schema.policies", "quayside/schema.kinds"], apart := false, laid := [("quayside/schema.policies", laid_quayside_schema_policies), ("quayside/schema.kinds", laid_quayside_schema_kinds)], narrowed := true }
def CommandKnownUptoSaid : Prop := commandKnownUptoRow.holds Tryd.pinned (OpenSpec.upto commandKnownSpec)

end Rows
end Go.Proofs.YtjjccjannandlaaDoor
