/-
  NARROWER THAN 'FOR EVERY INPUT', by the rows' own cells (each row's printed sentence says how): SchemaChecks: laid · SchemaParts: laid · SchemaFits: laid · SchemaKnown: laid.
  DERIVED. THE GIVEN ROWS OF THIS SEAT. 4 by the template 'for every input the law returns true; each argument reads behind the call as it read before'; 0 by the template 'total and deterministic' (their statements: YtamnligooelmgaaDoorTotals.lean).
  GIVEN WITH THE SEED: the statements are not yours to turn. If you find one false, say at which input.
  Laid BY PROGRAM, IN A SANDBOX (cutbox-rows.mjs): the forced cells as the released guide's own fill.sh prints them over the translation c0a1dda759b706bd… (all of the seat's roots in one cut). By AI agents, Wed Nov 11 2026. No macro, syntax, notation, axiom, sorry.
-/
import Derived.Test.YtamnligooelmgaaDoorChecked
import GoSem.Claim
import GoSem.ClaimJoined
import GoSem.ClaimMapViews
import Derived.JoinedTies
import Derived.KernelRfl
namespace Go.Proofs.YtamnligooelmgaaDoor
/- THE CELL 'sum', in the pinned program and in every row, IS THE sha256 OF THE DUMP (.gsa) THAT YtamnligooelmgaaDoorProg.lean LOADS. Nothing in Lean hashes anything: it is a label: what it is worth is what the hold of that sum in a sandbox is worth. -/
noncomputable def Tryd.pinned : Pinned := { name := "ytamnligooelmgaadoor", sum := "c0a1dda759b706bdef6b18e6961195bd1e0577feee0cd34fbaf581218105c32d", checked := Tryd.checked }
namespace Rows
def none {H : Type} : Left H := { results := [], args := [] }

/- WHAT THE LISTED PACKAGE-LEVEL VARIABLES READ AS WHEN THE CALL BEGINS. Each datum BY PROGRAM (the guide's laid-datum.mjs) off the statement by which the dump's own 'gosem.cut.vars' lays the variable. In a bare row this is a premise. The card (YtamnligooelmgaaDoorCards.lean) ties it to the program's text. -/
def laid_quayside_schema_policies {H : Type} : DataW H := .agg [.lit (.int .i64 0), .lit (.int .i64 2), .lit (.int .i64 14), .lit (.int .i64 6), .lit (.int .i64 6)]
def laid_quayside_schema_kinds {H : Type} : DataW H := .agg [.lit (.int .i64 0), .lit (.int .i64 1), .lit (.int .i64 2), .lit (.int .i64 3), .lit (.int .i64 3), .lit (.int .i64 4)]

/-- 'quaysidelaw06.SchemaChecks': WHATEVER THE INPUT: true; the input reads as it did. -/
def schemaChecksSpec : ChangeSpec := { name := "schemaChecks", fn := fun _ => fun
  | [d1, d2, d3, d4, d5] => { results := [.lit (.bool true)], args := [d1, d2, d3, d4, d5] }
  | _ => none }
def schemaChecksRow : OpenClaim := { program := "ytamnligooelmgaadoor", sum := "c0a1dda759b706bdef6b18e6961195bd1e0577feee0cd34fbaf581218105c32d", func := "quayside/quaysidelaw06.SchemaChecks", spec := "schemaChecks", unfollowed := true, recurses := true, named := ["quayside/schema.policies", "quayside/schema.kinds"], apart := false, laid := [("quayside/schema.policies", laid_quayside_schema_policies), ("quayside/schema.kinds", laid_quayside_schema_kinds)] }
def SchemaChecksSaid : Prop := schemaChecksRow.holds Tryd.pinned (OpenSpec.ofChange schemaChecksSpec)

/-- ITS FALSE NEIGHBOUR: 'it returns false'. Refute it at one input. -/
def schemaChecksWrong : ChangeSpec := { name := "schemaChecks", fn := fun _ => fun
  | [d1, d2, d3, d4, d5] => { results := [.lit (.bool false)], args := [d1, d2, d3, d4, d5] }
  | _ => none }
def SchemaChecksWrongFalsely : Prop := schemaChecksRow.holds Tryd.pinned (OpenSpec.ofChange schemaChecksWrong)

/-- 'quaysidelaw06.SchemaParts': WHATEVER THE INPUT: true; the input reads as it did. -/
def schemaPartsSpec : ChangeSpec := { name := "schemaParts", fn := fun _ => fun
  | [d1, d2, d3, d4] => { results := [.lit (.bool true)], args := [d1, d2, d3, d4] }
  | _ => none }
def schemaPartsRow : OpenClaim := { program := "ytamnligooelmgaadoor", sum := "c0a1dda759b706bdef6b18e6961195bd1e0577feee0cd34fbaf581218105c32d", func := "quayside/quaysidelaw06.SchemaParts", spec := "schemaParts", unfollowed := true, recurses := true, named := ["quayside/schema.policies", "quayside/schema.kinds"], apart := false, laid := [("quayside/schema.policies", laid_quayside_schema_policies), ("quayside/schema.kinds", laid_quayside_schema_kinds)] }
def SchemaPartsSaid : Prop := schemaPartsRow.holds Tryd.pinned (OpenSpec.ofChange schemaPartsSpec)

/-- ITS FALSE NEIGHBOUR: 'it returns false'. Refute it at one input. -/
def schemaPartsWrong : ChangeSpec := { name := "schemaParts", fn := fun _ => fun
  | [d1, d2, d3, d4] => { results := [.lit (.bool false)], args := [d1, d2, d3, d4] }
  | _ => none }
def SchemaPartsWrongFalsely : Prop := schemaPartsRow.holds Tryd.pinned (OpenSpec.ofChange schemaPartsWrong)

/-- 'quaysidelaw06.SchemaFits': WHATEVER THE INPUT: true; the input reads as it did. -/
def schemaFitsSpec : ChangeSpec := { name := "schemaFits", fn := fun _ => fun
  | [d1, d2] => { results := [.lit (.bool true)], args := [d1, d2] }
  | _ => none }
def schemaFitsRow : OpenClaim := { program := "ytamnligooelmgaadoor", sum := "c0a1dda759b706bdef6b18e6961195bd1e0577feee0cd34fbaf581218105c32d", func := "quayside/quaysidelaw06.SchemaFits", spec := "schemaFits", unfollowed := true, recurses := true, named := ["quayside/schema.policies", "quayside/schema.kinds"], apart := false, laid := [("quayside/schema.policies", laid_quayside_schema_policies), ("quayside/schema.kinds", laid_quayside_schema_kinds)] }
def SchemaFitsSaid : Prop := schemaFitsRow.holds Tryd.pinned (OpenSpec.ofChange schemaFitsSpec)

/-- ITS FALSE NEIGHBOUR: 'it returns false'. Refute it at one input. -/
def schemaFitsWrong : ChangeSpec := { name := "schemaFits", fn := fun _ => fun
  | [d1, d2] => { results := [.lit (.bool false)], args := [d1, d2] }
  | _ => none }
def SchemaFitsWrongFalsely : Prop := schemaFitsRow.holds Tryd.pinned (OpenSpec.ofChange schemaFitsWrong)

/-- 'quaysidelaw06.SchemaKnown': WHATEVER THE INPUT: true; the input reads as it did. -/
def schemaKnownSpec : ChangeSpec := { name := "schemaKnown", fn := fun _ => fun
  | [] => { results := [.lit (.bool true)], args := [] }
  | _ => none }
def schemaKnownRow : OpenClaim := { program := "ytamnligooelmgaadoor", sum := "c0a1dda759b706bdef6b18e6961195bd1e0577feee0cd34fbaf581218105c32d", func := "quayside/quaysidelaw06.SchemaKnown", spec := "schemaKnown", unfollowed := true, recurses := true, named := ["quayside/schema.policies", "quayside/schema.kinds"], apart := false, laid := [("quayside/schema.policies", laid_quayside_schema_policies), ("quayside/schema.kinds", laid_quayside_schema_kinds)] }
def SchemaKnownSaid : Prop := schemaKnownRow.holds Tryd.pinned (OpenSpec.ofChange schemaKnownSpec)

/-- ITS FALSE NEIGHBOUR: 'it returns false'. Refute it at one input. -/
def schemaKnownWrong : ChangeSpec := { name := "schemaKnown", fn := fun _ => fun
  | [] => { results := [.lit (.bool false)], args := [] }
  | _ => none }
def SchemaKnownWrongFalsely : Prop := schemaKnownRow.holds Tryd.pinned (OpenSpec.ofChange schemaKnownWrong)

/- THE SECOND FORM. 'bulk': how many values and letters a reading holds, each counted each time it is reached (what is shared counts as often as it is met; a slice's spare places count too). A statement '..UptoSaid' is the law's where the arguments, and the package variables that the reading takes, are together of bulk at most 1048576: NARROWER than '..Said'. Prove '..Said' where nothing that the law and all that it calls make is longer than what came in: it says more and counts as full. Else prove '..UptoSaid'. A law counts once. -/
mutual
def uptoBulk {H : Type} : DataW H → Nat
  | .lit (.string bytes) => bytes.length + 1
  | .lit _ => 1
  | .nil => 1
  | .ptr d => uptoBulk d + 1
  | .slice elems spare => uptoBulkAll elems + uptoBulkAll spare + 1
  | .agg parts => uptoBulkAll parts + 1
  | .iface _ d => uptoBulk d + 1
  | .map entries => uptoBulkEntries entries + 1
  | .held _ => 1
def uptoBulkAll {H : Type} : List (DataW H) → Nat
  | [] => 0
  | d :: r => uptoBulk d + uptoBulkAll r
def uptoBulkEntries {H : Type} : List (Lit × DataW H) → Nat
  | [] => 0
  | x :: r => uptoBulkEntry x + uptoBulkEntries r
def uptoBulkEntry {H : Type} : Lit × DataW H → Nat
  | (.string bytes, d) => bytes.length + uptoBulk d + 1
  | (_, d) => uptoBulk d + 1
 end
def uptoSmall : (H : Type) → List (DataW H) → Bool := fun _ ds => decide (uptoBulkAll ds ≤ 1048576)
def OpenSpec.upto (s : _root_.Go.ChangeSpec) : _root_.Go.OpenSpec := { _root_.Go.OpenSpec.ofChange s with cond := some uptoSmall }

/-- 'quaysidelaw06.SchemaChecks', WHERE WHAT IT READS IS OF BULK AT MOST 1048576: true; the input reads as it did. -/
def schemaChecksUptoRow : OpenClaim := { program := "ytamnligooelmgaadoor", sum := "c0a1dda759b706bdef6b18e6961195bd1e0577feee0cd34fbaf581218105c32d", func := "quayside/quaysidelaw06.SchemaChecks", spec := "schemaChecks", unfollowed := true, recurses := true, named := ["quayside/schema.policies", "quayside/schema.kinds"], apart := false, laid := [("quayside/schema.policies", laid_quayside_schema_policies), ("quayside/schema.kinds", laid_quayside_schema_kinds)], narrowed := true }
def SchemaChecksUptoSaid : Prop := schemaChecksUptoRow.holds Tryd.pinned (OpenSpec.upto schemaChecksSpec)

/-- 'quaysidelaw06.SchemaParts', WHERE WHAT IT READS IS OF BULK AT MOST 1048576: true; the input reads as it did. -/
def schemaPartsUptoRow : OpenClaim := { program := "ytamnligooelmgaadoor", sum := "c0a1dda759b706bdef6b18e6961195bd1e0577feee0cd34fbaf581218105c32d", func := "quayside/quaysidelaw06.SchemaParts", spec := "schemaParts", unfollowed := true, recurses := true, named := ["quayside/schema.policies", "quayside/schema.kinds"], apart := false, laid := [("quayside/schema.policies", laid_quayside_schema_policies), ("quayside/schema.kinds", laid_quayside_schema_kinds)], narrowed := true }
def SchemaPartsUptoSaid : Prop := schemaPartsUptoRow.holds Tryd.pinned (OpenSpec.upto schemaPartsSpec)

/-- 'quaysidelaw06.SchemaFits', WHERE WHAT IT READS IS OF BULK AT MOST 1048576: true; the input reads as it did. -/
def schemaFitsUptoRow : OpenClaim := { program := "ytamnligooelmgaadoor", sum := "c0a1dda759b706bdef6b18e6961195bd1e0577feee0cd34fbaf581218105c32d", func := "quayside/quaysidelaw06.SchemaFits", spec := "schemaFits", unfollowed := true, recurses := true, named := ["quayside/schema.policies", "quayside/schema.kinds"], apart := false, laid := [("quayside/schema.policies", laid_quayside_schema_policies), ("quayside/schema.kinds", laid_quayside_schema_kinds)], narrowed := true }
def SchemaFitsUptoSaid : Prop := schemaFitsUptoRow.holds Tryd.pinned (OpenSpec.upto schemaFitsSpec)

/-- 'quaysidelaw06.SchemaKnown', WHERE WHAT IT READS IS OF BULK AT MOST 1048576: true; the input reads as it did. -/
def schemaKnownUptoRow : OpenClaim := { program := "ytamnligooelmgaadoor", sum := "c0a1dda759b706bdef6b18e6961195bd1e0577feee0cd34fbaf581218105c32d", func := "quayside/quaysidelaw06.SchemaKnown", spec := "schemaKnown", unfollowed := true, recurses := true, named := ["quayside/schema.policies", "quayside/schema.kinds"], apart := false, laid := [("quayside/schema.policies", laid_quayside_schema_policies), ("quayside/schema.kinds", laid_quayside_schema_kinds)], narrowed := true }
def SchemaKnownUptoSaid : Prop := schemaKnownUptoRow.holds Tryd.pinned (OpenSpec.upto schemaKnownSpec)

end Rows
end Go.Proofs.YtamnligooelmgaaDoor
