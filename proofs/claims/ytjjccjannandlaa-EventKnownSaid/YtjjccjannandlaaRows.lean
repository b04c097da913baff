/-
  No cell of these rows narrows 'for every input' (looked for: loops, veiled, ifaces, maps, wideKeys, modest, calm, conditions, laid).
  DERIVED. THE GIVEN ROWS OF THIS SEAT. 8 by the template 'for every input the law returns true; each argument reads behind the call as it read before'; 0 by the template 'total and deterministic' (their statements: YtjjccjannandlaaTotals.lean).
  GIVEN WITH THE SEED: the statements are not yours to turn. If you find one false, say at which input.
  Laid BY PROGRAM, IN A SANDBOX (cutbox-rows.mjs): the forced cells as the released guide's own fill.sh prints them over the translation 49204a8be98c109f… (all of the seat's roots in one cut). By AI agents, Wed Nov 11 2026. No macro, syntax, notation, axiom, sorry.
-/
import Derived.Test.YtjjccjannandlaaChecked
import GoSem.Claim
import GoSem.ClaimJoined
import GoSem.ClaimMapViews
import Derived.JoinedTies
import Derived.KernelRfl
namespace Go.Proofs.Ytjjccjannandlaa
/- THE CELL 'sum', in the pinned program and in every row, IS THE sha256 OF THE DUMP (.gsa) THAT YtjjccjannandlaaProg.lean LOADS. Nothing in Lean hashes anything: it is a label: what it is worth is what the hold of that sum in a sandbox is worth. -/
noncomputable def Try.pinned : Pinned := { name := "ytjjccjannandlaa", sum := "49204a8be98c109ff13ea8341fd8468061897ea3f55cc4753a7b561a093e4c8d", checked := Try.checked }
namespace Rows
def none {H : Type} : Left H := { results := [], args := [] }

/-- 'quaysidelaw08.CommandReads': WHATEVER THE INPUT: true; the input reads as it did. -/
def commandReadsSpec : ChangeSpec := { name := "commandReads", fn := fun _ => fun
  | [d1, d2] => { results := [.lit (.bool true)], args := [d1, d2] }
  | _ => none }
def commandReadsRow : OpenClaim := { program := "ytjjccjannandlaa", sum := "49204a8be98c109ff13ea8341fd8468061897ea3f55cc4753a7b561a093e4c8d", func := "quayside/quaysidelaw08.CommandReads", spec := "commandReads", unfollowed := true, recurses := true, apart := false }
def CommandReadsSaid : Prop := commandReadsRow.holds Try.pinned (OpenSpec.ofChange commandReadsSpec)

/-- ITS FALSE NEIGHBOUR: 'it returns false'. Refute it at one input. -/
def commandReadsWrong : ChangeSpec := { name := "commandReads", fn := fun _ => fun
  | [d1, d2] => { results := [.lit (.bool false)], args := [d1, d2] }
  | _ => none }
def CommandReadsWrongFalsely : Prop := commandReadsRow.holds Try.pinned (OpenSpec.ofChange commandReadsWrong)

/-- 'quaysidelaw08.CommandBack': WHATEVER THE INPUT: true; the input reads as it did. -/
def commandBackSpec : ChangeSpec := { name := "commandBack", fn := fun _ => fun
  | [d1, d2, d3] => { results := [.lit (.bool true)], args := [d1, d2, d3] }
  | _ => none }
def commandBackRow : OpenClaim := { program := "ytjjccjannandlaa", sum := "49204a8be98c109ff13ea8341fd8468061897ea3f55cc4753a7b561a093e4c8d", func := "quayside/quaysidelaw08.CommandBack", spec := "commandBack", unfollowed := true, recurses := true, apart := false }
def CommandBackSaid : Prop := commandBackRow.holds Try.pinned (OpenSpec.ofChange commandBackSpec)

/-- ITS FALSE NEIGHBOUR: 'it returns false'. Refute it at one input. -/
def commandBackWrong : ChangeSpec := { name := "commandBack", fn := fun _ => fun
  | [d1, d2, d3] => { results := [.lit (.bool false)], args := [d1, d2, d3] }
  | _ => none }
def CommandBackWrongFalsely : Prop := commandBackRow.holds Try.pinned (OpenSpec.ofChange commandBackWrong)

/-- 'quaysidelaw08.CommandNext': WHATEVER THE INPUT: true; the input reads as it did. -/
def commandNextSpec : ChangeSpec := { name := "commandNext", fn := fun _ => fun
  | [d1, d2, d3, d4] => { results := [.lit (.bool true)], args := [d1, d2, d3, d4] }
  | _ => none }
def commandNextRow : OpenClaim := { program := "ytjjccjannandlaa", sum := "49204a8be98c109ff13ea8341fd8468061897ea3f55cc4753a7b561a093e4c8d", func := "quayside/quaysidelaw08.CommandNext", spec := "commandNext", unfollowed := true, recurses := true, apart := false }
def CommandNextSaid : Prop := commandNextRow.holds Try.pinned (OpenSpec.ofChange commandNextSpec)

/-- ITS FALSE NEIGHBOUR: 'it returns false'. Refute it at one input. -/
def commandNextWrong : ChangeSpec := { name := "commandNext", fn := fun _ => fun
  | [d1, d2, d3, d4] => { results := [.lit (.bool false)], args := [d1, d2, d3, d4] }
  | _ => none }
def CommandNextWrongFalsely : Prop := commandNextRow.holds Try.pinned (OpenSpec.ofChange commandNextWrong)

/-- 'quaysidelaw05.EventChecks': WHATEVER THE INPUT: true; the input reads as it did. -/
def eventChecksSpec : ChangeSpec := { name := "eventChecks", fn := fun _ => fun
  | [d1, d2] => { results := [.lit (.bool true)], args := [d1, d2] }
  | _ => none }
def eventChecksRow : OpenClaim := { program := "ytjjccjannandlaa", sum := "49204a8be98c109ff13ea8341fd8468061897ea3f55cc4753a7b561a093e4c8d", func := "quayside/quaysidelaw05.EventChecks", spec := "eventChecks", unfollowed := true, recurses := true, apart := false }
def EventChecksSaid : Prop := eventChecksRow.holds Try.pinned (OpenSpec.ofChange eventChecksSpec)

/-- ITS FALSE NEIGHBOUR: 'it returns false'. Refute it at one input. -/
def eventChecksWrong : ChangeSpec := { name := "eventChecks", fn := fun _ => fun
  | [d1, d2] => { results := [.lit (.bool false)], args := [d1, d2] }
  | _ => none }
def EventChecksWrongFalsely : Prop := eventChecksRow.holds Try.pinned (OpenSpec.ofChange eventChecksWrong)

/-- 'quaysidelaw05.EventBytes': WHATEVER THE INPUT: true; the input reads as it did. -/
def eventBytesSpec : ChangeSpec := { name := "eventBytes", fn := fun _ => fun
  | [d1, d2] => { results := [.lit (.bool true)], args := [d1, d2] }
  | _ => none }
def eventBytesRow : OpenClaim := { program := "ytjjccjannandlaa", sum := "49204a8be98c109ff13ea8341fd8468061897ea3f55cc4753a7b561a093e4c8d", func := "quayside/quaysidelaw05.EventBytes", spec := "eventBytes", unfollowed := true, recurses := true, apart := false }
def EventBytesSaid : Prop := eventBytesRow.holds Try.pinned (OpenSpec.ofChange eventBytesSpec)

/-- ITS FALSE NEIGHBOUR: 'it returns false'. Refute it at one input. -/
def eventBytesWrong : ChangeSpec := { name := "eventBytes", fn := fun _ => fun
  | [d1, d2] => { results := [.lit (.bool false)], args := [d1, d2] }
  | _ => none }
def EventBytesWrongFalsely : Prop := eventBytesRow.holds Try.pinned (OpenSpec.ofChange eventBytesWrong)

/-- 'quaysidelaw05.EventBack': WHATEVER THE INPUT: true; the input reads as it did. -/
def eventBackSpec : ChangeSpec := { name := "eventBack", fn := fun _ => fun
  | [d1, d2, d3] => { results := [.lit (.bool true)], args := [d1, d2, d3] }
  | _ => none }
def eventBackRow : OpenClaim := { program := "ytjjccjannandlaa", sum := "49204a8be98c109ff13ea8341fd8468061897ea3f55cc4753a7b561a093e4c8d", func := "quayside/quaysidelaw05.EventBack", spec := "eventBack", unfollowed := true, recurses := true, apart := false }
def EventBackSaid : Prop := eventBackRow.holds Try.pinned (OpenSpec.ofChange eventBackSpec)

/-- ITS FALSE NEIGHBOUR: 'it returns false'. Refute it at one input. -/
def eventBackWrong : ChangeSpec := { name := "eventBack", fn := fun _ => fun
  | [d1, d2, d3] => { results := [.lit (.bool false)], args := [d1, d2, d3] }
  | _ => none }
def EventBackWrongFalsely : Prop := eventBackRow.holds Try.pinned (OpenSpec.ofChange eventBackWrong)

/-- 'quaysidelaw05.EventMay': WHATEVER THE INPUT: true; the input reads as it did. -/
def eventMaySpec : ChangeSpec := { name := "eventMay", fn := fun _ => fun
  | [d1, d2] => { results := [.lit (.bool true)], args := [d1, d2] }
  | _ => none }
def eventMayRow : OpenClaim := { program := "ytjjccjannandlaa", sum := "49204a8be98c109ff13ea8341fd8468061897ea3f55cc4753a7b561a093e4c8d", func := "quayside/quaysidelaw05.EventMay", spec := "eventMay", unfollowed := true, recurses := true, apart := false }
def EventMaySaid : Prop := eventMayRow.holds Try.pinned (OpenSpec.ofChange eventMaySpec)

/-- ITS FALSE NEIGHBOUR: 'it returns false'. Refute it at one input. -/
def eventMayWrong : ChangeSpec := { name := "eventMay", fn := fun _ => fun
  | [d1, d2] => { results := [.lit (.bool false)], args := [d1, d2] }
  | _ => none }
def EventMayWrongFalsely : Prop := eventMayRow.holds Try.pinned (OpenSpec.ofChange eventMayWrong)

/-- 'quaysidelaw05.EventKnown': WHATEVER THE INPUT: true; the input reads as it did. -/
def eventKnownSpec : ChangeSpec := { name := "eventKnown", fn := fun _ => fun
  | [] => { results := [.lit (.bool true)], args := [] }
  | _ => none }
def eventKnownRow : OpenClaim := { program := "ytjjccjannandlaa", sum := "49204a8be98c109ff13ea8341fd8468061897ea3f55cc4753a7b561a093e4c8d", func := "quayside/quaysidelaw05.EventKnown", spec := "eventKnown", unfollowed := true, recurses := true, apart := false }
def EventKnownSaid : Prop := eventKnownRow.holds Try.pinned (OpenSpec.ofChange eventKnownSpec)

/-- ITS FALSE NEIGHBOUR: 'it returns false'. Refute it at one input. -/
def eventKnownWrong : ChangeSpec := { name := "eventKnown", fn := fun _ => fun
  | [] => { results := [.lit (.bool false)], args := [] }
  | _ => none }
def EventKnownWrongFalsely : Prop := eventKnownRow.holds Try.pinned (OpenSpec.ofChange eventKnownWrong)

/- THE SECOND FORM. 'bulk': how many values and letters a reading holds, each counted each time it is reached (what is shared counts as often as it is met; a slice's spare places count too). A statement '..UptoSaid' is the law's where the arguments, and the package variables that the reading takes, are together of bulk at most 1048576: NARROWER than '..Said'. Prove '..Said' where nothing that the law and all that it calls make is longer than what came in: it says more and counts as full. Else prove '..UptoSaid'. A law counts once. -/
mutual
def uptoBulk {H : Type} : DataW H → Nat
  | .lit (.string bytes) => bytes.length + 1
  | .lit _ => 1
  | .nil => 1
  | .ptr d => uptoBulk d + 1
  | .slice elems spare => uptoBulkAll elems + uptoBulkAll spare + 1
  | .agg parts => uptoBulkAll parts + 1
  | .iface _ d => uptoBulk d + 1
  | .map entries => uptoBulkEntries entries + 1
  | .held _ => 1
def uptoBulkAll {H : Type} : List (DataW H) → Nat
  | [] => 0
  | d :: r => uptoBulk d + uptoBulkAll r
def uptoBulkEntries {H : Type} : List (Lit × DataW H) → Nat
  | [] => 0
  | x :: r => uptoBulkEntry x + uptoBulkEntries r
def uptoBulkEntry {H : Type} : Lit × DataW H → Nat
  | (.string bytes, d) => bytes.length + uptoBulk d + 1
  | (_, d) => uptoBulk d + 1
 end
def uptoSmall : (H : Type) → List (DataW H) → Bool := fun _ ds => decide (uptoBulkAll ds ≤ 1048576)
def OpenSpec.upto (s : _root_.Go.ChangeSpec) : _root_.Go.OpenSpec := { _root_.Go.OpenSpec.ofChange s with cond := some uptoSmall }

/-- 'quaysidelaw08.CommandReads', WHERE WHAT IT READS IS OF BULK AT MOST 1048576: true; the input reads as it did. -/
def commandReadsUptoRow : OpenClaim := { program := "ytjjccjannandlaa", sum := "49204a8be98c109ff13ea8341fd8468061897ea3f55cc4753a7b561a093e4c8d", func := "quayside/quaysidelaw08.CommandReads", spec := "commandReads", unfollowed := true, recurses := true, apart := false, narrowed := true }
def CommandReadsUptoSaid : Prop := commandReadsUptoRow.holds Try.pinned (OpenSpec.upto commandReadsSpec)

/-- 'quaysidelaw08.CommandBack', WHERE WHAT IT READS IS OF BULK AT MOST 1048576: true; the input reads as it did. -/
def commandBackUptoRow : OpenClaim := { program := "ytjjccjannandlaa", sum := "49204a8be98c109ff13ea8341fd8468061897ea3f55cc4753a7b561a093e4c8d", func := "quayside/quaysidelaw08.CommandBack", spec := "commandBack", unfollowed := true, recurses := true, apart := false, narrowed := true }
def CommandBackUptoSaid : Prop := commandBackUptoRow.holds Try.pinned (OpenSpec.upto commandBackSpec)

/-- 'quaysidelaw08.CommandNext', WHERE WHAT IT READS IS OF BULK AT MOST 1048576: true; the input reads as it did. -/
def commandNextUptoRow : OpenClaim := { program := "ytjjccjannandlaa", sum := "49204a8be98c109ff13ea8341fd8468061897ea3f55cc4753a7b561a093e4c8d", func := "quayside/quaysidelaw08.CommandNext", spec := "commandNext", unfollowed := true, recurses := true, apart := false, narrowed := true }
def CommandNextUptoSaid : Prop := commandNextUptoRow.holds Try.pinned (OpenSpec.upto commandNextSpec)

/-- 'quaysidelaw05.EventChecks', WHERE WHAT IT READS IS OF BULK AT MOST 1048576: true; the input reads as it did. -/
def eventChecksUptoRow : OpenClaim := { program := "ytjjccjannandlaa", sum := "49204a8be98c109ff13ea8341fd8468061897ea3f55cc4753a7b561a093e4c8d", func := "quayside/quaysidelaw05.EventChecks", spec := "eventChecks", unfollowed := true, recurses := true, apart := false, narrowed := true }
def EventChecksUptoSaid : Prop := eventChecksUptoRow.holds Try.pinned (OpenSpec.upto eventChecksSpec)

/-- 'quaysidelaw05.EventBytes', WHERE WHAT IT READS IS OF BULK AT MOST 1048576: true; the input reads as it did. -/
def eventBytesUptoRow : OpenClaim := { program := "ytjjccjannandlaa", sum := "49204a8be98c109ff13ea8341fd8468061897ea3f55cc4753a7b561a093e4c8d", func := "quayside/quaysidelaw05.EventBytes", spec := "eventBytes", unfollowed := true, recurses := true, apart := false, narrowed := true }
def EventBytesUptoSaid : Prop := eventBytesUptoRow.holds Try.pinned (OpenSpec.upto eventBytesSpec)

/-- 'quaysidelaw05.EventBack', WHERE WHAT IT READS IS OF BULK AT MOST 1048576: true; the input reads as it did. -/
def eventBackUptoRow : OpenClaim := { program := "ytjjccjannandlaa", sum := "49204a8be98c109ff13ea8341fd8468061897ea3f55cc4753a7b561a093e4c8d", func := "quayside/quaysidelaw05.EventBack", spec := "eventBack", unfollowed := true, recurses := true, apart := false, narrowed := true }
def EventBackUptoSaid : Prop := eventBackUptoRow.holds Try.pinned (OpenSpec.upto eventBackSpec)

/-- 'quaysidelaw05.EventMay', WHERE WHAT IT READS IS OF BULK AT MOST 1048576: true; the input reads as it did. -/
def eventMayUptoRow : OpenClaim := { program := "ytjjccjannandlaa", sum := "49204a8be98c109ff13ea8341fd8468061897ea3f55cc4753a7b561a093e4c8d", func := "quayside/quaysidelaw05.EventMay", spec := "eventMay", unfollowed := true, recurses := true, apart := false, narrowed := true }
def EventMayUptoSaid : Prop := eventMayUptoRow.holds Try.pinned (OpenSpec.upto eventMaySpec)

/-- 'quaysidelaw05.EventKnown', WHERE WHAT IT READS IS OF BULK AT MOST 1048576: true; the input reads as it did. -/
def eventKnownUptoRow : OpenClaim := { program := "ytjjccjannandlaa", sum := "49204a8be98c109ff13ea8341fd8468061897ea3f55cc4753a7b561a093e4c8d", func := "quayside/quaysidelaw05.EventKnown", spec := "eventKnown", unfollowed := true, recurses := true, apart := false, narrowed := true }
def EventKnownUptoSaid : Prop := eventKnownUptoRow.holds Try.pinned (OpenSpec.upto eventKnownSpec)

end Rows
end Go.Proofs.Ytjjccjannandlaa
