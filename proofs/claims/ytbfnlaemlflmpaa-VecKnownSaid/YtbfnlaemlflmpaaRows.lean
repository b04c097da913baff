/-
  No cell of these rows narrows 'for every input' (looked for: loops, veiled, ifaces, maps, wideKeys, modest, calm, conditions, laid).
  DERIVED. THE GIVEN ROWS OF THIS SEAT. 10 by the template 'for every input the law returns true; each argument reads behind the call as it read before'; 0 by the template 'total and deterministic' (their statements: YtbfnlaemlflmpaaTotals.lean).
  GIVEN WITH THE SEED: the statements are not yours to turn. If you find one false, say at which input.
  Laid BY PROGRAM, IN A SANDBOX (cutbox-rows.mjs): the forced cells as the released guide's own fill.sh prints them over the translation d85dc164fcda5c06… (all of the seat's roots in one cut). By AI agents, Wed Nov 11 2026. No macro, syntax, notation, axiom, sorry.
-/
import Derived.Test.YtbfnlaemlflmpaaChecked
import GoSem.Claim
import GoSem.ClaimJoined
import GoSem.ClaimMapViews
import Derived.JoinedTies
import Derived.KernelRfl
namespace Go.Proofs.Ytbfnlaemlflmpaa
/- THE CELL 'sum', in the pinned program and in every row, IS THE sha256 OF THE DUMP (.gsa) THAT YtbfnlaemlflmpaaProg.lean LOADS. Nothing in Lean hashes anything: it is a label: what it is worth is what the hold of that sum in a sandbox is worth. -/
noncomputable def Try.pinned : Pinned := { name := "ytbfnlaemlflmpaa", sum := "d85dc164fcda5c0618f8633ee680b79f8eaafc05689aabe7faaeb2e73d78b1a4", checked := Try.checked }
namespace Rows
def none {H : Type} : Left H := { results := [], args := [] }

/-- 'quaysidelaw12.ConflictTells': WHATEVER THE INPUT: true; the input reads as it did. -/
def conflictTellsSpec : ChangeSpec := { name := "conflictTells", fn := fun _ => fun
  | [d1, d2, d3] => { results := [.lit (.bool true)], args := [d1, d2, d3] }
  | _ => none }
def conflictTellsRow : OpenClaim := { program := "ytbfnlaemlflmpaa", sum := "d85dc164fcda5c0618f8633ee680b79f8eaafc05689aabe7faaeb2e73d78b1a4", func := "quayside/quaysidelaw12.ConflictTells", spec := "conflictTells", apart := false }
def ConflictTellsSaid : Prop := conflictTellsRow.holds Try.pinned (OpenSpec.ofChange conflictTellsSpec)

/-- ITS FALSE NEIGHBOUR: 'it returns false'. Refute it at one input. -/
def conflictTellsWrong : ChangeSpec := { name := "conflictTells", fn := fun _ => fun
  | [d1, d2, d3] => { results := [.lit (.bool false)], args := [d1, d2, d3] }
  | _ => none }
def ConflictTellsWrongFalsely : Prop := conflictTellsRow.holds Try.pinned (OpenSpec.ofChange conflictTellsWrong)

/-- 'quaysidelaw12.ConflictBoth': WHATEVER THE INPUT: true; the input reads as it did. -/
def conflictBothSpec : ChangeSpec := { name := "conflictBoth", fn := fun _ => fun
  | [d1, d2, d3, d4, d5, d6] => { results := [.lit (.bool true)], args := [d1, d2, d3, d4, d5, d6] }
  | _ => none }
def conflictBothRow : OpenClaim := { program := "ytbfnlaemlflmpaa", sum := "d85dc164fcda5c0618f8633ee680b79f8eaafc05689aabe7faaeb2e73d78b1a4", func := "quayside/quaysidelaw12.ConflictBoth", spec := "conflictBoth", apart := false }
def ConflictBothSaid : Prop := conflictBothRow.holds Try.pinned (OpenSpec.ofChange conflictBothSpec)

/-- ITS FALSE NEIGHBOUR: 'it returns false'. Refute it at one input. -/
def conflictBothWrong : ChangeSpec := { name := "conflictBoth", fn := fun _ => fun
  | [d1, d2, d3, d4, d5, d6] => { results := [.lit (.bool false)], args := [d1, d2, d3, d4, d5, d6] }
  | _ => none }
def ConflictBothWrongFalsely : Prop := conflictBothRow.holds Try.pinned (OpenSpec.ofChange conflictBothWrong)

/-- 'quaysidelaw12.ConflictVoids': WHATEVER THE INPUT: true; the input reads as it did. -/
def conflictVoidsSpec : ChangeSpec := { name := "conflictVoids", fn := fun _ => fun
  | [d1, d2, d3] => { results := [.lit (.bool true)], args := [d1, d2, d3] }
  | _ => none }
def conflictVoidsRow : OpenClaim := { program := "ytbfnlaemlflmpaa", sum := "d85dc164fcda5c0618f8633ee680b79f8eaafc05689aabe7faaeb2e73d78b1a4", func := "quayside/quaysidelaw12.ConflictVoids", spec := "conflictVoids", apart := false }
def ConflictVoidsSaid : Prop := conflictVoidsRow.holds Try.pinned (OpenSpec.ofChange conflictVoidsSpec)

/-- ITS FALSE NEIGHBOUR: 'it returns false'. Refute it at one input. -/
def conflictVoidsWrong : ChangeSpec := { name := "conflictVoids", fn := fun _ => fun
  | [d1, d2, d3] => { results := [.lit (.bool false)], args := [d1, d2, d3] }
  | _ => none }
def ConflictVoidsWrongFalsely : Prop := conflictVoidsRow.holds Try.pinned (OpenSpec.ofChange conflictVoidsWrong)

/-- 'quaysidelaw12.ConflictKnown': WHATEVER THE INPUT: true; the input reads as it did. -/
def conflictKnownSpec : ChangeSpec := { name := "conflictKnown", fn := fun _ => fun
  | [] => { results := [.lit (.bool true)], args := [] }
  | _ => none }
def conflictKnownRow : OpenClaim := { program := "ytbfnlaemlflmpaa", sum := "d85dc164fcda5c0618f8633ee680b79f8eaafc05689aabe7faaeb2e73d78b1a4", func := "quayside/quaysidelaw12.ConflictKnown", spec := "conflictKnown", apart := false }
def ConflictKnownSaid : Prop := conflictKnownRow.holds Try.pinned (OpenSpec.ofChange conflictKnownSpec)

/-- ITS FALSE NEIGHBOUR: 'it returns false'. Refute it at one input. -/
def conflictKnownWrong : ChangeSpec := { name := "conflictKnown", fn := fun _ => fun
  | [] => { results := [.lit (.bool false)], args := [] }
  | _ => none }
def ConflictKnownWrongFalsely : Prop := conflictKnownRow.holds Try.pinned (OpenSpec.ofChange conflictKnownWrong)

/-- 'quaysidelaw04.VecTells': WHATEVER THE INPUT: true; the input reads as it did. -/
def vecTellsSpec : ChangeSpec := { name := "vecTells", fn := fun _ => fun
  | [d1, d2, d3] => { results := [.lit (.bool true)], args := [d1, d2, d3] }
  | _ => none }
def vecTellsRow : OpenClaim := { program := "ytbfnlaemlflmpaa", sum := "d85dc164fcda5c0618f8633ee680b79f8eaafc05689aabe7faaeb2e73d78b1a4", func := "quayside/quaysidelaw04.VecTells", spec := "vecTells", apart := false }
def VecTellsSaid : Prop := vecTellsRow.holds Try.pinned (OpenSpec.ofChange vecTellsSpec)

/-- ITS FALSE NEIGHBOUR: 'it returns false'. Refute it at one input. -/
def vecTellsWrong : ChangeSpec := { name := "vecTells", fn := fun _ => fun
  | [d1, d2, d3] => { results := [.lit (.bool false)], args := [d1, d2, d3] }
  | _ => none }
def VecTellsWrongFalsely : Prop := vecTellsRow.holds Try.pinned (OpenSpec.ofChange vecTellsWrong)

/-- 'quaysidelaw04.VecJoins': WHATEVER THE INPUT: true; the input reads as it did. -/
def vecJoinsSpec : ChangeSpec := { name := "vecJoins", fn := fun _ => fun
  | [d1, d2, d3] => { results := [.lit (.bool true)], args := [d1, d2, d3] }
  | _ => none }
def vecJoinsRow : OpenClaim := { program := "ytbfnlaemlflmpaa", sum := "d85dc164fcda5c0618f8633ee680b79f8eaafc05689aabe7faaeb2e73d78b1a4", func := "quayside/quaysidelaw04.VecJoins", spec := "vecJoins", apart := false }
def VecJoinsSaid : Prop := vecJoinsRow.holds Try.pinned (OpenSpec.ofChange vecJoinsSpec)

/-- ITS FALSE NEIGHBOUR: 'it returns false'. Refute it at one input. -/
def vecJoinsWrong : ChangeSpec := { name := "vecJoins", fn := fun _ => fun
  | [d1, d2, d3] => { results := [.lit (.bool false)], args := [d1, d2, d3] }
  | _ => none }
def VecJoinsWrongFalsely : Prop := vecJoinsRow.holds Try.pinned (OpenSpec.ofChange vecJoinsWrong)

/-- 'quaysidelaw04.VecOrders': WHATEVER THE INPUT: true; the input reads as it did. -/
def vecOrdersSpec : ChangeSpec := { name := "vecOrders", fn := fun _ => fun
  | [d1, d2, d3] => { results := [.lit (.bool true)], args := [d1, d2, d3] }
  | _ => none }
def vecOrdersRow : OpenClaim := { program := "ytbfnlaemlflmpaa", sum := "d85dc164fcda5c0618f8633ee680b79f8eaafc05689aabe7faaeb2e73d78b1a4", func := "quayside/quaysidelaw04.VecOrders", spec := "vecOrders", apart := false }
def VecOrdersSaid : Prop := vecOrdersRow.holds Try.pinned (OpenSpec.ofChange vecOrdersSpec)

/-- ITS FALSE NEIGHBOUR: 'it returns false'. Refute it at one input. -/
def vecOrdersWrong : ChangeSpec := { name := "vecOrders", fn := fun _ => fun
  | [d1, d2, d3] => { results := [.lit (.bool false)], args := [d1, d2, d3] }
  | _ => none }
def VecOrdersWrongFalsely : Prop := vecOrdersRow.holds Try.pinned (OpenSpec.ofChange vecOrdersWrong)

/-- 'quaysidelaw04.VecSums': WHATEVER THE INPUT: true; the input reads as it did. -/
def vecSumsSpec : ChangeSpec := { name := "vecSums", fn := fun _ => fun
  | [d1, d2] => { results := [.lit (.bool true)], args := [d1, d2] }
  | _ => none }
def vecSumsRow : OpenClaim := { program := "ytbfnlaemlflmpaa", sum := "d85dc164fcda5c0618f8633ee680b79f8eaafc05689aabe7faaeb2e73d78b1a4", func := "quayside/quaysidelaw04.VecSums", spec := "vecSums", apart := false }
def VecSumsSaid : Prop := vecSumsRow.holds Try.pinned (OpenSpec.ofChange vecSumsSpec)

/-- ITS FALSE NEIGHBOUR: 'it returns false'. Refute it at one input. -/
def vecSumsWrong : ChangeSpec := { name := "vecSums", fn := fun _ => fun
  | [d1, d2] => { results := [.lit (.bool false)], args := [d1, d2] }
  | _ => none }
def VecSumsWrongFalsely : Prop := vecSumsRow.holds Try.pinned (OpenSpec.ofChange vecSumsWrong)

/-- 'quaysidelaw04.VecKnown': WHATEVER THE INPUT: true; the input reads as it did. -/
def vecKnownSpec : ChangeSpec := { name := "vecKnown", fn := fun _ => fun
  | [] => { results := [.lit (.bool true)], args := [] }
  | _ => none }
def vecKnownRow : OpenClaim := { program := "ytbfnlaemlflmpaa", sum := "d85dc164fcda5c0618f8633ee680b79f8eaafc05689aabe7faaeb2e73d78b1a4", func := "quayside/quaysidelaw04.VecKnown", spec := "vecKnown", apart := false }
def VecKnownSaid : Prop := vecKnownRow.holds Try.pinned (OpenSpec.ofChange vecKnownSpec)

/-- ITS FALSE NEIGHBOUR: 'it returns false'. Refute it at one input. -/
def vecKnownWrong : ChangeSpec := { name := "vecKnown", fn := fun _ => fun
  | [] => { results := [.lit (.bool false)], args := [] }
  | _ => none }
def VecKnownWrongFalsely : Prop := vecKnownRow.holds Try.pinned (OpenSpec.ofChange vecKnownWrong)

/-- 'quaysidelaw04.VecEntries': WHATEVER THE INPUT: true; the input reads as it did. -/
def vecEntriesSpec : ChangeSpec := { name := "vecEntries", fn := fun _ => fun
  | [d1, d2, d3] => { results := [.lit (.bool true)], args := [d1, d2, d3] }
  | _ => none }
def vecEntriesRow : OpenClaim := { program := "ytbfnlaemlflmpaa", sum := "d85dc164fcda5c0618f8633ee680b79f8eaafc05689aabe7faaeb2e73d78b1a4", func := "quayside/quaysidelaw04.VecEntries", spec := "vecEntries", apart := false }
def VecEntriesSaid : Prop := vecEntriesRow.holds Try.pinned (OpenSpec.ofChange vecEntriesSpec)

/-- ITS FALSE NEIGHBOUR: 'it returns false'. Refute it at one input. -/
def vecEntriesWrong : ChangeSpec := { name := "vecEntries", fn := fun _ => fun
  | [d1, d2, d3] => { results := [.lit (.bool false)], args := [d1, d2, d3] }
  | _ => none }
def VecEntriesWrongFalsely : Prop := vecEntriesRow.holds Try.pinned (OpenSpec.ofChange vecEntriesWrong)

/- THE SECOND FORM. 'bulk': how many values and letters a reading holds, each counted each time it is reached (what is shared counts as often as it is met; a slice's spare places count too). A statement '..UptoSaid' is the law's where the arguments, and the package variables that the reading takes, are together of bulk at most 1048576: NARROWER than '..Said'. Prove '..Said' where nothing that the law and all that it calls make is longer than what came in: it says more and counts as full. Else prove '..UptoSaid'. A law counts once. -/
mutual
def uptoBulk {H : Type} : DataW H → Nat
  | .lit (.string bytes) => bytes.length + 1
  | .lit _ => 1
  | .nil => 1
  | .ptr d => uptoBulk d + 1
  | .slice elems spare => uptoBulkAll elems + uptoBulkAll spare + 1
  | .agg parts => uptoBulkAll parts + 1
  | .iface _ d => uptoBulk d + 1
  | .map entries => uptoBulkEntries entries + 1
  | .held _ => 1
def uptoBulkAll {H : Type} : List (DataW H) → Nat
  | [] => 0
  | d :: r => uptoBulk d + uptoBulkAll r
def uptoBulkEntries {H : Type} : List (Lit × DataW H) → Nat
  | [] => 0
  | x :: r => uptoBulkEntry x + uptoBulkEntries r
def uptoBulkEntry {H : Type} : Lit × DataW H → Nat
  | (.string bytes, d) => bytes.length + uptoBulk d + 1
  | (_, d) => uptoBulk d + 1
 end
def uptoSmall : (H : Type) → List (DataW H) → Bool := fun _ ds => decide (uptoBulkAll ds ≤ 1048576)
def OpenSpec.upto (s : _root_.Go.ChangeSpec) : _root_.Go.OpenSpec := { _root_.Go.OpenSpec.ofChange s with cond := some uptoSmall }

/-- 'quaysidelaw12.ConflictTells', WHERE WHAT IT READS IS OF BULK AT MOST 1048576: true; the input reads as it did. -/
def conflictTellsUptoRow : OpenClaim := { program := "ytbfnlaemlflmpaa", sum := "d85dc164fcda5c0618f8633ee680b79f8eaafc05689aabe7faaeb2e73d78b1a4", func := "quayside/quaysidelaw12.ConflictTells", spec := "conflictTells", apart := false, narrowed := true }
def ConflictTellsUptoSaid : Prop := conflictTellsUptoRow.holds Try.pinned (OpenSpec.upto conflictTellsSpec)

/-- 'quaysidelaw12.ConflictBoth', WHERE WHAT IT READS IS OF BULK AT MOST 1048576: true; the input reads as it did. -/
def conflictBothUptoRow : OpenClaim := { program := "ytbfnlaemlflmpaa", sum := "d85dc164fcda5c0618f8633ee680b79f8eaafc05689aabe7faaeb2e73d78b1a4", func := "quayside/quaysidelaw12.ConflictBoth", spec := "conflictBoth", apart := false, narrowed := true }
def ConflictBothUptoSaid : Prop := conflictBothUptoRow.holds Try.pinned (OpenSpec.upto conflictBothSpec)

/-- 'quaysidelaw12.ConflictVoids', WHERE WHAT IT READS IS OF BULK AT MOST 1048576: true; the input reads as it did. -/
def conflictVoidsUptoRow : OpenClaim := { program := "ytbfnlaemlflmpaa", sum := "d85dc164fcda5c0618f8633ee680b79f8eaafc05689aabe7faaeb2e73d78b1a4", func := "quayside/quaysidelaw12.ConflictVoids", spec := "conflictVoids", apart := false, narrowed := true }
def ConflictVoidsUptoSaid : Prop := conflictVoidsUptoRow.holds Try.pinned (OpenSpec.upto conflictVoidsSpec)

/-- 'quaysidelaw12.ConflictKnown', WHERE WHAT IT READS IS OF BULK AT MOST 1048576: true; the input reads as it did. -/
def conflictKnownUptoRow : OpenClaim := { program := "ytbfnlaemlflmpaa", sum := "d85dc164fcda5c0618f8633ee680b79f8eaafc05689aabe7faaeb2e73d78b1a4", func := "quayside/quaysidelaw12.ConflictKnown", spec := "conflictKnown", apart := false, narrowed := true }
def ConflictKnownUptoSaid : Prop := conflictKnownUptoRow.holds Try.pinned (OpenSpec.upto conflictKnownSpec)

/-- 'quaysidelaw04.VecTells', WHERE WHAT IT READS IS OF BULK AT MOST 1048576: true; the input reads as it did. -/
def vecTellsUptoRow : OpenClaim := { program := "ytbfnlaemlflmpaa", sum := "d85dc164fcda5c0618f8633ee680b79f8eaafc05689aabe7faaeb2e73d78b1a4", func := "quayside/quaysidelaw04.VecTells", spec := "vecTells", apart := false, narrowed := true }
def VecTellsUptoSaid : Prop := vecTellsUptoRow.holds Try.pinned (OpenSpec.upto vecTellsSpec)

/-- 'quaysidelaw04.VecJoins', WHERE WHAT IT READS IS OF BULK AT MOST 1048576: true; the input reads as it did. -/
def vecJoinsUptoRow : OpenClaim := { program := "ytbfnlaemlflmpaa", sum := "d85dc164fcda5c0618f8633ee680b79f8eaafc05689aabe7faaeb2e73d78b1a4", func := "quayside/quaysidelaw04.VecJoins", spec := "vecJoins", apart := false, narrowed := true }
def VecJoinsUptoSaid : Prop := vecJoinsUptoRow.holds Try.pinned (OpenSpec.upto vecJoinsSpec)

/-- 'quaysidelaw04.VecOrders', WHERE WHAT IT READS IS OF BULK AT MOST 1048576: true; the input reads as it did. -/
def vecOrdersUptoRow : OpenClaim := { program := "ytbfnlaemlflmpaa", sum := "d85dc164fcda5c0618f8633ee680b79f8eaafc05689aabe7faaeb2e73d78b1a4", func := "quayside/quaysidelaw04.VecOrders", spec := "vecOrders", apart := false, narrowed := true }
def VecOrdersUptoSaid : Prop := vecOrdersUptoRow.holds Try.pinned (OpenSpec.upto vecOrdersSpec)

/-- 'quaysidelaw04.VecSums', WHERE WHAT IT READS IS OF BULK AT MOST 1048576: true; the input reads as it did. -/
def vecSumsUptoRow : OpenClaim := { program := "ytbfnlaemlflmpaa", sum := "d85dc164fcda5c0618f8633ee680b79f8eaafc05689aabe7faaeb2e73d78b1a4", func := "quayside/quaysidelaw04.VecSums", spec := "vecSums", apart := false, narrowed := true }
def VecSumsUptoSaid : Prop := vecSumsUptoRow.holds Try.pinned (OpenSpec.upto vecSumsSpec)

/-- 'quaysidelaw04.VecKnown', WHERE WHAT IT READS IS OF BULK AT MOST 1048576: true; the input reads as it did. -/
def vecKnownUptoRow : OpenClaim := { program := "ytbfnlaemlflmpaa", sum := "d85dc164fcda5c0618f8633ee680b79f8eaafc05689aabe7faaeb2e73d78b1a4", func := "quayside/quaysidelaw04.VecKnown", spec := "vecKnown", apart := false, narrowed := true }
def VecKnownUptoSaid : Prop := vecKnownUptoRow.holds Try.pinned (OpenSpec.upto vecKnownSpec)

/-- 'quaysidelaw04.VecEntries', WHERE WHAT IT READS IS OF BULK AT MOST 1048576: true; the input reads as it did. -/
def vecEntriesUptoRow : OpenClaim := { program := "ytbfnlaemlflmpaa", sum := "d85dc164fcda5c0618f8633ee680b79f8eaafc05689aabe7faaeb2e73d78b1a4", func := "quayside/quaysidelaw04.VecEntries", spec := "vecEntries", apart := false, narrowed := true }
def VecEntriesUptoSaid : Prop := vecEntriesUptoRow.holds Try.pinned (OpenSpec.upto vecEntriesSpec)

end Rows
end Go.Proofs.Ytbfnlaemlflmpaa
