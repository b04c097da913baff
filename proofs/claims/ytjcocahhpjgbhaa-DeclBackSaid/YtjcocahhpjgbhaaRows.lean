/-
  No cell of these rows narrows 'for every input' (looked for: loops, veiled, ifaces, maps, wideKeys, modest, calm, conditions, laid).
  DERIVED. THE GIVEN ROWS OF THIS SEAT. 4 by the template 'for every input the law returns true; each argument reads behind the call as it read before'; 0 by the template 'total and deterministic' (their statements: YtjcocahhpjgbhaaTotals.lean).
  GIVEN WITH THE SEED: the statements are not yours to turn. If you find one false, say at which input.
  Laid BY PROGRAM, IN A SANDBOX (cutbox-rows.mjs): the forced cells as the released guide's own fill.sh prints them over the translation 794de20daeb51df8… (all of the seat's roots in one cut). By AI agents, Wed Nov 11 2026. No macro, syntax, notation, axiom, sorry.
-/
import Derived.Test.YtjcocahhpjgbhaaChecked
import GoSem.Claim
import GoSem.ClaimJoined
import GoSem.ClaimMapViews
import Derived.JoinedTies
import Derived.KernelRfl
namespace Go.Proofs.Ytjcocahhpjgbhaa
/- THE CELL 'sum', in the pinned program and in every row, IS THE sha256 OF THE DUMP (.gsa) THAT YtjcocahhpjgbhaaProg.lean LOADS. Nothing in Lean hashes anything: it is a label: what it is worth is what the hold of that sum in a sandbox is worth. -/
noncomputable def Try.pinned : Pinned := { name := "ytjcocahhpjgbhaa", sum := "794de20daeb51df8a4ac4074eec558462a60fc0807d10ca934531cb9a38caac4", checked := Try.checked }
namespace Rows
def none {H : Type} : Left H := { results := [], args := [] }

/-- 'quaysidelaw07.DeclBytes': WHATEVER THE INPUT: true; the input reads as it did. -/
def declBytesSpec : ChangeSpec := { name := "declBytes", fn := fun _ => fun
  | [d1, d2] => { results := [.lit (.bool true)], args := [d1, d2] }
  | _ => none }
def declBytesRow : OpenClaim := { program := "ytjcocahhpjgbhaa", sum := "794de20daeb51df8a4ac4074eec558462a60fc0807d10ca934531cb9a38caac4", func := "quayside/quaysidelaw07.DeclBytes", spec := "declBytes", unfollowed := true, recurses := true, apart := false }
def DeclBytesSaid : Prop := declBytesRow.holds Try.pinned (OpenSpec.ofChange declBytesSpec)

/-- ITS FALSE NEIGHBOUR: 'it returns false'. Refute it at one input. -/
def declBytesWrong : ChangeSpec := { name := "declBytes", fn := fun _ => fun
  | [d1, d2] => { results := [.lit (.bool false)], args := [d1, d2] }
  | _ => none }
def DeclBytesWrongFalsely : Prop := declBytesRow.holds Try.pinned (OpenSpec.ofChange declBytesWrong)

/-- 'quaysidelaw07.DeclBack': WHATEVER THE INPUT: true; the input reads as it did. -/
def declBackSpec : ChangeSpec := { name := "declBack", fn := fun _ => fun
  | [d1, d2, d3] => { results := [.lit (.bool true)], args := [d1, d2, d3] }
  | _ => none }
def declBackRow : OpenClaim := { program := "ytjcocahhpjgbhaa", sum := "794de20daeb51df8a4ac4074eec558462a60fc0807d10ca934531cb9a38caac4", func := "quayside/quaysidelaw07.DeclBack", spec := "declBack", unfollowed := true, recurses := true, apart := false }
def DeclBackSaid : Prop := declBackRow.holds Try.pinned (OpenSpec.ofChange declBackSpec)

/-- ITS FALSE NEIGHBOUR: 'it returns false'. Refute it at one input. -/
def declBackWrong : ChangeSpec := { name := "declBack", fn := fun _ => fun
  | [d1, d2, d3] => { results := [.lit (.bool false)], args := [d1, d2, d3] }
  | _ => none }
def DeclBackWrongFalsely : Prop := declBackRow.holds Try.pinned (OpenSpec.ofChange declBackWrong)

/-- 'quaysidelaw07.DeclMany': WHATEVER THE INPUT: true; the input reads as it did. -/
def declManySpec : ChangeSpec := { name := "declMany", fn := fun _ => fun
  | [d] => { results := [.lit (.bool true)], args := [d] }
  | _ => none }
def declManyRow : OpenClaim := { program := "ytjcocahhpjgbhaa", sum := "794de20daeb51df8a4ac4074eec558462a60fc0807d10ca934531cb9a38caac4", func := "quayside/quaysidelaw07.DeclMany", spec := "declMany", unfollowed := true, recurses := true, apart := false }
def DeclManySaid : Prop := declManyRow.holds Try.pinned (OpenSpec.ofChange declManySpec)

/-- ITS FALSE NEIGHBOUR: 'it returns false'. Refute it at one input. -/
def declManyWrong : ChangeSpec := { name := "declMany", fn := fun _ => fun
  | [d] => { results := [.lit (.bool false)], args := [d] }
  | _ => none }
def DeclManyWrongFalsely : Prop := declManyRow.holds Try.pinned (OpenSpec.ofChange declManyWrong)

/-- 'quaysidelaw07.DeclKnown': WHATEVER THE INPUT: true; the input reads as it did. -/
def declKnownSpec : ChangeSpec := { name := "declKnown", fn := fun _ => fun
  | [] => { results := [.lit (.bool true)], args := [] }
  | _ => none }
def declKnownRow : OpenClaim := { program := "ytjcocahhpjgbhaa", sum := "794de20daeb51df8a4ac4074eec558462a60fc0807d10ca934531cb9a38caac4", func := "quayside/quaysidelaw07.DeclKnown", spec := "declKnown", unfollowed := true, recurses := true, apart := false }
def DeclKnownSaid : Prop := declKnownRow.holds Try.pinned (OpenSpec.ofChange declKnownSpec)

/-- ITS FALSE NEIGHBOUR: 'it returns false'. Refute it at one input. -/
def declKnownWrong : ChangeSpec := { name := "declKnown", fn := fun _ => fun
  | [] => { results := [.lit (.bool false)], args := [] }
  | _ => none }
def DeclKnownWrongFalsely : Prop := declKnownRow.holds Try.pinned (OpenSpec.ofChange declKnownWrong)

/- THE SECOND FORM. 'bulk': how many values and letters a reading holds, each counted each time it is reached (what is shared counts as often as it is met; a slice's spare places count too). A statement '..UptoSaid' is the law's where the arguments, and the package variables that the reading takes, are together of bulk at most 1048576: NARROWER than '..Said'. Prove '..Said' where nothing that the law and all that it calls make is longer than what came in: it says more and counts as full. Else prove '..UptoSaid'. A law counts once. -/
mutual
def uptoBulk {H : Type} : DataW H → Nat
  | .lit (.string bytes) => bytes.length + 1
  | .lit _ => 1
  | .nil => 1
  | .ptr d => uptoBulk d + 1
  | .slice elems spare => uptoBulkAll elems + uptoBulkAll spare + 1
  | .agg parts => uptoBulkAll parts + 1
  | .iface _ d => uptoBulk d + 1
  | .map entries => uptoBulkEntries entries + 1
  | .held _ => 1
def uptoBulkAll {H : Type} : List (DataW H) → Nat
  | [] => 0
  | d :: r => uptoBulk d + uptoBulkAll r
def uptoBulkEntries {H : Type} : List (Lit × DataW H) → Nat
  | [] => 0
  | x :: r => uptoBulkEntry x + uptoBulkEntries r
def uptoBulkEntry {H : Type} : Lit × DataW H → Nat
  | (.string bytes, d) => bytes.length + uptoBulk d + 1
  | (_, d) => uptoBulk d + 1
 end
def uptoSmall : (H : Type) → List (DataW H) → Bool := fun _ ds => decide (uptoBulkAll ds ≤ 1048576)
def OpenSpec.upto (s : _root_.Go.ChangeSpec) : _root_.Go.OpenSpec := { _root_.Go.OpenSpec.ofChange s with cond := some uptoSmall }

/-- 'quaysidelaw07.DeclBytes', WHERE WHAT IT READS IS OF BULK AT MOST 1048576: true; the input reads as it did. -/
def declBytesUptoRow : OpenClaim := { program := "ytjcocahhpjgbhaa", sum := "794de20daeb51df8a4ac4074eec558462a60fc0807d10ca934531cb9a38caac4", func := "quayside/quaysidelaw07.DeclBytes", spec := "declBytes", unfollowed := true, recurses := true, apart := false, narrowed := true }
def DeclBytesUptoSaid : Prop := declBytesUptoRow.holds Try.pinned (OpenSpec.upto declBytesSpec)

/-- 'quaysidelaw07.DeclBack', WHERE WHAT IT READS IS OF BULK AT MOST 1048576: true; the input reads as it did. -/
def declBackUptoRow : OpenClaim := { program := "ytjcocahhpjgbhaa", sum := "794de20daeb51df8a4ac4074eec558462a60fc0807d10ca934531cb9a38caac4", func := "quayside/quaysidelaw07.DeclBack", spec := "declBack", unfollowed := true, recurses := true, apart := false, narrowed := true }
def DeclBackUptoSaid : Prop := declBackUptoRow.holds Try.pinned (OpenSpec.upto declBackSpec)

/-- 'quaysidelaw07.DeclMany', WHERE WHAT IT READS IS OF BULK AT MOST 1048576: true; the input reads as it did. -/
def declManyUptoRow : OpenClaim := { program := "ytjcocahhpjgbhaa", sum := "794de20daeb51df8a4ac4074eec558462a60fc0807d10ca934531cb9a38caac4", func := "quayside/quaysidelaw07.DeclMany", spec := "declMany", unfollowed := true, recurses := true, apart := false, narrowed := true }
def DeclManyUptoSaid : Prop := declManyUptoRow.holds Try.pinned (OpenSpec.upto declManySpec)

/-- 'quaysidelaw07.DeclKnown', WHERE WHAT IT READS IS OF BULK AT MOST 1048576: true; the input reads as it did. -/
def declKnownUptoRow : OpenClaim := { program := "ytjcocahhpjgbhaa", sum := "794de20daeb51df8a4ac4074eec558462a60fc0807d10ca934531cb9a38caac4", func := "quayside/quaysidelaw07.DeclKnown", spec := "declKnown", unfollowed := true, recurses := true, apart := false, narrowed := true }
def DeclKnownUptoSaid : Prop := declKnownUptoRow.holds Try.pinned (OpenSpec.upto declKnownSpec)

end Rows
end Go.Proofs.Ytjcocahhpjgbhaa
