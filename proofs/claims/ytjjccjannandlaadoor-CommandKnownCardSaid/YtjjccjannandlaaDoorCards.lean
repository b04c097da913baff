/-
  DERIVED. GIVEN WITH THE SEED: THE CARDS: each row of YtjjccjannandlaaDoorRows.lean that lists a variable, with what it lists TIED to the program's text (the seventh form; the later family's looks); each row that meets fmt, with fmt's text TOLD by the authors' own Lean function (tested against real Go, not proved from fmt's source: count such statements apart). THE CARD IS WHAT COUNTS. Prove the row's statement (the work); the ties are given (YtjjccjannandlaaDoorTie.lean); close each card by the builder's one call (the guide's Derived/Test/ToyasCard.lean, 'card_holds'). Laid BY PROGRAM, IN A SANDBOX (cutbox-door.mjs). By AI agents, Wed Nov 11 2026. No macro, syntax, notation, axiom, sorry.
-/
import Derived.Test.YtjjccjannandlaaDoorRows
import GoSem.ClaimSeven
namespace Go.Proofs.YtjjccjannandlaaDoor
namespace Rows

/-- THE TIED CARD OF 'quaysidelaw08.CommandChecks'. -/
def commandChecksCard : Claim7 := { stood := { row := commandChecksRow, standIns := [], harness := (true, "a7da0ede6b774aaedec88b5dd6caa20be37e97a59f55ba52086a1114488a103b"), looks := true }, kinds := [], alts := [], laidByText := true, laidKinds := [.data, .data], laidTests := true, laidLooks := .later }
def CommandChecksCardSaid : Prop := Claim7.holds Tryd.pinned (.plain (OpenSpec.ofChange commandChecksSpec)) commandChecksCard

/-- THE TIED CARD OF 'quaysidelaw08.CommandFits'. -/
def commandFitsCard : Claim7 := { stood := { row := commandFitsRow, standIns := [], harness := (true, "a7da0ede6b774aaedec88b5dd6caa20be37e97a59f55ba52086a1114488a103b"), looks := true }, kinds := [], alts := [], laidByText := true, laidKinds := [.data, .data], laidTests := true, laidLooks := .later }
def CommandFitsCardSaid : Prop := Claim7.holds Tryd.pinned (.plain (OpenSpec.ofChange commandFitsSpec)) commandFitsCard

/-- THE TIED CARD OF 'quaysidelaw08.CommandKnown'. -/
def commandKnownCard : Claim7 := { stood := { row := commandKnownRow, standIns := [], harness := (true, "a7da0ede6b774aaedec88b5dd6caa20be37e97a59f55ba52086a1114488a103b"), looks := true }, kinds := [], alts := [], laidByText := true, laidKinds := [.data, .data], laidTests := true, laidLooks := .later }
def CommandKnownCardSaid : Prop := Claim7.holds Tryd.pinned (.plain (OpenSpec.ofChange commandKnownSpec)) commandKnownCard

/-- THE SECOND FORM's CARD OF 'quaysidelaw08.CommandChecks'. -/
def commandChecksUptoCard : Claim7 := { stood := { row := commandChecksUptoRow, standIns := [], harness := (true, "a7da0ede6b774aaedec88b5dd6caa20be37e97a59f55ba52086a1114488a103b"), looks := true }, kinds := [], alts := [], laidByText := true, laidKinds := [.data, .data], laidTests := true, laidLooks := .later }
def CommandChecksUptoCardSaid : Prop := Claim7.holds Tryd.pinned (.plain (OpenSpec.upto commandChecksSpec)) commandChecksUptoCard

/-- THE SECOND FORM's CARD OF 'quaysidelaw08.CommandFits'. -/
def commandFitsUptoCard : Claim7 := { stood := { row := commandFitsUptoRow, standIns := [], harness := (true, "a7da0ede6b774aaedec88b5dd6caa20be37e97a59f55ba52086a1114488a103b"), looks := true }, kinds := [], alts := [], laidByText := true, laidKinds := [.data, .data], laidTests := true, laidLooks := .later }
def CommandFitsUptoCardSaid : Prop := Claim7.holds Tryd.pinned (.plain (OpenSpec.upto commandFitsSpec)) commandFitsUptoCard

/-- THE SECOND FORM's CARD OF 'quaysidelaw08.CommandKnown'. -/
def commandKnownUptoCard : Claim7 := { stood := { row := commandKnownUptoRow, standIns := [], harness := (true, "a7da0ede6b774aaedec88b5dd6caa20be37e97a59f55ba52086a1114488a103b"), looks := true }, kinds := [], alts := [], laidByText := true, laidKinds := [.data, .data], laidTests := true, laidLooks := .later }
def CommandKnownUptoCardSaid : Prop := Claim7.holds Tryd.pinned (.plain (OpenSpec.upto commandKnownSpec)) commandKnownUptoCard
end Rows
end Go.Proofs.YtjjccjannandlaaDoor
