/- Seven cells. -/
import Derived.Test.YtjjccjannandlaaDoorKitC
set_option maxRecDepth 100000
set_option linter.unusedVariables false
set_option linter.unusedSimpArgs false
namespace Go.Proofs.YtjjccjannandlaaDoor
open Go.RowKit

abbrev cells7 (v : Nat → Int) : Array Value := #[.int .i64 (v 0), .int .i64 (v 1), .int .i64 (v 2), .int .i64 (v 3), .int .i64 (v 4), .int .i64 (v 5), .int .i64 (v 6)]
theorem Sl.cap' {k : IntKind} {w : World} {B n c : Nat} {A : Option Addr} {xs : List Int} (h : Sl k w B (.slice A n c) xs) : xs.length ≤ c := by
  rcases h with ⟨A', c', hv, rfl⟩ | ⟨b, off, c', hv, hlt, hc, hx⟩
  · simp
  · injection hv with h1 h2 h3
    subst h3; exact hc
end Go.Proofs.YtjjccjannandlaaDoor
