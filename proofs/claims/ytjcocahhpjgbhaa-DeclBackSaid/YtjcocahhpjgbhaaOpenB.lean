/- Bytes and numbers that came in as arguments, opened. -/
import Derived.Test.YtjcocahhpjgbhaaOpenS
set_option maxRecDepth 100000
set_option linter.unusedVariables false
set_option linter.unusedSimpArgs false
namespace Go.Proofs.Ytjcocahhpjgbhaa
open Go.ChangeShapes Go.WideShapes Go.ChangeAt Go.RowKit

theorem Try.cellsByte : Try.prog.cellsOf 5 = 1 := by kernel_rfl
theorem bytes_wf {xs : List Int} (h : ∀ n ∈ xs, (Lit.int .u8 n).wf = true) : ∀ n ∈ xs, 0 ≤ n ∧ n ≤ 255 := fun n hn => by
  have := h n hn
  simp [Lit.wf, IntKind.min, IntKind.max, IntKind.bits, IntKind.signed] at this
  omega
end Go.Proofs.Ytjcocahhpjgbhaa
