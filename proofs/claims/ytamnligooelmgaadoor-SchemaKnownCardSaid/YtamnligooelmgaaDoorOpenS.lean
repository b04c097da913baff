/- A slice of integers that came in as an argument, opened. -/
import Derived.Test.YtamnligooelmgaaDoorOpen
set_option maxRecDepth 100000
set_option linter.unusedVariables false
set_option linter.unusedSimpArgs false
namespace Go.Proofs.YtamnligooelmgaaDoor
open Go.ChangeShapes Go.WideShapes Go.ChangeAt Go.RowKit

theorem Tryd.cellsOneInt : Tryd.prog.cellsOf 3 = 1 := by kernel_rfl
theorem open_sl {H : Type} {enc : TypeId × Value → H} {P : Program} {w : World} {r : Reach} {base b0 : Nat} {held : Bool} {t e : TypeId} {k : IntKind} {v : Value} {d : DataW H} {p : List MemPlace} (ht : P.underlying t = some (.slice e)) (he : P.underlying e = some (.int k)) (hc : P.cellsOf e = 1)
    (hval : Value.okWide P w r b0 t v) (h : DataW.Trod enc P w base (fun _ => true) held t v d p) : ∃ xs : List Int, Sl k w w.heap.size v xs ∧ xs.length ≤ maxLen ∧ ∀ n ∈ xs, (Lit.int k n).wf = true := by
  obtain ⟨a, len, cap, rfl⟩ := okWide_slice ht hval
  obtain ⟨fuel, hf⟩ := h
  exact sl_of_trod ht he hc (by simpa [Value.cells] using hf)
theorem i64_le {xs : List Int} (h : ∀ n ∈ xs, (Lit.int .i64 n).wf = true) : ∀ n ∈ xs, n ≤ 9223372036854775807 := fun n hn => (i64_of_wf (h n hn)).2
end Go.Proofs.YtamnligooelmgaaDoor
