/- Readings that came in as an argument, opened. -/
import Derived.Test.YtamnligooelmgaaOpenW
import Derived.Test.YtamnligooelmgaaOpenB
import Derived.Test.YtamnligooelmgaaStops
set_option linter.unusedVariables false
set_option linter.unusedSimpArgs false
namespace Go.Proofs.Ytamnligooelmgaa
open Go.ChangeShapes Go.WideShapes Go.ChangeAt Go.RowKit

theorem cells_Reading : Try.prog.cellsOf 51 = 2 := by kernel_rfl
theorem bytes_Reading : Try.prog.bytesOf 51 = 16 := by kernel_rfl
theorem list2 {l : List Value} (h : l.length = 2) : ∃ a b, l = [a, b] := by
  match l, h with
  | [a, b], _ => exact ⟨a, b, rfl⟩
theorem reads_list {P : Int × Int → Prop} : ∀ {rows : List (List Value)}, (∀ r ∈ rows, ∃ t : Int × Int, r = [.int .i64 t.1, .int .i64 t.2] ∧ P t) → ∃ l : List (Int × Int), rows = l.map (fun t => [.int .i64 t.1, .int .i64 t.2]) ∧ ∀ t ∈ l, P t
  | [], _ => ⟨[], rfl, by simp⟩
  | r :: rows, h => by
    obtain ⟨t, rfl, ht⟩ := h r (by simp)
    obtain ⟨l, rfl, hl⟩ := reads_list (rows := rows) (P := P) (fun x hx => h x (List.mem_cons_of_mem _ hx))
    refine ⟨t :: l, rfl, fun x hx => ?_⟩
    rcases List.mem_cons.1 hx with rfl | hx
    · exact ht
    · exact hl x hx

section
variable {H : Type} {enc : TypeId × Value → H} {W : World} {base : Nat}
theorem open_readings {r : Reach} {b0 : Nat} {v : Value} {d : DataW H} {p : List MemPlace} (hval : Value.okWide Try.prog W r b0 49 v) (h : DataW.Trod enc Try.prog W 0 (fun _ => true) true 49 v d p)
    (hw : Wt Try.prog 49 d reachBytes) : ∃ l : List (Int × Int), Rgs W W.heap.size v l ∧ l.length ≤ 140737488351232 := by
  obtain ⟨a, len, cap, rfl⟩ := okWide_slice Try.underlying49 hval
  obtain ⟨fuel, hf⟩ := h
  obtain ⟨rows, hsl, _, hwt, hel⟩ := elems_of_trod Try.underlying49 (by rw [cells_Reading]; decide) (by simpa [Value.cells] using hf)
  rw [cells_Reading] at hsl
  have hb := hwt _ hw
  rw [bytes_Reading] at hb
  simp only [reachBytes] at hb
  obtain ⟨l, rfl, hl⟩ := reads_list (rows := rows) (P := fun t => -9223372036854775808 ≤ t.1 ∧ t.1 ≤ 9223372036854775807) (fun r hr => by
    obtain ⟨n, y, hy, _, _⟩ := hel r hr
    obtain ⟨hlen, m, hf⟩ := flds_of_trod Try.underlying51 hy
    rw [cells_Reading] at hlen
    obtain ⟨c0, c1, rfl⟩ := list2 hlen
    obtain ⟨y0, h0, _⟩ := hf 0 3 0 rfl
    obtain ⟨y1, h1, _⟩ := hf 1 3 1 rfl
    simp only [Try.cellsOneInt, List.drop_zero, List.drop_succ_cons, List.take_succ_cons, List.take_zero] at h0 h1
    obtain ⟨k, rfl, wk⟩ := int_of_trod Try.underlying3 h0
    obtain ⟨q, rfl, wq⟩ := int_of_trod Try.underlying3 h1
    exact ⟨(k, q), rfl, i64_of_wf wk⟩)
  rw [List.length_map] at hb
  exact ⟨l, ⟨hsl, hl⟩, by omega⟩
end
end Go.Proofs.Ytamnligooelmgaa
