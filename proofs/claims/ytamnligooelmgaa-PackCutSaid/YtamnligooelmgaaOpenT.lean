/- Things that came in as an argument, opened. -/
import Derived.Test.YtamnligooelmgaaOpenW
import Derived.Test.YtamnligooelmgaaOpenB
import Derived.Test.YtamnligooelmgaaThings
set_option linter.unusedVariables false
set_option linter.unusedSimpArgs false
namespace Go.Proofs.Ytamnligooelmgaa
open Go.ChangeShapes Go.WideShapes Go.ChangeAt Go.RowKit

theorem cells_Thing : Try.prog.cellsOf 39 = 3 := by kernel_rfl
theorem cells_Bytes : Try.prog.cellsOf 22 = 1 := by kernel_rfl
theorem cells_Bool : Try.prog.cellsOf 4 = 1 := by kernel_rfl
theorem bytes_Thing : Try.prog.bytesOf 39 = 40 := by kernel_rfl
theorem bytes_Byte : Try.prog.bytesOf 5 = 1 := by kernel_rfl
theorem list3 {l : List Value} (h : l.length = 3) : ∃ a b c, l = [a, b, c] := by
  match l, h with
  | [a, b, c], _ => exact ⟨a, b, c, rfl⟩

section
variable {H : Type} {enc : TypeId × Value → H} {W : World} {base : Nat}
theorem open_thing {n : Nat} {r : List Value} {y : DataW H × List MemPlace} (h : DataW.trod enc Try.prog W 0 (fun _ => true) true n 39 r = some y) (hw : Wt Try.prog 39 y.1 reachBytes) :
    ∃ t : Th, r = t.cells ∧ Sl .u8 W W.heap.size t.v t.bs ∧ t.bs.length ≤ 140737488351232 ∧ Bytes t.bs ∧ -9223372036854775808 ≤ t.n ∧ t.n ≤ 9223372036854775807 := by
  obtain ⟨hlen, m, hf⟩ := flds_of_trod Try.underlying39 h
  rw [cells_Thing] at hlen
  obtain ⟨c0, c1, c2, rfl⟩ := list3 hlen
  obtain ⟨y0, h0, _⟩ := hf 0 4 0 rfl
  obtain ⟨y1, h1, _⟩ := hf 1 3 1 rfl
  obtain ⟨y2, h2, w2⟩ := hf 2 22 2 rfl
  simp only [Try.cellsOneInt, cells_Bool, cells_Bytes, List.drop_zero, List.drop_succ_cons, List.take_succ_cons, List.take_zero] at h0 h1 h2
  obtain ⟨b, rfl⟩ := bool_of_trod Try.underlying4 h0
  obtain ⟨k, rfl, wk⟩ := int_of_trod Try.underlying3 h1
  obtain ⟨xs, hs, _, hwf, hwt⟩ := ints_of_trod Try.underlying22 Try.underlying5 Try.cellsByte h2
  have := hwt _ (w2 _ hw)
  rw [bytes_Byte] at this
  refine ⟨⟨b, k, xs, c2⟩, rfl, hs, ?_, bytes_wf hwf, (i64_of_wf wk).1, (i64_of_wf wk).2⟩
  simp only [reachBytes] at this
  show xs.length ≤ _
  omega
theorem things_list {P : List Value → Th → Prop} : ∀ {rows : List (List Value)}, (∀ r ∈ rows, ∃ t, r = t.cells ∧ P r t) → ∃ l : List Th, rows = l.map Th.cells ∧ ∀ t ∈ l, P t.cells t
  | [], _ => ⟨[], rfl, by simp⟩
  | r :: rows, h => by
    obtain ⟨t, rfl, ht⟩ := h r (by simp)
    obtain ⟨l, rfl, hl⟩ := things_list (rows := rows) (P := P) (fun x hx => h x (List.mem_cons_of_mem _ hx))
    refine ⟨t :: l, rfl, fun x hx => ?_⟩
    rcases List.mem_cons.1 hx with rfl | hx
    · exact ht
    · exact hl x hx
theorem open_things {r : Reach} {b0 : Nat} {v : Value} {d : DataW H} {p : List MemPlace} (hval : Value.okWide Try.prog W r b0 30 v) (h : DataW.Trod enc Try.prog W 0 (fun _ => true) true 30 v d p)
    (hw : Wt Try.prog 30 d reachBytes) : ∃ l : List Th, Things W W.heap.size v l ∧ l.length ≤ 140737488351232 := by
  obtain ⟨a, len, cap, rfl⟩ := okWide_slice Try.underlying30 hval
  obtain ⟨fuel, hf⟩ := h
  obtain ⟨rows, hsl, _, hwt, hel⟩ := elems_of_trod Try.underlying30 (by rw [cells_Thing]; decide) (by simpa [Value.cells] using hf)
  rw [cells_Thing] at hsl
  have hb := hwt _ hw
  rw [bytes_Thing] at hb
  simp only [reachBytes] at hb
  obtain ⟨l, rfl, hl⟩ := things_list (rows := rows) (P := fun _ t => Sl .u8 W W.heap.size t.v t.bs ∧ t.bs.length ≤ 140737488351232 ∧ Bytes t.bs ∧ -9223372036854775808 ≤ t.n ∧ t.n ≤ 9223372036854775807) (fun r hr => by
    obtain ⟨n, y, hy, _, hwy⟩ := hel r hr
    exact open_thing hy (hwy _ hw))
  rw [List.length_map] at hb
  exact ⟨l, ⟨hsl, hl⟩, by omega⟩
end
end Go.Proofs.Ytamnligooelmgaa
