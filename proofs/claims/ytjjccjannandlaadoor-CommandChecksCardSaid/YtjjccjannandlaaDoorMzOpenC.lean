/- A command that came in as an argument, opened. -/
import Derived.Test.YtjjccjannandlaaDoorOpenW
import Derived.Test.YtjjccjannandlaaDoorOpenB
import Derived.Test.YtjjccjannandlaaDoorMzCmdP
set_option maxRecDepth 100000
set_option maxRecDepth 100000
set_option linter.unusedVariables false
set_option linter.unusedSimpArgs false
namespace Go.Proofs.YtjjccjannandlaaDoor
open Go.ChangeShapes Go.WideShapes Go.ChangeAt Go.RowKit

theorem cells_Command : Tryd.prog.cellsOf 27 = 7 := by kernel_rfl
theorem list7 {l : List Value} (h : l.length = 7) : ∃ a b c d e f g, l = [a, b, c, d, e, f, g] := by
  match l, h with
  | [a, b, c, d, e, f, g], _ => exact ⟨a, b, c, d, e, f, g, rfl⟩
section
variable {H : Type} {enc : TypeId × Value → H} {W : World} {base : Nat}
theorem open_command {r : Reach} {b0 : Nat} {v : Value} {d : DataW H} {p : List MemPlace} (hval : Value.okWide Tryd.prog W r b0 27 v) (h : DataW.Trod enc Tryd.prog W 0 (fun _ => true) true 27 v d p) :
    ∃ f : Nat → Int, v = cmdV f ∧ V64 f := by
  obtain ⟨cs, rfl, hsz⟩ := okWide_struct Tryd.underlying27 hval
  obtain ⟨fuel, hf⟩ := h
  obtain ⟨hlen, n, hg⟩ := flds_of_trod Tryd.underlying27 hf
  obtain ⟨l⟩ := cs
  rw [cells_Command] at hsz
  obtain ⟨c0, c1, c2, c3, c4, c5, c6, rfl⟩ := list7 (l := l) (by simpa using hsz)
  obtain ⟨y0, h0, _⟩ := hg 0 3 0 rfl
  obtain ⟨y1, h1, _⟩ := hg 1 3 1 rfl
  obtain ⟨y2, h2, _⟩ := hg 2 3 2 rfl
  obtain ⟨y3, h3, _⟩ := hg 3 3 3 rfl
  obtain ⟨y4, h4, _⟩ := hg 4 3 4 rfl
  obtain ⟨y5, h5, _⟩ := hg 5 3 5 rfl
  obtain ⟨y6, h6, _⟩ := hg 6 3 6 rfl
  simp only [Tryd.cellsOneInt, Value.cells, List.drop_zero, List.drop_succ_cons, List.take_succ_cons, List.take_zero] at h0 h1 h2 h3 h4 h5 h6
  obtain ⟨n0, rfl, w0⟩ := int_of_trod Tryd.underlying3 h0
  obtain ⟨n1, rfl, w1⟩ := int_of_trod Tryd.underlying3 h1
  obtain ⟨n2, rfl, w2⟩ := int_of_trod Tryd.underlying3 h2
  obtain ⟨n3, rfl, w3⟩ := int_of_trod Tryd.underlying3 h3
  obtain ⟨n4, rfl, w4⟩ := int_of_trod Tryd.underlying3 h4
  obtain ⟨n5, rfl, w5⟩ := int_of_trod Tryd.underlying3 h5
  obtain ⟨n6, rfl, w6⟩ := int_of_trod Tryd.underlying3 h6
  refine ⟨fun | 0 => n0 | 1 => n1 | 2 => n2 | 3 => n3 | 4 => n4 | 5 => n5 | _ => n6, rfl, fun i hi => ?_⟩
  rcases (show i = 0 ∨ i = 1 ∨ i = 2 ∨ i = 3 ∨ i = 4 ∨ i = 5 ∨ i = 6 from by omega) with rfl | rfl | rfl | rfl | rfl | rfl | rfl
  · exact i64_of_wf w0
  · exact i64_of_wf w1
  · exact i64_of_wf w2
  · exact i64_of_wf w3
  · exact i64_of_wf w4
  · exact i64_of_wf w5
  · exact i64_of_wf w6
end
end Go.Proofs.YtjjccjannandlaaDoor
