/- An event that came in as an argument, opened. -/
import Derived.Test.YtjjccjannandlaaOpenS
import Derived.Test.YtjjccjannandlaaOpenB
import Derived.Test.YtjjccjannandlaaMzEPut2
set_option maxRecDepth 100000
set_option linter.unusedVariables false
set_option linter.unusedSimpArgs false
namespace Go.Proofs.Ytjjccjannandlaa
open Go.ChangeShapes Go.WideShapes Go.ChangeAt Go.RowKit

theorem list10' {α : Type} {l : List α} (h : l.length = 10) : ∃ a0 a1 a2 a3 a4 a5 a6 a7 a8 a9, l = [a0, a1, a2, a3, a4, a5, a6, a7, a8, a9] := by
  match l, h with
  | [a0, a1, a2, a3, a4, a5, a6, a7, a8, a9], _ => exact ⟨a0, a1, a2, a3, a4, a5, a6, a7, a8, a9, rfl⟩
theorem cellsInts' : Try.prog.cellsOf 35 = 1 := by kernel_rfl
theorem cellsId' : Try.prog.cellsOf 37 = 2 := by kernel_rfl
theorem cellsEvent' : Try.prog.cellsOf 39 = 10 := by kernel_rfl

section
variable {H : Type} {enc : TypeId × Value → H} {W : World} {base : Nat}
theorem open_ev {r : Reach} {b0 : Nat} {v : Value} {d : DataW H} {p : List MemPlace} (hval : Value.okWide Try.prog W r b0 39 v) (h : DataW.Trod enc Try.prog W 0 (fun _ => true) true 39 v d p) :
    ∃ (f : Nat → Int) (dv : Value) (xs : List Int), v = evV f dv ∧ Sl .i64 W W.heap.size dv xs ∧ Ev64 f xs := by
  obtain ⟨cs, rfl, hsz⟩ := okWide_struct Try.underlying39 hval
  obtain ⟨fuel, hf⟩ := h
  obtain ⟨xs, n, _, hx, _, hlen, hg⟩ := DataW.trod_struct Try.underlying39 hf
  obtain ⟨l⟩ := cs
  rw [cellsEvent'] at hsz
  obtain ⟨c0, c1, c2, c3, c4, c5, c6, c7, c8, c9, rfl⟩ := list10' (l := l) (by simpa using hsz)
  have hl : xs.length = 9 := hlen
  obtain ⟨y0, h0⟩ := fld hg 0 (by omega) 37 0 rfl
  obtain ⟨y1, h1⟩ := fld hg 1 (by omega) 3 2 rfl
  obtain ⟨y2, h2⟩ := fld hg 2 (by omega) 35 3 rfl
  obtain ⟨y3, h3⟩ := fld hg 3 (by omega) 3 4 rfl
  obtain ⟨y4, h4⟩ := fld hg 4 (by omega) 3 5 rfl
  obtain ⟨y5, h5⟩ := fld hg 5 (by omega) 3 6 rfl
  obtain ⟨y6, h6⟩ := fld hg 6 (by omega) 3 7 rfl
  obtain ⟨y7, h7⟩ := fld hg 7 (by omega) 3 8 rfl
  obtain ⟨y8, h8⟩ := fld hg 8 (by omega) 3 9 rfl
  simp only [Try.cellsOneInt, cellsId', cellsInts', Value.cells, List.drop_zero, List.drop_succ_cons, List.take_succ_cons, List.take_zero] at h0 h1 h2 h3 h4 h5 h6 h7 h8
  obtain ⟨zs, n', _, _, _, hlen', hg'⟩ := DataW.trod_struct Try.underlying37 h0
  have hl' : zs.length = 2 := hlen'
  obtain ⟨z0, g0'⟩ := fld hg' 0 (by omega) 3 0 rfl
  obtain ⟨z1, g1'⟩ := fld hg' 1 (by omega) 3 1 rfl
  simp only [Try.cellsOneInt, List.drop_zero, List.drop_succ_cons, List.take_succ_cons, List.take_zero] at g0' g1'
  obtain ⟨n0, rfl, w0⟩ := int_of_trod Try.underlying3 g0'
  obtain ⟨n1, rfl, w1⟩ := int_of_trod Try.underlying3 g1'
  obtain ⟨n2, rfl, w2⟩ := int_of_trod Try.underlying3 h1
  obtain ⟨n3, rfl, w3⟩ := int_of_trod Try.underlying3 h3
  obtain ⟨n4, rfl, w4⟩ := int_of_trod Try.underlying3 h4
  obtain ⟨n5, rfl, w5⟩ := int_of_trod Try.underlying3 h5
  obtain ⟨n6, rfl, w6⟩ := int_of_trod Try.underlying3 h6
  obtain ⟨n7, rfl, w7⟩ := int_of_trod Try.underlying3 h7
  obtain ⟨n8, rfl, w8⟩ := int_of_trod Try.underlying3 h8
  obtain ⟨ds, hsl, hml, hds⟩ := sl_of_trod Try.underlying35 Try.underlying3 Try.cellsOneInt h2
  refine ⟨fun | 0 => n0 | 1 => n1 | 2 => n2 | 3 => n3 | 4 => n4 | 5 => n5 | 6 => n6 | 7 => n7 | _ => n8, c3, ds, rfl, hsl, fun i hi => ?_, fun n hn => i64_of_wf (hds n hn)⟩
  rcases (show i = 0 ∨ i = 1 ∨ i = 2 ∨ i = 3 ∨ i = 4 ∨ i = 5 ∨ i = 6 ∨ i = 7 ∨ i = 8 from by omega) with rfl | rfl | rfl | rfl | rfl | rfl | rfl | rfl | rfl
  · exact i64_of_wf w0
  · exact i64_of_wf w1
  · exact i64_of_wf w2
  · exact i64_of_wf w3
  · exact i64_of_wf w4
  · exact i64_of_wf w5
  · exact i64_of_wf w6
  · exact i64_of_wf w7
  · exact i64_of_wf w8
end
end Go.Proofs.Ytjjccjannandlaa
