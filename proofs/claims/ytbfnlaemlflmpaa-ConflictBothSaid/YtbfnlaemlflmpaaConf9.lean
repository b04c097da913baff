/- Fields and events that came in, opened. -/
import Derived.Test.YtbfnlaemlflmpaaConf3
import Derived.Test.YtbfnlaemlflmpaaOpen
set_option linter.unusedVariables false
set_option linter.unusedSimpArgs false
namespace Go.Proofs.Ytbfnlaemlflmpaa
open Go.ChangeShapes Go.WideShapes Go.ChangeAt Go.RowKit

theorem list4 {α : Type} {l : List α} (h : l.length = 4) : ∃ a0 a1 a2 a3, l = [a0, a1, a2, a3] := by
  match l, h with
  | [a0, a1, a2, a3], _ => exact ⟨a0, a1, a2, a3, rfl⟩
theorem list10 {α : Type} {l : List α} (h : l.length = 10) : ∃ a0 a1 a2 a3 a4 a5 a6 a7 a8 a9, l = [a0, a1, a2, a3, a4, a5, a6, a7, a8, a9] := by
  match l, h with
  | [a0, a1, a2, a3, a4, a5, a6, a7, a8, a9], _ => exact ⟨a0, a1, a2, a3, a4, a5, a6, a7, a8, a9, rfl⟩
theorem Try.cellsInt : Try.prog.cellsOf 3 = 1 := by kernel_rfl
theorem Try.cellsBool : Try.prog.cellsOf 4 = 1 := by kernel_rfl
theorem Try.cellsInts : Try.prog.cellsOf 27 = 1 := by kernel_rfl
theorem Try.cellsMoves : Try.prog.cellsOf 22 = 1 := by kernel_rfl
theorem Try.cellsField : Try.prog.cellsOf 24 = 4 := by kernel_rfl
theorem Try.cellsId : Try.prog.cellsOf 26 = 2 := by kernel_rfl
theorem Try.cellsEvent : Try.prog.cellsOf 29 = 10 := by kernel_rfl

section
variable {H : Type} {enc : TypeId × Value → H} {W : World} {base : Nat}

theorem open_field {v : Value} {d : DataW H} {p : List MemPlace} (hval : Value.okWide Try.prog W .any base 24 v) (h : DataW.Trod enc Try.prog W 0 (fun _ => true) true 24 v d p) :
    ∃ (k q : Int) (fl : Bool) (mv : Value), v = fdV k q fl mv ∧ I64 k ∧ I64 q := by
  obtain ⟨cs, rfl, hsz⟩ := okWide_struct Try.underlying24 hval
  obtain ⟨fuel, hf⟩ := h
  obtain ⟨xs, n, _, hx, _, hlen, hg⟩ := DataW.trod_struct Try.underlying24 hf
  obtain ⟨l⟩ := cs
  rw [Try.cellsField] at hsz
  obtain ⟨c0, c1, c2, c3, rfl⟩ := list4 (l := l) (by simpa using hsz)
  have hl : xs.length = 4 := hlen
  obtain ⟨y0, h0⟩ := fld hg 0 (by omega) 3 0 rfl
  obtain ⟨y1, h1⟩ := fld hg 1 (by omega) 3 1 rfl
  obtain ⟨y2, h2⟩ := fld hg 2 (by omega) 4 2 rfl
  simp only [Try.cellsInt, Try.cellsBool, Value.cells, List.drop_zero, List.drop_succ_cons, List.take_succ_cons, List.take_zero] at h0 h1 h2
  obtain ⟨k, rfl, wk⟩ := int_of_trod Try.underlying3 h0
  obtain ⟨q, rfl, wq⟩ := int_of_trod Try.underlying3 h1
  obtain ⟨fl, rfl⟩ := bool_of_trod Try.underlying4 h2
  exact ⟨k, q, fl, c3, rfl, i64_of_wf wk, i64_of_wf wq⟩

theorem open_event {v : Value} {d : DataW H} {p : List MemPlace} (hval : Value.okWide Try.prog W .any base 29 v) (h : DataW.Trod enc Try.prog W 0 (fun _ => true) true 29 v d p) :
    ∃ (e : Ev) (dv : Value) (zs : List Int), v = e.val dv ∧ Sl .i64 W W.heap.size dv zs ∧ zs.length ≤ maxLen ∧ (∀ n ∈ zs, I64 n) ∧
      I64 e.o ∧ I64 e.s ∧ I64 e.l ∧ I64 e.t ∧ I64 e.a ∧ I64 e.f ∧ I64 e.op ∧ I64 e.arg ∧ I64 e.key := by
  obtain ⟨cs, rfl, hsz⟩ := okWide_struct Try.underlying29 hval
  obtain ⟨fuel, hf⟩ := h
  obtain ⟨xs, n, _, hx, _, hlen, hg⟩ := DataW.trod_struct Try.underlying29 hf
  obtain ⟨l⟩ := cs
  rw [Try.cellsEvent] at hsz
  obtain ⟨c0, c1, c2, c3, c4, c5, c6, c7, c8, c9, rfl⟩ := list10 (l := l) (by simpa using hsz)
  have hl : xs.length = 9 := hlen
  obtain ⟨y0, h0⟩ := fld hg 0 (by omega) 26 0 rfl
  obtain ⟨y1, h1⟩ := fld hg 1 (by omega) 3 2 rfl
  obtain ⟨y2, h2⟩ := fld hg 2 (by omega) 27 3 rfl
  obtain ⟨y3, h3⟩ := fld hg 3 (by omega) 3 4 rfl
  obtain ⟨y4, h4⟩ := fld hg 4 (by omega) 3 5 rfl
  obtain ⟨y5, h5⟩ := fld hg 5 (by omega) 3 6 rfl
  obtain ⟨y6, h6⟩ := fld hg 6 (by omega) 3 7 rfl
  obtain ⟨y7, h7⟩ := fld hg 7 (by omega) 3 8 rfl
  obtain ⟨y8, h8⟩ := fld hg 8 (by omega) 3 9 rfl
  simp only [Try.cellsInt, Try.cellsId, Try.cellsInts, Value.cells, List.drop_zero, List.drop_succ_cons, List.take_succ_cons, List.take_zero] at h0 h1 h2 h3 h4 h5 h6 h7 h8
  obtain ⟨zs, n', _, _, _, hlen', hg'⟩ := DataW.trod_struct Try.underlying26 h0
  have hl' : zs.length = 2 := hlen'
  obtain ⟨z0, g0'⟩ := fld hg' 0 (by omega) 3 0 rfl
  obtain ⟨z1, g1'⟩ := fld hg' 1 (by omega) 3 1 rfl
  simp only [Try.cellsInt, List.drop_zero, List.drop_succ_cons, List.take_succ_cons, List.take_zero] at g0' g1'
  obtain ⟨o, rfl, wo⟩ := int_of_trod Try.underlying3 g0'
  obtain ⟨s, rfl, ws⟩ := int_of_trod Try.underlying3 g1'
  obtain ⟨l, rfl, wl⟩ := int_of_trod Try.underlying3 h1
  obtain ⟨t, rfl, wt⟩ := int_of_trod Try.underlying3 h3
  obtain ⟨a, rfl, wa⟩ := int_of_trod Try.underlying3 h4
  obtain ⟨f, rfl, wf⟩ := int_of_trod Try.underlying3 h5
  obtain ⟨op, rfl, wop⟩ := int_of_trod Try.underlying3 h6
  obtain ⟨arg, rfl, warg⟩ := int_of_trod Try.underlying3 h7
  obtain ⟨key, rfl, wkey⟩ := int_of_trod Try.underlying3 h8
  obtain ⟨ds, hsl, hml, hds⟩ := sl_of_trod Try.underlying27 Try.underlying3 Try.cellsInt h2
  exact ⟨⟨o, s, l, t, a, f, op, arg, key⟩, c3, ds, rfl, hsl, hml, fun n hn => i64_of_wf (hds n hn), i64_of_wf wo, i64_of_wf ws, i64_of_wf wl, i64_of_wf wt, i64_of_wf wa, i64_of_wf wf, i64_of_wf wop, i64_of_wf warg, i64_of_wf wkey⟩
end
end Go.Proofs.Ytbfnlaemlflmpaa
