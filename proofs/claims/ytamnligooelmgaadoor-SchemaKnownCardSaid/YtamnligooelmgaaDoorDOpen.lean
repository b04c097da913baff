/- Declarations that came in as an argument, opened. -/
import Derived.Test.YtamnligooelmgaaDoorOpenW
import Derived.Test.YtamnligooelmgaaDoorDecl
set_option maxRecDepth 100000
set_option linter.unusedVariables false
set_option linter.unusedSimpArgs false
namespace Go.Proofs.YtamnligooelmgaaDoor
open Go.ChangeShapes Go.WideShapes Go.ChangeAt Go.RowKit

theorem cells_Mv : Tryd.prog.cellsOf 39 = 4 := by kernel_rfl
theorem cells_Fd : Tryd.prog.cellsOf 33 = 4 := by kernel_rfl
theorem cells_Ty : Tryd.prog.cellsOf 45 = 1 := by kernel_rfl
theorem cells_Pj : Tryd.prog.cellsOf 47 = 5 := by kernel_rfl
theorem cells_Dc : Tryd.prog.cellsOf 25 = 2 := by kernel_rfl
theorem cells_Mvs : Tryd.prog.cellsOf 31 = 1 := by kernel_rfl
theorem cells_Fds : Tryd.prog.cellsOf 43 = 1 := by kernel_rfl
theorem cells_Tys : Tryd.prog.cellsOf 22 = 1 := by kernel_rfl
theorem cells_Pjs : Tryd.prog.cellsOf 23 = 1 := by kernel_rfl
theorem cells_b : Tryd.prog.cellsOf 4 = 1 := by kernel_rfl
theorem rows_list {α : Type} {f : α → List Value} {P : α → Prop} : ∀ {rows : List (List Value)}, (∀ r ∈ rows, ∃ t, r = f t ∧ P t) → ∃ l : List α, rows = l.map f ∧ ∀ t ∈ l, P t
  | [], _ => ⟨[], rfl, by simp⟩
  | r :: rows, h => by
    obtain ⟨t, rfl, ht⟩ := h r (by simp)
    obtain ⟨l, rfl, hl⟩ := rows_list (rows := rows) (P := P) (fun x hx => h x (List.mem_cons_of_mem _ hx))
    refine ⟨t :: l, rfl, fun x hx => ?_⟩
    rcases List.mem_cons.1 hx with rfl | hx
    · exact ht
    · exact hl x hx
theorem l1 {l : List Value} (h : l.length = 1) : ∃ a, l = [a] := by
  match l, h with
  | [a], _ => exact ⟨a, rfl⟩
theorem l2 {l : List Value} (h : l.length = 2) : ∃ a b, l = [a, b] := by
  match l, h with
  | [a, b], _ => exact ⟨a, b, rfl⟩
theorem l4 {l : List Value} (h : l.length = 4) : ∃ a b c d, l = [a, b, c, d] := by
  match l, h with
  | [a, b, c, d], _ => exact ⟨a, b, c, d, rfl⟩
theorem l5 {l : List Value} (h : l.length = 5) : ∃ a b c d e, l = [a, b, c, d, e] := by
  match l, h with
  | [a, b, c, d, e], _ => exact ⟨a, b, c, d, e, rfl⟩
section
variable {H : Type} {enc : TypeId × Value → H} {W : World} {base : Nat}
set_option maxRecDepth 100000 in
theorem open_mv {n : Nat} {r : List Value} {y : DataW H × List MemPlace} (h : DataW.trod enc Tryd.prog W 0 (fun _ => true) true n 39 r = some y) : ∃ m : Mv, r = m.cells ∧ True := by
  obtain ⟨hlen, k, hf⟩ := flds_of_trod Tryd.underlying39 h
  rw [cells_Mv] at hlen
  obtain ⟨c0, c1, c2, c3, rfl⟩ := l4 hlen
  obtain ⟨y0, h0, _⟩ := hf 0 3 0 rfl
  obtain ⟨y1, h1, _⟩ := hf 1 3 1 rfl
  obtain ⟨y2, h2, _⟩ := hf 2 3 2 rfl
  obtain ⟨y3, h3, _⟩ := hf 3 3 3 rfl
  simp only [Tryd.cellsOneInt, List.drop_zero, List.drop_succ_cons, List.take_succ_cons, List.take_zero] at h0 h1 h2 h3
  obtain ⟨n0, rfl, _⟩ := int_of_trod Tryd.underlying3 h0
  obtain ⟨n1, rfl, _⟩ := int_of_trod Tryd.underlying3 h1
  obtain ⟨n2, rfl, _⟩ := int_of_trod Tryd.underlying3 h2
  obtain ⟨n3, rfl, _⟩ := int_of_trod Tryd.underlying3 h3
  exact ⟨⟨n0, n1, n2, n3⟩, rfl, trivial⟩
theorem open_pj {n : Nat} {r : List Value} {y : DataW H × List MemPlace} (h : DataW.trod enc Tryd.prog W 0 (fun _ => true) true n 47 r = some y) : ∃ p : Pj, r = p.cells ∧ True := by
  obtain ⟨hlen, k, hf⟩ := flds_of_trod Tryd.underlying47 h
  rw [cells_Pj] at hlen
  obtain ⟨c0, c1, c2, c3, c4, rfl⟩ := l5 hlen
  obtain ⟨y0, h0, _⟩ := hf 0 3 0 rfl
  obtain ⟨y1, h1, _⟩ := hf 1 3 1 rfl
  obtain ⟨y2, h2, _⟩ := hf 2 3 2 rfl
  obtain ⟨y3, h3, _⟩ := hf 3 3 3 rfl
  obtain ⟨y4, h4, _⟩ := hf 4 3 4 rfl
  simp only [Tryd.cellsOneInt, List.drop_zero, List.drop_succ_cons, List.take_succ_cons, List.take_zero] at h0 h1 h2 h3 h4
  obtain ⟨n0, rfl, _⟩ := int_of_trod Tryd.underlying3 h0
  obtain ⟨n1, rfl, _⟩ := int_of_trod Tryd.underlying3 h1
  obtain ⟨n2, rfl, _⟩ := int_of_trod Tryd.underlying3 h2
  obtain ⟨n3, rfl, _⟩ := int_of_trod Tryd.underlying3 h3
  obtain ⟨n4, rfl, _⟩ := int_of_trod Tryd.underlying3 h4
  exact ⟨⟨n0, n1, n2, n3, n4⟩, rfl, trivial⟩
set_option maxRecDepth 100000 in
theorem open_fd {n : Nat} {r : List Value} {y : DataW H × List MemPlace} (h : DataW.trod enc Tryd.prog W 0 (fun _ => true) true n 33 r = some y) : ∃ f : Fd, r = f.cells ∧ f.In W W.heap.size := by
  obtain ⟨hlen, k, hf⟩ := flds_of_trod Tryd.underlying33 h
  rw [cells_Fd] at hlen
  obtain ⟨c0, c1, c2, c3, rfl⟩ := l4 hlen
  obtain ⟨y0, h0, _⟩ := hf 0 3 0 rfl
  obtain ⟨y1, h1, _⟩ := hf 1 3 1 rfl
  obtain ⟨y2, h2, _⟩ := hf 2 4 2 rfl
  obtain ⟨y3, h3, _⟩ := hf 3 31 3 rfl
  simp only [Tryd.cellsOneInt, cells_b, cells_Mvs, List.drop_zero, List.drop_succ_cons, List.take_succ_cons, List.take_zero] at h0 h1 h2 h3
  obtain ⟨n0, rfl, _⟩ := int_of_trod Tryd.underlying3 h0
  obtain ⟨n1, rfl, _⟩ := int_of_trod Tryd.underlying3 h1
  obtain ⟨b, rfl⟩ := bool_of_trod Tryd.underlying4 h2
  obtain ⟨rows, hsl, _, _, hel⟩ := elems_of_trod Tryd.underlying31 (by rw [cells_Mv]; decide) h3
  rw [cells_Mv] at hsl
  obtain ⟨l, rfl, _⟩ := rows_list (rows := rows) (f := Mv.cells) (P := fun _ => True) (fun r hr => by
    obtain ⟨n, y, hy, _⟩ := hel r hr
    exact open_mv hy)
  exact ⟨⟨n0, n1, b, l, c3⟩, rfl, hsl⟩
theorem open_ty {n : Nat} {r : List Value} {y : DataW H × List MemPlace} (h : DataW.trod enc Tryd.prog W 0 (fun _ => true) true n 45 r = some y) : ∃ t : Ty, r = t.cells ∧ t.In W W.heap.size := by
  obtain ⟨hlen, k, hf⟩ := flds_of_trod Tryd.underlying45 h
  rw [cells_Ty] at hlen
  obtain ⟨c0, rfl⟩ := l1 hlen
  obtain ⟨y0, h0, _⟩ := hf 0 43 0 rfl
  simp only [cells_Fds, List.drop_zero, List.drop_succ_cons, List.take_succ_cons, List.take_zero] at h0
  obtain ⟨rows, hsl, _, _, hel⟩ := elems_of_trod Tryd.underlying43 (by rw [cells_Fd]; decide) h0
  rw [cells_Fd] at hsl
  obtain ⟨l, rfl, hl⟩ := rows_list (rows := rows) (f := Fd.cells) (P := fun f => f.In W W.heap.size) (fun r hr => by
    obtain ⟨n, y, hy, _⟩ := hel r hr
    exact open_fd hy)
  exact ⟨⟨l, c0⟩, rfl, hsl, hl⟩
set_option maxRecDepth 100000 in
theorem open_decl {r : Reach} {b0 : Nat} {v : Value} {d : DataW H} {p : List MemPlace} (hval : Value.okWide Tryd.prog W r b0 25 v) (h : DataW.Trod enc Tryd.prog W 0 (fun _ => true) true 25 v d p) :
    ∃ D : Dc, v = declV D ∧ D.In W W.heap.size := by
  obtain ⟨cs, rfl, hsz⟩ := okWide_struct Tryd.underlying25 hval
  obtain ⟨fuel, hf⟩ := h
  obtain ⟨hlen, n, hg⟩ := flds_of_trod Tryd.underlying25 hf
  obtain ⟨l⟩ := cs
  rw [cells_Dc] at hsz
  obtain ⟨c0, c1, rfl⟩ := l2 (l := l) (by simpa using hsz)
  obtain ⟨y0, h0, _⟩ := hg 0 22 0 rfl
  obtain ⟨y1, h1, _⟩ := hg 1 23 1 rfl
  simp only [cells_Tys, cells_Pjs, Value.cells, List.drop_zero, List.drop_succ_cons, List.take_succ_cons, List.take_zero] at h0 h1
  obtain ⟨rows, hsl, _, _, hel⟩ := elems_of_trod Tryd.underlying22 (by rw [cells_Ty]; decide) h0
  rw [cells_Ty] at hsl
  obtain ⟨ts, rfl, hts⟩ := rows_list (rows := rows) (f := Ty.cells) (P := fun t => t.In W W.heap.size) (fun r hr => by
    obtain ⟨n, y, hy, _⟩ := hel r hr
    exact open_ty hy)
  obtain ⟨rows2, hsl2, _, _, hel2⟩ := elems_of_trod Tryd.underlying23 (by rw [cells_Pj]; decide) h1
  rw [cells_Pj] at hsl2
  obtain ⟨ps, rfl, _⟩ := rows_list (rows := rows2) (f := Pj.cells) (P := fun _ => True) (fun r hr => by
    obtain ⟨n, y, hy, _⟩ := hel2 r hr
    exact open_pj hy)
  exact ⟨⟨ts, ps, c0, c1⟩, rfl, hsl, hts, hsl2⟩
end
end Go.Proofs.YtamnligooelmgaaDoor
