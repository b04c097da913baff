/- Declarations as they lie in memory. -/
import Derived.Test.YtamnligooelmgaaDoorKitR
set_option maxRecDepth 100000
set_option linter.unusedVariables false
set_option linter.unusedSimpArgs false
namespace Go.Proofs.YtamnligooelmgaaDoor
open Go.RowKit

/-- A move; a field; a type; a projection; declarations: with the slices that hold what they have. -/
structure Mv where
  a : Int
  b : Int
  c : Int
  d : Int
deriving DecidableEq
abbrev Mv.cells (m : Mv) : List Value := [.int .i64 m.a, .int .i64 m.b, .int .i64 m.c, .int .i64 m.d]
structure Fd where
  k : Int
  p : Int
  fl : Bool
  ms : List Mv
  v : Value
abbrev Fd.cells (f : Fd) : List Value := [.int .i64 f.k, .int .i64 f.p, .bool f.fl, f.v]
structure Ty where
  fs : List Fd
  v : Value
abbrev Ty.cells (t : Ty) : List Value := [t.v]
structure Pj where
  t : Int
  f : Int
  g : Int
  b : Int
  m : Int
deriving DecidableEq
abbrev Pj.cells (p : Pj) : List Value := [.int .i64 p.t, .int .i64 p.f, .int .i64 p.g, .int .i64 p.b, .int .i64 p.m]
structure Dc where
  ts : List Ty
  ps : List Pj
  tv : Value
  pv : Value
abbrev declV (D : Dc) : Value := .agg #[D.tv, D.pv]
abbrev tyV (t : Ty) : Value := .agg #[t.v]
abbrev fdV' (f : Fd) : Value := .agg #[.int .i64 f.k, .int .i64 f.p, .bool f.fl, f.v]
abbrev mvV (m : Mv) : Value := .agg #[.int .i64 m.a, .int .i64 m.b, .int .i64 m.c, .int .i64 m.d]
abbrev pjV (p : Pj) : Value := .agg #[.int .i64 p.t, .int .i64 p.f, .int .i64 p.g, .int .i64 p.b, .int .i64 p.m]

/-- A field's moves lie in memory; a type's fields; declarations. -/
def Fd.In (w : World) (B : Nat) (f : Fd) : Prop := SlR 4 w B f.v (f.ms.map Mv.cells)
def Ty.In (w : World) (B : Nat) (t : Ty) : Prop := SlR 4 w B t.v (t.fs.map Fd.cells) ∧ ∀ f ∈ t.fs, f.In w B
def Dc.In (w : World) (B : Nat) (D : Dc) : Prop := SlR 1 w B D.tv (D.ts.map Ty.cells) ∧ (∀ t ∈ D.ts, t.In w B) ∧ SlR 5 w B D.pv (D.ps.map Pj.cells)
section
variable {w w' : World} {B B' : Nat}
theorem Fd.In.below {f : Fd} (h : f.In w B) (hb : Below B w w') : f.In w' B := SlR.below h hb
theorem Fd.In.more {f : Fd} (h : f.In w B) (hb : B ≤ B') : f.In w B' := SlR.more h hb
theorem Fd.In.later {f : Fd} (h : f.In w w.heap.size) (hb : Below w.heap.size w w') : f.In w' w'.heap.size := (h.below hb).more hb.size
theorem Ty.In.below {t : Ty} (h : t.In w B) (hb : Below B w w') : t.In w' B := ⟨h.1.below hb, fun f hf => (h.2 f hf).below hb⟩
theorem Ty.In.more {t : Ty} (h : t.In w B) (hb : B ≤ B') : t.In w B' := ⟨h.1.more hb, fun f hf => (h.2 f hf).more hb⟩
theorem Ty.In.later {t : Ty} (h : t.In w w.heap.size) (hb : Below w.heap.size w w') : t.In w' w'.heap.size := (h.below hb).more hb.size
theorem Dc.In.below {D : Dc} (h : D.In w B) (hb : Below B w w') : D.In w' B := ⟨h.1.below hb, fun t ht => (h.2.1 t ht).below hb, h.2.2.below hb⟩
theorem Dc.In.more {D : Dc} (h : D.In w B) (hb : B ≤ B') : D.In w B' := ⟨h.1.more hb, fun t ht => (h.2.1 t ht).more hb, h.2.2.more hb⟩
theorem Dc.In.later {D : Dc} (h : D.In w w.heap.size) (hb : Below w.heap.size w w') : D.In w' w'.heap.size := (h.below hb).more hb.size
theorem SlR.later {sz : Nat} {v : Value} {rows : List (List Value)} (h : SlR sz w w.heap.size v rows) (hb : Below w.heap.size w w') : SlR sz w' w'.heap.size v rows := (h.below hb).more hb.size
/-- Element i of a slice of structs. -/
theorem SlR.at {α : Type} {c : α → List Value} {sz : Nat} {n cap i : Nat} {A : Option Addr} {l : List α} {x : α} (h : SlR sz w B (.slice A n cap) (l.map c)) (hi : l[i]? = some x) :
    ∃ b off, A = some ⟨b, off, none⟩ ∧ b < B ∧ l.length ≤ cap ∧ ∀ j u, (c x)[j]? = some u → w.cell? ⟨b, off + i * sz + j, none⟩ = some u := by
  obtain ⟨b, off, hA, hb, hc, hx⟩ := h.elem (i := i) (r := c x) (by rw [List.getElem?_map, hi]; rfl)
  exact ⟨b, off, hA, hb, by simpa using hc, hx⟩
theorem SlR.shapeL {α : Type} {c : α → List Value} {sz : Nat} {v : Value} {l : List α} (h : SlR sz w B v (l.map c)) : ∃ A cap, v = .slice A l.length cap := by
  obtain ⟨A, cap, hv⟩ := h.shape
  exact ⟨A, cap, by simpa using hv⟩
theorem SlR.capL {α : Type} {c : α → List Value} {sz n cap : Nat} {A : Option Addr} {l : List α} (h : SlR sz w B (.slice A n cap) (l.map c)) : l.length ≤ cap := by
  rcases h with ⟨A', c', hv, hl⟩ | ⟨b, off, c', hv, hlt, hc, hx⟩
  · have : l = [] := by simpa using hl
    subst this; exact Nat.zero_le _
  · injection hv with h1 h2 h3
    subst h3; simpa using hc
end
end Go.Proofs.YtamnligooelmgaaDoor
