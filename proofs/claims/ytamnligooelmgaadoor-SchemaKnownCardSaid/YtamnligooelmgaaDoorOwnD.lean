/- Declarations in memory of the call's own. -/
import Derived.Test.YtamnligooelmgaaDoorPl
set_option maxRecDepth 100000
set_option linter.unusedVariables false
set_option linter.unusedSimpArgs false
namespace Go.Proofs.YtamnligooelmgaaDoor
open Go.RowKit

def Fd.Own (w : World) (lo : Nat) (f : Fd) : Prop := OwnR 4 39 w lo f.v (f.ms.map Mv.cells)
def Ty.Own (w : World) (lo : Nat) (t : Ty) : Prop := OwnR 4 33 w lo t.v (t.fs.map Fd.cells) ∧ ∀ f ∈ t.fs, f.Own w lo
def Dc.Own (w : World) (lo : Nat) (D : Dc) : Prop := OwnR 1 45 w lo D.tv (D.ts.map Ty.cells) ∧ (∀ t ∈ D.ts, t.Own w lo) ∧ OwnR 5 47 w lo D.pv (D.ps.map Pj.cells)
/-- A row stays where another one, of another type, has grown. -/
theorem OwnR.grown {sz sz' n : Nat} {e e' : TypeId} {w w' : World} {lo B : Nat} {v u : Value} {rows : List (List Value)} {cs : List Value} (h : OwnR sz e w lo v rows) (hu : w.ownsRow B e' sz' u n cs) (hne : e ≠ e') (hg : w.grownBy w' u.ownBlock) : OwnR sz e w' lo v rows := by
  refine ⟨h.1, h.2.1, ?_⟩
  rcases h.2.2 with h2 | ⟨g, cap, cur, hv, hgl, hh, r⟩
  · exact .inl h2
  · refine .inr ⟨g, cap, cur, hv, hgl, (hg.block g ?_ ?_).trans hh, r⟩
    · rcases Nat.lt_or_ge g w.heap.size with h | h
      · exact h
      · rw [Array.getElem?_eq_none h] at hh; cases hh
    · intro he
      rcases hu.2 with ⟨h3, _⟩ | ⟨g', cap', cur', h3, _, h4, _⟩
      · rw [h3] at he; simp [Value.ownBlock] at he
      · rw [h3] at he
        have : g = g' := by simpa [Value.ownBlock] using he
        subst this
        rw [hh] at h4
        injection h4 with h4
        injection h4 with h5 h6
        exact hne h6
section
variable {w w' : World} {lo lo' : Nat}
theorem Fd.Own.inn {f : Fd} (h : f.Own w lo) : f.In w w.heap.size := OwnR.sl h
theorem Fd.Own.later {f : Fd} (h : f.Own w lo) (hb : Below w.heap.size w w') : f.Own w' lo := OwnR.later h hb
theorem Fd.Own.down {f : Fd} (h : f.Own w lo) (hl : lo' ≤ lo) : f.Own w lo' := OwnR.down h hl
theorem Fd.Own.setOther {f : Fd} (h : f.Own w lo) {q : Nat} (hq : q < lo) (o : Nat) (x : Value) : f.Own (w.setCell ⟨q, o, none⟩ x) lo := OwnR.setOther h hq o x
theorem Ty.Own.inn {t : Ty} (h : t.Own w lo) : t.In w w.heap.size := ⟨OwnR.sl h.1, fun f hf => (h.2 f hf).inn⟩
theorem Ty.Own.later {t : Ty} (h : t.Own w lo) (hb : Below w.heap.size w w') : t.Own w' lo := ⟨OwnR.later h.1 hb, fun f hf => (h.2 f hf).later hb⟩
theorem Ty.Own.down {t : Ty} (h : t.Own w lo) (hl : lo' ≤ lo) : t.Own w lo' := ⟨OwnR.down h.1 hl, fun f hf => (h.2 f hf).down hl⟩
theorem Ty.Own.setOther {t : Ty} (h : t.Own w lo) {q : Nat} (hq : q < lo) (o : Nat) (x : Value) : t.Own (w.setCell ⟨q, o, none⟩ x) lo := ⟨OwnR.setOther h.1 hq o x, fun f hf => (h.2 f hf).setOther hq o x⟩
theorem Dc.Own.inn {D : Dc} (h : D.Own w lo) : D.In w w.heap.size := ⟨OwnR.sl h.1, fun t ht => (h.2.1 t ht).inn, OwnR.sl h.2.2⟩
theorem Dc.Own.later {D : Dc} (h : D.Own w lo) (hb : Below w.heap.size w w') : D.Own w' lo := ⟨OwnR.later h.1 hb, fun t ht => (h.2.1 t ht).later hb, OwnR.later h.2.2 hb⟩
theorem Dc.Own.down {D : Dc} (h : D.Own w lo) (hl : lo' ≤ lo) : D.Own w lo' := ⟨OwnR.down h.1 hl, fun t ht => (h.2.1 t ht).down hl, OwnR.down h.2.2 hl⟩
theorem Dc.Own.setOther {D : Dc} (h : D.Own w lo) {q : Nat} (hq : q < lo) (o : Nat) (x : Value) : D.Own (w.setCell ⟨q, o, none⟩ x) lo := ⟨OwnR.setOther h.1 hq o x, fun t ht => (h.2.1 t ht).setOther hq o x, OwnR.setOther h.2.2 hq o x⟩
end
end Go.Proofs.YtamnligooelmgaaDoor
