/- SchemaKnown: declarations that grow, at the appends. -/
import Derived.Test.YtamnligooelmgaaDoorSKnA
set_option maxRecDepth 100000
set_option maxRecDepth 100000
set_option linter.unusedVariables false
set_option linter.unusedSimpArgs false
namespace Go.Proofs.YtamnligooelmgaaDoor
open Go.RowKit Go.BigFrame

/-- Where a growing declaration lies, and what it owns. -/
def GR (W7 wr : World) (gb jt jp : Nat) (G : Dc) (T : Ty) (P : Pj) (tv pv : Value) : Prop :=
  Has wr gb #[tv, pv] ∧ GSt wr W7.heap.size gb jt jp G T P tv pv ∧ Below W7.heap.size W7 wr ∧ ∀ o, wr.frozen? ⟨gb, o, none⟩ = false
theorem GR.cell {W7 wr w4 : World} {gb jt jp : Nat} {G : Dc} {T : Ty} {P : Pj} {tv pv : Value} (h : GR W7 wr gb jt jp G T P tv pv) {cs : Array Value} {t : TypeId} {u : Value} (hu : u.ownBlock ≠ some gb)
    (hg : (wr.alloc (.cells cs t)).drew.grownBy w4 u.ownBlock) : (∀ o, w4.cell? ⟨gb, o, none⟩ = (#[tv, pv] : Array Value)[o]?) ∧ (∀ o, w4.frozen? ⟨gb, o, none⟩ = false) ∧ gb < w4.heap.size := by
  have hl := h.1.1
  have hb : w4.heap[gb]? = (wr.alloc (.cells cs t)).heap[gb]? := hg.block gb (by show gb < (wr.alloc _).heap.size; rw [World.size_alloc]; omega) (fun he => hu he.symm)
  refine ⟨fun o => ?_, fun o => ?_, ?_⟩
  · exact (World.cell?_of_block (a := ⟨gb, o, none⟩) hb).trans ((show (wr.alloc (.cells cs t)).cell? ⟨gb, o, none⟩ = _ from World.cell?_alloc_past _ _ _ hl).trans (h.1.2 o))
  · exact (World.frozen?_of_block (a := ⟨gb, o, none⟩) hb).trans ((frozen?_alloc_cells _ _ _ _).trans (h.2.2.2 o))
  · have := hg.size
    have e : (wr.alloc (.cells cs t)).drew.heap.size = wr.heap.size + 1 := World.size_alloc _ _
    omega
theorem GR.addT {W7 wr w4 : World} {gb jt jp n gU cU : Nat} {G : Dc} {T : Ty} {P : Pj} {tv pv : Value} {cs : Array Value} {t : TypeId} {XS : List Value} (h : GR W7 wr gb jt jp G T P tv pv) (hn : GNe G gb) (hl : n = G.ts.length + jt) (hgb : W7.heap.size ≤ gb)
    (hg : (wr.alloc (.cells cs t)).drew.grownBy w4 tv.ownBlock)
    (ho : w4.ownsRow W7.heap.size 45 1 (.slice (some ⟨gU, 0, none⟩) (n + 1) cU) (n + 1) (XS ++ T.cells)) (hx : XS = ((G.ts ++ List.replicate jt T).map Ty.cells).flatten) (hat : tv.ownBlock = some gU ∨ gU = wr.heap.size + 1) :
    GR W7 (w4.setCell ⟨gb, 0, none⟩ (.slice (some ⟨gU, 0, none⟩) (n + 1) cU)) gb (jt + 1) jp G T P (.slice (some ⟨gU, 0, none⟩) (n + 1) cU) pv := by
  subst hx
  have hgl := h.1.1
  obtain ⟨c1, c2, c3⟩ := h.cell h.2.1.nt hg
  have hba : Below wr.heap.size wr (wr.alloc (.cells cs t)).drew := Below.drew (Bel.grew (Below.refl _ _) _)
  have hne : (Value.slice (some ⟨gU, 0, none⟩) (n + 1) cU).ownBlock ≠ some gb := by
    intro he
    have he' : gU = gb := by simpa [Value.ownBlock] using he
    rcases hat with h1 | h1
    · exact h.2.1.nt (h1.trans (by rw [he']))
    · omega
  refine ⟨⟨by simpa [World.setCell] using c3, fun o => ?_⟩, GSt.addT (h.2.1.later hba) hn hl hg ho hne 0 _, ?_, fun o => by rw [World.frozen?_setCell]; exact c2 o⟩
  · match o with
    | 0 => exact World.cell?_setCell_same _ _ _ (c1 0)
    | o + 1 =>
      rw [World.cell?_setCell_other w4 ⟨gb, 0, none⟩ ⟨gb, o + 1, none⟩ _ (by simp), c1]
      rfl
  · exact ((h.2.2.1.trans (hba.mono h.2.2.1.size)).grown hg (by have := hba.size; have := h.2.2.1.size; omega) (fun g he => (World.ownsRow.lt h.2.1.ts.2 g he).1)).setCell hgb _
theorem GR.addP {W7 wr w4 : World} {gb jt jp n gU cU : Nat} {G : Dc} {T : Ty} {P : Pj} {tv pv : Value} {cs : Array Value} {t : TypeId} {XS : List Value} (h : GR W7 wr gb jt jp G T P tv pv) (hn : GNe G gb) (hl : n = G.ps.length + jp) (hgb : W7.heap.size ≤ gb)
    (hg : (wr.alloc (.cells cs t)).drew.grownBy w4 pv.ownBlock)
    (ho : w4.ownsRow W7.heap.size 47 5 (.slice (some ⟨gU, 0, none⟩) (n + 1) cU) (n + 1) (XS ++ P.cells)) (hx : XS = ((G.ps ++ List.replicate jp P).map Pj.cells).flatten) (hat : pv.ownBlock = some gU ∨ gU = wr.heap.size + 1) :
    GR W7 (w4.setCell ⟨gb, 1, none⟩ (.slice (some ⟨gU, 0, none⟩) (n + 1) cU)) gb jt (jp + 1) G T P tv (.slice (some ⟨gU, 0, none⟩) (n + 1) cU) := by
  subst hx
  have hgl := h.1.1
  obtain ⟨c1, c2, c3⟩ := h.cell h.2.1.np hg
  have hba : Below wr.heap.size wr (wr.alloc (.cells cs t)).drew := Below.drew (Bel.grew (Below.refl _ _) _)
  have hne : (Value.slice (some ⟨gU, 0, none⟩) (n + 1) cU).ownBlock ≠ some gb := by
    intro he
    have he' : gU = gb := by simpa [Value.ownBlock] using he
    rcases hat with h1 | h1
    · exact h.2.1.np (h1.trans (by rw [he']))
    · omega
  refine ⟨⟨by simpa [World.setCell] using c3, fun o => ?_⟩, GSt.addP (h.2.1.later hba) hn hl hg ho hne 1 _, ?_, fun o => by rw [World.frozen?_setCell]; exact c2 o⟩
  · match o with
    | 1 => exact World.cell?_setCell_same _ _ _ (c1 1)
    | 0 =>
      rw [World.cell?_setCell_other w4 ⟨gb, 1, none⟩ ⟨gb, 0, none⟩ _ (by simp), c1]
      rfl
    | o + 2 =>
      rw [World.cell?_setCell_other w4 ⟨gb, 1, none⟩ ⟨gb, o + 2, none⟩ _ (by simp), c1]
      rfl
  · exact ((h.2.2.1.trans (hba.mono h.2.2.1.size)).grown hg (by have := hba.size; have := h.2.2.1.size; omega) (fun g he => (World.ownsRow.lt h.2.1.ps.2 g he).1)).setCell hgb _
end Go.Proofs.YtamnligooelmgaaDoor
