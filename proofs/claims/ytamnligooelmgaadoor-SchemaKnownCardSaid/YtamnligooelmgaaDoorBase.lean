/- Small general lemmas: slices that read as lists, worlds that have grown. -/
import Derived.Test.YtamnligooelmgaaDoorRows
import Derived.WalkKit
import Derived.WalkSpells
import Derived.WalkLawsBesides
import Derived.Deep.RegionHeld3
import Derived.Deep.QuietTactic
import Derived.BigQuiet
import Derived.Lib.Hide
set_option maxRecDepth 100000
set_option linter.unusedVariables false
set_option linter.unusedSimpArgs false
namespace Go.Proofs.YtamnligooelmgaaDoor
open Go.RowKit

/-- A slice of integers of kind k that reads as the list xs, its cells below block B. -/
def Sl (k : IntKind) (w : World) (B : Nat) (v : Value) (xs : List Int) : Prop :=
  (∃ A c, v = .slice A 0 c ∧ xs = []) ∨
  ∃ b off c, v = .slice (some ⟨b, off, none⟩) xs.length c ∧ b < B ∧ xs.length ≤ c ∧ ∀ i, i < xs.length → w.cell? ⟨b, off + i, none⟩ = some (.int k (xs[i]?.getD 0))

/-- It is kept by whatever leaves the blocks below B. -/
theorem Sl.below {k : IntKind} {w w' : World} {B : Nat} {v : Value} {xs : List Int} (h : Sl k w B v xs) (hb : Below B w w') : Sl k w' B v xs := by
  rcases h with h | ⟨b, off, c, hv, hlt, hc, hx⟩
  · exact .inl h
  · exact .inr ⟨b, off, c, hv, hlt, hc, fun i hi => (hb.cell (p := ⟨b, off + i, none⟩) hlt).trans (hx i hi)⟩
theorem Sl.more {k : IntKind} {w : World} {B B' : Nat} {v : Value} {xs : List Int} (h : Sl k w B v xs) (hb : B ≤ B') : Sl k w B' v xs := by
  rcases h with h | ⟨b, off, c, hv, hlt, hc, hx⟩
  · exact .inl h
  · exact .inr ⟨b, off, c, hv, by omega, hc, hx⟩
theorem Sl.shape {k : IntKind} {w : World} {B : Nat} {v : Value} {xs : List Int} (h : Sl k w B v xs) : ∃ A c, v = .slice A xs.length c := by
  rcases h with ⟨A, c, rfl, rfl⟩ | ⟨b, off, c, hv, hlt, hc, hx⟩
  · exact ⟨A, c, rfl⟩
  · exact ⟨_, _, hv⟩
theorem Sl.drewN {k : IntKind} {w : World} {B : Nat} {v : Value} {xs : List Int} (h : Sl k w B v xs) (n : Nat) : Sl k (w.drewN n) B v xs := h
theorem Sl.nil_ {k : IntKind} {w : World} {B : Nat} : Sl k w B (.slice none 0 0) [] := .inl ⟨none, 0, rfl, rfl⟩

theorem Bel.drewN {B : Nat} {a w : World} (h : Below B a w) (n : Nat) : Below B a (w.drewN n) := ⟨h.os, h.tape, h.output, h.size, h.block⟩
theorem Bel.size_drewN (w : World) (n : Nat) : (w.drewN n).heap.size = w.heap.size := rfl
/-- Two calls, one behind the other. -/
theorem Bel.then {a b c : World} (h : Below a.heap.size a b) (k : Below b.heap.size b c) : Below a.heap.size a c := h.trans (k.mono h.size)
theorem Bel.grew {a w : World} (h : Below a.heap.size a w) (o : Obj) : Below a.heap.size a (w.alloc o) := h.alloc h.size o
/-- What a call that leaves the old blocks alone leaves of cells and marks. -/
theorem Bel.cells {W w1 : World} (hb : Below W.heap.size W w1) : (∀ b o, b < W.heap.size → w1.cell? ⟨b, o, none⟩ = W.cell? ⟨b, o, none⟩) ∧ (∀ b o, b < W.heap.size → w1.frozen? ⟨b, o, none⟩ = W.frozen? ⟨b, o, none⟩) ∧ W.heap.size ≤ w1.heap.size :=
  ⟨fun b o h => hb.cell (p := ⟨b, o, none⟩) h, fun b o h => hb.frozen (p := ⟨b, o, none⟩) h, hb.size⟩

/-- A world in which what was there in W still is. -/
structure Later (W : World) where
  w : World
  h : Below W.heap.size W w
instance Later.has (W : World) : Nonempty (Later W) := ⟨⟨W, Below.refl _ _⟩⟩
@[go_sem] theorem Later.cell {W : World} (x : Later W) (b o : Nat) (h : b < W.heap.size) : x.w.cell? ⟨b, o, none⟩ = W.cell? ⟨b, o, none⟩ := x.h.cell (p := ⟨b, o, none⟩) h
@[go_sem] theorem Later.frozen {W : World} (x : Later W) (b o : Nat) (h : b < W.heap.size) : x.w.frozen? ⟨b, o, none⟩ = W.frozen? ⟨b, o, none⟩ := x.h.frozen (p := ⟨b, o, none⟩) h
/-- A region that draws its order, its operations reading what was there when it began, its callees leaving that alone: one walk in the order of the text. -/
theorem wp_region_later {P : Program} {id : Nat} {Q : Exit → Act → World → Prop} {a : Act} {w : World} {l : List Oper} (hm : P.follows .mixedOrders = true) (hB : Region.lexB .any l.toArray = true)
    (h : wpQuiet P l.toArray (fun w' => ∃ x : Later w, w' = x.w) (fun a' => ∀ x : Later w, Q .normal a' x.w) l a) : (Code.region id l.toArray true).wp P Q a w :=
  wp_region_quiet (C := fun w' => ∃ x : Later w, w' = x.w) hm hB ⟨⟨w.drew, Below.drew (Below.refl _ _)⟩, rfl⟩ (by
    have e : (fun a' => ∀ w', (∃ x : Later w, w' = x.w) → Q .normal a' w') = (fun a' => ∀ x : Later w, Q .normal a' x.w) := by
      funext a'
      exact propext ⟨fun h x => h _ ⟨x, rfl⟩, fun h w' ⟨x, hx⟩ => hx ▸ h x⟩
    rw [e]
    simpa using h)
/-- A callee's contract, met in such a region. -/
theorem Later.call {P : Program} {f : FuncId} {args : Array Value} {W : World} {x : Later W} {v : Value} (h : Calls P f args x.w fun e w' => e = .returned v ∧ Below x.w.heap.size x.w w') :
    Calls P f args x.w fun e w'' => e = .returned v ∧ ∃ y : Later W, w'' = y.w :=
  h.mono fun _ w' ⟨he, hb⟩ => ⟨he, ⟨⟨w', x.h.trans (hb.mono x.h.size)⟩, rfl⟩⟩
theorem Later.callS {P : Program} {f : FuncId} {args : Array Value} {W : World} {x : Later W} {v : Value} (h : Calls P f args x.w fun e w' => e = .returned v ∧ x.w = w') :
    Calls P f args x.w fun e w'' => e = .returned v ∧ ∃ y : Later W, w'' = y.w :=
  h.mono fun _ w' ⟨he, hb⟩ => ⟨he, ⟨x, hb.symm⟩⟩
/-- .. of a callee whose answer is known. -/
theorem Later.callB {P : Program} {f : FuncId} {args : Array Value} {W : World} {x : Later W} {b c : Bool} (h : Calls P f args x.w fun e w' => e = .returned (.bool b) ∧ Below x.w.heap.size x.w w') (hb : b = c) :
    Calls P f args x.w fun e w'' => e = .returned (.bool c) ∧ ∃ y : Later W, w'' = y.w :=
  Later.call (hb ▸ h)
theorem Later.callBS {P : Program} {f : FuncId} {args : Array Value} {W : World} {x : Later W} {b c : Bool} (h : Calls P f args x.w fun e w' => e = .returned (.bool b) ∧ x.w = w') (hb : b = c) :
    Calls P f args x.w fun e w'' => e = .returned (.bool c) ∧ ∃ y : Later W, w'' = y.w :=
  Later.callS (hb ▸ h)

/-- Block b holds the cells cs. -/
def Has (w : World) (b : Nat) (cs : Array Value) : Prop := b < w.heap.size ∧ ∀ o, w.cell? ⟨b, o, none⟩ = cs[o]?
theorem Has.new (w : World) (cs : Array Value) (t : TypeId) : Has (w.alloc (.cells cs t)) w.heap.size cs := ⟨by simp, fun o => World.cell?_alloc_at _ _ _ _ rfl⟩
theorem Has.grow {w : World} {b : Nat} {cs : Array Value} (h : Has w b cs) (o : Obj) : Has (w.alloc o) b cs := ⟨by have := h.1; simp; omega, fun i => (World.cell?_alloc_past _ _ _ h.1).trans (h.2 i)⟩
theorem Has.later {W w : World} {b : Nat} {cs : Array Value} (h : Has W b cs) (hb : Below W.heap.size W w) : Has w b cs := ⟨by have := h.1; have := hb.size; omega, fun i => (hb.cell (p := ⟨b, i, none⟩) h.1).trans (h.2 i)⟩
theorem Has.new1 (w : World) (cs : Array Value) (t : TypeId) {n : Nat} (h : n = w.heap.size) : Has (w.alloc (.cells cs t)) n cs := h ▸ Has.new w cs t

/-- Several blocks. -/
def Hass (w : World) : List (Nat × Array Value) → Prop
  | [] => True
  | p :: l => Has w p.1 p.2 ∧ Hass w l
theorem Hass.later {W w : World} (hb : Below W.heap.size W w) : ∀ {l : List (Nat × Array Value)}, Hass W l → Hass w l
  | [], _ => trivial
  | _ :: _, h => ⟨Has.later h.1 hb, Hass.later hb h.2⟩
theorem Hass.grow {w : World} (o : Obj) : ∀ {l : List (Nat × Array Value)}, Hass w l → Hass (w.alloc o) l
  | [], _ => trivial
  | _ :: _, h => ⟨Has.grow h.1 o, Hass.grow o h.2⟩
/-- A new block. -/
theorem Hass.new {w : World} {l : List (Nat × Array Value)} (h : Hass w l) (cs : Array Value) (t : TypeId) : Hass (w.alloc (.cells cs t)) ((w.heap.size, cs) :: l) := ⟨Has.new w cs t, h.grow _⟩
theorem Hass.nil_ (w : World) : Hass w [] := trivial
end Go.Proofs.YtamnligooelmgaaDoor
