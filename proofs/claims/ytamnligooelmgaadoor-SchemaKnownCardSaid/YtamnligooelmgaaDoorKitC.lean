/- General lemmas on slices of integers: elements, cuts, rows that the call owns. -/
import Derived.Test.YtamnligooelmgaaDoorBase
import Derived.IntWalk
set_option maxRecDepth 100000
set_option linter.unusedVariables false
set_option linter.unusedSimpArgs false
namespace Go.Proofs.YtamnligooelmgaaDoor
open Go.RowKit

theorem Sl.elem {k : IntKind} {w : World} {B n c i : Nat} {A : Option Addr} {xs : List Int} (h : Sl k w B (.slice A n c) xs) (hi : i < xs.length) :
    ∃ b off, A = some ⟨b, off, none⟩ ∧ b < B ∧ xs.length ≤ c ∧ w.cell? ⟨b, off + i, none⟩ = some (.int k (xs[i]?.getD 0)) := by
  rcases h with ⟨A', c', hv, rfl⟩ | ⟨b, off, c', hv, hlt, hc, hx⟩
  · simp at hi
  · injection hv with h1 h2 h3
    subst h1 h3
    exact ⟨b, off, rfl, hlt, hc, hx i hi⟩
theorem same_step {xs ys : List Int} {k : Nat} (hl : xs.length = ys.length) (hk : k < xs.length) (h : xs[k]?.getD 0 = ys[k]?.getD 0) (hp : xs.take k = ys.take k) : xs.take (k + 1) = ys.take (k + 1) := by
  have e : ∀ (l : List Int), k < l.length → l.take (k + 1) = l.take k ++ [l[k]?.getD 0] := fun l hl => by
    rw [List.take_succ_eq_append_getElem hl, List.getElem?_eq_getElem hl]; rfl
  rw [e xs hk, e ys (by omega), hp, h]
theorem same_not {xs ys : List Int} {k : Nat} (h : xs[k]?.getD 0 ≠ ys[k]?.getD 0) : xs ≠ ys := fun e => h (by rw [e])
theorem take_succ' {xs : List Int} {k : Nat} (hk : k < xs.length) : xs.take (k + 1) = xs.take k ++ [xs[k]?.getD 0] := by
  rw [List.take_succ_eq_append_getElem hk, List.getElem?_eq_getElem hk]; rfl

/-- Cut in front. -/
theorem Sl.cut {k : IntKind} {w : World} {B n c m : Nat} {A : Option Addr} {xs : List Int} (h : Sl k w B (.slice A n c) xs) (hm : m ≤ xs.length) : Sl k w B (.slice A m c) (xs.take m) := by
  rcases h with ⟨A', c', hv, rfl⟩ | ⟨b, off, c', hv, hlt, hc, hx⟩
  · injection hv with h1 h2 h3
    have : m = 0 := by simpa using hm
    subst this
    exact .inl ⟨A, c, rfl, rfl⟩
  · injection hv with h1 h2 h3
    subst h1 h3
    have hlen : (xs.take m).length = m := by simp; omega
    refine .inr ⟨b, off, c, by rw [hlen], hlt, by omega, fun i hi => ?_⟩
    rw [hx i (by omega), List.getElem?_take_of_lt (by omega)]
theorem Sl.later {k : IntKind} {W w : World} {v : Value} {xs : List Int} (h : Sl k W W.heap.size v xs) (hb : Below W.heap.size W w) : Sl k w w.heap.size v xs := (h.below hb).more hb.size
/-- A slice that has just been written out. -/
theorem Sl.built {k : IntKind} (w : World) (cs : Array Value) (t : TypeId) (xs : List Int) (n b : Nat) (h : cs.toList = xs.map (Value.int k)) (hn : n = xs.length) (hb : b = w.heap.size) :
    Sl k (w.alloc (.cells cs t)) (w.alloc (.cells cs t)).heap.size (.slice (some ⟨b, 0, none⟩) n n) xs := by
  subst hn hb
  refine .inr ⟨_, 0, _, rfl, (Has.new w cs t).1, Nat.le_refl _, fun i hi => ?_⟩
  rw [Nat.zero_add, (Has.new w cs t).2 i, ← Array.getElem?_toList, h, List.getElem?_map, List.getElem?_eq_getElem hi]; rfl

/-- A row of integers that the call owns, as a list. -/
def OwnK (k : IntKind) (e : TypeId) (w : World) (B : Nat) (v : Value) (xs : List Int) : Prop := w.ownsRow B e 1 v xs.length (xs.map (Value.int k))
section
variable {k : IntKind} {e : TypeId} {w w' : World} {B : Nat} {v : Value} {xs : List Int}
theorem OwnK.sl (h : OwnK k e w B v xs) : Sl k w w.heap.size v xs := by
  have h' : w.ownsRow B e 1 v xs.length (xs.map (Value.int k)) := h
  rcases h'.2 with ⟨rfl, h2⟩ | ⟨g, cap, cur, rfl, hg, hh, hc, _⟩
  · have : xs = [] := List.eq_nil_of_length_eq_zero h2
    subst this
    exact Sl.nil_
  · refine .inr ⟨g, 0, cap, rfl, ?_, hc, fun i hi => ?_⟩
    · rcases Nat.lt_or_ge g w.heap.size with hlt | hge
      · exact hlt
      · rw [Array.getElem?_eq_none hge] at hh; cases hh
    · rw [Nat.zero_add, World.ownsRow.cellAt h' i (by omega), List.getElem?_map, List.getElem?_eq_getElem hi]; rfl
/-- Where it lies: at or above B. -/
theorem OwnK.shape (h : OwnK k e w B v xs) : (v = .slice none 0 0 ∧ xs = []) ∨ ∃ g cap, v = .slice (some ⟨g, 0, none⟩) xs.length cap ∧ B ≤ g ∧ g < w.heap.size ∧ xs.length ≤ cap := by
  rcases h.2 with ⟨rfl, h2⟩ | ⟨g, cap, cur, hv, hg, hh, hc, _⟩
  · exact .inl ⟨rfl, by simpa using h2⟩
  · refine .inr ⟨g, cap, hv, hg, ?_, hc⟩
    rcases Nat.lt_or_ge g w.heap.size with hlt | hge
    · exact hlt
    · rw [Array.getElem?_eq_none hge] at hh; cases hh
theorem OwnK.later (h : OwnK k e w B v xs) (hb : Below w.heap.size w w') : OwnK k e w' B v xs := by
  refine ⟨h.1, ?_⟩
  rcases h.2 with h2 | ⟨g, cap, cur, hv, hg, hh, r⟩
  · exact .inl h2
  · have hlt : g < w.heap.size := by
      rcases Nat.lt_or_ge g w.heap.size with hlt | hge
      · exact hlt
      · rw [Array.getElem?_eq_none hge] at hh; cases hh
    exact .inr ⟨g, cap, cur, hv, hg, (hb.block g hlt).trans hh, r⟩
theorem OwnK.row (h : OwnK k e w B v xs) : w.ownsRow B e 1 v xs.length (xs.map (Value.int k)) := h
theorem OwnK.of {n : Nat} {cs : List Value} (h : w.ownsRow B e 1 v n cs) (hn : n = xs.length) (hc : cs = xs.map (Value.int k)) : OwnK k e w B v xs := by subst hn hc; exact h
end
/-- A row's block is the call's own. -/
theorem own_base {w : World} {B n : Nat} {e : TypeId} {size : Nat} {v : Value} {cs : List Value} (h : w.ownsRow B e size v n cs) : ∀ g, v.ownBlock = some g → B ≤ g := by
  intro g hg
  rcases h.2 with ⟨rfl, _⟩ | ⟨g', cap, cur, rfl, hb, _⟩
  · simp [Value.ownBlock] at hg
  · have : g' = g := by simpa [Value.ownBlock] using hg
    omega
theorem cells_new (w : World) (l : List Value) (t : TypeId) : ∀ (j : Nat) (u : Value), l[j]? = some u → (w.alloc (.cells l.toArray t)).cell? ((⟨w.heap.size, 0, none⟩ : Addr).add j) = some u := by
  intro j u h
  have e : (⟨w.heap.size, 0, none⟩ : Addr).add j = ⟨w.heap.size, j, none⟩ := by
    unfold Addr.add
    split
    · rename_i h0; subst h0; rfl
    · simp
  rw [e, World.cell?_alloc_at _ _ _ _ rfl]
  simpa using h
/-- The cells of a slice, as an append reads them. -/
theorem Sl.cells {k : IntKind} {w : World} {B n c : Nat} {a : Addr} {xs : List Int} (h : Sl k w B (.slice (some a) n c) xs) : ∀ (j : Nat) (u : Value), (xs.map (Value.int k))[j]? = some u → w.cell? (a.add j) = some u := by
  intro j u hu
  rw [List.getElem?_map] at hu
  cases hj : xs[j]? with
  | none => rw [hj] at hu; cases hu
  | some x =>
    rw [hj] at hu
    simp only [Option.map_some, Option.some.injEq] at hu
    subst hu
    obtain ⟨hlt, _⟩ := List.getElem?_eq_some_iff.1 hj
    obtain ⟨b, off, hA, _, _, hc⟩ := h.elem hlt
    injection hA with hA
    subst hA
    have e : (⟨b, off, none⟩ : Addr).add j = ⟨b, off + j, none⟩ := by
      unfold Addr.add
      split
      · rename_i h0; subst h0; rfl
      · rfl
    rw [e, hc, hj]; rfl
end Go.Proofs.YtamnligooelmgaaDoor
