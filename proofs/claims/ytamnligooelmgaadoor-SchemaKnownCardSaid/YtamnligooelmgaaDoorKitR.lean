/- Slices of structs that read as lists of rows of cells. -/
import Derived.Test.YtamnligooelmgaaDoorKitC
set_option maxRecDepth 100000
set_option linter.unusedVariables false
set_option linter.unusedSimpArgs false
namespace Go.Proofs.YtamnligooelmgaaDoor
open Go.RowKit

/-- A slice whose elements are sz cells each, its cells below block B. -/
def SlR (sz : Nat) (w : World) (B : Nat) (v : Value) (rows : List (List Value)) : Prop :=
  (∃ A c, v = .slice A 0 c ∧ rows = []) ∨
  ∃ b off c, v = .slice (some ⟨b, off, none⟩) rows.length c ∧ b < B ∧ rows.length ≤ c ∧ ∀ i r, rows[i]? = some r → ∀ j u, r[j]? = some u → w.cell? ⟨b, off + i * sz + j, none⟩ = some u
theorem SlR.below {sz : Nat} {w w' : World} {B : Nat} {v : Value} {rows : List (List Value)} (h : SlR sz w B v rows) (hb : Below B w w') : SlR sz w' B v rows := by
  rcases h with h | ⟨b, off, c, hv, hlt, hc, hx⟩
  · exact .inl h
  · exact .inr ⟨b, off, c, hv, hlt, hc, fun i r hr j u hu => (hb.cell (p := ⟨b, off + i * sz + j, none⟩) hlt).trans (hx i r hr j u hu)⟩
theorem SlR.more {sz : Nat} {w : World} {B B' : Nat} {v : Value} {rows : List (List Value)} (h : SlR sz w B v rows) (hb : B ≤ B') : SlR sz w B' v rows := by
  rcases h with h | ⟨b, off, c, hv, hlt, hc, hx⟩
  · exact .inl h
  · exact .inr ⟨b, off, c, hv, by omega, hc, hx⟩
theorem SlR.shape {sz : Nat} {w : World} {B : Nat} {v : Value} {rows : List (List Value)} (h : SlR sz w B v rows) : ∃ A c, v = .slice A rows.length c := by
  rcases h with ⟨A, c, rfl, rfl⟩ | ⟨b, off, c, hv, hlt, hc, hx⟩
  · exact ⟨A, c, rfl⟩
  · exact ⟨_, _, hv⟩
theorem SlR.elem {sz : Nat} {w : World} {B n c i : Nat} {A : Option Addr} {rows : List (List Value)} {r : List Value} (h : SlR sz w B (.slice A n c) rows) (hi : rows[i]? = some r) :
    ∃ b off, A = some ⟨b, off, none⟩ ∧ b < B ∧ rows.length ≤ c ∧ ∀ j u, r[j]? = some u → w.cell? ⟨b, off + i * sz + j, none⟩ = some u := by
  rcases h with ⟨A', c', hv, rfl⟩ | ⟨b, off, c', hv, hlt, hc, hx⟩
  · simp at hi
  · injection hv with h1 h2 h3
    subst h1 h3
    exact ⟨b, off, rfl, hlt, hc, hx i r hi⟩
end Go.Proofs.YtamnligooelmgaaDoor
