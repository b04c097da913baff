/- append to a row of the call's own: what other rows keep. -/
import Derived.Test.YtjcocahhpjgbhaaMg1
set_option maxRecDepth 100000
set_option maxRecDepth 100000
set_option linter.unusedVariables false
set_option linter.unusedSimpArgs false
namespace Go.Proofs.Ytjcocahhpjgbhaa
open Go.RowKit

/-- A row in another block is kept. -/
def Keeps (v : Value) (w w' : World) : Prop := ∀ (k2 : IntKind) (e2 : TypeId) (B2 : Nat) (y : Value) (zs : List Int), OwnK k2 e2 w B2 y zs → (∀ g, y.ownBlock = some g → v.ownBlock ≠ some g) → OwnK k2 e2 w' B2 y zs
theorem Keeps.refl (v : Value) (w : World) : Keeps v w w := fun _ _ _ _ _ h _ => h
theorem Keeps.grown {v : Value} {w w' : World} (hg : w.grownBy w' v.ownBlock) : Keeps v w w' := by
  intro k2 e2 B2 y zs h hne
  refine ⟨h.1, ?_⟩
  rcases h.2 with h2 | ⟨g, cap, cur, hv, hgB, hh, r⟩
  · exact .inl h2
  · have hlt : g < w.heap.size := by
      rcases Nat.lt_or_ge g w.heap.size with hlt | hge
      · exact hlt
      · rw [Array.getElem?_eq_none hge] at hh; cases hh
    exact .inr ⟨g, cap, cur, hv, hgB, (hg.block g hlt (fun e => hne g (by rw [hv]; rfl) e.symm)).trans hh, r⟩

/-- A row made behind another one lies apart from it. -/
theorem own_apart {k1 k2 : IntKind} {e1 e2 : TypeId} {w w2 : World} {B1 : Nat} {s r : Value} {xs ys : List Int} (h1 : OwnK k1 e1 w B1 s xs) (h2 : OwnK k2 e2 w2 w.heap.size r ys) : ∀ g, r.ownBlock = some g → s.ownBlock ≠ some g := by
  intro g hg hs
  have a := own_base h2.row g hg
  rcases h1.shape with ⟨rfl, _⟩ | ⟨g', cap, rfl, _, hlt, _⟩
  · simp [Value.ownBlock] at hs
  · have : g' = g := by simpa [Value.ownBlock] using hs
    omega

/-- append(v, u...): v the call's own, u whatever slice of integers. -/
theorem wpList_append_keep {P : Program} {w : World} {ops : Array Oper} {rest : List Oper} {o : Oper} {a : Act} {Q : Exit → Act → World → Prop} (hgd : o.guard = none) (s x : Operand) (t : TypeId)
    (ho : o.op = .call { callee := .builtin .append, args := #[s, x], argTypes := #[t, t] })
    {k : IntKind} {e : TypeId} {bytes : Nat} (hu : P.underlying t = some (.slice e)) (hinfo : (P.info? e).map (fun i => (i.zero, i.size, i.bytes)) = some (some (.int k 0), 1, bytes)) (hby : bytes ≤ 8)
    {B : Nat} {v u : Value} {xs ys : List Int} (hs : a.eval s = v) (hx : a.eval x = u) (hown : OwnK k e w B v xs) (hsrc : Sl k w w.heap.size u ys) (hl : xs.length + ys.length ≤ 4398046511104) (hB : B ≤ w.heap.size)
    (h : ∀ v' w', OwnK k e w' B v' (xs ++ ys) → Below B w w' → Keeps v w w' → wpList P ops Q rest (a.put o.dst v') w') : wpList P ops Q (o :: rest) a w := by
  obtain ⟨i0, hi, hz0, hz1, hz2⟩ := info_parts hinfo
  obtain ⟨A, c, rfl⟩ := hsrc.shape
  cases A with
  | none =>
    have hy : ys = [] := by
      rcases hsrc with ⟨A', c', hv, rfl⟩ | ⟨b, off, c', hv, _⟩
      · rfl
      · cases hv
    subst hy
    refine wpList_plain hgd fun K hK => ?_
    have hrun := run_append_nothing (P := P) (w := w) B t o.type e i0 1 c hu hi v _ _ hown.row
    unfold Oper.wp
    simp [execOp, ho, resolve, invoke, builtin, hs, hx, hrun, Result.andThen]
    exact hK _ _ (h v w (by simpa using hown) (Below.refl _ _) (Keeps.refl _ _))
  | some ad =>
    refine wpList_append_own _ hgd s x t ho B e i0 (.int k 0) 1 bytes hu hi hz0 hz1 hz2 rfl (by decide) v xs.length _ hs hown.row ad ys.length c (ys.map (Value.int k)) hx (by simp) hsrc.cells ?_ ?_ ?_ hB ?_
    · intro u hu; simp at hu; obtain ⟨x, _, rfl⟩ := hu; rfl
    · unfold maxLen; omega
    · exact Nat.le_trans (Nat.mul_le_mul (Nat.le_refl _) hby) (by omega)
    · intro v' w' ho' hg hn
      exact h v' w' (OwnK.of ho' (by simp) (by simp)) ((Below.refl _ _).grown hg hB (own_base hown.row)) (Keeps.grown hg)
end Go.Proofs.Ytjcocahhpjgbhaa
