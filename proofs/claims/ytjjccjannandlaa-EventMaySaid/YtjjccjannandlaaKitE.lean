/- Laws for a region that draws: append to a row of the call's own. -/
import Derived.Test.YtjjccjannandlaaKitD
import Derived.Deep.RegionLaw
set_option linter.unusedVariables false
set_option linter.unusedSimpArgs false
namespace Go.Proofs.Ytjjccjannandlaa
open Go.RowKit

/-- append(v, u...), one step of a region that draws: v the call's own, u whatever slice of integers. -/
theorem step_append_sl {P : Program} {ops : Array Oper} {o : Oper} {a : Act} {w : World} {K : Act → World → Prop} {Q : Exit → Act → World → Prop} {E : Prop} (hgd : o.guard = none) (s x : Operand) (t : TypeId)
    (ho : o.op = .call { callee := .builtin .append, args := #[s, x], argTypes := #[t, t] })
    {k : IntKind} {e : TypeId} {bytes : Nat} (hu : P.underlying t = some (.slice e)) (hinfo : (P.info? e).map (fun i => (i.zero, i.size, i.bytes)) = some (some (.int k 0), 1, bytes)) (hby : bytes ≤ 8)
    {B : Nat} {v u : Value} {xs ys : List Int} (hs : a.eval s = v) (hx : a.eval x = u) (hown : OwnK k e w B v xs) (hsrc : Sl k w w.heap.size u ys) (hl : xs.length + ys.length ≤ 4398046511104) (hB : B ≤ w.heap.size)
    (h : ∀ v' w', OwnK k e w' B v' (xs ++ ys) → Below B w w' → K (a.put o.dst v') w') :
    if Region.wanted o (yielded ops a.tmps) = true then Oper.wp P o a w K Q else E := by
  have hw : Region.wanted o (yielded ops a.tmps) = true := by simp [Region.wanted, hgd]
  rw [if_pos hw]
  obtain ⟨i0, hi, hz0, hz1, hz2⟩ := info_parts hinfo
  obtain ⟨A, c, rfl⟩ := hsrc.shape
  cases A with
  | none =>
    have hy : ys = [] := by
      rcases hsrc with ⟨A', c', hv, rfl⟩ | ⟨b, off, c', hv, _⟩
      · rfl
      · cases hv
    subst hy
    have hrun := run_append_nothing (P := P) (w := w) B t o.type e i0 1 c hu hi v _ _ hown.row
    unfold Oper.wp
    simp [execOp, ho, resolve, invoke, builtin, hs, hx, hrun, Result.andThen]
    exact h v w (by simpa using hown) (Below.refl _ _)
  | some ad =>
    refine wp_append_own w s x t ho B e i0 (.int k 0) 1 bytes hu hi hz0 hz1 hz2 rfl (by decide) v xs.length _ hs hown.row ad ys.length c (ys.map (Value.int k)) hx (by simp) hsrc.cells ?_ ?_ ?_ hB ?_
    · intro u hu; simp at hu; obtain ⟨x, _, rfl⟩ := hu; rfl
    · unfold maxLen; omega
    · exact Nat.le_trans (Nat.mul_le_mul (Nat.le_refl _) hby) (by omega)
    · intro v' w' ho' hg hn
      exact h v' w' (OwnK.of ho' (by simp) (by simp)) ((Below.refl _ _).grown hg hB (own_base hown.row))

/-- A step of a drawing region that dies: the walk goes on along an empty region. -/
theorem dies_step {G : Prop} {P : Program} {md : Region.Mode} {a : Act} {w : World} (h : G) (_ : wpAny P md (List.toArray []) (fun _ _ _ => True) 1 #[] a w) : G := h
end Go.Proofs.Ytjjccjannandlaa
