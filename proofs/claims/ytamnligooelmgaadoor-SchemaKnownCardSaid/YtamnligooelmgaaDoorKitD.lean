/- Laws for the walk: append to a row of the call's own, of whatever slice of integers. -/
import Derived.Test.YtamnligooelmgaaDoorKitC
import Derived.Laws.OwnMore
import Derived.Laws.AppendOwnNone
set_option maxRecDepth 100000
set_option linter.unusedVariables false
set_option linter.unusedSimpArgs false
namespace Go.Proofs.YtamnligooelmgaaDoor
open Go.RowKit

theorem run_append_nothing {P : Program} {w : World} (base : Nat) (t ty e : TypeId) (i : TypeInfo) (size c : Nat) (ht : P.underlying t = some (.slice e)) (hi : P.info? e = some i)
    (v : Value) (n : Nat) (xs : List Value) (hown : w.ownsRow base e size v n xs) :
    (Builtin.append_ #[t, t] ty #[v, .slice none 0 c]).run P w = .ok v w := by
  rcases hown.2 with ⟨rfl, rfl⟩ | ⟨g, cap, cur, rfl, _, _, hnc, _⟩
  · simp [Builtin.append_, run_underlying ht, sizeOf, typeInfo, hi, Builtin.lenOf, Builtin.firstCells]
  · simp [Builtin.append_, run_underlying ht, sizeOf, typeInfo, hi, Builtin.lenOf, Builtin.firstCells, hnc, storeCells]

/-- append(v, u...): v the call's own, u whatever slice of integers. -/
theorem wpList_append_sl {P : Program} {w : World} {ops : Array Oper} {rest : List Oper} {o : Oper} {a : Act} {Q : Exit → Act → World → Prop} (hgd : o.guard = none) (s x : Operand) (t : TypeId)
    (ho : o.op = .call { callee := .builtin .append, args := #[s, x], argTypes := #[t, t] })
    {k : IntKind} {e : TypeId} {bytes : Nat} (hu : P.underlying t = some (.slice e)) (hinfo : (P.info? e).map (fun i => (i.zero, i.size, i.bytes)) = some (some (.int k 0), 1, bytes)) (hby : bytes ≤ 8)
    {B : Nat} {v u : Value} {xs ys : List Int} (hs : a.eval s = v) (hx : a.eval x = u) (hown : OwnK k e w B v xs) (hsrc : Sl k w w.heap.size u ys) (hl : xs.length + ys.length ≤ 4398046511104) (hB : B ≤ w.heap.size)
    (h : ∀ v' w', OwnK k e w' B v' (xs ++ ys) → Below B w w' → wpList P ops Q rest (a.put o.dst v') w') : wpList P ops Q (o :: rest) a w := by
  obtain ⟨i0, hi, hz0, hz1, hz2⟩ := info_parts hinfo
  obtain ⟨A, c, rfl⟩ := hsrc.shape
  cases A with
  | none =>
    have hy : ys = [] := by
      rcases hsrc with ⟨A', c', hv, rfl⟩ | ⟨b, off, c', hv, _⟩
      · rfl
      · cases hv
    subst hy
    refine wpList_plain hgd fun K hK => ?_
    have hrun := run_append_nothing (P := P) (w := w) B t o.type e i0 1 c hu hi v _ _ hown.row
    unfold Oper.wp
    simp [execOp, ho, resolve, invoke, builtin, hs, hx, hrun, Result.andThen]
    exact hK _ _ (h v w (by simpa using hown) (Below.refl _ _))
  | some ad =>
    refine wpList_append_own _ hgd s x t ho B e i0 (.int k 0) 1 bytes hu hi hz0 hz1 hz2 rfl (by decide) v xs.length _ hs hown.row ad ys.length c (ys.map (Value.int k)) hx (by simp) hsrc.cells ?_ ?_ ?_ hB ?_
    · intro u hu; simp at hu; obtain ⟨x, _, rfl⟩ := hu; rfl
    · unfold maxLen; omega
    · exact Nat.le_trans (Nat.mul_le_mul (Nat.le_refl _) hby) (by omega)
    · intro v' w' ho' hg hn
      exact h v' w' (OwnK.of ho' (by simp) (by simp)) ((Below.refl _ _).grown hg hB (own_base hown.row))
theorem OwnK.nil_ {k : IntKind} {e : TypeId} (w : World) (B : Nat) : OwnK k e w B (.slice none 0 0) [] := World.ownsRow_nil _ _ _ _
/-- A literal of one element. -/
theorem Sl.one {k : IntKind} (w : World) (t : TypeId) (x : Int) (b : Nat) (hb : b = w.heap.size) : Sl k (w.alloc (.cells #[.int k x] t)) (w.alloc (.cells #[.int k x] t)).heap.size (.slice (some ⟨b, 0, none⟩) 1 1) [x] := Sl.built w _ t [x] 1 b rfl rfl hb
theorem OwnK.grow {k : IntKind} {e : TypeId} {w : World} {B : Nat} {v : Value} {xs : List Int} (h : OwnK k e w B v xs) (o : Obj) : OwnK k e (w.alloc o) B v xs := h.row.alloc o
theorem OwnK.down {k : IntKind} {e : TypeId} {w : World} {B B' : Nat} {v : Value} {xs : List Int} (h : OwnK k e w B v xs) (hb : B' ≤ B) : OwnK k e w B' v xs := by
  refine ⟨h.1, ?_⟩
  rcases h.2 with h2 | ⟨g, cap, cur, hv, hg, r⟩
  · exact .inl h2
  · exact .inr ⟨g, cap, cur, hv, by omega, r⟩
end Go.Proofs.YtamnligooelmgaaDoor
