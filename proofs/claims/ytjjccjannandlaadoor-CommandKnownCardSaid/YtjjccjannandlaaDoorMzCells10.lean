/- Ten cells. -/
import Derived.Test.YtjjccjannandlaaDoorMzCEvent
set_option maxRecDepth 100000
set_option maxRecDepth 100000
set_option linter.unusedVariables false
set_option linter.unusedSimpArgs false
namespace Go.Proofs.YtjjccjannandlaaDoor
open Go.RowKit Go.BigFrame

/-- Ten cells. -/
def Cells10 (w : World) (q : Nat) (f : Nat → Value) : Prop := ∀ o, o < 10 → w.cell? ⟨q, o, none⟩ = some (f o) ∧ w.frozen? ⟨q, o, none⟩ = false
theorem Cells10.below {w w' : World} {q B : Nat} {f : Nat → Value} (h : Cells10 w q f) (hq : q < B) (hb : Below B w w') : Cells10 w' q f := fun o ho => ⟨(hb.cell (p := ⟨q, o, none⟩) hq).trans (h o ho).1, (hb.frozen (p := ⟨q, o, none⟩) hq).trans (h o ho).2⟩
theorem Cells10.set {w : World} {q k : Nat} {f g : Nat → Value} {x : Value} (h : Cells10 w q f) (hk : k < 10) (hg : ∀ o, g o = if o = k then x else f o) : Cells10 (w.setCell ⟨q, k, none⟩ x) q g := by
  intro o ho
  rw [World.frozen?_setCell, hg o]
  refine ⟨?_, (h o ho).2⟩
  by_cases he : o = k
  · subst he
    rw [if_pos rfl]
    exact World.cell?_setCell_same w _ _ (h o ho).1
  · rw [if_neg he]
    exact (World.cell?_setCell_other w ⟨q, k, none⟩ ⟨q, o, none⟩ _ (by simp [he])).trans (h o ho).1
theorem Cells10.setOther {w : World} {q b k : Nat} {f : Nat → Value} (h : Cells10 w q f) (hb : b ≠ q) (v : Value) : Cells10 (w.setCell ⟨b, k, none⟩ v) q f := by
  intro o ho
  rw [World.frozen?_setCell]
  exact ⟨(World.cell?_setCell_other w ⟨b, k, none⟩ ⟨q, o, none⟩ _ (by simp [Ne.symm hb])).trans (h o ho).1, (h o ho).2⟩
/-- Ten cells written. -/
abbrev store10 (w : World) (q : Nat) (g : Nat → Value) : World := (((((((((w.setCell ⟨q, 0, none⟩ (g 0)).setCell ⟨q, 1, none⟩ (g 1)).setCell ⟨q, 2, none⟩ (g 2)).setCell ⟨q, 3, none⟩ (g 3)).setCell ⟨q, 4, none⟩ (g 4)).setCell ⟨q, 5, none⟩ (g 5)).setCell ⟨q, 6, none⟩ (g 6)).setCell ⟨q, 7, none⟩ (g 7)).setCell ⟨q, 8, none⟩ (g 8)).setCell ⟨q, 9, none⟩ (g 9)
theorem Cells10.store {w : World} {q : Nat} {f : Nat → Value} (h : Cells10 w q f) (g : Nat → Value) : Cells10 (store10 w q g) q g := by
  have step : ∀ (w : World) (k : Nat), k < 10 → Cells10 w q (fun o => if o < k then g o else f o) → Cells10 (w.setCell ⟨q, k, none⟩ (g k)) q (fun o => if o < k + 1 then g o else f o) := fun w k hk hc => hc.set hk (fun o => by
    by_cases ho : o = k
    · subst ho; rw [if_pos (by omega), if_pos rfl]
    · by_cases ho2 : o < k
      · rw [if_pos (by omega), if_neg ho, if_pos ho2]
      · rw [if_neg (by omega), if_neg ho, if_neg ho2])
  have h7 := step _ 9 (by decide) (step _ 8 (by decide) (step _ 7 (by decide) (step _ 6 (by decide) (step _ 5 (by decide) (step _ 4 (by decide) (step _ 3 (by decide) (step _ 2 (by decide) (step _ 1 (by decide) (step w 0 (by decide) (by simpa using h))))))))))
  intro o ho
  have := h7 o ho
  dsimp only at this
  rw [if_pos (by omega)] at this
  exact this
theorem Cells10.storeOther {w : World} {q b : Nat} {f : Nat → Value} (h : Cells10 w q f) (hb : b ≠ q) (g : Nat → Value) : Cells10 (store10 w b g) q f := (((((((((h.setOther hb _).setOther hb _).setOther hb _).setOther hb _).setOther hb _).setOther hb _).setOther hb _).setOther hb _).setOther hb _).setOther hb _
theorem Below.store10 {B : Nat} {a w : World} {q : Nat} (h : Below B a w) (hq : B ≤ q) (g : Nat → Value) : Below B a (store10 w q g) := (((((((((h.setCell hq _).setCell hq _).setCell hq _).setCell hq _).setCell hq _).setCell hq _).setCell hq _).setCell hq _).setCell hq _).setCell hq _
theorem OwnK.setOther {k : IntKind} {e : TypeId} {w : World} {B q : Nat} {v : Value} {xs : List Int} (h : OwnK k e w B v xs) (hq : ∀ b, v.ownBlock = some b → b ≠ q) (o : Nat) (x : Value) : OwnK k e (w.setCell ⟨q, o, none⟩ x) B v xs := by
  refine ⟨h.1, ?_⟩
  rcases h.2 with h2 | ⟨b, cap, cur, hv, hg, hh, r⟩
  · exact .inl h2
  · exact .inr ⟨b, cap, cur, hv, hg, (Below.heap_setCell _ _ _ _ (by simpa using hq b (by rw [hv]; rfl))).trans hh, r⟩
/-- What another block keeps of a row. -/
theorem OwnK.store10 {k : IntKind} {e : TypeId} {w : World} {B q : Nat} {v : Value} {xs : List Int} (h : OwnK k e w B v xs) (hq : ∀ b, v.ownBlock = some b → b ≠ q) (g : Nat → Value) : OwnK k e (store10 w q g) B v xs := by
  have one : ∀ (w : World) (o : Nat) (x : Value), OwnK k e w B v xs → OwnK k e (w.setCell ⟨q, o, none⟩ x) B v xs := by
    intro w o x h
    refine ⟨h.1, ?_⟩
    rcases h.2 with h2 | ⟨b, cap, cur, hv, hg, hh, r⟩
    · exact .inl h2
    · exact .inr ⟨b, cap, cur, hv, hg, (Below.heap_setCell _ _ _ _ (by simpa using hq b (by rw [hv]; rfl))).trans hh, r⟩
  exact one _ _ _ (one _ _ _ (one _ _ _ (one _ _ _ (one _ _ _ (one _ _ _ (one _ _ _ (one _ _ _ (one _ _ _ (one _ _ _ h)))))))))

end Go.Proofs.YtjjccjannandlaaDoor
