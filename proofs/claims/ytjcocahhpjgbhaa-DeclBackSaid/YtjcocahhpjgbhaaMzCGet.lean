/- command.Get. -/
import Derived.Test.YtjcocahhpjgbhaaMzInts
set_option maxRecDepth 100000
set_option maxRecDepth 100000
set_option linter.unusedVariables false
set_option linter.unusedSimpArgs false
namespace Go.Proofs.Ytjcocahhpjgbhaa
open Go.RowKit Go.BigFrame

/-- The code of what is read as a command. -/
def getE (xs : List Int) : Int := doneN xs (rdN xs (0, 0) 7)
/-- Its numbers. -/
def getC (xs : List Int) (i : Nat) : Int := if getE xs = 0 then valN xs (0, 0) i else 0
/-- Seven cells. -/
def Cells7 (w : World) (q : Nat) (f : Nat → Int) : Prop := ∀ o, o < 7 → w.cell? ⟨q, o, none⟩ = some (.int .i64 (f o)) ∧ w.frozen? ⟨q, o, none⟩ = false

theorem Cells7.below {w w' : World} {q B : Nat} {f : Nat → Int} (h : Cells7 w q f) (hq : q < B) (hb : Below B w w') : Cells7 w' q f := fun o ho => ⟨(hb.cell (p := ⟨q, o, none⟩) hq).trans (h o ho).1, (hb.frozen (p := ⟨q, o, none⟩) hq).trans (h o ho).2⟩
theorem Cells7.but {w w' : World} {p q : Nat} {f : Nat → Int} (h : Cells7 w q f) (hq : q < w.heap.size) (hp : q ≠ p) (hb : But p w w') : Cells7 w' q f := fun o ho => ⟨(hb.cell hq hp).trans (h o ho).1, (hb.frozen hq hp).trans (h o ho).2⟩
theorem Cells7.set {w : World} {q k : Nat} {f g : Nat → Int} {x : Int} (h : Cells7 w q f) (hk : k < 7) (hg : ∀ o, g o = if o = k then x else f o) : Cells7 (w.setCell ⟨q, k, none⟩ (.int .i64 x)) q g := by
  intro o ho
  rw [World.frozen?_setCell, hg o]
  refine ⟨?_, (h o ho).2⟩
  by_cases he : o = k
  · subst he
    rw [if_pos rfl]
    exact World.cell?_setCell_same w _ _ (h o ho).1
  · rw [if_neg he]
    exact (World.cell?_setCell_other w ⟨q, k, none⟩ ⟨q, o, none⟩ _ (by simp [he])).trans (h o ho).1
theorem Cells7.setOther {w : World} {q b k : Nat} {f : Nat → Int} (h : Cells7 w q f) (hb : b ≠ q) (v : Value) : Cells7 (w.setCell ⟨b, k, none⟩ v) q f := by
  intro o ho
  rw [World.frozen?_setCell]
  exact ⟨(World.cell?_setCell_other w ⟨b, k, none⟩ ⟨q, o, none⟩ _ (by simp [Ne.symm hb])).trans (h o ho).1, (h o ho).2⟩

/-- Seven cells written. -/
abbrev store7 (w : World) (q : Nat) (g : Nat → Int) : World := (((((((w.setCell ⟨q, 0, none⟩ (.int .i64 (g 0))).setCell ⟨q, 1, none⟩ (.int .i64 (g 1))).setCell ⟨q, 2, none⟩ (.int .i64 (g 2))).setCell ⟨q, 3, none⟩ (.int .i64 (g 3))).setCell ⟨q, 4, none⟩ (.int .i64 (g 4))).setCell ⟨q, 5, none⟩ (.int .i64 (g 5))).setCell ⟨q, 6, none⟩ (.int .i64 (g 6)))
theorem Cells7.store7 {w : World} {q : Nat} {f : Nat → Int} (h : Cells7 w q f) (g : Nat → Int) : Cells7 (store7 w q g) q g := by
  have step : ∀ (w : World) (k : Nat), k < 7 → Cells7 w q (fun o => if o < k then g o else f o) → Cells7 (w.setCell ⟨q, k, none⟩ (.int .i64 (g k))) q (fun o => if o < k + 1 then g o else f o) := fun w k hk hc => hc.set hk (fun o => by
    by_cases ho : o = k
    · subst ho; rw [if_pos (by omega), if_pos rfl]
    · by_cases ho2 : o < k
      · rw [if_pos (by omega), if_neg ho, if_pos ho2]
      · rw [if_neg (by omega), if_neg ho, if_neg ho2])
  have h7 := step _ 6 (by decide) (step _ 5 (by decide) (step _ 4 (by decide) (step _ 3 (by decide) (step _ 2 (by decide) (step _ 1 (by decide) (step w 0 (by decide) (by simpa using h)))))))
  intro o ho
  have := h7 o ho
  dsimp only at this
  rw [if_pos (by omega)] at this
  exact this
theorem Below.store7 {B : Nat} {a w : World} {q : Nat} (h : Below B a w) (hq : B ≤ q) (g : Nat → Int) : Below B a (store7 w q g) := ((((((h.setCell hq _).setCell hq _).setCell hq _).setCell hq _).setCell hq _).setCell hq _).setCell hq _

end Go.Proofs.Ytjcocahhpjgbhaa
