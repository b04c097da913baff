/- works(): the chapter's event, and command. -/
import Derived.Test.YtjjccjannandlaaDoorMg4
import Derived.Test.YtjjccjannandlaaDoorMzCEvent2
import Derived.Test.YtjjccjannandlaaDoorMzShown
set_option maxRecDepth 100000
set_option maxRecDepth 100000
set_option linter.unusedVariables false
set_option linter.unusedSimpArgs false
namespace Go.Proofs.YtjjccjannandlaaDoor
open Go.RowKit Go.BigFrame

/-- The chapter's command. -/
def wkC : Nat → Int
  | 3 => 1
  | 4 => 3
  | 5 => -1
  | 6 => 5
  | _ => 0
theorem wk64 : V64 wkC := by
  intro i hi
  rcases (show i = 0 ∨ i = 1 ∨ i = 2 ∨ i = 3 ∨ i = 4 ∨ i = 5 ∨ i = 6 from by omega) with rfl | rfl | rfl | rfl | rfl | rfl | rfl
  all_goals decide
theorem join_47 : joinV [4, 7] [] = [4, 7] := by decide
theorem Sl.built64 (w : World) (t : TypeId) (b : Nat) (hb : b = w.heap.size) : Sl .i64 (w.alloc (.cells #[.int .i64 4, .int .i64 7] t)) (w.alloc (.cells #[.int .i64 4, .int .i64 7] t)).heap.size (.slice (some ⟨b, 0, none⟩) 2 2) [4, 7] := Sl.built w _ t [4, 7] 2 b rfl rfl hb

set_option maxHeartbeats 4000000 in
theorem works08_any (w : World) : Calls Tryd.prog 8 #[] w fun e w' => e = .returned (.bool true) ∧ Below w.heap.size w w' := by
  go_enter Tryd.func8, Tryd.ntmps8
  go_wp2_with fail
  have hSlA := Sl.built64 (w.alloc (.cells #[.int .i64 0, .int .i64 0, .int .i64 0, .int .i64 1, .int .i64 3, .int .i64 (-1), .int .i64 5] 27)) 3 (w.heap.size + 1) (by simp)
  refine (ev_ok wkC 1 9 7 [4, 7] _ _ hSlA (by decide) (by decide) (by decide) (by decide) (by decide) (by decide) (by decide) (by decide)).mono ?_
  rintro e w1 ⟨dv, rfl, hown, hb⟩
  rw [join_47] at hown
  have hC := Lib.hid (((Has.new w #[.int .i64 0, .int .i64 0, .int .i64 0, .int .i64 1, .int .i64 3, .int .i64 (-1), .int .i64 5] 27).grow (.cells #[.int .i64 4, .int .i64 7] 3)).later hb)
  have hB : Hid (Below w.heap.size w w1) := Bel.then (Bel.grew (Bel.grew (Below.refl _ _) _) _) hb
  have hD : Hid (OwnK .i64 3 w1 w.heap.size dv [4, 7]) := (hown : OwnK .i64 3 _ _ _ _).down (by rw [World.size_alloc, World.size_alloc]; omega)
  obtain ⟨A1, k1, rfl⟩ := hD.out.sl.shape
  dsimp only [wkC, List.length_cons, List.length_nil]
  simp only [Int.reduceAdd, Nat.reduceAdd]
  clear hown hb hSlA
  have hC1 := hC.out.2
  have hlt1 := hC.out.1
  go_wp2_with fail
  have hSl := Sl.built64 (w1.alloc (.cells #[.int .i64 1, .int .i64 8, .int .i64 10, .slice A1 2 k1, .int .i64 0, .int .i64 0, .int .i64 0, .int .i64 1, .int .i64 3, .int .i64 5] 37)) 3 (w1.heap.size + 1) (by simp)
  refine (ev_full wkC 1 9223372036854775807 7 [4, 7] _ _ hSl (by decide) (by decide) (by decide) (by decide) (.inr rfl)).mono ?_
  rintro e w2 ⟨rfl, hb⟩
  have hE := Lib.hid (((Has.new w1 #[.int .i64 1, .int .i64 8, .int .i64 10, .slice A1 2 k1, .int .i64 0, .int .i64 0, .int .i64 0, .int .i64 1, .int .i64 3, .int .i64 5] 37).grow (.cells #[.int .i64 4, .int .i64 7] 3)).later hb)
  have hC2 := Lib.hid (((hC.out.grow (.cells #[.int .i64 1, .int .i64 8, .int .i64 10, .slice A1 2 k1, .int .i64 0, .int .i64 0, .int .i64 0, .int .i64 1, .int .i64 3, .int .i64 5] 37)).grow (.cells #[.int .i64 4, .int .i64 7] 3)).later hb)
  have hD2 := Lib.hid (((hD.out.grow (.cells #[.int .i64 1, .int .i64 8, .int .i64 10, .slice A1 2 k1, .int .i64 0, .int .i64 0, .int .i64 0, .int .i64 1, .int .i64 3, .int .i64 5] 37)).grow (.cells #[.int .i64 4, .int .i64 7] 3)).later hb)
  have hB2 : Hid (Below w.heap.size w w2) := Bel.then (Bel.grew (Bel.grew hB.out _) _) hb
  clear hb hB hC hD hC1 hlt1 hSl
  have hC1 := hC2.out.2
  have hlt1 := hC2.out.1
  go_wp2_with fail
  refine (cPut_any wkC _ wk64).mono ?_
  rintro e w3 ⟨r3, rfl, hr3, hb⟩
  have hE3 := Lib.hid ((hE.out.grow (.cells #[.int .i64 0, .int .i64 0, .int .i64 0, .slice none 0 0, .int .i64 0, .int .i64 0, .int .i64 0, .int .i64 0, .int .i64 0, .int .i64 0] 37)).later hb)
  have hC3 := Lib.hid ((hC2.out.grow (.cells #[.int .i64 0, .int .i64 0, .int .i64 0, .slice none 0 0, .int .i64 0, .int .i64 0, .int .i64 0, .int .i64 0, .int .i64 0, .int .i64 0] 37)).later hb)
  have hD3 := Lib.hid ((hD2.out.grow (.cells #[.int .i64 0, .int .i64 0, .int .i64 0, .slice none 0 0, .int .i64 0, .int .i64 0, .int .i64 0, .int .i64 0, .int .i64 0, .int .i64 0] 37)).later hb)
  have hB3 : Hid (Below w.heap.size w w3) := Bel.then (Bel.grew hB2.out _) hb
  have hS3 := Lib.hid hr3.sl
  clear hb hE hC2 hD2 hB2 hr3 hC1 hlt1
  go_wp2_with fail
  obtain ⟨g, hg⟩ : ∃ g, getC (encs (firstN wkC 7)) = g := ⟨_, rfl⟩
  obtain ⟨g0, g1, g2, g3, g4, g5, g6⟩ : g 0 = 0 ∧ g 1 = 0 ∧ g 2 = 0 ∧ g 3 = 1 ∧ g 4 = 3 ∧ g 5 = -1 ∧ g 6 = 5 := by
    rw [← hg]
    exact ⟨getC_back wk64 (by decide), getC_back wk64 (by decide), getC_back wk64 (by decide), getC_back wk64 (by decide), getC_back wk64 (by decide), getC_back wk64 (by decide), getC_back wk64 (by decide)⟩
  refine (cGet_any _ _ _ hS3.out (by have := encs_le (firstN_64 wk64 (Nat.le_refl 7)); rw [firstN_length] at this; omega) (encs_byte (firstN_64 wk64 (Nat.le_refl 7))) g 0 hg (getE_back wk64)).mono ?_
  rintro e w4 ⟨rfl, hb⟩
  rw [show cmdV g = .agg #[.int .i64 0, .int .i64 0, .int .i64 0, .int .i64 1, .int .i64 3, .int .i64 (-1), .int .i64 5] from by unfold cmdV; rw [g0, g1, g2, g3, g4, g5, g6]]
  have hE4 := Lib.hid (hE3.out.later hb)
  have hC4 := Lib.hid (hC3.out.later hb)
  have hD4 := Lib.hid (hD3.out.later hb)
  have hB4 := Lib.hid (hB3.out.trans (hb.mono hB3.out.size))
  clear hb hE3 hC3 hD3 hB3 hS3 g0 g1 g2 g3 g4 g5 g6 hg
  have hE1 := hE4.out.2
  have hC1 := hC4.out.2
  have hE0 := hE4.out.1
  have hC0 := hC4.out.1
  go_wp2_with fail
  have hSl := Sl.built64 (w4.alloc (.cells #[.int .i64 0, .int .i64 0, .int .i64 0, .int .i64 1, .int .i64 3, .int .i64 (-1), .int .i64 5] 27)) 3 (w4.heap.size + 1) (by simp)
  have hDl := ((hD4.out.grow (.cells #[.int .i64 0, .int .i64 0, .int .i64 0, .int .i64 1, .int .i64 3, .int .i64 (-1), .int .i64 5] 27)).grow (.cells #[.int .i64 4, .int .i64 7] 3)).sl
  refine (sameInts_is hDl hSl (b := true) (by decide) (by decide)).mono ?_
  rintro e w5 ⟨rfl, hb⟩
  have hE5 := Lib.hid (((hE4.out.grow (.cells #[.int .i64 0, .int .i64 0, .int .i64 0, .int .i64 1, .int .i64 3, .int .i64 (-1), .int .i64 5] 27)).grow (.cells #[.int .i64 4, .int .i64 7] 3)).later hb)
  have hC5 := Lib.hid (((hC4.out.grow (.cells #[.int .i64 0, .int .i64 0, .int .i64 0, .int .i64 1, .int .i64 3, .int .i64 (-1), .int .i64 5] 27)).grow (.cells #[.int .i64 4, .int .i64 7] 3)).later hb)
  have hD5 := Lib.hid (((Has.new w4 #[.int .i64 0, .int .i64 0, .int .i64 0, .int .i64 1, .int .i64 3, .int .i64 (-1), .int .i64 5] 27).grow (.cells #[.int .i64 4, .int .i64 7] 3)).later hb)
  have hB5 : Hid (Below w.heap.size w w5) := Bel.then (Bel.grew (Bel.grew hB4.out _) _) hb
  clear hb hSl hDl hE4 hC4 hD4 hB4 hE1 hC1 hE0 hC0
  have hE1 := hE5.out.2
  have hC1 := hC5.out.2
  have hD1 := hD5.out.2
  go_wp2_with fail
  go_ret
  exact ⟨rfl, hB5.out⟩
end Go.Proofs.YtjjccjannandlaaDoor
