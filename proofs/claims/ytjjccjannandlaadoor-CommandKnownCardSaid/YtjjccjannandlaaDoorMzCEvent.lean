/- command.Event. -/
import Derived.Test.YtjjccjannandlaaDoorMg4
import Derived.Test.YtjjccjannandlaaDoorVec2
import Derived.Test.YtjjccjannandlaaDoorKitInts
import Derived.Deep.RegionHeld3
set_option maxRecDepth 100000
set_option maxRecDepth 100000
set_option linter.unusedVariables false
set_option linter.unusedSimpArgs false
namespace Go.Proofs.YtjjccjannandlaaDoor
open Go.RowKit Go.BigFrame

/-- An event's value: origin, seq, lamport; deps; type, aggregate, field, op, arg, key. -/
abbrev evV (e : Nat → Int) (dv : Value) : Value := .agg #[.int .i64 (e 0), .int .i64 (e 1), .int .i64 (e 2), dv, .int .i64 (e 3), .int .i64 (e 4), .int .i64 (e 5), .int .i64 (e 6), .int .i64 (e 7), .int .i64 (e 8)]
abbrev zeroV : Value := .agg #[.int .i64 0, .int .i64 0, .int .i64 0, .slice none 0 0, .int .i64 0, .int .i64 0, .int .i64 0, .int .i64 0, .int .i64 0, .int .i64 0]

set_option maxHeartbeats 2000000 in
/-- It is none: an argument out of its place. -/
theorem ev_bad (v : Nat → Int) (o lam : Int) (xs : List Int) (x : Value) (w : World) (hx : Sl .i64 w w.heap.size x xs) (h : o < 0 ∨ (xs.length : Int) ≤ o ∨ lam < 0) :
    Calls Tryd.prog 10 #[cmdV v, .int .i64 o, x, .int .i64 lam] w fun e w' => e = .returned (.tuple #[zeroV, .int .i64 1]) ∧ Below w.heap.size w w' := by
  obtain ⟨A, c, rfl⟩ := hx.shape
  clear hx
  rcases (show o < 0 ∨ (0 ≤ o ∧ (xs.length : Int) ≤ o) ∨ (0 ≤ o ∧ o < (xs.length : Int) ∧ lam < 0) from by omega) with h1 | ⟨h1, h2⟩ | ⟨h1, h2, h3⟩
  all_goals
    clear h
    go_enter Tryd.func10, Tryd.ntmps10
    go_wp2_with fail
    have hBB : ∀ o1 o2, Below w.heap.size w ((w.alloc o1).alloc o2) := fun o1 o2 => ((Below.refl w.heap.size w).alloc (Nat.le_refl _) o1).alloc (by simp) o2
    simp [bodyPost, results, Tryd.results10, go_sem, hBB]

set_option maxHeartbeats 2000000 in
/-- It is none: no greater number. -/
theorem ev_full (v : Nat → Int) (o lam g : Int) (xs : List Int) (x : Value) (w : World) (hx : Sl .i64 w w.heap.size x xs) (h0 : 0 ≤ o) (h1 : o < (xs.length : Int)) (h2 : 0 ≤ lam) (hg : getV xs o = g) (h : g = 9223372036854775807 ∨ lam = 9223372036854775807) :
    Calls Tryd.prog 10 #[cmdV v, .int .i64 o, x, .int .i64 lam] w fun e w' => e = .returned (.tuple #[zeroV, .int .i64 13]) ∧ Below w.heap.size w w' := by
  obtain ⟨A, c, rfl⟩ := hx.shape
  have HX := Lib.hid hx
  have HG := Lib.hid hg
  clear hx hg
  have hBB : ∀ o1 o2, Below w.heap.size w ((w.alloc o1).alloc o2) := fun o1 o2 => ((Below.refl w.heap.size w).alloc (Nat.le_refl _) o1).alloc (by simp) o2
  have hc : (g == 9223372036854775807) = true ∨ ((g == 9223372036854775807) = false ∧ lam = 9223372036854775807) := by
    rcases h with h | h
    · left; simp [h]
    · by_cases hgg : g = 9223372036854775807
      · left; simp [hgg]
      · right; exact ⟨by simp [hgg], h⟩
  clear h
  rcases hc with hc | ⟨hc, rfl⟩
  all_goals
    go_enter Tryd.func10, Tryd.ntmps10
    go_wp2_with fail
    refine (get_any xs _ _ o _ (HX.out.below (hBB _ _))).mono ?_
    rw [HG.out]
    rintro e w1 ⟨rfl, rfl⟩
    go_wp2_with fail
    simp [bodyPost, results, Tryd.results10, go_sem, hBB]

end Go.Proofs.YtjjccjannandlaaDoor
