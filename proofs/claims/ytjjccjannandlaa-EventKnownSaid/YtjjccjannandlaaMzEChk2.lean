/- event.Check, of what is in its place. -/
import Derived.Test.YtjjccjannandlaaMzEChk
set_option maxRecDepth 100000
set_option linter.unusedVariables false
set_option linter.unusedSimpArgs false
namespace Go.Proofs.Ytjjccjannandlaa
open Go.RowKit Go.BigFrame

set_option maxHeartbeats 8000000 in
theorem eChk_rest (f : Nat → Int) (dv : Value) (xs : List Int) (w : World) (hx : Sl .i64 w w.heap.size dv xs) (hl : xs.length ≤ 1099511627776) (k : Nat) (hk : f 0 = (k : Int)) (hkn : k < xs.length) (h3 : 1 ≤ f 1) (h4 : 1 ≤ f 2) (h5 : 0 ≤ f 4) (h6 : 0 ≤ f 8) (h8 : ¬ AnyNeg xs) (h64 : f 1 ≤ 9223372036854775807) (r : Int)
    (hr : (xs[k]?.getD 0 ≠ f 1 - 1 ∧ r = 9) ∨ (xs[k]?.getD 0 = f 1 - 1 ∧ ((f 6 < 1 ∧ r = 2) ∨ (1 ≤ f 6 ∧ 5 < f 6 ∧ r = 2) ∨ (1 ≤ f 6 ∧ f 6 ≤ 5 ∧ ((min (f 3) (f 5) < 0 ∧ r = 8) ∨ (0 ≤ f 3 ∧ 0 ≤ f 5 ∧ 8 ≤ f 3 ∧ r = 8) ∨ (0 ≤ f 3 ∧ 0 ≤ f 5 ∧ f 3 < 8 ∧ 8 ≤ f 5 ∧ r = 8) ∨ (0 ≤ f 3 ∧ 0 ≤ f 5 ∧ f 3 < 8 ∧ f 5 < 8 ∧ r = 0)))))) :
    Calls Try.prog 27 #[evV f dv, .int .i64 (xs.length : Int)] w fun e w' => e = .returned (.int .i64 r) ∧ Below w.heap.size w w' := by
  obtain ⟨A, c, rfl⟩ := hx.shape
  have HX := Lib.hid hx
  have hB : ∀ o, Below w.heap.size w (w.alloc o) := fun o => (Below.refl w.heap.size w).alloc (Nat.le_refl _) o
  have hBd : ∀ o, Below w.heap.size w (w.alloc o).drew := fun o => Below.drew (hB o)
  have HC := Lib.hid (fun o => contains_is xs (.slice A xs.length c) (w.alloc o) ((hx.below (hB o)).more (hB o).size) hl false ⟨fun h => absurd h (by decide), fun h => absurd h h8⟩)
  obtain ⟨b, off, rfl, hbB, hcap, hcx⟩ := hx.elem hkn
  obtain ⟨y, hy⟩ : ∃ y, y = xs[k]?.getD 0 := ⟨_, rfl⟩
  rw [← hy] at hcx hr
  have hcd : ∀ o, (w.alloc o).drew.cell? ⟨b, off + k, none⟩ = some (.int .i64 y) := fun o => ((hBd o).cell (p := ⟨b, off + k, none⟩) hbB).trans hcx
  have hw1 : IntKind.i64.wrap (f 1 - 1) = f 1 - 1 := IntWalk.i64_in _ (by omega)
  have hkI : (k : Int) < (xs.length : Int) := by omega
  clear hy hx h8
  have HR := Lib.hid hr
  clear hr
  go_enter Try.func27, Try.ntmps27
  go_wp2_with fail
  refine (HC.out _).mono ?_
  rintro e w3 ⟨rfl, rfl⟩
  go_wp2_with fail
  go_region
  rcases HR.out with ⟨ha, rfl⟩ | ⟨ha, ⟨hb, rfl⟩ | ⟨hb, hc, rfl⟩ | ⟨hb, hc, ⟨hd, rfl⟩ | ⟨hd, he, hf, rfl⟩ | ⟨hd, he, hf, hg, rfl⟩ | ⟨hd, he, hf, hg, rfl⟩⟩⟩
  · have hne : (y != f 1 - 1) = true := by simp [ha]
    clear ha HR
    go_wp2_with fail
    simp [bodyPost, results, Try.results27, go_sem, hBd]
  all_goals
    have hne : (y != f 1 - 1) = false := by simp [ha]
    clear ha HR
    go_wp2_with fail
    simp [bodyPost, results, Try.results27, go_sem, hBd]
end Go.Proofs.Ytjjccjannandlaa
