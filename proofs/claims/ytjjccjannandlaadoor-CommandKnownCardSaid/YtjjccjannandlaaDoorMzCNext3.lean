/- CommandNext: whatever is asked. -/
import Derived.Test.YtjjccjannandlaaDoorMzCNext2
set_option maxRecDepth 100000
set_option maxRecDepth 100000
set_option linter.unusedVariables false
set_option linter.unusedSimpArgs false
namespace Go.Proofs.YtjjccjannandlaaDoor
open Go.RowKit Go.BigFrame

set_option maxHeartbeats 2000000 in
theorem commandNext_any (v : Nat → Int) (o lam : Int) (xs : List Int) (x : Value) (w : World) (hx : Sl .i64 w w.heap.size x xs) (hr : ∀ n ∈ xs, n ≤ 9223372036854775807) (hlm : lam ≤ 9223372036854775807) :
    Calls Tryd.prog 21 #[cmdV v, .int .i64 o, x, .int .i64 lam] w fun e w' => e = .returned (.bool true) ∧ Below w.heap.size w w' := by
  by_cases hbig : 200 < (xs.length : Int)
  · obtain ⟨A, c, rfl⟩ := hx.shape
    clear hx
    go_enter Tryd.func21, Tryd.ntmps21
    go_wp2_with fail
    refine (works08_any _).mono ?_
    rintro e w1 ⟨rfl, hb⟩
    have HB := Lib.hid (Bel.then (Bel.grew (Below.refl _ _) _) hb)
    clear hb
    go_wp2_with fail
    go_ret
    exact ⟨rfl, HB.out⟩
  · have hl : xs.length ≤ 200 := by omega
    by_cases hbad : o < 0 ∨ (xs.length : Int) ≤ o ∨ lam < 0
    · refine cNext_no v o lam 1 _ xs x w hx hl rfl (by decide) (fun W hW => ev_bad v o lam xs x W (hx.later hW) hbad) ?_
      omega
    · have h0 : 0 ≤ o := by omega
      have h1 : o < (xs.length : Int) := by omega
      have h2 : 0 ≤ lam := by omega
      by_cases hfull : getV xs o = 9223372036854775807 ∨ lam = 9223372036854775807
      · refine cNext_no v o lam 13 _ xs x w hx hl rfl (by decide) (fun W hW => ev_full v o lam _ xs x W (hx.later hW) h0 h1 h2 rfl hfull) ?_
        by_cases hlam : lam = 9223372036854775807
        · exact .inr (.inr (.inr (.inl ⟨h0, h1, h2, hlam⟩)))
        · exact .inr (.inr (.inr (.inr ⟨h0, h1, h2, by simp [hlam], by rcases hfull with h | h; exact h; exact absurd h hlam⟩)))
      · have := getV_le hr o
        exact cNext_ok v o lam _ xs x w hx hl hr h0 h1 h2 rfl (by omega) (by omega)
end Go.Proofs.YtjjccjannandlaaDoor
