/- Pick: a number from 0 to n - 1. -/
import Derived.Test.YtamnligooelmgaaDoorBase
set_option maxRecDepth 100000
set_option linter.unusedVariables false
set_option linter.unusedSimpArgs false
namespace Go.Proofs.YtamnligooelmgaaDoor
open Go.RowKit Go.BigFrame

/-- What Pick answers. -/
def PickRet (n : Int) (w : World) (e : Ending) (w' : World) : Prop := ∃ m : Int, e = .returned (.int .i64 m) ∧ 0 ≤ m ∧ m < n ∧ w = w'
set_option maxHeartbeats 1000000 in
theorem pick_any (k n : Int) (w : World) (h0 : -9223372036854775808 ≤ k) (h1 : k ≤ 9223372036854775807) (hn : 1 ≤ n) (hn1 : n ≤ 9223372036854775807) :
    Calls Tryd.prog 18 #[.int .i64 k, .int .i64 n] w fun e w' => PickRet n w e w' := by
  have hn0 : n ≠ 0 := by omega
  have hn2 : ¬ n < 1 := by omega
  have hlt : Int.tmod k n < n := Int.tmod_lt_of_pos k (by omega)
  have hgt : -n < Int.tmod k n := by
    have := Int.tmod_lt_of_pos (-k) (show 0 < n by omega)
    rw [Int.neg_tmod] at this; omega
  by_cases hneg : Int.tmod k n < 0
  · go_enter Tryd.func18, Tryd.ntmps18
    go_wp2
    go_ret
    exact ⟨_, rfl, by omega, by omega, rfl⟩
  · go_enter Tryd.func18, Tryd.ntmps18
    go_wp2
    go_ret
    exact ⟨_, rfl, by omega, by omega, rfl⟩
end Go.Proofs.YtamnligooelmgaaDoor
