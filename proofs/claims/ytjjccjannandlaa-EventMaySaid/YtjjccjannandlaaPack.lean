/- Walks of package pack's size and of its reference. -/
import Derived.Test.YtjjccjannandlaaPackP
import Derived.Test.YtjjccjannandlaaShelf
set_option linter.unusedVariables false
set_option linter.unusedSimpArgs false
namespace Go.Proofs.Ytjjccjannandlaa
open Go.RowKit

theorem u64_neg {n : Int} (h0 : -9223372036854775808 ≤ n) (hn : n < 0) : ∃ x : Int, IntKind.u64.wrap n = x ∧ IntKind.u64.wrap (-x) = (mag n : Int) := by
  refine ⟨_, rfl, ?_⟩
  rw [IntKind.wrap_u64, IntKind.wrap_u64]
  unfold mag
  omega
theorem u64_pos {n : Int} (h0 : n ≤ 9223372036854775807) (hn : 0 ≤ n) : IntKind.u64.wrap n = (mag n : Int) := by
  rw [IntKind.wrap_u64]
  unfold mag
  omega

set_option maxHeartbeats 400000 in
theorem size_any (n : Int) (w : World) (h0 : -9223372036854775808 ≤ n) (h1 : n ≤ 9223372036854775807) :
    Calls Try.prog 56 #[.int .i64 n] w fun e w' => e = .returned (.tuple #[.int .u64 (mag n), .int .u8 (if n < 0 then 16 else 0)]) ∧ w = w' := by
  by_cases hn : n < 0
  · obtain ⟨x, c1, c2⟩ := u64_neg h0 hn
    rw [if_pos hn]
    clear h0 h1
    go_enter Try.func56, Try.ntmps56
    go_wp2
    go_ret2
    exact ⟨rfl, rfl⟩
  · have c1 := u64_pos h1 (by omega)
    rw [if_neg hn]
    have hn' : 0 ≤ n := by omega
    clear h0 h1 hn
    go_enter Try.func56, Try.ntmps56
    go_wp2
    go_ret2
    exact ⟨rfl, rfl⟩

set_option maxHeartbeats 400000 in
theorem rsize_any (n : Int) (w : World) (h0 : -9223372036854775808 ≤ n) (h1 : n ≤ 9223372036854775807) :
    Calls Try.prog 58 #[.int .i64 n] w fun e w' => e = .returned (.int .u64 (mag n)) ∧ w = w' := by
  by_cases hn : n < 0
  · obtain ⟨x, c1, c2⟩ := u64_neg h0 hn
    clear h0 h1
    go_enter Try.func58, Try.ntmps58
    go_wp2
    go_ret
    exact ⟨rfl, rfl⟩
  · have c1 := u64_pos h1 (by omega)
    have hn' : 0 ≤ n := by omega
    clear h0 h1 hn
    go_enter Try.func58, Try.ntmps58
    go_wp2
    go_ret
    exact ⟨rfl, rfl⟩
end Go.Proofs.Ytjjccjannandlaa
