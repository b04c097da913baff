/- Walks of vec.Sum and of its reference, of the reference's covers, Cmp and Join. -/
import Derived.Test.YtbfnlaemlflmpaaVec2
set_option linter.unusedVariables false
set_option linter.unusedSimpArgs false
namespace Go.Proofs.Ytbfnlaemlflmpaa
open Go.RowKit

theorem ret2 {k : IntKind} {a b : Int} {x y : Bool} (h : a = b) (h' : x = y) : Ending.returned (.tuple #[.int k a, .bool x]) = .returned (.tuple #[.int k b, .bool y]) := by rw [h, h']

theorem psum_step {xs : List Int} {k : Nat} (hk : k < xs.length) (hp : psum xs k ≤ 9223372036854775807) (hr : ∀ x ∈ xs, x ≤ 9223372036854775807) :
    (psum xs k + getV xs k ≤ 9223372036854775807 ∧ psum xs (k + 1) = psum xs k + getV xs k) ∨
    (9223372036854775807 < psum xs k + getV xs k ∧ sumOk xs = false ∧ ∃ S, IntKind.i64.wrap (psum xs k + getV xs k) = S ∧ S < 0) := by
  rcases Int.lt_or_le 9223372036854775807 (psum xs k + getV xs k) with h | h
  · refine .inr ⟨h, sumOk_false (k := k + 1) (by omega) h, _, rfl, ?_⟩
    have := getV_le hr k
    have := psum_nonneg xs k
    rw [IntKind.wrap_i64]
    omega
  · exact .inl ⟨h, rfl⟩

set_option maxHeartbeats 1000000 in
theorem sum_any (xs : List Int) (v : Value) (B : Nat) (w : World) (hx : Sl .i64 w B v xs) (hl : xs.length ≤ 1099511627776) (hr : ∀ x ∈ xs, x ≤ 9223372036854775807) :
    Calls Try.prog 23 #[v] w fun e w' => e = .returned (.tuple #[.int .i64 (sumV xs), .bool (sumOk xs)]) ∧ w = w' := by
  obtain ⟨A, c, rfl⟩ := hx.shape
  have HX := Lib.hid hx
  have HR := Lib.hid hr
  clear hx hr
  go_enter Try.func23, Try.ntmps23
  go_wp2
  go_loop [4, 8] (fun t i => ∃ k : Nat, k ≤ xs.length ∧ i = .int .i64 k ∧ t = .int .i64 (psum xs k) ∧ psum xs k ≤ 9223372036854775807) (fun _ i => xs.length - (intOf i).toNat)
  case atStart => exact ⟨0, Nat.zero_le _, rfl, rfl, by simp [psum]⟩
  case round =>
    obtain ⟨k, hk, rfl, rfl, hp⟩ := hrel
    have hg := getV_nonneg xs k
    have hn := psum_nonneg xs k
    by_cases hlt : k < xs.length
    · rcases psum_step hlt hp HR.out with ⟨h1, h2⟩ | ⟨h1, h2, S, h3, h4⟩
      · have H2 := Lib.hid h2
        clear h2
        go_wp2_with (go_at_call 29; (with_reducible refine (get_any xs _ B (k : Int) _ HX.out).mono ?_); rintro e w' ⟨rfl, rfl⟩)
        go_round
        case rel => exact ⟨k + 1, by omega, by go_num, by rw [H2.out], by rw [H2.out]; exact h1⟩
        case measure => simp [intOf]; omega
      · have H2 := Lib.hid h2
        clear h2 h1
        go_wp2_with (go_at_call 29; (with_reducible refine (get_any xs _ B (k : Int) _ HX.out).mono ?_); rintro e w' ⟨rfl, rfl⟩)
        go_ret2
        exact ⟨ret2 (sumV_no H2.out).symm H2.out.symm, rfl⟩
    · have hk' : k = xs.length := by omega
      subst hk'
      have ho : sumOk xs = true := decide_eq_true hp
      have HO := Lib.hid ho
      clear ho
      go_wp2
      go_ret2
      exact ⟨ret2 (sumV_ok HO.out).symm HO.out.symm, rfl⟩

set_option maxHeartbeats 1000000 in
theorem rsum_any (xs : List Int) (v : Value) (B : Nat) (w : World) (hx : Sl .i64 w B v xs) (hl : xs.length ≤ 1099511627776) (hr : ∀ x ∈ xs, x ≤ 9223372036854775807) :
    Calls Try.prog 24 #[v] w fun e w' => e = .returned (.tuple #[.int .i64 (sumV xs), .bool (sumOk xs)]) ∧ w = w' := by
  obtain ⟨A, c, rfl⟩ := hx.shape
  have HX := Lib.hid hx
  have HR := Lib.hid hr
  clear hx hr
  go_enter Try.func24, Try.ntmps24
  go_wp2
  go_loop [4, 5] (fun t i => ∃ k : Nat, k ≤ xs.length ∧ i = .int .i64 k ∧ ∃ q : Int, t = .int .i64 q ∧ 0 ≤ q ∧ q ≤ 9223372036854775807 ∧ Hid (psum xs k = 9223372036854775807 - q)) (fun _ i => xs.length - (intOf i).toNat)
  case atStart => exact ⟨0, Nat.zero_le _, rfl, _, rfl, by omega, by omega, Lib.hid (by simp [psum])⟩
  case round =>
    obtain ⟨k, hk, rfl, q, rfl, hq0, hq, HP⟩ := hrel
    have hg := getV_nonneg xs k
    by_cases hlt : k < xs.length
    · by_cases h1 : getV xs k ≤ q
      · go_wp2_with (go_at_call 30; (with_reducible refine (rget_any xs _ B (k : Int) _ HX.out).mono ?_); rintro e w' ⟨rfl, rfl⟩)
        go_round
        case rel => exact ⟨k + 1, by omega, by go_num, q - getV xs k, rfl, by omega, by omega, Lib.hid (by have := HP.out; simp only [psum]; omega)⟩
        case measure => simp [intOf]; omega
      · have h2 : q < getV xs k := by omega
        have ho : sumOk xs = false := sumOk_false (k := k + 1) (by omega) (by have := HP.out; simp only [psum]; omega)
        have HO := Lib.hid ho
        clear ho h1
        go_wp2_with (go_at_call 30; (with_reducible refine (rget_any xs _ B (k : Int) _ HX.out).mono ?_); rintro e w' ⟨rfl, rfl⟩)
        go_ret2
        exact ⟨ret2 (sumV_no HO.out).symm HO.out.symm, rfl⟩
    · have hk' : k = xs.length := by omega
      subst hk'
      have ho : sumOk xs = true := decide_eq_true (by have := HP.out; unfold totV; omega)
      have HO := Lib.hid ho
      clear ho
      go_wp2
      go_ret2
      exact ⟨ret2 (by rw [sumV_ok HO.out]; have := HP.out; unfold totV; omega) HO.out.symm, rfl⟩
end Go.Proofs.Ytbfnlaemlflmpaa
