/- Walks of vec.Cmp, vec.Join, vec.Sum. -/
import Derived.Test.YtjjccjannandlaaDoorVecP
set_option maxRecDepth 100000
set_option linter.unusedVariables false
set_option linter.unusedSimpArgs false
namespace Go.Proofs.YtjjccjannandlaaDoor
open Go.RowKit

theorem Tryd.infoInt : (Tryd.prog.info? 3).map (fun i => (i.zero, i.size, i.bytes)) = some (some (.int .i64 0), 1, 8) := by kernel_rfl

/-- 'how |= 1', 'how |= 2'. -/
theorem code_or1 (l g : Bool) : bits .or .i64 (code l g) 1 = code true g := by cases l <;> cases g <;> decide +kernel
theorem code_or2 (l g : Bool) : bits .or .i64 (code l g) 2 = code l true := by cases l <;> cases g <;> decide +kernel

set_option maxHeartbeats 1000000 in
/-- Cmp, over n entries. -/
theorem cmp_of (n : Nat) (xs ys : List Int) (v u : Value) (B : Nat) (w : World) (hx : Sl .i64 w B v xs) (hy : Sl .i64 w B u ys) (hn : n ≤ 1099511627776)
    (h : (xs.length = n ∧ ys.length ≤ n) ∨ (ys.length = n ∧ xs.length < n)) :
    Calls Tryd.prog 41 #[v, u] w fun e w' => e = .returned (.int .i64 (code (anyLt xs ys n) (anyLt ys xs n))) ∧ w = w' := by
  obtain ⟨A, c, rfl⟩ := hx.shape
  obtain ⟨A', c', rfl⟩ := hy.shape
  have HX := Lib.hid hx
  have HY := Lib.hid hy
  clear hx hy
  have o1 := code_or1
  have o2 := code_or2
  rcases h with ⟨rfl, h2⟩ | ⟨rfl, h2⟩
  · go_enter Tryd.func41, Tryd.ntmps41
    go_wp2
    go_loop [5, 14] (fun t i => ∃ k : Nat, k ≤ xs.length ∧ i = .int .i64 k ∧ ∃ l g : Bool, t = .int .i64 (code l g) ∧ Hid (l = anyLt xs ys k ∧ g = anyLt ys xs k)) (fun _ i => xs.length - (intOf i).toNat)
    case atStart => exact ⟨0, Nat.zero_le _, rfl, false, false, rfl, Lib.hid ⟨rfl, rfl⟩⟩
    case round =>
      obtain ⟨k, hk, rfl, l, g, rfl, HLG⟩ := hrel
      by_cases hlt : k < xs.length
      · rcases Int.lt_trichotomy (getV xs k) (getV ys k) with h1 | h1 | h1
        · go_wp2_with (first
        | (go_at_call 30; (with_reducible refine (get_any xs _ B (k : Int) _ HX.out).mono ?_); rintro e w' ⟨rfl, rfl⟩)
        | (go_at_call 30; (with_reducible refine (get_any ys _ B (k : Int) _ HY.out).mono ?_); rintro e w' ⟨rfl, rfl⟩))
          go_round
          case rel => exact ⟨k + 1, by omega, by go_num, true, g, rfl, Lib.hid ⟨(anyLt_yes h1).symm, by rw [anyLt_no (Int.le_of_lt h1)]; exact HLG.out.2⟩⟩
          case measure => simp [intOf]; omega
        · have h3 : getV xs k ≤ getV ys k := by omega
          have h4 : getV ys k ≤ getV xs k := by omega
          clear h1
          go_wp2_with (first
        | (go_at_call 30; (with_reducible refine (get_any xs _ B (k : Int) _ HX.out).mono ?_); rintro e w' ⟨rfl, rfl⟩)
        | (go_at_call 30; (with_reducible refine (get_any ys _ B (k : Int) _ HY.out).mono ?_); rintro e w' ⟨rfl, rfl⟩))
          go_round
          case rel => exact ⟨k + 1, by omega, by go_num, l, g, rfl, Lib.hid ⟨by rw [anyLt_no h4]; exact HLG.out.1, by rw [anyLt_no h3]; exact HLG.out.2⟩⟩
          case measure => simp [intOf]; omega
        · go_wp2_with (first
        | (go_at_call 30; (with_reducible refine (get_any xs _ B (k : Int) _ HX.out).mono ?_); rintro e w' ⟨rfl, rfl⟩)
        | (go_at_call 30; (with_reducible refine (get_any ys _ B (k : Int) _ HY.out).mono ?_); rintro e w' ⟨rfl, rfl⟩))
          go_round
          case rel => exact ⟨k + 1, by omega, by go_num, l, true, rfl, Lib.hid ⟨by rw [anyLt_no (Int.le_of_lt h1)]; exact HLG.out.1, (anyLt_yes h1).symm⟩⟩
          case measure => simp [intOf]; omega
      · have hk' : k = xs.length := by omega
        subst hk'
        go_wp2
        go_ret
        obtain ⟨rfl, rfl⟩ := HLG.out
        exact ⟨rfl, rfl⟩
  · go_enter Tryd.func41, Tryd.ntmps41
    go_wp2
    go_loop [5, 14] (fun t i => ∃ k : Nat, k ≤ ys.length ∧ i = .int .i64 k ∧ ∃ l g : Bool, t = .int .i64 (code l g) ∧ Hid (l = anyLt xs ys k ∧ g = anyLt ys xs k)) (fun _ i => ys.length - (intOf i).toNat)
    case atStart => exact ⟨0, Nat.zero_le _, rfl, false, false, rfl, Lib.hid ⟨rfl, rfl⟩⟩
    case round =>
      obtain ⟨k, hk, rfl, l, g, rfl, HLG⟩ := hrel
      by_cases hlt : k < ys.length
      · rcases Int.lt_trichotomy (getV xs k) (getV ys k) with h1 | h1 | h1
        · go_wp2_with (first
        | (go_at_call 30; (with_reducible refine (get_any xs _ B (k : Int) _ HX.out).mono ?_); rintro e w' ⟨rfl, rfl⟩)
        | (go_at_call 30; (with_reducible refine (get_any ys _ B (k : Int) _ HY.out).mono ?_); rintro e w' ⟨rfl, rfl⟩))
          go_round
          case rel => exact ⟨k + 1, by omega, by go_num, true, g, rfl, Lib.hid ⟨(anyLt_yes h1).symm, by rw [anyLt_no (Int.le_of_lt h1)]; exact HLG.out.2⟩⟩
          case measure => simp [intOf]; omega
        · have h3 : getV xs k ≤ getV ys k := by omega
          have h4 : getV ys k ≤ getV xs k := by omega
          clear h1
          go_wp2_with (first
        | (go_at_call 30; (with_reducible refine (get_any xs _ B (k : Int) _ HX.out).mono ?_); rintro e w' ⟨rfl, rfl⟩)
        | (go_at_call 30; (with_reducible refine (get_any ys _ B (k : Int) _ HY.out).mono ?_); rintro e w' ⟨rfl, rfl⟩))
          go_round
          case rel => exact ⟨k + 1, by omega, by go_num, l, g, rfl, Lib.hid ⟨by rw [anyLt_no h4]; exact HLG.out.1, by rw [anyLt_no h3]; exact HLG.out.2⟩⟩
          case measure => simp [intOf]; omega
        · go_wp2_with (first
        | (go_at_call 30; (with_reducible refine (get_any xs _ B (k : Int) _ HX.out).mono ?_); rintro e w' ⟨rfl, rfl⟩)
        | (go_at_call 30; (with_reducible refine (get_any ys _ B (k : Int) _ HY.out).mono ?_); rintro e w' ⟨rfl, rfl⟩))
          go_round
          case rel => exact ⟨k + 1, by omega, by go_num, l, true, rfl, Lib.hid ⟨by rw [anyLt_no (Int.le_of_lt h1)]; exact HLG.out.1, (anyLt_yes h1).symm⟩⟩
          case measure => simp [intOf]; omega
      · have hk' : k = ys.length := by omega
        subst hk'
        go_wp2
        go_ret
        obtain ⟨rfl, rfl⟩ := HLG.out
        exact ⟨rfl, rfl⟩

theorem cmp_any (xs ys : List Int) (v u : Value) (B : Nat) (w : World) (hx : Sl .i64 w B v xs) (hy : Sl .i64 w B u ys) (hl : xs.length ≤ 1099511627776) (hl' : ys.length ≤ 1099511627776) :
    Calls Tryd.prog 41 #[v, u] w fun e w' => e = .returned (.int .i64 (cmpV xs ys)) ∧ w = w' := by
  have e : cmpV xs ys = code (anyLt xs ys (max xs.length ys.length)) (anyLt ys xs (max xs.length ys.length)) := by
    unfold cmpV lessV; rw [Nat.max_comm ys.length xs.length]
  rw [e]
  exact cmp_of _ xs ys v u B w hx hy (by omega) (by omega)
end Go.Proofs.YtjjccjannandlaaDoor
