/- Walks of the references' covers, Cmp and Join; of atMost. -/
import Derived.Test.YtbfnlaemlflmpaaVec3
set_option linter.unusedVariables false
set_option linter.unusedSimpArgs false
namespace Go.Proofs.Ytbfnlaemlflmpaa
open Go.RowKit

theorem anyLt_stop {xs ys : List Int} {k n : Nat} (hk : k < n) (h : getV xs k < getV ys k) : anyLt xs ys n = true := (anyLt_iff _ _ _).2 ⟨k, hk, h⟩
theorem lessV_of (xs ys : List Int) {n : Nat} (hn : ys.length ≤ n) : anyLt xs ys n = lessV xs ys := by
  rw [Bool.eq_iff_iff, anyLt_iff, lessV_iff]
  constructor
  · rintro ⟨i, _, h⟩; exact ⟨i, h⟩
  · rintro ⟨i, h⟩
    refine ⟨i, ?_, h⟩
    rcases Nat.lt_or_ge i n with h' | h'
    · exact h'
    · rw [getV_past (xs := ys) (by omega)] at h
      have := getV_nonneg xs i
      omega

set_option maxHeartbeats 1000000 in
theorem covers_any (xs ys : List Int) (v u : Value) (B : Nat) (w : World) (hx : Sl .i64 w B v xs) (hy : Sl .i64 w B u ys) (hl : ys.length ≤ 1099511627776) :
    Calls Try.prog 38 #[v, u] w fun e w' => e = .returned (.bool (!lessV xs ys)) ∧ w = w' := by
  obtain ⟨A, c, rfl⟩ := hx.shape
  obtain ⟨A', c', rfl⟩ := hy.shape
  have HX := Lib.hid hx
  have HY := Lib.hid hy
  clear hx hy
  go_enter Try.func38, Try.ntmps38
  go_wp2
  go_loop [5] (fun i => ∃ k : Nat, k ≤ ys.length ∧ i = .int .i64 k ∧ Hid (anyLt xs ys k = false)) (fun i => ys.length - (intOf i).toNat)
  case atStart => exact ⟨0, Nat.zero_le _, rfl, Lib.hid rfl⟩
  case round =>
    obtain ⟨k, hk, rfl, HP⟩ := hrel
    by_cases hlt : k < ys.length
    · by_cases h1 : getV xs k < getV ys k
      · have hs := anyLt_stop hlt h1
        rw [lessV_of xs ys (Nat.le_refl _)] at hs
        have HS := Lib.hid hs
        clear hs
        go_wp2_with (first
          | (go_at_call 30; (with_reducible refine (rget_any xs _ B (k : Int) _ HX.out).mono ?_); rintro e w' ⟨rfl, rfl⟩)
          | (go_at_call 30; (with_reducible refine (rget_any ys _ B (k : Int) _ HY.out).mono ?_); rintro e w' ⟨rfl, rfl⟩))
        go_ret
        exact ⟨by rw [HS.out]; rfl, rfl⟩
      · have h2 : getV ys k ≤ getV xs k := by omega
        clear h1
        go_wp2_with (first
          | (go_at_call 30; (with_reducible refine (rget_any xs _ B (k : Int) _ HX.out).mono ?_); rintro e w' ⟨rfl, rfl⟩)
          | (go_at_call 30; (with_reducible refine (rget_any ys _ B (k : Int) _ HY.out).mono ?_); rintro e w' ⟨rfl, rfl⟩))
        go_round
        case rel => exact ⟨k + 1, by omega, by go_num, Lib.hid (by rw [anyLt_no h2]; exact HP.out)⟩
        case measure => simp [intOf]; omega
    · have hk' : k = ys.length := by omega
      subst hk'
      have hs := HP.out
      rw [lessV_of xs ys (Nat.le_refl _)] at hs
      have HS := Lib.hid hs
      clear hs
      go_wp2
      go_ret
      exact ⟨by rw [HS.out]; rfl, rfl⟩

set_option maxHeartbeats 1000000 in
theorem rcmp_any (xs ys : List Int) (v u : Value) (B : Nat) (w : World) (hx : Sl .i64 w B v xs) (hy : Sl .i64 w B u ys) (hl : xs.length ≤ 1099511627776) (hl' : ys.length ≤ 1099511627776) :
    Calls Try.prog 28 #[v, u] w fun e w' => e = .returned (.int .i64 (cmpV xs ys)) ∧ w = w' := by
  have HX := Lib.hid hx
  have HY := Lib.hid hy
  clear hx hy
  have h1 := fun W h => covers_any xs ys v u B W h
  cases hlx : lessV xs ys <;> cases hly : lessV ys xs
  all_goals
    have e : cmpV xs ys = code (lessV xs ys) (lessV ys xs) := rfl
    rw [e, hlx, hly]
    have HLX := Lib.hid hlx
    have HLY := Lib.hid hly
    clear e hlx hly h1
    go_enter Try.func28, Try.ntmps28
    go_wp2_with fail
    refine (covers_any xs ys v u B _ HX.out HY.out hl').mono ?_
    rw [HLX.out]
    rintro r w1 ⟨rfl, rfl⟩
    go_wp2_with fail
    refine (covers_any ys xs u v B _ HY.out HX.out hl).mono ?_
    rw [HLY.out]
    rintro r w2 ⟨rfl, rfl⟩
    go_wp2_with fail
    go_ret
    exact ⟨rfl, rfl⟩

/-- Is a Same or Less to b? -/
def atM (xs ys : List Int) : Bool := !lessV ys xs
set_option maxHeartbeats 400000 in
theorem atMost_any (xs ys : List Int) (v u : Value) (B : Nat) (w : World) (hx : Sl .i64 w B v xs) (hy : Sl .i64 w B u ys) (hl : xs.length ≤ 1099511627776) (hl' : ys.length ≤ 1099511627776) :
    Calls Try.prog 33 #[v, u] w fun e w' => e = .returned (.bool (atM xs ys)) ∧ w = w' := by
  have HX := Lib.hid hx
  have HY := Lib.hid hy
  clear hx hy
  cases hlx : lessV xs ys <;> cases hly : lessV ys xs
  all_goals
    have e : cmpV xs ys = code (lessV xs ys) (lessV ys xs) := rfl
    have e2 : atM xs ys = !lessV ys xs := rfl
    rw [hlx, hly] at e
    rw [hly] at e2
    rw [e2]
    have HE := Lib.hid e
    clear e e2 hlx hly
    go_enter Try.func33, Try.ntmps33
    go_wp2_with fail
    refine (cmp_any xs ys v u B _ HX.out HY.out hl hl').mono ?_
    rw [HE.out]
    simp only [code]
    rintro r w1 ⟨rfl, rfl⟩
    go_wp2_with fail
    go_ret
    exact ⟨rfl, rfl⟩

set_option maxHeartbeats 1000000 in
theorem rjoin_any (xs ys : List Int) (v u : Value) (B : Nat) (w : World) (hx : Sl .i64 w B v xs) (hy : Sl .i64 w B u ys) (hB : B ≤ w.heap.size) (hl : xs.length ≤ 1099511627776) (hl' : ys.length ≤ 1099511627776) :
    Calls Try.prog 26 #[v, u] w fun e w' => ∃ r, e = .returned r ∧ Own w' w.heap.size r (joinV xs ys) ∧ Below w.heap.size w w' := by
  obtain ⟨A, c, rfl⟩ := hx.shape
  obtain ⟨A', c', rfl⟩ := hy.shape
  obtain ⟨i0, hi, hz0, hz1, hz2⟩ := info_parts Try.infoInt
  have HX := Lib.hid hx
  have HY := Lib.hid hy
  clear hx hy
  go_enter Try.func26, Try.ntmps26
  go_wp2
  go_loopw [5, 6] (fun t i wr => ∃ k : Nat, k ≤ max xs.length ys.length ∧ i = .int .i64 k ∧ wr.ownsRow w.heap.size 3 1 t k ((joinN xs ys k).map (Value.int .i64)) ∧ Below w.heap.size w wr) (fun _ i _ => max xs.length ys.length - (intOf i).toNat)
  case atStart => exact ⟨0, Nat.zero_le _, rfl, World.ownsRow_nil _ _ _ _, Below.refl _ _⟩
  case round =>
    obtain ⟨k, hk, rfl, hown, hb⟩ := hrel
    rcases (show k < xs.length ∨ (xs.length ≤ k ∧ k < ys.length) ∨ (xs.length ≤ k ∧ ys.length ≤ k) from by omega) with hlt | ⟨hge, hlt⟩ | ⟨hge, hge'⟩
    rotate_right
    · have hk' : k = max xs.length ys.length := by omega
      have HK := Lib.hid hk'
      clear hk'
      go_wp2
      go_ret
      refine ⟨_, rfl, ?_, hb⟩
      unfold Own joinV
      rw [joinN_length, ← HK.out]
      exact hown
    all_goals
      rcases Int.lt_or_le (getV xs k) (getV ys k) with h1 | h1
      · have hmax : joinN xs ys (k + 1) = joinN xs ys k ++ [getV ys k] := by rw [joinN_succ]; congr 2; omega
        have HM := Lib.hid hmax
        have hkm : k < max xs.length ys.length := by omega
        clear hmax
        go_wp2_with (first
          | (go_at_call 30; (with_reducible refine (rget_any xs _ B (k : Int) _ (HX.out.below (hb.mono hB))).mono ?_); rintro e w' ⟨rfl, rfl⟩)
          | (go_at_call 30; (with_reducible refine (rget_any ys _ B (k : Int) _ (HY.out.below (hb.mono hB))).mono ?_); rintro e w' ⟨rfl, rfl⟩)
          | (at_builtin; refine wpList_append_own _ rfl _ _ 27 rfl w.heap.size 3 i0 (.int .i64 0) 1 8 Try.underlying27 hi hz0 hz1 hz2 rfl (by decide) _ _ _ rfl (hown.alloc _) ⟨wr.heap.size, 0, none⟩ 1 1 [.int .i64 (getV ys k)] rfl rfl (cell_one_new _ _ _) (by intro u hu; simp at hu; subst hu; rfl) (by unfold maxLen; omega) (by omega) (by have := hb.size; simp; omega) ?_; intro v' w1 hown' hgrow _))
        go_roundw
        case rel =>
          refine ⟨k + 1, by omega, by go_num, ?_, (hb.alloc hb.size _).grown hgrow (by have := hb.size; simp; omega) (own_base hown)⟩
          rw [HM.out, List.map_append]
          exact hown'
        case measure => simp [intOf]; omega
      · have hmax : joinN xs ys (k + 1) = joinN xs ys k ++ [getV xs k] := by rw [joinN_succ]; congr 2; omega
        have HM := Lib.hid hmax
        have hkm : k < max xs.length ys.length := by omega
        clear hmax
        go_wp2_with (first
          | (go_at_call 30; (with_reducible refine (rget_any xs _ B (k : Int) _ (HX.out.below (hb.mono hB))).mono ?_); rintro e w' ⟨rfl, rfl⟩)
          | (go_at_call 30; (with_reducible refine (rget_any ys _ B (k : Int) _ (HY.out.below (hb.mono hB))).mono ?_); rintro e w' ⟨rfl, rfl⟩)
          | (at_builtin; refine wpList_append_own _ rfl _ _ 27 rfl w.heap.size 3 i0 (.int .i64 0) 1 8 Try.underlying27 hi hz0 hz1 hz2 rfl (by decide) _ _ _ rfl (hown.alloc _) ⟨wr.heap.size, 0, none⟩ 1 1 [.int .i64 (getV xs k)] rfl rfl (cell_one_new _ _ _) (by intro u hu; simp at hu; subst hu; rfl) (by unfold maxLen; omega) (by omega) (by have := hb.size; simp; omega) ?_; intro v' w1 hown' hgrow _))
        go_roundw
        case rel =>
          refine ⟨k + 1, by omega, by go_num, ?_, (hb.alloc hb.size _).grown hgrow (by have := hb.size; simp; omega) (own_base hown)⟩
          rw [HM.out, List.map_append]
          exact hown'
        case measure => simp [intOf]; omega
end Go.Proofs.Ytbfnlaemlflmpaa
