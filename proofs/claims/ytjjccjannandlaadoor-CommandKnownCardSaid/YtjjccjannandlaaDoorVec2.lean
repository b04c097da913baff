/- Walks of vec.Join and of its reference. -/
import Derived.Test.YtjjccjannandlaaDoorKitC
import Derived.Test.YtjjccjannandlaaDoorVec
set_option maxRecDepth 100000
set_option linter.unusedVariables false
set_option linter.unusedSimpArgs false
namespace Go.Proofs.YtjjccjannandlaaDoor
open Go.RowKit

/-- A row that the call owns, of ints, as a list. -/
def Own (w : World) (B : Nat) (v : Value) (xs : List Int) : Prop := w.ownsRow B 3 1 v xs.length (xs.map (Value.int .i64))
theorem Own.sl {w : World} {B : Nat} {v : Value} {xs : List Int} (h : Own w B v xs) : Sl .i64 w w.heap.size v xs := by
  have h' : w.ownsRow B 3 1 v xs.length (xs.map (Value.int .i64)) := h
  rcases h'.2 with ⟨rfl, h2⟩ | ⟨g, cap, cur, rfl, hg, hh, hc, _⟩
  · have : xs = [] := List.eq_nil_of_length_eq_zero h2
    subst this
    exact Sl.nil_
  · refine .inr ⟨g, 0, cap, rfl, ?_, hc, fun i hi => ?_⟩
    · rcases Nat.lt_or_ge g w.heap.size with hlt | hge
      · exact hlt
      · rw [Array.getElem?_eq_none hge] at hh; cases hh
    · rw [Nat.zero_add, World.ownsRow.cellAt h' i (by omega), List.getElem?_map, List.getElem?_eq_getElem hi]; rfl
/-- Where it lies: at or above B. -/
theorem Own.shape {w : World} {B : Nat} {v : Value} {xs : List Int} (h : Own w B v xs) : (v = .slice none 0 0 ∧ xs = []) ∨ ∃ g cap, v = .slice (some ⟨g, 0, none⟩) xs.length cap ∧ B ≤ g ∧ g < w.heap.size := by
  rcases h.2 with ⟨rfl, h2⟩ | ⟨g, cap, cur, hv, hg, hh, _⟩
  · exact .inl ⟨rfl, by simpa using h2⟩
  · refine .inr ⟨g, cap, hv, hg, ?_⟩
    rcases Nat.lt_or_ge g w.heap.size with hlt | hge
    · exact hlt
    · rw [Array.getElem?_eq_none hge] at hh; cases hh

set_option maxHeartbeats 1000000 in
theorem join_of (n : Nat) (xs ys : List Int) (v u : Value) (B : Nat) (w : World) (hx : Sl .i64 w B v xs) (hy : Sl .i64 w B u ys) (hB : B ≤ w.heap.size) (hn : n ≤ 1099511627776)
    (h : (xs.length = n ∧ ys.length ≤ n) ∨ (ys.length = n ∧ xs.length < n)) :
    Calls Tryd.prog 31 #[v, u] w fun e w' => ∃ r, e = .returned r ∧ Own w' w.heap.size r (joinN xs ys n) ∧ Below w.heap.size w w' := by
  obtain ⟨A, c, rfl⟩ := hx.shape
  obtain ⟨A', c', rfl⟩ := hy.shape
  obtain ⟨i0, hi, hz0, hz1, hz2⟩ := info_parts Tryd.infoInt
  have HX := Lib.hid hx
  have HY := Lib.hid hy
  clear hx hy
  rcases h with ⟨rfl, h2⟩ | ⟨rfl, h2⟩
  · go_enter Tryd.func31, Tryd.ntmps31
    go_wp2
    go_loopw [5, 12] (fun t i wr => ∃ k : Nat, k ≤ xs.length ∧ i = .int .i64 k ∧ wr.ownsRow w.heap.size 3 1 t k ((joinN xs ys k).map (Value.int .i64)) ∧ Below w.heap.size w wr) (fun _ i _ => xs.length - (intOf i).toNat)
    case atStart => exact ⟨0, Nat.zero_le _, rfl, World.ownsRow_nil _ _ _ _, Below.refl _ _⟩
    case round =>
      obtain ⟨k, hk, rfl, hown, hb⟩ := hrel
      by_cases hlt : k < xs.length
      · rcases Int.lt_or_le (getV xs k) (getV ys k) with h1 | h1
        · have hmax : joinN xs ys (k + 1) = joinN xs ys k ++ [getV ys k] := by rw [joinN_succ]; congr 2; omega
          have HM := Lib.hid hmax
          clear hmax
          go_wp2_with (first
            | (go_at_call 30; (with_reducible refine (get_any xs _ B (k : Int) _ (HX.out.below (hb.mono hB))).mono ?_); rintro e w' ⟨rfl, rfl⟩)
            | (go_at_call 30; (with_reducible refine (get_any ys _ B (k : Int) _ (HY.out.below (hb.mono hB))).mono ?_); rintro e w' ⟨rfl, rfl⟩)
            | (at_builtin; refine wpList_append_own _ rfl _ _ 28 rfl w.heap.size 3 i0 (.int .i64 0) 1 8 Tryd.underlying28 hi hz0 hz1 hz2 rfl (by decide) _ _ _ rfl (hown.alloc _) ⟨wr.heap.size, 0, none⟩ 1 1 [.int .i64 (getV ys k)] rfl rfl (cell_one_new _ _ _) (by intro u hu; simp at hu; subst hu; rfl) (by unfold maxLen; omega) (by omega) (by have := hb.size; simp; omega) ?_; intro v' w1 hown' hgrow _))
          go_roundw
          case rel =>
            refine ⟨k + 1, by omega, by go_num, ?_, (hb.alloc hb.size _).grown hgrow (by have := hb.size; simp; omega) (own_base hown)⟩
            rw [HM.out, List.map_append]
            exact hown'
          case measure => simp [intOf]; omega
        · have hmax : joinN xs ys (k + 1) = joinN xs ys k ++ [getV xs k] := by rw [joinN_succ]; congr 2; omega
          have HM := Lib.hid hmax
          clear hmax
          go_wp2_with (first
            | (go_at_call 30; (with_reducible refine (get_any xs _ B (k : Int) _ (HX.out.below (hb.mono hB))).mono ?_); rintro e w' ⟨rfl, rfl⟩)
            | (go_at_call 30; (with_reducible refine (get_any ys _ B (k : Int) _ (HY.out.below (hb.mono hB))).mono ?_); rintro e w' ⟨rfl, rfl⟩)
            | (at_builtin; refine wpList_append_own _ rfl _ _ 28 rfl w.heap.size 3 i0 (.int .i64 0) 1 8 Tryd.underlying28 hi hz0 hz1 hz2 rfl (by decide) _ _ _ rfl (hown.alloc _) ⟨wr.heap.size, 0, none⟩ 1 1 [.int .i64 (getV xs k)] rfl rfl (cell_one_new _ _ _) (by intro u hu; simp at hu; subst hu; rfl) (by unfold maxLen; omega) (by omega) (by have := hb.size; simp; omega) ?_; intro v' w1 hown' hgrow _))
          go_roundw
          case rel =>
            refine ⟨k + 1, by omega, by go_num, ?_, (hb.alloc hb.size _).grown hgrow (by have := hb.size; simp; omega) (own_base hown)⟩
            rw [HM.out, List.map_append]
            exact hown'
          case measure => simp [intOf]; omega
      · have hk' : k = xs.length := by omega
        subst hk'
        go_wp2
        go_ret
        refine ⟨_, rfl, ?_, hb⟩
        unfold Own
        rw [joinN_length]
        exact hown
  · go_enter Tryd.func31, Tryd.ntmps31
    go_wp2
    go_loopw [5, 12] (fun t i wr => ∃ k : Nat, k ≤ ys.length ∧ i = .int .i64 k ∧ wr.ownsRow w.heap.size 3 1 t k ((joinN xs ys k).map (Value.int .i64)) ∧ Below w.heap.size w wr) (fun _ i _ => ys.length - (intOf i).toNat)
    case atStart => exact ⟨0, Nat.zero_le _, rfl, World.ownsRow_nil _ _ _ _, Below.refl _ _⟩
    case round =>
      obtain ⟨k, hk, rfl, hown, hb⟩ := hrel
      by_cases hlt : k < ys.length
      · rcases Int.lt_or_le (getV xs k) (getV ys k) with h1 | h1
        · have hmax : joinN xs ys (k + 1) = joinN xs ys k ++ [getV ys k] := by rw [joinN_succ]; congr 2; omega
          have HM := Lib.hid hmax
          clear hmax
          go_wp2_with (first
            | (go_at_call 30; (with_reducible refine (get_any xs _ B (k : Int) _ (HX.out.below (hb.mono hB))).mono ?_); rintro e w' ⟨rfl, rfl⟩)
            | (go_at_call 30; (with_reducible refine (get_any ys _ B (k : Int) _ (HY.out.below (hb.mono hB))).mono ?_); rintro e w' ⟨rfl, rfl⟩)
            | (at_builtin; refine wpList_append_own _ rfl _ _ 28 rfl w.heap.size 3 i0 (.int .i64 0) 1 8 Tryd.underlying28 hi hz0 hz1 hz2 rfl (by decide) _ _ _ rfl (hown.alloc _) ⟨wr.heap.size, 0, none⟩ 1 1 [.int .i64 (getV ys k)] rfl rfl (cell_one_new _ _ _) (by intro u hu; simp at hu; subst hu; rfl) (by unfold maxLen; omega) (by omega) (by have := hb.size; simp; omega) ?_; intro v' w1 hown' hgrow _))
          go_roundw
          case rel =>
            refine ⟨k + 1, by omega, by go_num, ?_, (hb.alloc hb.size _).grown hgrow (by have := hb.size; simp; omega) (own_base hown)⟩
            rw [HM.out, List.map_append]
            exact hown'
          case measure => simp [intOf]; omega
        · have hmax : joinN xs ys (k + 1) = joinN xs ys k ++ [getV xs k] := by rw [joinN_succ]; congr 2; omega
          have HM := Lib.hid hmax
          clear hmax
          go_wp2_with (first
            | (go_at_call 30; (with_reducible refine (get_any xs _ B (k : Int) _ (HX.out.below (hb.mono hB))).mono ?_); rintro e w' ⟨rfl, rfl⟩)
            | (go_at_call 30; (with_reducible refine (get_any ys _ B (k : Int) _ (HY.out.below (hb.mono hB))).mono ?_); rintro e w' ⟨rfl, rfl⟩)
            | (at_builtin; refine wpList_append_own _ rfl _ _ 28 rfl w.heap.size 3 i0 (.int .i64 0) 1 8 Tryd.underlying28 hi hz0 hz1 hz2 rfl (by decide) _ _ _ rfl (hown.alloc _) ⟨wr.heap.size, 0, none⟩ 1 1 [.int .i64 (getV xs k)] rfl rfl (cell_one_new _ _ _) (by intro u hu; simp at hu; subst hu; rfl) (by unfold maxLen; omega) (by omega) (by have := hb.size; simp; omega) ?_; intro v' w1 hown' hgrow _))
          go_roundw
          case rel =>
            refine ⟨k + 1, by omega, by go_num, ?_, (hb.alloc hb.size _).grown hgrow (by have := hb.size; simp; omega) (own_base hown)⟩
            rw [HM.out, List.map_append]
            exact hown'
          case measure => simp [intOf]; omega
      · have hk' : k = ys.length := by omega
        subst hk'
        go_wp2
        go_ret
        refine ⟨_, rfl, ?_, hb⟩
        unfold Own
        rw [joinN_length]
        exact hown

theorem join_any (xs ys : List Int) (v u : Value) (B : Nat) (w : World) (hx : Sl .i64 w B v xs) (hy : Sl .i64 w B u ys) (hB : B ≤ w.heap.size) (hl : xs.length ≤ 1099511627776) (hl' : ys.length ≤ 1099511627776) :
    Calls Tryd.prog 31 #[v, u] w fun e w' => ∃ r, e = .returned r ∧ Own w' w.heap.size r (joinV xs ys) ∧ Below w.heap.size w w' :=
  join_of _ xs ys v u B w hx hy hB (by omega) (by omega)
end Go.Proofs.YtjjccjannandlaaDoor
