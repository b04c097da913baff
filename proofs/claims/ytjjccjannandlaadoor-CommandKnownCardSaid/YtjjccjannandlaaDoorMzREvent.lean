/- quaysideref08.Event: as command.Event. -/
import Derived.Test.YtjjccjannandlaaDoorMzCEvent2
set_option maxRecDepth 100000
set_option maxRecDepth 100000
set_option maxRecDepth 100000
set_option linter.unusedVariables false
set_option linter.unusedSimpArgs false
namespace Go.Proofs.YtjjccjannandlaaDoor
open Go.RowKit Go.BigFrame

set_option maxHeartbeats 2000000 in
theorem rev_bad (v : Nat → Int) (o lam : Int) (xs : List Int) (x : Value) (w : World) (hx : Sl .i64 w w.heap.size x xs) (h : o < 0 ∨ (xs.length : Int) ≤ o ∨ lam < 0) :
    Calls Tryd.prog 11 #[cmdV v, .int .i64 o, x, .int .i64 lam] w fun e w' => e = .returned (.tuple #[zeroV, .int .i64 1]) ∧ Below w.heap.size w w' := by
  obtain ⟨A, c, rfl⟩ := hx.shape
  clear hx
  rcases (show o < 0 ∨ (0 ≤ o ∧ (xs.length : Int) ≤ o) ∨ (0 ≤ o ∧ o < (xs.length : Int) ∧ lam < 0) from by omega) with h1 | ⟨h1, h2⟩ | ⟨h1, h2, h3⟩
  all_goals
    clear h
    go_enter Tryd.func11, Tryd.ntmps11
    go_wp2_with fail
    have hBB : ∀ o1 o2, Below w.heap.size w ((w.alloc o1).alloc o2) := fun o1 o2 => ((Below.refl w.heap.size w).alloc (Nat.le_refl _) o1).alloc (by simp) o2
    simp [bodyPost, results, Tryd.results11, go_sem, hBB]

set_option maxHeartbeats 2000000 in
theorem rev_full (v : Nat → Int) (o lam g : Int) (xs : List Int) (x : Value) (w : World) (hx : Sl .i64 w w.heap.size x xs) (h0 : 0 ≤ o) (h1 : o < (xs.length : Int)) (h2 : 0 ≤ lam) (hg : getV xs o = g) (h : g = 9223372036854775807 ∨ lam = 9223372036854775807) :
    Calls Tryd.prog 11 #[cmdV v, .int .i64 o, x, .int .i64 lam] w fun e w' => e = .returned (.tuple #[zeroV, .int .i64 13]) ∧ Below w.heap.size w w' := by
  obtain ⟨A, c, rfl⟩ := hx.shape
  have HX := Lib.hid hx
  have HG := Lib.hid hg
  clear hx hg
  have hBB : ∀ o1 o2, Below w.heap.size w ((w.alloc o1).alloc o2) := fun o1 o2 => ((Below.refl w.heap.size w).alloc (Nat.le_refl _) o1).alloc (by simp) o2
  have hc : (g == 9223372036854775807) = true ∨ ((g == 9223372036854775807) = false ∧ lam = 9223372036854775807) := by
    rcases h with h | h
    · left; simp [h]
    · by_cases hgg : g = 9223372036854775807
      · left; simp [hgg]
      · right; exact ⟨by simp [hgg], h⟩
  clear h
  rcases hc with hc | ⟨hc, rfl⟩
  all_goals
    go_enter Tryd.func11, Tryd.ntmps11
    go_wp2_with fail
    refine (rget_any xs _ _ o _ (HX.out.below (hBB _ _))).mono ?_
    rw [HG.out]
    rintro e w1 ⟨rfl, rfl⟩
    go_wp2_with fail
    simp [bodyPost, results, Tryd.results11, go_sem, hBB]

theorem joinN_nil (xs : List Int) (k : Nat) : joinN xs [] (k + 1) = joinN xs [] k ++ [getV xs k] := by
  rw [joinN_succ]
  have h1 : getV [] (k : Int) = 0 := getV_out (by simp)
  have h2 := getV_nonneg xs k
  rw [h1, show max (getV xs (k : Int)) 0 = getV xs k from by omega]
set_option maxHeartbeats 8000000 in
theorem rev_ok (v : Nat → Int) (o lam g : Int) (xs : List Int) (x : Value) (w : World) (hx : Sl .i64 w w.heap.size x xs) (hl : xs.length ≤ 1099511627776) (h0 : 0 ≤ o) (h1 : o < (xs.length : Int)) (h2 : 0 ≤ lam) (hg : getV xs o = g) (hg0 : 0 ≤ g) (hg1 : g < 9223372036854775807) (hl1 : lam < 9223372036854775807) :
    Calls Tryd.prog 11 #[cmdV v, .int .i64 o, x, .int .i64 lam] w fun e w' => ∃ dv, e = .returned (.tuple #[.agg #[.int .i64 o, .int .i64 (g + 1), .int .i64 (lam + 1), dv, .int .i64 (v 0), .int .i64 (v 1), .int .i64 (v 2), .int .i64 (v 3), .int .i64 (v 4), .int .i64 (v 6)], .int .i64 0]) ∧ OwnInts w' w.heap.size dv (joinV xs []) ∧ Below w.heap.size w w' := by
  obtain ⟨A, c, rfl⟩ := hx.shape
  obtain ⟨i0, hi, hz0, hz1, hz2⟩ := info_parts Tryd.infoInt
  have HX := Lib.hid hx
  have HG := Lib.hid hg
  clear hx hg
  have hBB : ∀ o1 o2, Below w.heap.size w ((w.alloc o1).alloc o2) := fun o1 o2 => ((Below.refl w.heap.size w).alloc (Nat.le_refl _) o1).alloc (by simp) o2
  have hgb : (g == 9223372036854775807) = false := by simp; omega
  have hlb : (lam == 9223372036854775807) = false := by simp; omega
  go_enter Tryd.func11, Tryd.ntmps11
  go_wp2_with fail
  refine (rget_any xs _ _ o _ (HX.out.below (hBB _ _))).mono ?_
  rw [HG.out]
  rintro e w1 ⟨rfl, rfl⟩
  go_wp2_with fail
  obtain ⟨W, hW⟩ : ∃ W, W = (w.alloc (.cells #[.int .i64 (v 0), .int .i64 (v 1), .int .i64 (v 2), .int .i64 (v 3), .int .i64 (v 4), .int .i64 (v 5), .int .i64 (v 6)] 27)).alloc (.cells #[.int .i64 0, .int .i64 0, .int .i64 0, .slice none 0 0, .int .i64 0, .int .i64 0, .int .i64 0, .int .i64 0, .int .i64 0, .int .i64 0] 37) := ⟨_, rfl⟩
  have hWB : Below w.heap.size w W := by rw [hW]; exact hBB _ _
  have hWs : W.heap.size = w.heap.size + 2 := by rw [hW]; simp
  have hC : Has W w.heap.size #[.int .i64 (v 0), .int .i64 (v 1), .int .i64 (v 2), .int .i64 (v 3), .int .i64 (v 4), .int .i64 (v 5), .int .i64 (v 6)] := by rw [hW]; exact (Has.new w _ _).grow _
  have HRES : Hid (Cells10 W (w.heap.size + 1) (evF 0 0 0 (.slice none 0 0) (fun _ => 0))) := zero10 fun o u hu => by rw [hW]; simp [go_sem, hu]
  rw [← hW]
  have HC := Lib.hid hC
  have HWB := Lib.hid hWB
  have HWS := Lib.hid hWs
  have hwl : IntKind.i64.wrap (lam + 1) = lam + 1 := IntWalk.i64_in _ (by omega)
  have hwg : IntKind.i64.wrap (g + 1) = g + 1 := IntWalk.i64_in _ (by omega)
  have hlI : (xs.length : Int) ≤ 1099511627776 := by omega
  clear hW hWB hBB hWs hC hl
  go_loopw [11, 12] (fun t i wr => ∃ k : Nat, k ≤ xs.length ∧ i = .int .i64 k ∧ wr.ownsRow W.heap.size 3 1 t k ((joinN xs [] k).map (Value.int .i64)) ∧ Below W.heap.size W wr) (fun _ i _ => xs.length - (intOf i).toNat)
  case atStart => exact ⟨0, Nat.zero_le _, rfl, World.ownsRow_nil _ _ _ _, Below.refl _ _⟩
  case round =>
    obtain ⟨k, hk, rfl, hown, hb⟩ := hrel
    by_cases hlt : k < xs.length
    · have HM := Lib.hid (joinN_nil xs k)
      have hkI : (k : Int) < (xs.length : Int) := by omega
      go_wp2_with (first
        | (go_at_call 32; (with_reducible refine (rget_any xs _ w.heap.size (k : Int) _ (HX.out.below (HWB.out.trans (hb.mono (by have := HWS.out; omega))))).mono ?_); rintro e w' ⟨rfl, rfl⟩)
        | (at_builtin; refine wpList_append_own _ rfl _ _ 28 rfl W.heap.size 3 i0 (.int .i64 0) 1 8 Tryd.underlying28 hi hz0 hz1 hz2 rfl (by decide) _ _ _ rfl (hown.alloc _) ⟨wr.heap.size, 0, none⟩ 1 1 [.int .i64 (getV xs k)] rfl rfl (cell_one_new _ _ _) (by intro u hu; simp at hu; subst hu; rfl) (by unfold maxLen; omega) (by omega) (by have := hb.size; simp; omega) ?_; intro v' w1 hown' hgrow _))
      go_roundw
      case rel =>
        refine ⟨k + 1, by omega, by go_num, ?_, (hb.alloc hb.size _).grown hgrow (by have := hb.size; simp; omega) (own_base hown)⟩
        rw [HM.out, List.map_append]
        exact hown'
      case measure => simp [intOf]; omega
    · have hk' : k = xs.length := by omega
      subst hk'
      have hj : joinV xs [] = joinN xs [] xs.length := by unfold joinV; simp
      have hO : OwnInts wr W.heap.size _ (joinV xs []) := OwnK.of hown (by rw [hj, joinN_length]) (by rw [hj])
      obtain ⟨A9, k9, rfl⟩ := hO.sl.shape
      have hcc := (HC.out.later hb).2
      have hccl := (HC.out.later hb).1
      have hRq := HRES.out.below (by have := HWS.out; omega) hb
      obtain ⟨⟨r0, g0⟩, ⟨r1, g1⟩, ⟨r2, g2⟩, ⟨r3, g3⟩, ⟨r4, g4⟩, ⟨r5, g5⟩, ⟨r6, g6⟩, ⟨r7, g7⟩, ⟨r8, g8⟩, ⟨r9, g9⟩⟩ := And.intro (hRq 0 (by decide)) (And.intro (hRq 1 (by decide)) (And.intro (hRq 2 (by decide)) (And.intro (hRq 3 (by decide)) (And.intro (hRq 4 (by decide)) (And.intro (hRq 5 (by decide)) (And.intro (hRq 6 (by decide)) (And.intro (hRq 7 (by decide)) (And.intro (hRq 8 (by decide)) (hRq 9 (by decide))))))))))
      dsimp only [evF] at r0 r1 r2 r3 r4 r5 r6 r7 r8 r9
      have HCf := Lib.hid (hRq.store (evF o (g + 1) (lam + 1) (.slice A9 (joinV xs []).length k9) v))
      have HBf := Lib.hid (Below.store10 (q := w.heap.size + 1) (HWB.out.trans (hb.mono (by have := HWS.out; omega))) (by omega) (evF o (g + 1) (lam + 1) (.slice A9 (joinV xs []).length k9) v))
      have HOf := Lib.hid ((OwnK.store10 (q := w.heap.size + 1) hO (fun b hb => by have := own_base hO.row b hb; have := HWS.out; omega) (evF o (g + 1) (lam + 1) (.slice A9 (joinV xs []).length k9) v)).down (B' := w.heap.size) (by have := HWS.out; omega))
      clear hown hb hO hRq hj HWB HWS HRES HX
      go_wp2_with fail
      change bodyPost _ _ _ _ _ (store10 wr (w.heap.size + 1) (evF o (g + 1) (lam + 1) (.slice A9 (joinV xs []).length k9) v))
      obtain ⟨wf, hwf⟩ : ∃ wf, wf = store10 wr (w.heap.size + 1) (evF o (g + 1) (lam + 1) (.slice A9 (joinV xs []).length k9) v) := ⟨_, rfl⟩
      rw [← hwf] at HCf HBf HOf ⊢
      clear hwf r0 r1 r2 r3 r4 r5 r6 r7 r8 r9
      obtain ⟨c0, c1, c2, c3, c4, c5, c6, c7, c8, c9⟩ := And.intro (HCf.out 0 (by decide)).1 (And.intro (HCf.out 1 (by decide)).1 (And.intro (HCf.out 2 (by decide)).1 (And.intro (HCf.out 3 (by decide)).1 (And.intro (HCf.out 4 (by decide)).1 (And.intro (HCf.out 5 (by decide)).1 (And.intro (HCf.out 6 (by decide)).1 (And.intro (HCf.out 7 (by decide)).1 (And.intro (HCf.out 8 (by decide)).1 (HCf.out 9 (by decide)).1))))))))
      dsimp only [evF] at c0 c1 c2 c3 c4 c5 c6 c7 c8 c9
      have hBf := HBf.out
      have hOf := HOf.out
      simp [bodyPost, results, Tryd.results11, go_sem, c0, c1, c2, c3, c4, c5, c6, c7, c8, c9, hBf]
      exact hOf
end Go.Proofs.YtjjccjannandlaaDoor
