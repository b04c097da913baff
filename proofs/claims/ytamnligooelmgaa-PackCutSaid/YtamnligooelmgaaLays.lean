/- PackLays: the walk. -/
import Derived.Test.YtamnligooelmgaaShown
set_option linter.unusedVariables false
set_option linter.unusedSimpArgs false
namespace Go.Proofs.Ytamnligooelmgaa
open Go.RowKit Go.BigFrame

set_option maxHeartbeats 1000000 in
/-- Written over: whatever lies in later blocks is kept. -/
theorem spoil_keep (xs : List Int) (v : Value) (B B2 : Nat) (w : World) (hx : OwnBytes w B v xs) (hl : xs.length ≤ 1099511627776) (h2 : ∀ g, v.ownBlock = some g → g < B2) :
    Calls Try.prog 15 #[v] w fun e w' => e = .returned (.tuple #[]) ∧ Below B w w' ∧ ∀ y zs, OwnBytes w B2 y zs → OwnBytes w' B2 y zs := by
  rcases hx.shape with ⟨rfl, rfl⟩ | ⟨g, cap, rfl, hg, hgl, hcap⟩
  · clear hx h2
    go_enter Try.func15, Try.ntmps15
    go_wp2
    refine wp_loop_rounds 1 ?_
    rw [rounds_succ]
    go_wp2
    go_end0
    exact ⟨rfl, Below.refl _ _, fun y zs h => h⟩
  · have hf : ∀ i, w.frozen? ⟨g, i, none⟩ = false := fun i => World.ownsRow.frozenAt hx.row i
    have hc : ∀ i, i < xs.length → ∃ u, w.cell? ⟨g, i, none⟩ = some u := fun i hi => ⟨_, by rw [World.ownsRow.cellAt hx.row i (by omega), List.getElem?_map, List.getElem?_eq_getElem hi]; rfl⟩
    have hg2 := h2 g rfl
    have HF := Lib.hid hf
    have HC := Lib.hid hc
    clear hf hc hx h2
    go_enter Try.func15, Try.ntmps15
    go_wp2
    go_loopw [2] (fun i wr => ∃ k : Nat, k ≤ xs.length ∧ i = .int .i64 k ∧ But g w wr ∧ Hid ((∀ j, wr.frozen? ⟨g, j, none⟩ = false) ∧ ∀ j, j < xs.length → ∃ u, wr.cell? ⟨g, j, none⟩ = some u)) (fun i _ => xs.length - (intOf i).toNat)
    case atStart => exact ⟨0, Nat.zero_le _, rfl, But.refl _ _, Lib.hid ⟨HF.out, HC.out⟩⟩
    case round =>
      obtain ⟨k, hk, rfl, hb, HR⟩ := hrel
      by_cases hlt : k < xs.length
      · have hfk := HR.out.1 k
        obtain ⟨u, hck⟩ := HR.out.2 k hlt
        have hs : IntKind.i64.wrap ((k : Int) + 7) = (k : Int) + 7 := IntWalk.i64_in _ (by omega)
        have hi0 : (0 : Int) ≤ (k : Int) := by omega
        have hi1 : (k : Int) < (xs.length : Int) := by omega
        go_wp2_with fail
        refine (markBytes_any ((k : Int) + 7) _ (by omega) (by omega)).mono ?_
        rintro e w' ⟨⟨m, rfl⟩, rfl⟩
        go_wp2_with fail
        go_roundw
        case rel =>
          refine ⟨k + 1, by omega, by go_num, hb.store _ _, Lib.hid ⟨fun j => ?_, fun j hj => ?_⟩⟩
          · rw [World.frozen?_setCell]; exact HR.out.1 j
          · obtain ⟨u', hu'⟩ := HR.out.2 j hj
            exact cell?_setCell_some hu'
        case measure => simp [intOf]; omega
      · have hk' : k = xs.length := by omega
        subst hk'
        go_wp2
        go_end0
        exact ⟨rfl, hb.below hg (by omega), fun y zs h => h.but hg2 hb⟩

theorem encI_le (n : Int) (h0 : -9223372036854775808 ≤ n) (h1 : n ≤ 9223372036854775807) : (encI n).length ≤ 9 := by
  have := nb_le (u := mag n) (by have := mag_lt h0 h1; omega)
  rw [encI_length]; omega
theorem encB_le (xs : List Int) (h : xs.length ≤ 1099511627776) : (encB xs).length ≤ xs.length + 9 := by
  have := encI_le (xs.length : Int) (by omega) (by omega)
  unfold encB; rw [List.length_append]; omega

set_option maxHeartbeats 2000000 in
theorem packLays_any (xs ys : List Int) (n : Int) (v u : Value) (w : World) (hx : Sl .u8 w w.heap.size v xs) (hy : Sl .u8 w w.heap.size u ys) (h0 : -9223372036854775808 ≤ n) (h1 : n ≤ 9223372036854775807) :
    Calls Try.prog 3 #[v, u, .int .i64 n] w fun e w' => e = .returned (.bool true) ∧ Below w.heap.size w w' := by
  obtain ⟨A, c, rfl⟩ := hx.shape
  obtain ⟨A', c', rfl⟩ := hy.shape
  have HX := Lib.hid hx
  have HY := Lib.hid hy
  clear hx hy
  by_cases hbig : 8192 < max xs.length ys.length
  · have hm : max (xs.length : Int) (ys.length : Int) > 8192 := by omega
    go_enter Try.func3, Try.ntmps3
    go_wp2_with fail
    refine (shown_any _).mono ?_
    rintro e w1 ⟨rfl, hb⟩
    have HB := Lib.hid hb
    clear hb
    go_wp2_with fail
    go_ret
    exact ⟨rfl, HB.out⟩
  · have hm : ¬ max (xs.length : Int) (ys.length : Int) > 8192 := by omega
    go_enter Try.func3, Try.ntmps3
    go_wp2_with fail
    have hlx : xs.length ≤ 8192 := by omega
    have hly : ys.length ≤ 8192 := by omega
    have hli : Hid ((xs ++ encI n).length ≤ 1099511627776) := by have := encI_le n h0 h1; simp [Hid]; omega
    have hlb : Hid ((xs ++ encB ys).length ≤ 1099511627776) := by have := encB_le ys (by omega); simp [Hid]; omega
    refine (copyBytes_any xs _ _ _ HX.out (Nat.le_refl _) (by omega)).mono ?_
    rintro e w1 ⟨r1, rfl, ho1, hb1⟩
    have HO1 := Lib.hid ho1
    have HB1 := Lib.hid hb1
    clear ho1 hb1
    go_wp2_with fail
    refine (pint_any xs n _ _ _ HO1.out.sl (Nat.le_refl _) (by omega) h0 h1).mono ?_
    rintro e w2 ⟨r2, rfl, ho2, hb2⟩
    have HO2 := Lib.hid ho2
    have HB2 := Lib.hid hb2
    have HO1' := Lib.hid (HO1.out.later hb2)
    have HB0 := Lib.hid (Bel.then HB1.out hb2)
    have HG : Hid (∀ g, r2.ownBlock = some g → g < w2.heap.size) := by
      intro g hg
      rcases ho2.shape with ⟨rfl, _⟩ | ⟨g', cap, rfl, _, hg', _⟩
      · simp [Value.ownBlock] at hg
      · have : g' = g := by simpa [Value.ownBlock] using hg
        omega
    have HOw := HO1
    clear ho2 hb2 HO1
    go_wp2_with fail
    refine (pblob_any xs ys _ _ _ HO1'.out.sl (HY.out.later HB0.out) (by omega) (by omega)).mono ?_
    rintro e w3 ⟨r3, rfl, ho3, hb3⟩
    have HO3 := Lib.hid ho3
    have HB3 := Lib.hid hb3
    have HO1 := Lib.hid (HO1'.out.later hb3)
    have HO2' := Lib.hid (HO2.out.later hb3)
    have HBx := Lib.hid (Bel.then HB0.out hb3)
    clear ho3 hb3 HO1' HO2 HB0
    go_wp2_with fail
    refine (rint_any xs n _ _ _ (HX.out.later HBx.out) (Nat.le_refl _) (by omega) h0 h1).mono ?_
    rintro e w4 ⟨r4, rfl, ho4, hb4⟩
    have HO4 := Lib.hid ho4
    have HB4 := Lib.hid hb4
    clear ho4 hb4
    go_wp2_with fail
    refine (sameBytes_is (HO2'.out.later HB4.out).sl HO4.out.sl (b := true) (decide_eq_true rfl) hli.out).mono ?_
    rintro e w5 ⟨rfl, hb5⟩
    have HB5 := Lib.hid (Bel.then HB4.out hb5)
    clear hb5 HB4 HO4
    go_wp2_with fail
    refine (rblob_any xs ys _ _ _ (HX.out.later (Bel.then HBx.out HB5.out)) (HY.out.later (Bel.then HBx.out HB5.out)) (by omega) (by omega)).mono ?_
    rintro e w6 ⟨r6, rfl, ho6, hb6⟩
    have HO6 := Lib.hid ho6
    have HB6 := Lib.hid (Bel.then HB5.out hb6)
    clear ho6 hb6 HB5
    go_wp2_with fail
    refine (sameBytes_is (HO3.out.later HB6.out).sl HO6.out.sl (b := true) (decide_eq_true rfl) hlb.out).mono ?_
    rintro e w7 ⟨rfl, hb7⟩
    have HB7 := Lib.hid (Bel.then HB6.out hb7)
    clear hb7 HB6 HO6
    go_wp2_with fail
    refine (spoil_keep (xs ++ encI n) _ w1.heap.size w2.heap.size _ (HO2'.out.later HB7.out) hli.out HG.out).mono ?_
    rintro e w8 ⟨rfl, hb8, hk8⟩
    have HO3' := Lib.hid (hk8 _ _ (HO3.out.later HB7.out))
    have HS8 := Lib.hid (HB2.out.size)
    have HB8 : Hid (Below w1.heap.size w1 w8) := (Bel.then HB2.out (Bel.then HB3.out HB7.out)).trans hb8
    clear hb8 hk8 HO3 HB7 HO2' HG
    go_wp2_with fail
    refine (spoilBytes_any (xs ++ encB ys) _ w1.heap.size _ (HO3'.out.down HS8.out) hlb.out).mono ?_
    rintro e w9 ⟨rfl, hb9⟩
    have HB9 := Lib.hid (HB8.out.trans hb9)
    clear hb9 HB8 HO3'
    go_wp2_with fail
    refine (sameBytes_is (HOw.out.later HB9.out).sl (HX.out.later (Bel.then HB1.out HB9.out)) (b := true) (decide_eq_true rfl) (by omega)).mono ?_
    rintro e wa ⟨rfl, hba⟩
    have HBa : Hid (Below w.heap.size w wa) := Bel.then (Bel.then HB1.out HB9.out) hba
    clear hba HB9 HOw
    go_wp2_with fail
    refine (shown_any _).mono ?_
    rintro e wb ⟨rfl, hb⟩
    have HB := Lib.hid (Bel.then HBa.out hb)
    clear hb
    go_wp2_with fail
    go_ret
    exact ⟨rfl, HB.out⟩
end Go.Proofs.Ytamnligooelmgaa
