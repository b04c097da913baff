/- The walk of ConflictKnown: it returns true. -/
import Derived.Test.YtbfnlaemlflmpaaConf6
import Derived.Test.YtbfnlaemlflmpaaConf8
set_option linter.unusedVariables false
set_option linter.unusedSimpArgs false
namespace Go.Proofs.Ytbfnlaemlflmpaa
open Go.RowKit Go.BigFrame

/-- The chapter's numbers. -/
def nnL : List Int := [-9223372036854775808, 0, 5, 6, 9223372036854775807]
def nnI (r : Nat) : Int := nnL[r]?.getD 0
def nnA : Array Value := #[.int .i64 (-9223372036854775808), .int .i64 0, .int .i64 5, .int .i64 6, .int .i64 9223372036854775807]
theorem nn_cell {w : World} {b : Nat} (h : Has w b nnA) {r : Nat} (hr : r < 5) : w.cell? ⟨b, r, none⟩ = some (.int .i64 (nnI r)) := by
  rw [h.2 r]
  have : r = 0 ∨ r = 1 ∨ r = 2 ∨ r = 3 ∨ r = 4 := by omega
  rcases this with rfl | rfl | rfl | rfl | rfl <;> rfl

set_option maxRecDepth 100000 in
set_option maxHeartbeats 8000000 in
theorem conflictKnown_any (w : World) :
    Calls Try.prog 6 #[] w fun r w' => r = .returned (.bool true) ∧ Below w.heap.size w w' := by
  go_enter Try.func6, Try.ntmps6
  go_wp2
  go_loopw [2] (fun kd wr => ∃ a : Nat, a ≤ 7 ∧ kd = .int .i64 ((a : Int) - 1) ∧ Below w.heap.size w wr ∧ Hid (Has wr w.heap.size nnA)) (fun kd _ => 7 - (intOf kd + 1).toNat)
  case atStart => exact ⟨0, by omega, rfl, Bel.grew (Below.refl _ _) _, Lib.hid (Has.new _ _ _)⟩
  case round =>
    obtain ⟨a, ha, rfl, hb, HN⟩ := hrel
    obtain ⟨wa, rfl⟩ : ∃ wo : World, wo = wr := ⟨_, rfl⟩
    by_cases hlt : a < 7
    · go_wp2
      go_loopw [3] (fun kd wr => ∃ c : Nat, c ≤ 7 ∧ kd = .int .i64 c ∧ Below w.heap.size w wr ∧ Hid (Has wr w.heap.size nnA)) (fun kd _ => 7 - (intOf kd).toNat)
      case atStart => exact ⟨0, by omega, rfl, hb, HN⟩
      case round =>
        obtain ⟨c, hc, rfl, hb2, HN2⟩ := hrel
        obtain ⟨wc, rfl⟩ : ∃ wo : World, wo = wr := ⟨_, rfl⟩
        by_cases hltc : c < 7
        · go_wp2
          go_loopw [4] (fun kd wr => ∃ d : Nat, d ≤ 7 ∧ kd = .int .i64 d ∧ Below w.heap.size w wr ∧ Hid (Has wr w.heap.size nnA)) (fun kd _ => 7 - (intOf kd).toNat)
          case atStart => exact ⟨0, by omega, rfl, hb2, HN2⟩
          case round =>
            obtain ⟨d, hd, rfl, hb3, HN3⟩ := hrel
            obtain ⟨wd, rfl⟩ : ∃ wo : World, wo = wr := ⟨_, rfl⟩
            by_cases hltd : d < 7
            · go_wp2
              go_loopw [5] (fun kd wr => ∃ k : Nat, k ≤ 25 ∧ kd = .int .i64 k ∧ Below w.heap.size w wr ∧ Hid (Has wr w.heap.size nnA)) (fun kd _ => 25 - (intOf kd).toNat)
              case atStart => exact ⟨0, by omega, rfl, hb3, HN3⟩
              case round =>
                obtain ⟨k, hk, rfl, hb4, HN4⟩ := hrel
                obtain ⟨wk, rfl⟩ : ∃ wo : World, wo = wr := ⟨_, rfl⟩
                clear hb hb2 hb3 HN HN2 HN3
                by_cases hltk : k < 25
                · obtain ⟨r, hr, er⟩ : ∃ r : Nat, r < 5 ∧ (k : Int) % 5 = r := ⟨k % 5, by omega, by omega⟩
                  obtain ⟨q, hq, eq⟩ : ∃ q : Nat, q < 5 ∧ (k : Int) / 5 = q := ⟨k / 5, by omega, by omega⟩
                  obtain ⟨s, hs, es⟩ : ∃ s : Nat, s < 3 ∧ (k : Int) % 3 = s := ⟨k % 3, by omega, by omega⟩
                  obtain ⟨t, ht, et⟩ : ∃ t : Nat, t < 2 ∧ (k : Int) % 2 = t := ⟨k % 2, by omega, by omega⟩
                  have c1 := nn_cell HN4.out hr
                  have c2 := nn_cell HN4.out hq
                  go_wp2_with fail
                  refine (does_any 0 (c : Int) (nnI r) _).mono ?_
                  rintro e w1 ⟨rfl, hb1⟩
                  have HN5 := HN4.out.later hb1
                  have c3 := nn_cell HN5 hr
                  have c4 := nn_cell HN5 hq
                  have n5 := HN5.1
                  have HN5' := Lib.hid HN5
                  have hb5 := Bel.then hb4 hb1
                  clear c1 c2 HN5 hb1 HN4 hb4
                  go_wp2_with fail
                  refine (does_any (s : Int) (d : Int) (nnI q) _).mono ?_
                  rintro e w2 ⟨rfl, hb2⟩
                  have S2 := (Hass.new (l := [(w.heap.size, nnA)]) ⟨HN5'.out, trivial⟩ _ _).later hb2
                  have hb6 := Bel.then (Bel.grew hb5 _) hb2
                  clear c3 c4 n5 HN5' hb2 hb5
                  have S2' := Lib.hid S2
                  have HN6 := Lib.hid S2.2.1
                  obtain ⟨⟨n2, a2⟩, ⟨n0, _⟩, _⟩ := S2
                  dsimp only at n0 n2 a2
                  have c5 := nn_cell HN6.out hr
                  have c6 := nn_cell HN6.out hq
                  go_wp2_with fail
                  have S3 : Hass (((w2.alloc (.cells #[.int .i64 (s : Int), .int .i64 1, .int .i64 1, .slice (some ⟨w2.heap.size + 1, 0, none⟩) 1 1, .int .i64 0, .int .i64 0, .int .i64 0, .int .i64 (d : Int), .int .i64 (nnI q), .int .i64 0] 29)).alloc (.cells #[.int .i64 (t : Int)] 3)).alloc (.cells #[.int .i64 ((a : Int) - 1), .int .i64 (r : Int), .bool false, .slice none 0 0] 24)) _ := ((S2'.out.new _ _).new _ _).new _ _
                  have hb7 : Below w.heap.size w (((w2.alloc (.cells #[.int .i64 (s : Int), .int .i64 1, .int .i64 1, .slice (some ⟨w2.heap.size + 1, 0, none⟩) 1 1, .int .i64 0, .int .i64 0, .int .i64 0, .int .i64 (d : Int), .int .i64 (nnI q), .int .i64 0] 29)).alloc (.cells #[.int .i64 (t : Int)] 3)).alloc (.cells #[.int .i64 ((a : Int) - 1), .int .i64 (r : Int), .bool false, .slice none 0 0] 24)) := Bel.grew (Bel.grew (Bel.grew hb6 _) _) _
                  simp only [World.size_alloc] at S3
                  clear c5 c6 n0 n2 a2 S2' HN6
                  revert hb7 S3
                  generalize ((w2.alloc (.cells #[.int .i64 (s : Int), .int .i64 1, .int .i64 1, .slice (some ⟨w2.heap.size + 1, 0, none⟩) 1 1, .int .i64 0, .int .i64 0, .int .i64 0, .int .i64 (d : Int), .int .i64 (nnI q), .int .i64 0] 29)).alloc (.cells #[.int .i64 (t : Int)] 3)).alloc (.cells #[.int .i64 ((a : Int) - 1), .int .i64 (r : Int), .bool false, .slice none 0 0] 24) = W
                  intro hb7 S3
                  obtain ⟨⟨n8, a8⟩, HT, ⟨n7, a7⟩, ⟨n6, a6⟩, HN7, _⟩ := S3
                  dsimp only at n8 a8 n7 a7 n6 a6
                  have hsl : Sl .i64 W W.heap.size (.slice (some ⟨w2.heap.size + 1, 0, none⟩) 1 1) [(t : Int)] := .inr ⟨_, 0, 1, rfl, HT.1, Nat.le_refl _, fun i hi => by
                    have : i = 0 := by simp at hi; exact hi
                    subst this
                    exact HT.2 0⟩
                  have HS := Lib.hid hsl
                  have HNn := Lib.hid HN7
                  have c7 := nn_cell HN7 hr
                  have c8 := nn_cell HN7 hq
                  have n0 : w.heap.size < W.heap.size := HN7.1
                  clear hsl HT HN7
                  refine wp_region_later (by kernel_rfl) (by kernel_rfl) ?_
                  repeat (any_goals (first
                    | go_big_quiet_step (first
                      | (go_at_call 3; have hS := (HS.out.below (Later.h ‹_›)).more (Below.size (Later.h ‹_›)); have hC := conflictTells_any ((a : Int) - 1) (r : Int) false (.slice none 0 0) ⟨0, 1, 1, 0, 0, 0, (c : Int), nnI r, 0⟩ ⟨(s : Int), 1, 1, 0, 0, 0, (d : Int), nnI q, 0⟩ _ _ [] [(t : Int)] _ Sl.nil_ hS; with_reducible exact Later.call hC)
                      | (go_at_call 3; have hS := (HS.out.below (Later.h ‹_›)).more (Below.size (Later.h ‹_›)); have hC := conflictTells_any ((a : Int) - 1) (r : Int) false (.slice none 0 0) ⟨(s : Int), 1, 1, 0, 0, 0, (d : Int), nnI q, 0⟩ ⟨0, 1, 1, 0, 0, 0, (c : Int), nnI r, 0⟩ _ _ [(t : Int)] [] _ hS Sl.nil_; with_reducible exact Later.call hC)
                      | (go_at_call 5; have hS := (HS.out.below (Later.h ‹_›)).more (Below.size (Later.h ‹_›)); have hC := conflictVoids_any ((a : Int) - 1) ⟨0, 1, 1, 0, 0, 0, (c : Int), nnI r, 0⟩ ⟨(s : Int), 1, 1, 0, 0, 0, (d : Int), nnI q, 0⟩ _ _ [] [(t : Int)] _ Sl.nil_ hS; with_reducible exact Later.call hC)
                      | (go_at_call 4; with_reducible exact Later.call (conflictBoth_any ((a : Int) - 1) (r : Int) false _ (c : Int) (nnI r) (d : Int) (nnI q) (k : Int) _)))))
                  refine wpQuiet_nil ?_
                  intro x
                  obtain ⟨w3, hb8⟩ := x
                  go_wp2
                  go_roundw
                  case rel => exact ⟨k + 1, by omega, by go_num, Bel.then hb7 hb8, Lib.hid (HNn.out.later hb8)⟩
                  case measure => simp [intOf]; omega
                · have hk' : 25 ≤ k := by omega
                  go_wp2
                  go_roundw
                  case rel => exact ⟨d + 1, by omega, by go_num, hb4, HN4⟩
                  case measure => simp [intOf]; omega
            · have hk' : 7 ≤ d := by omega
              go_wp2
              go_roundw
              case rel => exact ⟨c + 1, by omega, by go_num, hb3, HN3⟩
              case measure => simp [intOf]; omega
        · have hk' : 7 ≤ c := by omega
          go_wp2
          go_roundw
          case rel => exact ⟨a + 1, by omega, by go_num, hb2, HN2⟩
          case measure => simp [intOf]; omega
    · have hk' : 7 ≤ a := by omega
      go_wp2_with fail
      refine (works12_any _).mono ?_
      rintro e w1 ⟨rfl, hb1⟩
      go_wp2_with fail
      go_ret
      exact ⟨rfl, Bel.then hb hb1⟩
end Go.Proofs.Ytbfnlaemlflmpaa
