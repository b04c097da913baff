/- The walk of VecKnown: it returns true. -/
import Derived.Test.YtbfnlaemlflmpaaVecA
import Derived.Test.YtbfnlaemlflmpaaVec7
import Derived.Test.YtbfnlaemlflmpaaVec8
set_option linter.unusedVariables false
set_option linter.unusedSimpArgs false
namespace Go.Proofs.Ytbfnlaemlflmpaa
open Go.RowKit Go.BigFrame

/-- The chapter's numbers. -/
def n7L : List Int := [-9223372036854775808, -1, 0, 1, 2, 4611686018427387904, 9223372036854775807]
def n7I (r : Nat) : Int := n7L[r]?.getD 0
def n7A : Array Value := #[.int .i64 (-9223372036854775808), .int .i64 (-1), .int .i64 0, .int .i64 1, .int .i64 2, .int .i64 4611686018427387904, .int .i64 9223372036854775807]
theorem n7_ways {r : Nat} (hr : r < 7) : r = 0 ∨ r = 1 ∨ r = 2 ∨ r = 3 ∨ r = 4 ∨ r = 5 ∨ r = 6 := by omega
theorem n7_cell {w : World} {b : Nat} (h : Has w b n7A) {r : Nat} (hr : r < 7) : w.cell? ⟨b, r, none⟩ = some (.int .i64 (n7I r)) := by
  rw [h.2 r]
  rcases n7_ways hr with rfl | rfl | rfl | rfl | rfl | rfl | rfl <;> rfl
theorem n7_le (r : Nat) : n7I r ≤ 9223372036854775807 := by
  by_cases hr : r < 7
  · rcases n7_ways hr with rfl | rfl | rfl | rfl | rfl | rfl | rfl <;> decide +kernel
  · unfold n7I
    rw [List.getElem?_eq_none (by simp [n7L]; omega)]
    simp
theorem n7_sl {w : World} {b : Nat} (h : Has w b n7A) : Sl .i64 w w.heap.size (.slice (some ⟨b, 0, none⟩) 7 7) n7L :=
  .inr ⟨b, 0, 7, rfl, h.1, Nat.le_refl _, fun i hi => by rw [Nat.zero_add, n7_cell h hi]; rfl⟩

set_option maxRecDepth 100000 in
set_option maxHeartbeats 8000000 in
theorem vecKnown_any (w : World) :
    Calls Try.prog 11 #[] w fun r w' => r = .returned (.bool true) ∧ Below w.heap.size w w' := by
  go_enter Try.func11, Try.ntmps11
  go_wp2
  go_loopw [2] (fun kd wr => ∃ i : Nat, i ≤ 7 ∧ kd = .int .i64 i ∧ Below w.heap.size w wr ∧ Hid (Has wr w.heap.size n7A)) (fun kd _ => 7 - (intOf kd).toNat)
  case atStart => exact ⟨0, by omega, rfl, Bel.grew (Below.refl _ _) _, Lib.hid (Has.new _ _ _)⟩
  case round =>
    obtain ⟨i, hi, rfl, hb, HN⟩ := hrel
    obtain ⟨wa, rfl⟩ : ∃ wo : World, wo = wr := ⟨_, rfl⟩
    by_cases hlt : i < 7
    · have i1 : (0 : Int) ≤ (i : Int) := by omega
      have i2 : (i : Int) < 7 := by omega
      go_wp2
      go_loopw [3] (fun kd wr => ∃ k : Nat, k ≤ 7 ∧ kd = .int .i64 k ∧ Below w.heap.size w wr ∧ Hid (Has wr w.heap.size n7A)) (fun kd _ => 7 - (intOf kd).toNat)
      case atStart => exact ⟨0, by omega, rfl, hb, HN⟩
      case round =>
        obtain ⟨k, hk, rfl, hb4, HN4⟩ := hrel
        obtain ⟨wk, rfl⟩ : ∃ wo : World, wo = wr := ⟨_, rfl⟩
        clear hb HN
        by_cases hltk : k < 7
        · obtain ⟨r, hr, er⟩ : ∃ r : Nat, r < 7 ∧ ((i : Int) + (k : Int)) % 7 = r := ⟨(i + k) % 7, by omega, by omega⟩
          obtain ⟨q, hq, eq⟩ : ∃ q : Nat, q < 7 ∧ (2 * (i : Int) + (k : Int)) % 7 = q := ⟨(2 * i + k) % 7, by omega, by omega⟩
          obtain ⟨s, hs, es⟩ : ∃ s : Nat, s ≤ 2 ∧ (i : Int) % 3 = s := ⟨i % 3, by omega, by omega⟩
          obtain ⟨t, ht, et⟩ : ∃ t : Nat, t ≤ 3 ∧ (k : Int) % 4 = t := ⟨k % 4, by omega, by omega⟩
          have c1 := n7_cell HN4.out hlt
          have c2 := n7_cell HN4.out hltk
          have c3 := n7_cell HN4.out hr
          have c4 := n7_cell HN4.out hq
          have n0 := HN4.out.1
          have i3 : (0 : Int) ≤ (k : Int) := by omega
          have i4 : (k : Int) < 7 := by omega
          have i5 : (0 : Int) ≤ (r : Int) := by omega
          have i6 : (r : Int) < 7 := by omega
          have u1 : IntKind.i64.wrap ((i : Int) + (k : Int)) = (i : Int) + (k : Int) := IntWalk.i64_in _ (by omega)
          have u2 : ((i : Int) + (k : Int)).tmod 7 = (r : Int) := by rw [Int.tmod_eq_emod_of_nonneg (by omega)]; exact er
          have u3 : IntKind.i64.wrap (r : Int) = (r : Int) := IntWalk.i64_in _ (by omega)
          go_wp2_with fail
          go_region_held3 (fun w' => w'.cell? ⟨w.heap.size, i, none⟩ = some (.int .i64 (n7I i)) ∧ w'.cell? ⟨w.heap.size, k, none⟩ = some (.int .i64 (n7I k)) ∧ w'.cell? ⟨w.heap.size, r, none⟩ = some (.int .i64 (n7I r))) (go_keep) (fail)
          clear u2 u3
          have j5 : (0 : Int) ≤ (q : Int) := by omega
          have j6 : (q : Int) < 7 := by omega
          have v1 : IntKind.i64.wrap (2 * (i : Int)) = 2 * (i : Int) := IntWalk.i64_in _ (by omega)
          have v2 : IntKind.i64.wrap (2 * (i : Int) + (k : Int)) = 2 * (i : Int) + (k : Int) := IntWalk.i64_in _ (by omega)
          have v3 : (2 * (i : Int) + (k : Int)).tmod 7 = (q : Int) := by rw [Int.tmod_eq_emod_of_nonneg (by omega)]; exact eq
          have v4 : IntKind.i64.wrap (q : Int) = (q : Int) := IntWalk.i64_in _ (by omega)
          go_wp2_with fail
          go_region_held3 (fun w' => w'.cell? ⟨w.heap.size, k, none⟩ = some (.int .i64 (n7I k)) ∧ w'.cell? ⟨w.heap.size, q, none⟩ = some (.int .i64 (n7I q))) (go_keep) (fail)
          clear u1 v1 v2 v3 v4
          go_wp2_with fail
          have hW : Below (wk.alloc (.cells #[.int .i64 (n7I i), .int .i64 (n7I k), .int .i64 (n7I r)] 3)).heap.size (wk.alloc (.cells #[.int .i64 (n7I i), .int .i64 (n7I k), .int .i64 (n7I r)] 3)) ((wk.alloc (.cells #[.int .i64 (n7I i), .int .i64 (n7I k), .int .i64 (n7I r)] 3)).alloc (.cells #[.int .i64 (n7I k), .int .i64 (n7I q)] 3)).drew.drew := Below.drew (Below.drew (Bel.grew (Below.refl _ _) _))
          have hW2 : Below ((wk.alloc (.cells #[.int .i64 (n7I i), .int .i64 (n7I k), .int .i64 (n7I r)] 3)).alloc (.cells #[.int .i64 (n7I k), .int .i64 (n7I q)] 3)).heap.size ((wk.alloc (.cells #[.int .i64 (n7I i), .int .i64 (n7I k), .int .i64 (n7I r)] 3)).alloc (.cells #[.int .i64 (n7I k), .int .i64 (n7I q)] 3)) ((wk.alloc (.cells #[.int .i64 (n7I i), .int .i64 (n7I k), .int .i64 (n7I r)] 3)).alloc (.cells #[.int .i64 (n7I k), .int .i64 (n7I q)] 3)).drew.drew := Below.drew (Below.drew (Below.refl _ _))
          have SA := (Sl.built wk #[.int .i64 (n7I i), .int .i64 (n7I k), .int .i64 (n7I r)] 3 [n7I i, n7I k, n7I r] 3 wk.heap.size rfl rfl rfl).later hW
          have SB := (Sl.built (wk.alloc (.cells #[.int .i64 (n7I i), .int .i64 (n7I k), .int .i64 (n7I r)] 3)) #[.int .i64 (n7I k), .int .i64 (n7I q)] 3 [n7I k, n7I q] 2 (wk.heap.size + 1) rfl rfl (by simp)).later hW2
          have HNW := ((HN4.out.grow (.cells #[.int .i64 (n7I i), .int .i64 (n7I k), .int .i64 (n7I r)] 3)).grow (.cells #[.int .i64 (n7I k), .int .i64 (n7I q)] 3)).later hW2
          have GW : Below w.heap.size w ((wk.alloc (.cells #[.int .i64 (n7I i), .int .i64 (n7I k), .int .i64 (n7I r)] 3)).alloc (.cells #[.int .i64 (n7I k), .int .i64 (n7I q)] 3)).drew.drew := Below.drew (Below.drew (Bel.grew (Bel.grew hb4 _) _))
          clear hW hW2 c1 c2 c3 c4 n0
          revert SA SB HNW GW
          generalize ((wk.alloc (.cells #[.int .i64 (n7I i), .int .i64 (n7I k), .int .i64 (n7I r)] 3)).alloc (.cells #[.int .i64 (n7I k), .int .i64 (n7I q)] 3)).drew.drew = W
          intro SA SB HNW GW
          have HSA := Lib.hid SA
          have HSB := Lib.hid SB
          have HSA2 := Lib.hid (SA.cut (m := t) (by simp; omega))
          have HSB2 := Lib.hid (SB.cut (m := s) (by simp; omega))
          have HSN := Lib.hid (n7_sl HNW)
          have HN5 := Lib.hid HNW
          have d1 := n7_cell HNW hlt
          have n1 := HNW.1
          have ra : Hid (∀ n ∈ [n7I i, n7I k, n7I r], n ≤ 9223372036854775807) := by intro n hn; simp at hn; rcases hn with rfl | rfl | rfl <;> exact n7_le _
          have rb : Hid (∀ n ∈ [n7I k, n7I q], n ≤ 9223372036854775807) := by intro n hn; simp at hn; rcases hn with rfl | rfl <;> exact n7_le _
          clear SA SB HNW
          have m5 : (0 : Int) ≤ (s : Int) := by omega
          have m6 : (s : Int) ≤ 2 := by omega
          have m7 : (0 : Int) ≤ (t : Int) := by omega
          have m8 : (t : Int) ≤ 3 := by omega
          have x1 : (i : Int).tmod 3 = (s : Int) := by rw [Int.tmod_eq_emod_of_nonneg (by omega)]; exact es
          have x2 : (k : Int).tmod 4 = (t : Int) := by rw [Int.tmod_eq_emod_of_nonneg (by omega)]; exact et
          have x3 : IntKind.i64.wrap (s : Int) = (s : Int) := IntWalk.i64_in _ (by omega)
          have x4 : IntKind.i64.wrap (t : Int) = (t : Int) := IntWalk.i64_in _ (by omega)
          refine wp_region_later (by kernel_rfl) (by kernel_rfl) ?_
          repeat (any_goals (first
            | go_big_quiet_step (first
              | (go_at_call 7; have hC := vecTells_any _ _ (n7I i) _ _ _ (HSA.out.later (Later.h ‹_›)) (HSB.out.later (Later.h ‹_›)) ra.out; with_reducible exact Later.call hC)
              | (go_at_call 7; have hC := vecTells_any _ _ (i : Int) _ _ _ (HSB2.out.later (Later.h ‹_›)) (HSA2.out.later (Later.h ‹_›)) (fun n hn => rb.out n (List.mem_of_mem_take hn)); with_reducible exact Later.call hC)
              | (go_at_call 7; have hC := vecTells_any _ _ (k : Int) _ _ _ (HSA.out.later (Later.h ‹_›)) (HSB.out.later (Later.h ‹_›)) ra.out; with_reducible exact Later.call hC)
              | (go_at_call 8; have hC := vecJoins_any _ _ _ _ _ _ _ (HSA.out.later (Later.h ‹_›)) (HSB.out.later (Later.h ‹_›)) (HSN.out.later (Later.h ‹_›)); with_reducible exact Later.call hC)
              | (go_at_call 9; have hC := vecOrders_any _ _ _ _ _ _ _ (HSA.out.later (Later.h ‹_›)) (HSB.out.later (Later.h ‹_›)) (HSN.out.later (Later.h ‹_›)); with_reducible exact Later.call hC)
              | (go_at_call 10; have hC := vecSums_any _ _ _ _ _ (HSA.out.later (Later.h ‹_›)) (HSB.out.later (Later.h ‹_›)) ra.out rb.out; with_reducible exact Later.call hC))))
          refine wpQuiet_nil ?_
          intro x
          obtain ⟨w3, hb8⟩ := x
          clear x1 x2 x3 x4
          go_wp2
          go_roundw
          case rel => first | exact ⟨k + 1, by omega, by go_num, Bel.then GW hb8, Lib.hid (HN5.out.later hb8)⟩ | ((repeat apply Exists.intro); exact ⟨⟨k + 1, by omega, by go_num, Bel.then GW hb8, Lib.hid (HN5.out.later hb8)⟩, rfl⟩)
          case measure => simp [intOf]; omega
        · have hk' : 7 ≤ k := by omega
          go_wp2
          go_roundw
          case rel => exact ⟨i + 1, by omega, by go_num, hb4, HN4⟩
          case measure => simp [intOf]; omega
    · have hk' : 7 ≤ i := by omega
      go_wp2_with fail
      refine (works04_any _).mono ?_
      rintro e w1 ⟨rfl, hb1⟩
      go_wp2_with fail
      go_ret
      exact ⟨rfl, Bel.then hb hb1⟩
end Go.Proofs.Ytbfnlaemlflmpaa
