/- Walks of CopyInts, LentInts, KeptInts, SpoilInts. -/
import Derived.Test.YtbfnlaemlflmpaaKitI
import Derived.Test.YtbfnlaemlflmpaaVec2
import Derived.IntWalk
set_option linter.unusedVariables false
set_option linter.unusedSimpArgs false
namespace Go.Proofs.Ytbfnlaemlflmpaa
open Go.RowKit Go.BigFrame

theorem take_succ' {xs : List Int} {k : Nat} (hk : k < xs.length) : xs.take (k + 1) = xs.take k ++ [xs[k]?.getD 0] := by
  rw [List.take_succ_eq_append_getElem hk, List.getElem?_eq_getElem hk]; rfl

set_option maxHeartbeats 1000000 in
theorem copyInts_any (xs : List Int) (v : Value) (B : Nat) (w : World) (hx : Sl .i64 w B v xs) (hB : B ≤ w.heap.size) (hl : xs.length ≤ 1099511627776) :
    Calls Try.prog 34 #[v] w fun e w' => ∃ r, e = .returned r ∧ Own w' w.heap.size r xs ∧ Below w.heap.size w w' := by
  obtain ⟨A, c, rfl⟩ := hx.shape
  obtain ⟨i0, hi, hz0, hz1, hz2⟩ := info_parts Try.infoInt
  have HX := Lib.hid hx
  clear hx
  go_enter Try.func34, Try.ntmps34
  go_wp2
  go_loopw [3, 4] (fun t i wr => ∃ k : Nat, k ≤ xs.length ∧ i = .int .i64 k ∧ wr.ownsRow w.heap.size 3 1 t k ((xs.take k).map (Value.int .i64)) ∧ Below w.heap.size w wr) (fun _ i _ => xs.length - (intOf i).toNat)
  case atStart => exact ⟨0, Nat.zero_le _, rfl, World.ownsRow_nil _ _ _ _, Below.refl _ _⟩
  case round =>
    obtain ⟨k, hk, rfl, hown, hb⟩ := hrel
    by_cases hlt : k < xs.length
    · have HT := Lib.hid (take_succ' hlt)
      obtain ⟨b, off, rfl, hbB, hcap, hcx⟩ := (HX.out.below (hb.mono hB)).elem hlt
      obtain ⟨x, hxv⟩ : ∃ x, x = xs[k]?.getD 0 := ⟨_, rfl⟩
      rw [← hxv] at hcx HT
      have HXV := Lib.hid hxv
      clear hxv
      go_wp2_with (at_builtin; refine wpList_append_own _ rfl _ _ 27 rfl w.heap.size 3 i0 (.int .i64 0) 1 8 Try.underlying27 hi hz0 hz1 hz2 rfl (by decide) _ _ _ rfl (hown.alloc _) ⟨wr.heap.size, 0, none⟩ 1 1 [.int .i64 x] rfl rfl (cell_one_new _ _ _) (by intro u hu; simp at hu; subst hu; rfl) (by unfold maxLen; omega) (by omega) (by have := hb.size; simp; omega) ?_; intro v' w1 hown' hgrow _)
      go_roundw
      case rel =>
        refine ⟨k + 1, by omega, by go_num, ?_, (hb.alloc hb.size _).grown hgrow (by have := hb.size; simp; omega) (own_base hown)⟩
        rw [HT.out, List.map_append]
        exact hown'
      case measure => simp [intOf]; omega
    · have hk' : k = xs.length := by omega
      subst hk'
      go_wp2
      go_ret
      refine ⟨_, rfl, ?_, hb⟩
      unfold Own
      simpa using hown

set_option maxHeartbeats 400000 in
theorem markInts_any (i : Int) (w : World) (h0 : 0 ≤ i) (h1 : i ≤ 2199023255552) :
    Calls Try.prog 37 #[.int .i64 i] w fun e w' => e = .returned (.int .i64 (7001 + 13 * i)) ∧ w = w' := by
  go_enter Try.func37, Try.ntmps37
  go_wp2
  go_ret
  exact ⟨rfl, rfl⟩

/-- The marks behind. -/
def marksI : List Int := [7001, 7014, 7027, 7040, 7053]
theorem marksI_take {k : Nat} (hk : k < 5) : marksI.take (k + 1) = marksI.take k ++ [7001 + 13 * (k : Int)] := by
  have : k = 0 ∨ k = 1 ∨ k = 2 ∨ k = 3 ∨ k = 4 := by omega
  rcases this with rfl | rfl | rfl | rfl | rfl <;> rfl

set_option maxHeartbeats 1000000 in
theorem lentInts_any (xs : List Int) (v : Value) (B : Nat) (w : World) (hx : Sl .i64 w B v xs) (hB : B ≤ w.heap.size) (hl : xs.length ≤ 1099511627776) :
    Calls Try.prog 21 #[v] w fun e w' => ∃ r, e = .returned r ∧ Own w' w.heap.size r (xs ++ marksI) ∧ Below w.heap.size w w' := by
  obtain ⟨A, c, rfl⟩ := hx.shape
  obtain ⟨i0, hi, hz0, hz1, hz2⟩ := info_parts Try.infoInt
  have HX := Lib.hid hx
  clear hx
  go_enter Try.func21, Try.ntmps21
  go_wp2_with fail
  refine (copyInts_any xs _ B _ HX.out hB hl).mono ?_
  rintro e w0 ⟨r, rfl, hown0, hb0⟩
  have HO := Lib.hid hown0
  clear hown0
  go_wp2_with fail
  go_loopw [3, 4] (fun t i wr => ∃ k : Nat, k ≤ 5 ∧ i = .int .i64 k ∧ wr.ownsRow w.heap.size 3 1 t (xs.length + k) ((xs ++ marksI.take k).map (Value.int .i64)) ∧ Below w.heap.size w wr) (fun _ i _ => 5 - (intOf i).toNat)
  case atStart => exact ⟨0, Nat.zero_le _, rfl, by have h := HO.out; unfold Own at h; simpa using h, hb0⟩
  case round =>
    obtain ⟨k, hk, rfl, hown, hb⟩ := hrel
    by_cases hlt : k < 5
    · have HT := Lib.hid (marksI_take hlt)
      go_wp2_with (first
        | (go_at_call 37; (with_reducible refine (markInts_any (k : Int) _ (by omega) (by omega)).mono ?_); rintro e w' ⟨rfl, rfl⟩)
        | (at_builtin; refine wpList_append_own _ rfl _ _ 27 rfl w.heap.size 3 i0 (.int .i64 0) 1 8 Try.underlying27 hi hz0 hz1 hz2 rfl (by decide) _ _ _ rfl (hown.alloc _) ⟨wr.heap.size, 0, none⟩ 1 1 [.int .i64 (7001 + 13 * (k : Int))] rfl rfl (cell_one_new _ _ _) (by intro u hu; simp at hu; subst hu; rfl) (by unfold maxLen; omega) (by omega) (by have := hb.size; simp; omega) ?_; intro v' w1 hown' hgrow _))
      go_roundw
      case rel =>
        refine ⟨k + 1, by omega, by go_num, ?_, (hb.alloc hb.size _).grown hgrow (by have := hb.size; simp; omega) (own_base hown)⟩
        rw [HT.out, ← List.append_assoc, List.map_append]
        exact hown'
      case measure => simp [intOf]; omega
    · have hk' : k = 5 := by omega
      subst hk'
      go_wp2
      go_ret
      refine ⟨_, rfl, ?_, hb⟩
      unfold Own
      have e : marksI.take 5 = marksI := rfl
      rw [e] at hown
      rw [List.length_append]
      exact hown

/-- Cut in front. -/
theorem Sl.cut {k : IntKind} {w : World} {B n c m : Nat} {A : Option Addr} {xs : List Int} (h : Sl k w B (.slice A n c) xs) (hm : m ≤ xs.length) : Sl k w B (.slice A m c) (xs.take m) := by
  rcases h with ⟨A', c', hv, rfl⟩ | ⟨b, off, c', hv, hlt, hc, hx⟩
  · injection hv with h1 h2 h3
    have : m = 0 := by simpa using hm
    subst this
    exact .inl ⟨A, c, rfl, rfl⟩
  · injection hv with h1 h2 h3
    subst h1 h3
    have hlen : (xs.take m).length = m := by simp; omega
    refine .inr ⟨b, off, c, by rw [hlen], hlt, by omega, fun i hi => ?_⟩
    rw [hx i (by omega), List.getElem?_take_of_lt (by omega)]

set_option maxHeartbeats 1000000 in
/-- What is lent has been kept. -/
theorem keptInts_any (xs : List Int) (v u : Value) (B : Nat) (w : World) (hx : Sl .i64 w B v (xs ++ marksI)) (hy : Sl .i64 w B u xs) (hB : B ≤ w.heap.size) (hl : xs.length ≤ 1099511627776) :
    Calls Try.prog 32 #[v, u] w fun e w' => e = .returned (.bool true) ∧ Below w.heap.size w w' := by
  obtain ⟨A, c, rfl⟩ := hx.shape
  obtain ⟨A', c', rfl⟩ := hy.shape
  have hlen : (xs ++ marksI).length = xs.length + 5 := by simp [marksI]
  rw [hlen] at hx ⊢
  have hcut : Sl .i64 w B (.slice A xs.length c) xs := by
    have := hx.cut (m := xs.length) (by omega)
    rwa [List.take_left] at this
  have hc : xs.length + 5 ≤ c := by
    obtain ⟨b, off, _, _, h, _⟩ := hx.elem (i := 0) (by omega)
    omega
  have HC := Lib.hid hcut
  have HX := Lib.hid hx
  have HY := Lib.hid hy
  have HL := Lib.hid hlen
  clear hcut hx hy hlen
  go_enter Try.func32, Try.ntmps32
  go_wp2_with fail
  refine (sameInts_any xs xs _ _ B _ HC.out HY.out hl).mono ?_
  rw [show decide (xs = xs) = true from by simp]
  rintro e w1 ⟨rfl, n1, rfl⟩
  go_wp2_with fail
  go_loopw [5] (fun i wr => ∃ k : Nat, k ≤ 5 ∧ i = .int .i64 k ∧ Below w.heap.size w wr) (fun i _ => 5 - (intOf i).toNat)
  case atStart => exact ⟨0, Nat.zero_le _, rfl, Bel.drewN (Below.refl _ _) _⟩
  case round =>
    obtain ⟨k, hk, rfl, hb⟩ := hrel
    by_cases hlt : k < 5
    · obtain ⟨b, off, rfl, hbB, hcap, hcx⟩ := (HX.out.below (hb.mono hB)).elem (i := xs.length + k) (by rw [HL.out]; omega)
      have hm : (xs ++ marksI)[xs.length + k]?.getD 0 = 7001 + 13 * (k : Int) := by
        rw [List.getElem?_append_right (by omega), Nat.add_sub_cancel_left]
        have : k = 0 ∨ k = 1 ∨ k = 2 ∨ k = 3 ∨ k = 4 := by omega
        rcases this with rfl | rfl | rfl | rfl | rfl <;> rfl
      rw [hm] at hcx
      have hs : IntKind.i64.wrap ((xs.length : Int) + (k : Int)) = (xs.length : Int) + (k : Int) := IntWalk.i64_in _ (by omega)
      have hi0 : (0 : Int) ≤ (xs.length : Int) + (k : Int) := by omega
      have hi1 : (xs.length : Int) + (k : Int) < (xs.length : Int) + 5 := by omega
      have hi2 : ((xs.length : Int) + (k : Int)).toNat = xs.length + k := by omega
      have hbw : b < wr.heap.size := by have := hb.size; omega
      clear hm
      go_wp2_with fail
      refine wp_region_later (by kernel_rfl) (by kernel_rfl) ?_
      repeat (any_goals (first
        | go_big_quiet_step ((go_at_call 37; with_reducible exact Later.callS (markInts_any (k : Int) _ (by omega) (by omega))))))
      refine wpQuiet_nil ?_
      intro x
      obtain ⟨w3, hb3⟩ := x
      clear hs hi2
      go_wp2
      go_roundw
      case rel => exact ⟨k + 1, by omega, by go_num, Bel.then hb hb3⟩
      case measure => simp [intOf]; omega
    · have hk' : k = 5 := by omega
      subst hk'
      go_wp2
      go_ret
      exact ⟨rfl, hb⟩

set_option maxHeartbeats 1000000 in
/-- Written over: nothing below B turns, where the slice lies at or above B. -/
theorem spoilInts_any (xs : List Int) (v : Value) (B : Nat) (w : World) (hx : Own w B v xs) (hl : xs.length ≤ 1099511627776) :
    Calls Try.prog 31 #[v] w fun e w' => e = .returned (.tuple #[]) ∧ Below B w w' := by
  rcases hx.shape with ⟨rfl, rfl⟩ | ⟨g, cap, rfl, hg, hgl⟩
  · clear hx
    go_enter Try.func31, Try.ntmps31
    go_wp2
    refine wp_loop_rounds 1 ?_
    rw [rounds_succ]
    go_wp2
    go_end0
    exact ⟨rfl, Below.refl _ _⟩
  · have hf : ∀ i, w.frozen? ⟨g, i, none⟩ = false := fun i => World.ownsRow.frozenAt hx i
    have hc : ∀ i, i < xs.length → ∃ u, w.cell? ⟨g, i, none⟩ = some u := fun i hi => ⟨_, by rw [World.ownsRow.cellAt hx i (by omega), List.getElem?_map, List.getElem?_eq_getElem hi]; rfl⟩
    have HF := Lib.hid hf
    have HC := Lib.hid hc
    clear hf hc hx
    go_enter Try.func31, Try.ntmps31
    go_wp2
    go_loopw [2] (fun i wr => ∃ k : Nat, k ≤ xs.length ∧ i = .int .i64 k ∧ Below B w wr ∧ Hid ((∀ j, wr.frozen? ⟨g, j, none⟩ = false) ∧ ∀ j, j < xs.length → ∃ u, wr.cell? ⟨g, j, none⟩ = some u)) (fun i _ => xs.length - (intOf i).toNat)
    case atStart => exact ⟨0, Nat.zero_le _, rfl, Below.refl _ _, Lib.hid ⟨HF.out, HC.out⟩⟩
    case round =>
      obtain ⟨k, hk, rfl, hb, HR⟩ := hrel
      by_cases hlt : k < xs.length
      · have hfk := HR.out.1 k
        obtain ⟨u, hck⟩ := HR.out.2 k hlt
        have hs : IntKind.i64.wrap ((k : Int) + 7) = (k : Int) + 7 := IntWalk.i64_in _ (by omega)
        have hi0 : (0 : Int) ≤ (k : Int) := by omega
        have hi1 : (k : Int) < (xs.length : Int) := by omega
        go_wp2_with fail
        refine (markInts_any ((k : Int) + 7) _ (by omega) (by omega)).mono ?_
        rintro e w' ⟨rfl, rfl⟩
        go_wp2_with fail
        go_roundw
        case rel =>
          refine ⟨k + 1, by omega, by go_num, hb.setCell hg _, Lib.hid ⟨fun j => ?_, fun j hj => ?_⟩⟩
          · rw [World.frozen?_setCell]; exact HR.out.1 j
          · obtain ⟨u', hu'⟩ := HR.out.2 j hj
            exact cell?_setCell_some hu'
        case measure => simp [intOf]; omega
      · have hk' : k = xs.length := by omega
        subst hk'
        go_wp2
        go_end0
        exact ⟨rfl, hb⟩
end Go.Proofs.Ytbfnlaemlflmpaa
