/- Walks of the statements' own helpers on lists: SameInts, CopyInts, SpoilInts. -/
import Derived.Test.YtjjccjannandlaaDoorKitC
set_option maxRecDepth 100000
set_option linter.unusedVariables false
set_option linter.unusedSimpArgs false
namespace Go.Proofs.YtjjccjannandlaaDoor
open Go.RowKit Go.BigFrame

theorem infoInts : (Tryd.prog.info? 3).map (fun i => (i.zero, i.size, i.bytes)) = some (some (.int .i64 0), 1, 8) := by kernel_rfl
/-- A row that the call owns. -/
abbrev OwnInts (w : World) (B : Nat) (v : Value) (xs : List Int) : Prop := OwnK .i64 3 w B v xs

set_option maxHeartbeats 1000000 in
theorem sameInts_any (xs ys : List Int) (v u : Value) (B : Nat) (w : World) (hx : Sl .i64 w B v xs) (hy : Sl .i64 w B u ys) (hl : xs.length ≤ 1099511627776) :
    Calls Tryd.prog 27 #[v, u] w fun e w' => e = .returned (.bool (decide (xs = ys))) ∧ ∃ n, w' = w.drewN n := by
  obtain ⟨A, c, rfl⟩ := hx.shape
  obtain ⟨A', c', rfl⟩ := hy.shape
  have HX := Lib.hid hx
  have HY := Lib.hid hy
  clear hx hy
  rcases Nat.lt_trichotomy xs.length ys.length with hlen | hlen | hlen
  rotate_left 1
  · have HL := Lib.hid hlen
    have HD : Hid (∀ k : Nat, xs[k]?.getD 0 ≠ ys[k]?.getD 0 → decide (xs = ys) = false) := fun k h => decide_eq_false (same_not h)
    have HE : Hid (xs.take xs.length = ys.take ys.length → decide (xs = ys) = true) := fun h => decide_eq_true (by simpa using h)
    rw [← HL.out]
    rw [← HL.out] at HY
    rw [← HL.out] at HE
    clear hlen
    go_enter Tryd.func27, Tryd.ntmps27
    go_wp2
    go_loopw [5] (fun i wr => ∃ k : Nat, k ≤ xs.length ∧ i = .int .i64 k ∧ Hid (xs.take k = ys.take k) ∧ ∃ n, wr = w.drewN n) (fun i _ => xs.length - (intOf i).toNat)
    case atStart => exact ⟨0, Nat.zero_le _, rfl, Lib.hid rfl, 0, rfl⟩
    case round =>
      obtain ⟨k, hk, rfl, HT, n, rfl⟩ := hrel
      by_cases hlt : k < xs.length
      · obtain ⟨b, off, rfl, hbB, hcap, hcx⟩ := HX.out.elem hlt
        obtain ⟨b', off', rfl, hbB', hcap', hcy⟩ := HY.out.elem (i := k) (by rw [← HL.out]; exact hlt)
        obtain ⟨x, hxv⟩ : ∃ x, x = xs[k]?.getD 0 := ⟨_, rfl⟩
        obtain ⟨y, hyv⟩ : ∃ y, y = ys[k]?.getD 0 := ⟨_, rfl⟩
        rw [← hxv] at hcx
        rw [← hyv] at hcy
        have HXV := Lib.hid hxv
        have HYV := Lib.hid hyv
        clear hxv hyv
        have hi0 : (0 : Int) ≤ (k : Int) := by omega
        have hi1 : (k : Int) < (xs.length : Int) := by omega
        rcases Int.lt_trichotomy x y with h1 | h1 | h1
        rotate_left 1
        · subst h1
          go_wp2
          go_quiet (fail)
          go_wp2
          go_roundw
          case rel => exact ⟨k + 1, by omega, by go_num, Lib.hid (same_step HL.out hlt (by rw [← HXV.out, ← HYV.out]) HT.out), _, rfl⟩
          case measure => simp [intOf]; omega
        all_goals
          go_wp2
          go_quiet (fail)
          go_wp2
          go_ret
          exact ⟨congrArg (fun z => Ending.returned (.bool z)) (HD.out k (by rw [← HXV.out, ← HYV.out]; omega)).symm, _, World.drewN_drewN _ _ _⟩
      · have hk' : k = xs.length := by omega
        subst hk'
        go_wp2
        go_ret
        exact ⟨congrArg (fun z => Ending.returned (.bool z)) (HE.out HT.out).symm, n, rfl⟩
  all_goals
    have HD : Hid (decide (xs = ys) = false) := decide_eq_false (fun e => by rw [e] at hlen; omega)
    go_enter Tryd.func27, Tryd.ntmps27
    go_wp2
    go_ret
    exact ⟨congrArg (fun z => Ending.returned (.bool z)) HD.out.symm, 0, rfl⟩
theorem sameInts_is {xs ys : List Int} {v u : Value} {w : World} {b : Bool} (hx : Sl .i64 w w.heap.size v xs) (hy : Sl .i64 w w.heap.size u ys) (hb : decide (xs = ys) = b) (hl : xs.length ≤ 1099511627776) :
    Calls Tryd.prog 27 #[v, u] w fun e w' => e = .returned (.bool b) ∧ Below w.heap.size w w' :=
  hb ▸ (sameInts_any xs ys v u _ w hx hy hl).mono fun e w' ⟨h, n, hw⟩ => ⟨h, hw ▸ Bel.drewN (Below.refl _ _) n⟩

set_option maxHeartbeats 1000000 in
theorem copyInts_any (xs : List Int) (v : Value) (B : Nat) (w : World) (hx : Sl .i64 w B v xs) (hB : B ≤ w.heap.size) (hl : xs.length ≤ 1099511627776) :
    Calls Tryd.prog 28 #[v] w fun e w' => ∃ r, e = .returned r ∧ OwnInts w' w.heap.size r xs ∧ Below w.heap.size w w' := by
  obtain ⟨A, c, rfl⟩ := hx.shape
  obtain ⟨i0, hi, hz0, hz1, hz2⟩ := info_parts infoInts
  have HX := Lib.hid hx
  clear hx
  go_enter Tryd.func28, Tryd.ntmps28
  go_wp2
  go_loopw [3, 4] (fun t i wr => ∃ k : Nat, k ≤ xs.length ∧ i = .int .i64 k ∧ wr.ownsRow w.heap.size 3 1 t k ((xs.take k).map (Value.int .i64)) ∧ Below w.heap.size w wr) (fun _ i _ => xs.length - (intOf i).toNat)
  case atStart => exact ⟨0, Nat.zero_le _, rfl, World.ownsRow_nil _ _ _ _, Below.refl _ _⟩
  case round =>
    obtain ⟨k, hk, rfl, hown, hb⟩ := hrel
    by_cases hlt : k < xs.length
    · have HT := Lib.hid (take_succ' hlt)
      obtain ⟨b, off, rfl, hbB, hcap, hcx⟩ := (HX.out.below (hb.mono hB)).elem hlt
      obtain ⟨x, hxv⟩ : ∃ x, x = xs[k]?.getD 0 := ⟨_, rfl⟩
      rw [← hxv] at hcx HT
      have HXV := Lib.hid hxv
      clear hxv
      go_wp2_with (at_builtin; refine wpList_append_own _ rfl _ _ 28 rfl w.heap.size 3 i0 (.int .i64 0) 1 8 Tryd.underlying28 hi hz0 hz1 hz2 rfl (by decide) _ _ _ rfl (hown.alloc _) ⟨wr.heap.size, 0, none⟩ 1 1 [.int .i64 x] rfl rfl (cell_one_new _ _ _) (by intro u hu; simp at hu; subst hu; rfl) (by unfold maxLen; omega) (by omega) (by have := hb.size; simp; omega) ?_; intro v' w1 hown' hgrow _)
      go_roundw
      case rel =>
        refine ⟨k + 1, by omega, by go_num, ?_, (hb.alloc hb.size _).grown hgrow (by have := hb.size; simp; omega) (own_base hown)⟩
        rw [HT.out, List.map_append]
        exact hown'
      case measure => simp [intOf]; omega
    · have hk' : k = xs.length := by omega
      subst hk'
      go_wp2
      go_ret
      exact ⟨_, rfl, OwnK.of hown rfl (by simp), hb⟩

set_option maxHeartbeats 400000 in
theorem markInts_any (i : Int) (w : World) (h0 : 0 ≤ i) (h1 : i ≤ 2199023255552) :
    Calls Tryd.prog 29 #[.int .i64 i] w fun e w' => (∃ m : Int, e = .returned (.int .i64 m)) ∧ w = w' := by
  go_enter Tryd.func29, Tryd.ntmps29
  go_wp2
  go_ret
  exact ⟨⟨_, rfl⟩, rfl⟩

set_option maxHeartbeats 1000000 in
/-- Written over: nothing below B turns, where the slice lies at or above B. -/
theorem spoilInts_any (xs : List Int) (v : Value) (B : Nat) (w : World) (hx : OwnInts w B v xs) (hl : xs.length ≤ 1099511627776) :
    Calls Tryd.prog 15 #[v] w fun e w' => e = .returned (.tuple #[]) ∧ Below B w w' := by
  rcases hx.shape with ⟨rfl, rfl⟩ | ⟨g, cap, rfl, hg, hgl, hcap⟩
  · clear hx
    go_enter Tryd.func15, Tryd.ntmps15
    go_wp2
    refine wp_loop_rounds 1 ?_
    rw [rounds_succ]
    go_wp2
    go_end0
    exact ⟨rfl, Below.refl _ _⟩
  · have hf : ∀ i, w.frozen? ⟨g, i, none⟩ = false := fun i => World.ownsRow.frozenAt hx.row i
    have hc : ∀ i, i < xs.length → ∃ u, w.cell? ⟨g, i, none⟩ = some u := fun i hi => ⟨_, by rw [World.ownsRow.cellAt hx.row i (by omega), List.getElem?_map, List.getElem?_eq_getElem hi]; rfl⟩
    have HF := Lib.hid hf
    have HC := Lib.hid hc
    clear hf hc hx
    go_enter Tryd.func15, Tryd.ntmps15
    go_wp2
    go_loopw [2] (fun i wr => ∃ k : Nat, k ≤ xs.length ∧ i = .int .i64 k ∧ Below B w wr ∧ Hid ((∀ j, wr.frozen? ⟨g, j, none⟩ = false) ∧ ∀ j, j < xs.length → ∃ u, wr.cell? ⟨g, j, none⟩ = some u)) (fun i _ => xs.length - (intOf i).toNat)
    case atStart => exact ⟨0, Nat.zero_le _, rfl, Below.refl _ _, Lib.hid ⟨HF.out, HC.out⟩⟩
    case round =>
      obtain ⟨k, hk, rfl, hb, HR⟩ := hrel
      by_cases hlt : k < xs.length
      · have hfk := HR.out.1 k
        obtain ⟨u, hck⟩ := HR.out.2 k hlt
        have hs : IntKind.i64.wrap ((k : Int) + 7) = (k : Int) + 7 := IntWalk.i64_in _ (by omega)
        have hi0 : (0 : Int) ≤ (k : Int) := by omega
        have hi1 : (k : Int) < (xs.length : Int) := by omega
        go_wp2_with fail
        refine (markInts_any ((k : Int) + 7) _ (by omega) (by omega)).mono ?_
        rintro e w' ⟨⟨m, rfl⟩, rfl⟩
        go_wp2_with fail
        go_roundw
        case rel =>
          refine ⟨k + 1, by omega, by go_num, hb.setCell hg _, Lib.hid ⟨fun j => ?_, fun j hj => ?_⟩⟩
          · rw [World.frozen?_setCell]; exact HR.out.1 j
          · obtain ⟨u', hu'⟩ := HR.out.2 j hj
            exact cell?_setCell_some hu'
        case measure => simp [intOf]; omega
      · have hk' : k = xs.length := by omega
        subst hk'
        go_wp2
        go_end0
        exact ⟨rfl, hb⟩
end Go.Proofs.YtjjccjannandlaaDoor
