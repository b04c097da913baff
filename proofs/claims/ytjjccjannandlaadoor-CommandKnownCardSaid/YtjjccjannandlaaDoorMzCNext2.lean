/- CommandNext: the walk, where there is an event. -/
import Derived.Test.YtjjccjannandlaaDoorMzCNext
set_option maxRecDepth 100000
set_option maxRecDepth 100000
set_option linter.unusedVariables false
set_option linter.unusedSimpArgs false
namespace Go.Proofs.YtjjccjannandlaaDoor
open Go.RowKit Go.BigFrame

set_option maxRecDepth 100000 in
set_option maxHeartbeats 8000000 in
theorem cNext_ok (v : Nat → Int) (o lam g : Int) (xs : List Int) (x : Value) (w : World) (hx : Sl .i64 w w.heap.size x xs) (hl : xs.length ≤ 200) (hr : ∀ n ∈ xs, n ≤ 9223372036854775807) (h0 : 0 ≤ o) (h1 : o < (xs.length : Int)) (h2 : 0 ≤ lam) (hg : getV xs o = g) (hg1 : g < 9223372036854775807) (hl1 : lam < 9223372036854775807) :
    Calls Tryd.prog 21 #[cmdV v, .int .i64 o, x, .int .i64 lam] w fun e w' => e = .returned (.bool true) ∧ Below w.heap.size w w' := by
  have hg0 : 0 ≤ g := by rw [← hg]; exact getV_nonneg xs o
  obtain ⟨A, c, rfl⟩ := hx.shape
  have hb1 : Below w.heap.size w (w.alloc (.cells #[.int .i64 (v 0), .int .i64 (v 1), .int .i64 (v 2), .int .i64 (v 3), .int .i64 (v 4), .int .i64 (v 5), .int .i64 (v 6)] 27)) := Bel.grew (Below.refl _ _) _
  have HC1 := Lib.hid (Has.new w #[.int .i64 (v 0), .int .i64 (v 1), .int .i64 (v 2), .int .i64 (v 3), .int .i64 (v 4), .int .i64 (v 5), .int .i64 (v 6)] 27)
  have HEV := Lib.hid (ev_ok v o lam g xs _ _ (hx.later hb1) (by omega) h0 h1 h2 hg hg0 hg1 hl1)
  have HX := Lib.hid hx
  have HB1 := Lib.hid hb1
  have HG := Lib.hid hg
  obtain ⟨ys, hys⟩ : ∃ ys, ys = joinV xs [] := ⟨_, rfl⟩
  have HYL : Hid (ys.length = xs.length) := by rw [hys]; exact joinV_own_length xs
  have HYG : Hid (getV ys o = g) := by rw [hys, getV_own]; exact hg
  have HYC : Hid (cmpV ys xs = 0) := by rw [hys]; exact cmpV_own xs
  have HYP : Hid (∀ n ∈ ys, 0 ≤ n ∧ n ≤ 9223372036854775807) := by rw [hys]; exact joinV_range hr (by simp)
  rw [← hys] at HEV
  have hlI : ¬ (xs.length : Int) > 200 := by omega
  have hwl : IntKind.i64.wrap (lam + 1) = lam + 1 := IntWalk.i64_in _ (by omega)
  have hwg : IntKind.i64.wrap (g + 1) = g + 1 := IntWalk.i64_in _ (by omega)
  clear hx hg hb1 hys
  go_enter Tryd.func21, Tryd.ntmps21
  go_wp2_with fail
  refine HEV.out.mono ?_
  rintro e w2 ⟨dv, rfl, hown, hb⟩
  have HO2 := Lib.hid (OwnK.sl (hown : OwnK .i64 3 _ _ _ _))
  obtain ⟨A2, k2, rfl⟩ := HO2.out.shape
  rw [HYL.out]
  rw [HYL.out] at HO2
  have HB2 := Lib.hid (Bel.then HB1.out hb)
  have HC2 := Lib.hid (HC1.out.later hb)
  clear hb hown HC1 HB1 HEV
  go_wp2_with fail
  obtain ⟨W, hW⟩ : ∃ W, W = w2.alloc (.cells #[.int .i64 o, .int .i64 (g + 1), .int .i64 (lam + 1), .slice A2 xs.length k2, .int .i64 (v 0), .int .i64 (v 1), .int .i64 (v 2), .int .i64 (v 3), .int .i64 (v 4), .int .i64 (v 6)] 37) := ⟨_, rfl⟩
  rw [← hW]
  have hgr : Below w2.heap.size w2 W := by rw [hW]; exact Bel.grew (Below.refl _ _) _
  have hHE : Has W w2.heap.size #[.int .i64 o, .int .i64 (g + 1), .int .i64 (lam + 1), .slice A2 xs.length k2, .int .i64 (v 0), .int .i64 (v 1), .int .i64 (v 2), .int .i64 (v 3), .int .i64 (v 4), .int .i64 (v 6)] := by rw [hW]; exact Has.new _ _ _
  have hHC := HC2.out.later hgr
  have HBW := Lib.hid (Bel.then HB2.out hgr)
  have HYW := Lib.hid (HO2.out.later hgr)
  have HXW := Lib.hid (HX.out.later HBW.out)
  have HEW := Lib.hid hHE
  have HCW := Lib.hid hHC
  have hE := hHE.2
  have hqlt := hHE.1
  have HGET : Hid (∀ x : Later W, Calls Tryd.prog 30 #[.slice A xs.length c, .int .i64 o] x.w fun e w' => e = .returned (.int .i64 g) ∧ x.w = w') := fun x => by
    have h := get_any xs _ _ o x.w (HXW.out.below x.h)
    rw [HG.out] at h; exact h
  have HCMP : Hid (∀ x : Later W, Calls Tryd.prog 41 #[.slice A2 xs.length k2, .slice A xs.length c] x.w fun e w' => e = .returned (.int .i64 0) ∧ x.w = w') := fun x => by
    have h := cmp_any ys xs _ _ _ x.w (HYW.out.below x.h) (HXW.out.below x.h) (by rw [HYL.out]; omega) (by omega)
    rw [HYC.out] at h; exact h
  clear hW hgr hHE hHC HB2 HC2 HO2
  refine wp_region_later (by kernel_rfl) (by kernel_rfl) ?_
  repeat (any_goals (first | go_big_quiet_step (first | (go_at_call 30; have hC := HGET.out ‹_›; with_reducible exact Later.callS hC) | (go_at_call 41; have hC := HCMP.out ‹_›; with_reducible exact Later.callS hC))))
  refine wpQuiet_nil ?_
  intro x
  obtain ⟨w3, hb3⟩ := x
  have HB3 := Lib.hid (Bel.then HBW.out hb3)
  have HY3 := Lib.hid (HYW.out.later hb3)
  have HE3 := Lib.hid (HEW.out.later hb3)
  have HC3 := Lib.hid (HCW.out.later hb3)
  dsimp only
  clear hb3 HBW HYW HXW HEW HCW HGET HCMP hE hqlt
  have hE := HE3.out.2
  have hqlt := HE3.out.1
  go_wp2_with fail
  go_loopw [11] (fun i wr => ∃ k : Nat, k ≤ xs.length ∧ i = .int .i64 k ∧ wr = w3) (fun i _ => xs.length - (intOf i).toNat)
  case atStart => exact ⟨0, Nat.zero_le _, rfl, rfl⟩
  case round =>
    obtain ⟨k, hk, rfl, rfl⟩ := hrel
    by_cases hlt : k < xs.length
    · obtain ⟨b, off, rfl, hbB, hcap, hcx⟩ := HY3.out.elem (i := k) (by rw [HYL.out]; exact hlt)
      obtain ⟨y, hy⟩ : ∃ y, y = ys[k]?.getD 0 := ⟨_, rfl⟩
      have hy0 : 0 ≤ y := by
        rw [hy, List.getElem?_eq_getElem (by rw [HYL.out]; exact hlt)]
        exact (HYP.out _ (List.getElem_mem _)).1
      rw [← hy] at hcx
      have hkI : (k : Int) < (xs.length : Int) := by omega
      clear hy
      go_wp2_with fail
      go_roundw
      case rel => exact ⟨k + 1, by omega, by go_num, trivial⟩
      case measure => simp [intOf]; omega
    · have hk4 : k = xs.length := by omega
      subst hk4
      have HGET : Hid (∀ x : Later wr, Calls Tryd.prog 30 #[.slice A2 xs.length k2, .int .i64 o] x.w fun e w' => e = .returned (.int .i64 g) ∧ x.w = w') := fun x => by
        have h := get_any ys _ _ o x.w (HY3.out.below x.h)
        rw [HYG.out] at h; exact h
      have hC := HC3.out.2
      have hClt := HC3.out.1
      have hws : IntKind.i64.wrap (g + 1 - 1) = g := by rw [show g + 1 - 1 = g from by omega]; exact IntWalk.i64_in _ (by omega)
      have hws' : IntKind.i64.wrap g = g := IntWalk.i64_in _ (by omega)
      go_wp2_with fail
      refine wp_region_later (by kernel_rfl) (by kernel_rfl) ?_
      repeat (any_goals (first | go_big_quiet_step (first | (go_at_call 30; have hC := HGET.out ‹_›; with_reducible exact Later.callS hC) | (go_at_call 8; have hC := works08_any (Later.w ‹_›); with_reducible exact Later.call hC))))
      refine wpQuiet_nil ?_
      intro x
      obtain ⟨w5, hb5⟩ := x
      have HB5 := Lib.hid (Bel.then HB3.out hb5)
      dsimp only
      clear hb5
      go_wp2_with fail
      go_ret
      exact ⟨rfl, HB5.out⟩
end Go.Proofs.YtjjccjannandlaaDoor
