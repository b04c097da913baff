/- PackCut: the walk. -/
import Derived.Test.YtamnligooelmgaaBack
import Derived.Test.YtamnligooelmgaaPick
import Derived.Test.YtamnligooelmgaaForm
set_option linter.unusedVariables false
set_option linter.unusedSimpArgs false
namespace Go.Proofs.Ytamnligooelmgaa
open Go.RowKit Go.BigFrame

theorem stepR_stop4 (r : Int ⊕ (Int × Nat)) (a : Nat) : stepR r a 4 = (0, (a : Int), 4) := rfl
theorem stepB_stop4 (r : Int ⊕ (List Int × Nat)) (a : Nat) : stepB r a 4 = ([], (a : Int), 4) := rfl
theorem endsK_get {l : List Th} {n i : Nat} (h : i < n) : (endsK l n)[i]?.getD 0 = ((laidK l (i + 1)).length : Int) := by
  unfold endsK
  rw [List.getElem?_map, List.getElem?_range h]; rfl
theorem laidK_mono (l : List Th) {i j : Nat} (h : i ≤ j) : (laidK l i).length ≤ (laidK l j).length := by
  have e : laidK l j = laidK l i ++ ((l.take j).drop i).flatMap Th.enc := by
    unfold laidK
    rw [← List.flatMap_append, show l.take i = (l.take j).take i from by rw [List.take_take, Nat.min_eq_left h], List.take_append_drop]
  rw [e, List.length_append]; omega
/-- What is left behind the things that are whole. -/
theorem cut_whole {l : List Th} {k m : Nat} {t : Th} (h : l[k]? = some t) (hm : (laidK l (k + 1)).length ≤ m) : ∃ rest, ((laidK l l.length).take m).drop (laidK l k).length = t.enc ++ rest := by
  have hs := laidK_succ h
  have hl := congrArg List.length hs
  rw [List.length_append] at hl
  rw [List.drop_take, laid_drop h]
  refine ⟨((l.drop (k + 1)).flatMap Th.enc).take (m - (laidK l k).length - t.enc.length), ?_⟩
  rw [List.take_append, List.take_of_length_le (by omega)]
theorem cut_part {l : List Th} {k m : Nat} {t : Th} (h : l[k]? = some t) (hm : m < (laidK l (k + 1)).length) : ((laidK l l.length).take m).drop (laidK l k).length = t.enc.take (m - (laidK l k).length) ∧ (m - (laidK l k).length < t.enc.length ∨ t.enc.length = 0) := by
  have hs := laidK_succ h
  have hl := congrArg List.length hs
  rw [List.length_append] at hl
  rw [List.drop_take, laid_drop h, List.take_append_of_le_length (by omega)]
  exact ⟨rfl, by omega⟩
theorem enc_pos (t : Th) : 0 < t.enc.length := by
  unfold Th.enc
  split
  · unfold encB; rw [List.length_append, encI_length]; omega
  · rw [encI_length]; omega

set_option maxRecDepth 100000 in
set_option maxHeartbeats 4000000 in
theorem packCut_any (l : List Th) (at_ : Int) (v : Value) (w : World) (hx : Things w w.heap.size v l) (hm : l.length ≤ 140737488351232) (h0 : -9223372036854775808 ≤ at_) (h1 : at_ ≤ 9223372036854775807) :
    Calls Try.prog 6 #[v, .int .i64 at_] w fun e w' => e = .returned (.bool true) ∧ Below w.heap.size w w' := by
  obtain ⟨A, c, rfl⟩ := hx.shape
  have HX := Lib.hid hx
  have HAT := Lib.hid (And.intro h0 h1)
  clear hx h0 h1
  go_enter Try.func6, Try.ntmps6
  go_wp2_with fail
  refine (long_any l _ _ _ HX.out hm).mono ?_
  rintro e w1 ⟨b, rfl, hlo, rfl⟩
  cases b
  · obtain ⟨hl1, hl2⟩ := hlo rfl
    have HL2 := Lib.hid hl2
    clear hlo hl2
    go_wp2_with fail
    refine (laid_any l _ _ _ HX.out (Nat.le_refl _) hl1 HL2.out).mono ?_
    rintro e w2 ⟨r, s, rfl, hr, hse, hb2⟩
    obtain ⟨xs, hxs⟩ : ∃ xs, xs = laidK l l.length := ⟨_, rfl⟩
    have hin := fun t ht => (HX.out.in_ t ht).2
    have hxl : xs.length ≤ 10900 := by rw [hxs]; exact laidK_le _ (fun t ht => (hin t ht).imp_right fun h => h.2) hl1 HL2.out
    have HBY : Hid (Bytes xs) := by rw [hxs]; exact laid_byte hin _
    rw [← hxs] at hr
    obtain ⟨A1, c1, rfl⟩ := hr.sl.shape
    obtain ⟨A8, c8, h8⟩ := hse.sl.shape
    rw [endsK_length] at h8
    subst h8
    have HXS := Lib.hid hxs
    have HR := Lib.hid hr.sl
    have HE := Lib.hid hse.sl
    have HB2 := Lib.hid hb2
    clear hr hb2 hxs hin hse
    go_wp2_with fail
    refine (pick_any at_ ((xs.length : Int) + 1) _ HAT.out.1 HAT.out.2 (by omega) (by omega)).mono ?_
    rintro e w3 ⟨m, rfl, hm0, hm1, rfl⟩
    obtain ⟨m, rfl⟩ := Int.eq_ofNat_of_zero_le hm0
    have hmx : m ≤ xs.length := by omega
    obtain ⟨A5, c5, he5⟩ := sliced_shape A1 0 m c1
    rw [Nat.sub_zero] at he5
    have hcap1 := HR.out.cap
    have hcut := fun W => run_upto A1 xs.length c1 m (by omega) W
    rw [he5] at hcut
    have HS5 : Hid (Sl .u8 w2 w2.heap.size (.slice A5 m c5) (xs.take m)) := by
      have := HR.out.upto_ (a := m) hmx
      rw [he5] at this
      exact this
    clear he5 hm1
    go_wp2_with fail
    refine (From_any (xs.take m) _ _ HS5.out (by rw [List.length_take_of_le hmx]; omega)).mono ?_
    rintro e w4 ⟨p, S, rfl, hp, hb4, hR⟩
    have HB4 := Lib.hid hb4
    have HR4 := Lib.hid hR
    obtain ⟨ys, hys⟩ : ∃ ys, ys = xs.take m := ⟨_, rfl⟩
    have hyl : ys.length = m := by rw [hys, List.length_take_of_le hmx]
    have HYB : Hid (Bytes ys) := by rw [hys]; exact fun d hd => HBY.out d (List.mem_of_mem_take hd)
    rw [← hys] at HR4
    have HYS := Lib.hid hys
    have HYL := Lib.hid hyl
    clear hb4 hR HS5 hcut hys hyl
    go_wp2_with fail
    go_loopw [8] (fun i wr => ∃ k : Nat, k ≤ l.length ∧ i = .int .i64 k ∧ Below w2.heap.size w2 wr ∧ (laidK l k).length ≤ m ∧ Rd wr p ys S ((laidK l k).length : Int) 0) (fun i _ => l.length - (intOf i).toNat)
    case atStart => exact ⟨0, Nat.zero_le _, rfl, HB4.out, Nat.zero_le _, HR4.out⟩
    case round =>
      obtain ⟨k, hk, rfl, hb, ham, hR⟩ := hrel
      clear HR4 HB4
      have HB := Lib.hid hb
      have HW := Lib.hid (HB2.out.trans (hb.mono HB2.out.size))
      obtain ⟨a, ha⟩ : ∃ a, a = (laidK l k).length := ⟨_, rfl⟩
      rw [← ha] at hR ham
      have HA := Lib.hid ha
      have hplt := hR.lt
      by_cases hk2 : k < l.length
      · obtain ⟨t, ht⟩ : ∃ t, l[k]? = some t := ⟨_, List.getElem?_eq_getElem hk2⟩
        have hX' := HX.out.below HW.out
        have hin := hX'.in_ t (List.mem_of_getElem? ht)
        obtain ⟨b, off, rfl, hbB, hcap, hc0, hc1, hc2⟩ := hX'.elem ht
        obtain ⟨A2, c2, hv⟩ := hin.1.shape
        rw [hv] at hc2
        have hbl : t.bs.length ≤ 10000 := Nat.le_trans (sum_mem (List.mem_of_getElem? ht)) HL2.out
        have HSv : Hid (Sl .u8 wr w.heap.size (.slice A2 t.bs.length c2) t.bs) := hv ▸ hin.1
        have hwp : w.heap.size ≤ p := Nat.le_trans HB2.out.size hp
        obtain ⟨be, oe, rfl, hbe, hcape, hce⟩ := (HE.out.below hb).elem (i := k) (by rw [endsK_length]; exact hk2)
        rw [endsK_get hk2] at hce
        rw [endsK_length] at hcape
        obtain ⟨a1, ha1⟩ : ∃ a1, a1 = (laidK l (k + 1)).length := ⟨_, rfl⟩
        rw [← ha1] at hce
        have hkI : (k : Int) < (l.length : Int) := by omega
        have HT := Lib.hid ht
        have HIN := Lib.hid hin.2.2
        have HA1 := Lib.hid ha1
        clear ht hin hv hX' ha ha1 hb
        by_cases hlt : a1 ≤ m
        · have hltI : (a1 : Int) ≤ (m : Int) := by omega
          have HI : Hid (Calls Try.prog 19 #[.pointer (some ⟨p, 0, none⟩), .agg #[.bool t.row, .int .i64 t.n, .slice A2 t.bs.length c2]] wr.drew fun e w' => e = .returned (.bool true) ∧ But p wr.drew w' ∧ Rd w' p ys S (a1 : Int) 0) := by
            obtain ⟨rest, hrest⟩ := cut_whole (m := m) HT.out (by rw [← HA1.out]; exact hlt)
            rw [← HXS.out, ← HYS.out, ← HA.out] at hrest
            have hsum : a1 = a + t.enc.length := by
              have := congrArg List.length (laidK_succ HT.out)
              rw [List.length_append, ← HA.out, ← HA1.out] at this
              exact this
            have hRd := hR.below (Below.drew (Below.refl wr.heap.size wr))
            show Calls _ _ _ _ _
            cases hrow : t.row
            · refine is_num hRd (by rw [HYL.out]; omega) (by rw [HYL.out]; exact ham) HYB.out ?_ _ (HSv.out.below (Below.drew (Below.refl _ _)))
              rw [hrest, step_num hrow HIN.out.2.1 HIN.out.2.2, hsum]
            · refine is_row hRd (by rw [HYL.out]; omega) (by rw [HYL.out]; exact ham) HYB.out ?_ hwp (HSv.out.below (Below.drew (Below.refl _ _))) (by omega)
              rw [hrest, step_row hrow (by omega), hsum]
          have hd0 : wr.drew.cell? ⟨be, oe + k, none⟩ = some (.int .i64 (a1 : Int)) := hce
          have hbed : be < wr.drew.heap.size := Nat.lt_of_lt_of_le hbe HB.out.size
          have hbp : be ≠ p := by omega
          have HD : Hid (doneR ys a1 0 = if a1 = m then 0 else 5) := by
            unfold doneR
            rw [HYL.out]
            by_cases h : a1 = m
            · rw [if_neg (by omega), if_pos h]; exact Lib.hid rfl
            · rw [if_pos (by omega), if_neg h]; exact Lib.hid rfl
          clear hR
          by_cases hee : a1 = m
          · have heeI : ((a1 : Int) == (m : Int)) = true := by simp [hee]
            rw [if_pos hee] at HD
            go_wp2_with fail
            go_region_law (first
              | (go_simp; go_at_call 19; refine HI.out.mono ?_; rintro e w4 ⟨rfl, hB4, hR4⟩; have hd4 := (hB4.cell (o := oe + k) hbed hbp).trans hd0; have hbe4 := Nat.lt_of_lt_of_le hbed hB4.size; have HR4 := Lib.hid hR4; have HB4 := Lib.hid hB4; clear hR4 hB4; try dsimp only)
              | (go_simp; go_at_call 20; refine (Done_any HR4.out).mono ?_; rw [HD.out]; rintro e w5 ⟨rfl, hB5⟩; have hd5 := (hB5.cell (p := ⟨be, oe + k, none⟩) hbe4).trans hd4; have HB5 := Lib.hid hB5; clear hB5; try dsimp only))
            all_goals
              go_wp2_with fail
              have h1 := Below.drew HB.out
              have h2 := h1.trans (HB4.out.below hp h1.size)
              have h3 := h2.trans (HB5.out.mono h2.size)
              go_roundw
              case rel => exact ⟨k + 1, by omega, by go_num, h3, by rw [← HA1.out]; exact hlt, by rw [← HA1.out]; exact HR4.out.below HB5.out⟩
              case measure => simp [intOf]; omega
          · have heeI : ((a1 : Int) == (m : Int)) = false := by simp; omega
            rw [if_neg hee] at HD
            go_wp2_with fail
            go_region_law (first
              | (go_simp; go_at_call 19; refine HI.out.mono ?_; rintro e w4 ⟨rfl, hB4, hR4⟩; have hd4 := (hB4.cell (o := oe + k) hbed hbp).trans hd0; have hbe4 := Nat.lt_of_lt_of_le hbed hB4.size; have HR4 := Lib.hid hR4; have HB4 := Lib.hid hB4; clear hR4 hB4; try dsimp only)
              | (go_simp; go_at_call 20; refine (Done_any HR4.out).mono ?_; rw [HD.out]; rintro e w5 ⟨rfl, hB5⟩; have hd5 := (hB5.cell (p := ⟨be, oe + k, none⟩) hbe4).trans hd4; have HB5 := Lib.hid hB5; clear hB5; try dsimp only))
            all_goals
              go_wp2_with fail
              have h1 := Below.drew HB.out
              have h2 := h1.trans (HB4.out.below hp h1.size)
              have h3 := h2.trans (HB5.out.mono h2.size)
              go_roundw
              case rel => exact ⟨k + 1, by omega, by go_num, h3, by rw [← HA1.out]; exact hlt, by rw [← HA1.out]; exact HR4.out.below HB5.out⟩
              case measure => simp [intOf]; omega
        · have hgtI : (a1 : Int) > (m : Int) := by omega
          have hcp := cut_part (m := m) HT.out (by rw [← HA1.out]; omega)
          have hpos := enc_pos t
          rw [← HXS.out, ← HYS.out, ← HA.out] at hcp
          obtain ⟨hcp1, hcp2⟩ := hcp
          have hcp3 : m - a < t.enc.length := by omega
          have HR := Lib.hid hR
          cases hrow : t.row
          · rw [hrow] at hc0
            have HST : Hid (stepR (numR (ys.drop a)) a 0 = (0, (a : Int), 4)) := by
              have e : t.enc = encI t.n := by unfold Th.enc; rw [hrow]; rfl
              rw [hcp1, e, numR_cut HIN.out.2.1 HIN.out.2.2 (by rw [← e]; exact hcp3)]
              exact Lib.hid rfl
            clear hR hcp1 hcp2 hcp3 hpos
            go_wp2_with fail
            refine (Int_any HR.out (by rw [HYL.out]; omega) (by rw [HYL.out]; exact ham) HYB.out _ HST.out).mono ?_
            rintro e wf ⟨rfl, hbf, hRf⟩
            have HBf := Lib.hid (HW.out.trans (hbf.below hwp HW.out.size))
            have HRf := Lib.hid hRf
            clear hbf hRf HW HR
            dsimp only
            go_wp2_with fail
            refine (Done_any HRf.out).mono ?_
            rw [show doneR ys (a : Int) 4 = 4 from by unfold doneR; rw [if_neg (by omega)]]
            rintro e wg ⟨rfl, hbg⟩
            have HBg := Lib.hid (Bel.then HBf.out hbg)
            have HRg := Lib.hid (HRf.out.below hbg)
            clear hbg HBf HRf
            go_wp2_with fail
            refine (Int_any HRg.out (by rw [HYL.out]; omega) (by rw [HYL.out]; exact ham) HYB.out _ (stepR_stop4 _ _)).mono ?_
            rintro e wh ⟨rfl, hbh, hRh⟩
            have HBh := Lib.hid (HBg.out.trans (hbh.below hwp HBg.out.size))
            have HRh := Lib.hid hRh
            clear hbh hRh HBg HRg
            dsimp only
            go_wp2_with fail
            refine (Count_any HRh.out (by rw [HYL.out]; omega) (by rw [HYL.out]; exact ham) HYB.out _ (stepR_stop4 _ _)).mono ?_
            rintro e wi ⟨rfl, hbi, hRi⟩
            have HBi := Lib.hid (HBh.out.trans (hbi.below hwp HBh.out.size))
            have HRi := Lib.hid hRi
            clear hbi hRi HBh HRh
            dsimp only
            go_wp2_with fail
            refine (Blob_any HRi.out (by rw [HYL.out]; omega) (by rw [HYL.out]; exact ham) HYB.out _ (stepB_stop4 _ _)).mono ?_
            rintro e wj ⟨rj, rfl, hbj, hRj, hownj⟩
            have HBj := Lib.hid (HBi.out.trans (hbj.below hwp HBi.out.size))
            have HRj := Lib.hid hRj
            obtain ⟨Aj, cj, rfl⟩ := hownj.sl.shape
            clear hbj hRj hownj HBi HRi
            dsimp only [List.length_nil]
            go_wp2_with fail
            refine (Done_any HRj.out).mono ?_
            rw [show doneR ys (a : Int) 4 = 4 from by unfold doneR; rw [if_neg (by omega)]]
            rintro e wk ⟨rfl, hbk⟩
            have HBk := Lib.hid (Bel.then HBj.out hbk)
            clear hbk HBj HRj
            go_wp2_with fail
            refine (shown_any _).mono ?_
            rintro e wl ⟨rfl, hbl⟩
            have HBl := Lib.hid (Bel.then HBk.out hbl)
            clear hbl HBk
            go_wp2_with fail
            go_ret
            exact ⟨rfl, HBl.out⟩
          · rw [hrow] at hc0
            have HST : Hid (stepB (blobR (ys.drop a)) a 0 = ([], (a : Int), 4)) := by
              have e : t.enc = encB t.bs := by unfold Th.enc; rw [hrow]; rfl
              rw [hcp1, e, blobR_cut (by omega) (by rw [← e]; exact hcp3)]
              exact Lib.hid rfl
            clear hR hcp1 hcp2 hcp3 hpos
            go_wp2_with fail
            refine (Blob_any HR.out (by rw [HYL.out]; omega) (by rw [HYL.out]; exact ham) HYB.out _ HST.out).mono ?_
            rintro e wf ⟨rf, rfl, hbf, hRf, hownf⟩
            have HBf := Lib.hid (HW.out.trans (hbf.below hwp HW.out.size))
            have HRf := Lib.hid hRf
            obtain ⟨Af, cf, rfl⟩ := hownf.sl.shape
            clear hbf hRf hownf HW HR
            dsimp only [List.length_nil]
            go_wp2_with fail
            refine (Done_any HRf.out).mono ?_
            rw [show doneR ys (a : Int) 4 = 4 from by unfold doneR; rw [if_neg (by omega)]]
            rintro e wg ⟨rfl, hbg⟩
            have HBg := Lib.hid (Bel.then HBf.out hbg)
            have HRg := Lib.hid (HRf.out.below hbg)
            clear hbg HBf HRf
            go_wp2_with fail
            refine (Int_any HRg.out (by rw [HYL.out]; omega) (by rw [HYL.out]; exact ham) HYB.out _ (stepR_stop4 _ _)).mono ?_
            rintro e wh ⟨rfl, hbh, hRh⟩
            have HBh := Lib.hid (HBg.out.trans (hbh.below hwp HBg.out.size))
            have HRh := Lib.hid hRh
            clear hbh hRh HBg HRg
            dsimp only
            go_wp2_with fail
            refine (Count_any HRh.out (by rw [HYL.out]; omega) (by rw [HYL.out]; exact ham) HYB.out _ (stepR_stop4 _ _)).mono ?_
            rintro e wi ⟨rfl, hbi, hRi⟩
            have HBi := Lib.hid (HBh.out.trans (hbi.below hwp HBh.out.size))
            have HRi := Lib.hid hRi
            clear hbi hRi HBh HRh
            dsimp only
            go_wp2_with fail
            refine (Blob_any HRi.out (by rw [HYL.out]; omega) (by rw [HYL.out]; exact ham) HYB.out _ (stepB_stop4 _ _)).mono ?_
            rintro e wj ⟨rj, rfl, hbj, hRj, hownj⟩
            have HBj := Lib.hid (HBi.out.trans (hbj.below hwp HBi.out.size))
            have HRj := Lib.hid hRj
            obtain ⟨Aj, cj, rfl⟩ := hownj.sl.shape
            clear hbj hRj hownj HBi HRi
            dsimp only [List.length_nil]
            go_wp2_with fail
            refine (Done_any HRj.out).mono ?_
            rw [show doneR ys (a : Int) 4 = 4 from by unfold doneR; rw [if_neg (by omega)]]
            rintro e wk ⟨rfl, hbk⟩
            have HBk := Lib.hid (Bel.then HBj.out hbk)
            clear hbk HBj HRj
            go_wp2_with fail
            refine (shown_any _).mono ?_
            rintro e wl ⟨rfl, hbl⟩
            have HBl := Lib.hid (Bel.then HBk.out hbl)
            clear hbl HBk
            go_wp2_with fail
            go_ret
            exact ⟨rfl, HBl.out⟩
      · have hk4 : k = l.length := by omega
        subst hk4
        have HR := Lib.hid hR
        have hwp : w.heap.size ≤ p := Nat.le_trans HB2.out.size hp
        have HST : Hid (stepR (numR (ys.drop a)) a 0 = (0, (a : Int), 4)) := by
          rw [List.drop_eq_nil_of_le (by rw [HYL.out, HA.out, ← HXS.out]; exact hmx)]
          exact Lib.hid rfl
        clear hR ha hb
        go_wp2_with fail
        refine (Int_any HR.out (by rw [HYL.out]; omega) (by rw [HYL.out]; exact ham) HYB.out _ HST.out).mono ?_
        rintro e wf ⟨rfl, hbf, hRf⟩
        have HBf := Lib.hid (HW.out.trans (hbf.below hwp HW.out.size))
        have HRf := Lib.hid hRf
        clear hbf hRf HW HR
        dsimp only
        go_wp2_with fail
        refine (Done_any HRf.out).mono ?_
        rw [show doneR ys (a : Int) 4 = 4 from by unfold doneR; rw [if_neg (by omega)]]
        rintro e wg ⟨rfl, hbg⟩
        have HBg := Lib.hid (Bel.then HBf.out hbg)
        have HRg := Lib.hid (HRf.out.below hbg)
        clear hbg HBf HRf
        go_wp2_with fail
        refine (Int_any HRg.out (by rw [HYL.out]; omega) (by rw [HYL.out]; exact ham) HYB.out _ (stepR_stop4 _ _)).mono ?_
        rintro e wh ⟨rfl, hbh, hRh⟩
        have HBh := Lib.hid (HBg.out.trans (hbh.below hwp HBg.out.size))
        have HRh := Lib.hid hRh
        clear hbh hRh HBg HRg
        dsimp only
        go_wp2_with fail
        refine (Count_any HRh.out (by rw [HYL.out]; omega) (by rw [HYL.out]; exact ham) HYB.out _ (stepR_stop4 _ _)).mono ?_
        rintro e wi ⟨rfl, hbi, hRi⟩
        have HBi := Lib.hid (HBh.out.trans (hbi.below hwp HBh.out.size))
        have HRi := Lib.hid hRi
        clear hbi hRi HBh HRh
        dsimp only
        go_wp2_with fail
        refine (Blob_any HRi.out (by rw [HYL.out]; omega) (by rw [HYL.out]; exact ham) HYB.out _ (stepB_stop4 _ _)).mono ?_
        rintro e wj ⟨rj, rfl, hbj, hRj, hownj⟩
        have HBj := Lib.hid (HBi.out.trans (hbj.below hwp HBi.out.size))
        have HRj := Lib.hid hRj
        obtain ⟨Aj, cj, rfl⟩ := hownj.sl.shape
        clear hbj hRj hownj HBi HRi
        dsimp only [List.length_nil]
        go_wp2_with fail
        refine (Done_any HRj.out).mono ?_
        rw [show doneR ys (a : Int) 4 = 4 from by unfold doneR; rw [if_neg (by omega)]]
        rintro e wk ⟨rfl, hbk⟩
        have HBk := Lib.hid (Bel.then HBj.out hbk)
        clear hbk HBj HRj
        go_wp2_with fail
        refine (shown_any _).mono ?_
        rintro e wl ⟨rfl, hbl⟩
        have HBl := Lib.hid (Bel.then HBk.out hbl)
        clear hbl HBk
        go_wp2_with fail
        go_ret
        exact ⟨rfl, HBl.out⟩
  · go_wp2_with fail
    refine (shown_any _).mono ?_
    rintro e w2 ⟨rfl, hb⟩
    have HB := Lib.hid hb
    clear hb
    go_wp2_with fail
    go_ret
    exact ⟨rfl, HB.out⟩
end Go.Proofs.Ytamnligooelmgaa
