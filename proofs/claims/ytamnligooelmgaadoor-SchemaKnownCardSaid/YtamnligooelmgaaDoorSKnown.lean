/- SchemaKnown: the walk. -/
import Derived.Test.YtamnligooelmgaaDoorSKnM
import Derived.Test.YtamnligooelmgaaDoorSKnG
import Derived.Test.YtamnligooelmgaaDoorSFitsL
import Derived.StillTailTactics
import Derived.Deep.RegionLaw
import Derived.Deep.AppendLies
import Derived.Deep.Cut
import Derived.Deep.CutBlock
set_option maxRecDepth 100000
set_option maxRecDepth 100000
set_option linter.unusedVariables false
set_option linter.unusedSimpArgs false
namespace Go.Proofs.YtamnligooelmgaaDoor
open Go.RowKit Go.BigFrame

abbrev nK : Array Value := #[.int .i64 (-9223372036854775808), .int .i64 (-2), .int .i64 (-1), .int .i64 0, .int .i64 1, .int .i64 2, .int .i64 3, .int .i64 4, .int .i64 5, .int .i64 6, .int .i64 8, .int .i64 9, .int .i64 9223372036854775807]
theorem nK_at {k : Nat} (h : k < 13) : ∃ x, nK[k]? = some (.int .i64 x) := by
  rcases (show k = 0 ∨ k = 1 ∨ k = 2 ∨ k = 3 ∨ k = 4 ∨ k = 5 ∨ k = 6 ∨ k = 7 ∨ k = 8 ∨ k = 9 ∨ k = 10 ∨ k = 11 ∨ k = 12 from by omega) with rfl | rfl | rfl | rfl | rfl | rfl | rfl | rfl | rfl | rfl | rfl | rfl | rfl
  all_goals exact ⟨_, rfl⟩
theorem kn_checks6 (D : Dc) (tv pv : Value) (h1 : D.tv = tv) (h2 : D.pv = pv) (ti fi op arg : Int) (w : World) (hD : D.In w w.heap.size) (hT : Tab w) :
    Calls Tryd.prog 3 #[.agg #[tv, pv], .int .i64 ti, .int .i64 fi, .int .i64 op, .int .i64 arg] w fun e w' => e = .returned (.bool true) ∧ Below w.heap.size w w' := by
  subst h1 h2; exact schemaChecks_any D ti fi op arg w hD hT
theorem kn_checks6' {D : Dc} {w : World} (hD : D.In w w.heap.size) {tv pv : Value} (h1 : D.tv = tv) (h2 : D.pv = pv) (ti fi op arg : Int) (hT : Tab w) :
    Calls Tryd.prog 3 #[.agg #[tv, pv], .int .i64 ti, .int .i64 fi, .int .i64 op, .int .i64 arg] w fun e w' => e = .returned (.bool true) ∧ Below w.heap.size w w' := by
  subst h1 h2; exact schemaChecks_any D ti fi op arg w hD hT
theorem kn_parts6 (D : Dc) (tv pv : Value) (h1 : D.tv = tv) (h2 : D.pv = pv) (ti op arg : Int) (w : World) (hD : D.In w w.heap.size) (hT : Tab w) (hi0 : -9223372036854775808 ≤ ti) (hi1 : ti ≤ 9223372036854775807) :
    Calls Tryd.prog 4 #[.agg #[tv, pv], .int .i64 ti, .int .i64 op, .int .i64 arg] w fun e w' => e = .returned (.bool true) ∧ Below w.heap.size w w' := by
  subst h1 h2; exact schemaParts_any D ti op arg w hD hT hi0 hi1
theorem kn_fits6 (D : Dc) (tv pv : Value) (h1 : D.tv = tv) (h2 : D.pv = pv) (arg : Int) (w : World) (hD : D.In w w.heap.size) (hT : Tab w) :
    Calls Tryd.prog 5 #[.agg #[tv, pv], .int .i64 arg] w fun e w' => e = .returned (.bool true) ∧ Below w.heap.size w w' := by
  subst h1 h2; exact schemaFits_any D arg w hD hT
set_option maxHeartbeats 64000000 in
theorem schemaKnown_any (w : World) (hT : Tab w) : Calls Tryd.prog 6 #[] w fun r w' => r = .returned (.bool true) ∧ Below w.heap.size w w' := by
  obtain ⟨j0, hj, hy0, hy1, hy2⟩ := info_parts infoTy
  obtain ⟨k0, hk, hx0, hx1, hx2⟩ := info_parts infoPj
  have HKJ := Lib.hid (And.intro hj (And.intro hy0 (And.intro hy1 hy2)))
  have HKP := Lib.hid (And.intro hk (And.intro hx0 (And.intro hx1 hx2)))
  clear hj hy0 hy1 hy2 hk hx0 hx1 hx2
  obtain ⟨W, hW⟩ : ∃ W, W = w.alloc (.cells nK 3) := ⟨_, rfl⟩
  have hgr : Below w.heap.size w W := by rw [hW]; exact Bel.grew (Below.refl _ _) _
  have hn : Has W w.heap.size nK := by rw [hW]; exact Has.new _ _ _
  have HN := Lib.hid hn
  have HT := Lib.hid (hT.later hgr)
  have HB := Lib.hid hgr
  have HW := Lib.hid hW
  clear hgr hn hT hW
  go_enter Tryd.func6, Tryd.ntmps6
  go_wp2_with fail
  rw [← HW.out]
  clear HW
  go_loopw [2] (fun i wr => ∃ k : Nat, k ≤ 13 ∧ i = .int .i64 k ∧ Below W.heap.size W wr) (fun i _ => 13 - (intOf i).toNat)
  case atStart => exact ⟨0, Nat.zero_le _, rfl, Below.refl _ _⟩
  case round =>
    obtain ⟨k, hk, rfl, hb⟩ := hrel
    have HBk := Lib.hid hb
    clear hb
    by_cases hkl : k < 13
    · obtain ⟨W1, rfl⟩ : ∃ W1, W1 = wr := ⟨_, rfl⟩
      have hkI : (k : Int) < 13 := by omega
      go_wp2_with fail
      go_loopw [3] (fun i wr => ∃ q : Int, 0 ≤ q ∧ q ≤ 13 ∧ i = .int .i64 q ∧ Below W1.heap.size W1 wr) (fun i _ => (13 - intOf i).toNat)
      case atStart => exact ⟨0, by omega, by omega, rfl, Below.refl _ _⟩
      case round =>
        obtain ⟨q, hq0, hq1, rfl, hb⟩ := hrel
        have HBq := Lib.hid (Bel.then HBk.out hb)
        have HB1 := Lib.hid hb
        clear hb
        by_cases hql : q < 13
        · obtain ⟨wo, rfl⟩ : ∃ W, W = wr := ⟨_, rfl⟩
          obtain ⟨x, hx⟩ := nK_at hkl
          have HX := Lib.hid hx
          clear hx
          have hqI : q < 13 := hql
          go_wp2_with fail
          refine (shop_is wo).mono ?_
          rintro e1 w1 ⟨rfl, hw1⟩
          have hat1 := shopW_at wo
          have hb1 := (shopW_in wo).2.2
          have hfz1 := fun (g o : Nat) (hg : wo.heap.size ≤ g) => shopW_fz wo hg o
          have hs1 : w1.heap.size = wo.heap.size + 1 + 1 + 1 + 1 + 1 := by rw [hw1]; simp [shopW]
          rw [← hw1] at hat1 hb1 hfz1
          have HFZ1 := Lib.hid hfz1
          obtain ⟨b, hbe⟩ : ∃ b, b = wo.heap.size := ⟨_, rfl⟩
          obtain ⟨d, hde⟩ : ∃ d, d = w1.heap.size := ⟨_, rfl⟩
          have HDE := Lib.hid hde
          obtain ⟨W2, hW2⟩ : ∃ W2, W2 = w1.alloc (.cells #[.slice (some ⟨b + 1 + 1 + 1 + 1, 0, none⟩) 1 1, .slice (some ⟨b + 1 + 1 + 1, 0, none⟩) 3 3] 25) := ⟨_, rfl⟩
          have hgr2 : Below w1.heap.size w1 W2 := by rw [hW2]; exact Bel.grew (Below.refl _ _) _
          have hmade : Made wo b d W2 := ⟨by rw [← hbe] at hat1; exact hat1.later hgr2, Bel.then hb1 hgr2, by rw [hW2, hde]; exact Has.new _ _ _, by omega, by omega⟩
          have hfz2 : ∀ g, b ≤ g → g < d → ∀ o, W2.frozen? ⟨g, o, none⟩ = false := fun g h0 h1 o => by
            rw [hW2, frozen?_alloc_cells]
            exact HFZ1.out g o (by omega)
          have f1 := hfz2 (b + 1) (by omega) (by omega)
          have f2 := hfz2 (b + 1 + 1) (by omega) (by omega)
          have f3 := hfz2 (b + 1 + 1 + 1) (by omega) (by omega)
          have HM := Lib.hid hmade
          have hne1 : w.heap.size ≠ b + 1 + 1 := by have := HN.out.1; have := HBq.out.size; omega
          have hne2 : b + 1 + 1 ≠ w.heap.size := Ne.symm hne1
          have hnk : W2.cell? ⟨w.heap.size, k, none⟩ = some (.int .i64 x) := ((HN.out.later (Bel.then HBq.out hmade.be)).2 k).trans HX.out
          have hnl := (HN.out.later (Bel.then HBq.out hmade.be)).1
          have hty : W2.cell? ⟨b + 1 + 1 + 1 + 1, 0, none⟩ = some (.slice (some ⟨b + 1 + 1, 0, none⟩) 6 6) := hmade.at_.t.2 0
          have htyl := hmade.at_.t.1
          have cf8 : W2.cell? ⟨b + 1 + 1, 8, none⟩ = some (.int .i64 3) := hmade.at_.f.2 8
          have cf5 : W2.cell? ⟨b + 1 + 1, 5, none⟩ = some (.int .i64 3) := hmade.at_.f.2 5
          have cf13 : W2.cell? ⟨b + 1 + 1, 13, none⟩ = some (.int .i64 2) := hmade.at_.f.2 13
          have cf15 : W2.cell? ⟨b + 1 + 1, 15, none⟩ = some (.slice (some ⟨b + 1, 0, none⟩) 3 3) := hmade.at_.f.2 15
          have cf6 : W2.cell? ⟨b + 1 + 1, 6, none⟩ = some (.bool false) := hmade.at_.f.2 6
          have cf1 : W2.cell? ⟨b + 1 + 1, 1, none⟩ = some (.int .i64 1) := hmade.at_.f.2 1
          have cm2 : W2.cell? ⟨b + 1, 2, none⟩ = some (.int .i64 0) := hmade.at_.m.2 2
          have cm7 : W2.cell? ⟨b + 1, 7, none⟩ = some (.int .i64 0) := hmade.at_.m.2 7
          have cm8 : W2.cell? ⟨b + 1, 8, none⟩ = some (.int .i64 0) := hmade.at_.m.2 8
          have cp0 : W2.cell? ⟨b + 1 + 1 + 1, 0, none⟩ = some (.int .i64 0) := hmade.at_.p.2 0
          have cp6 : W2.cell? ⟨b + 1 + 1 + 1, 6, none⟩ = some (.int .i64 2) := hmade.at_.p.2 6
          have cp13 : W2.cell? ⟨b + 1 + 1 + 1, 13, none⟩ = some (.int .i64 4) := hmade.at_.p.2 13
          have cp3 : W2.cell? ⟨b + 1 + 1 + 1, 3, none⟩ = some (.int .i64 0) := hmade.at_.p.2 3
          have cp7 : W2.cell? ⟨b + 1 + 1 + 1, 7, none⟩ = some (.int .i64 2) := hmade.at_.p.2 7
          have cp14 : W2.cell? ⟨b + 1 + 1 + 1, 14, none⟩ = some (.int .i64 4) := hmade.at_.p.2 14
          have hfl := hmade.at_.f.1
          have hml := hmade.at_.m.1
          have hpl := hmade.at_.p.1
          have hd0 : W2.cell? ⟨d, 0, none⟩ = some (.slice (some ⟨b + 1 + 1 + 1 + 1, 0, none⟩) 1 1) := hmade.dc.2 0
          have hd1 : W2.cell? ⟨d, 1, none⟩ = some (.slice (some ⟨b + 1 + 1 + 1, 0, none⟩) 3 3) := hmade.dc.2 1
          have hdl := hmade.dc.1
          have HW2 := Lib.hid hW2
          dsimp only [shopV, shopD, declV]
          rw [← hbe]
          clear hat1 hb1 hfz1 hs1 hw1 hbe hde hW2 hgr2 hmade hfz2 HFZ1
          go_upto_region 9 with fail
          rw [← HW2.out, ← HDE.out]
          clear HW2 HDE
          go_upto_block 4 with fail
          go_cut [] from 29 to 208 (fun wx => MutSt wo b d wx)
          case first =>
            rcases (show q = 0 ∨ q = 1 ∨ q = 2 ∨ q = 3 ∨ q = 4 ∨ q = 5 ∨ q = 6 ∨ q = 7 ∨ q = 8 ∨ q = 9 ∨ q = 10 ∨ q = 11 ∨ q = 12 from by omega) with rfl | rfl | rfl | rfl | rfl | rfl | rfl | rfl | rfl | rfl | rfl | rfl | rfl
            · as_aux_lemma =>
                go_wp2_with fail
                go_meet
                exact mut0 HM.out x
            · as_aux_lemma =>
                go_wp2_with fail
                go_meet
                exact mut1 HM.out x
            · as_aux_lemma =>
                go_wp2_with fail
                go_meet
                exact mut2 HM.out x
            · as_aux_lemma =>
                go_wp2_with fail
                go_region
                go_wp2_with fail
                go_meet
                first | exact (mut3 HM.out x).drew | exact mut3 HM.out.drew x
            · as_aux_lemma =>
                go_wp2_with fail
                go_region
                go_wp2_with fail
                go_meet
                first | exact (mut4 HM.out x).drew | exact mut4 HM.out.drew x
            · as_aux_lemma =>
                go_wp2_with fail
                go_region
                go_wp2_with fail
                go_meet
                first | exact (mut5 HM.out x).drew | exact mut5 HM.out.drew x
            · as_aux_lemma =>
                go_wp2_with fail
                go_region
                go_wp2_with fail
                go_meet
                first | exact (mut6 HM.out x).drew | exact mut6 HM.out.drew x
            · as_aux_lemma =>
                go_wp2_with fail
                go_region
                go_wp2_with fail
                go_meet
                first | exact (mut7 HM.out x).drew | exact mut7 HM.out.drew x
            · as_aux_lemma =>
                go_wp2_with fail
                go_region
                go_wp2_with fail
                go_meet
                first | exact (mut8 HM.out x).drew | exact mut8 HM.out.drew x
            · as_aux_lemma =>
                go_wp2_with fail
                go_region
                go_wp2_with fail
                go_meet
                first | exact (mut9 HM.out x).drew | exact mut9 HM.out.drew x
            · as_aux_lemma =>
                go_wp2_with fail
                go_region
                go_wp2_with fail
                go_meet
                first | exact (mut10 HM.out x).drew | exact mut10 HM.out.drew x
            · as_aux_lemma =>
                go_wp2_with fail
                go_region
                go_wp2_with fail
                go_meet
                first | exact (mut11 HM.out x).drew | exact mut11 HM.out.drew x
            · as_aux_lemma =>
                go_wp2_with fail
                go_meet
                exact mut12 HM.out x
          case rest =>
            as_aux_lemma =>
              clear hne1 hne2 hnk hnl hty htyl hfl hml hpl hd0 hd1 hdl f1 f2 f3 cf8 cf5 cf13 cf15 cf6 cf1 cm2 cm7 cm8 cp0 cp6 cp13 cp3 cp7 cp14
              obtain ⟨fs, ms, ps, hs, hbe, hdc⟩ := hcut
              have HS := Lib.hid hs.inn
              have HT2 := Lib.hid (HT.out.later (Bel.then HBq.out hbe))
              have HB2 := Lib.hid hbe
              have hnk : wc.cell? ⟨w.heap.size, k, none⟩ = some (.int .i64 x) := ((HN.out.later (Bel.then HBq.out hbe)).2 k).trans HX.out
              have hnl := (HN.out.later (Bel.then HBq.out hbe)).1
              have hd0 : wc.cell? ⟨d, 0, none⟩ = some (.slice (some ⟨b + 1 + 1 + 1 + 1, 0, none⟩) 1 1) := hdc.2 0
              have hd1 : wc.cell? ⟨d, 1, none⟩ = some (.slice (some ⟨b + 1 + 1 + 1, 0, none⟩) 3 3) := hdc.2 1
              have hdl := hdc.1
              clear hs hbe hdc
              have hk0 : (0 : Int) ≤ (k : Int) := by omega
              go_wp2_with fail
              refine wp_region_later (by kernel_rfl) (by kernel_rfl) ?_
              repeat (any_goals (first | go_big_quiet_step (first
                | (go_at_call 3; have hC := fun ti fi op arg => kn_checks6 (shopX b fs ps) _ _ rfl rfl ti fi op arg (Later.w ‹_›) (HS.out.later (Later.h ‹_›)) (HT2.out.later (Later.h ‹_›)); with_reducible exact Later.call (hC _ _ _ _))
                | (go_at_call 4; have hC := fun op arg => kn_parts6 (shopX b fs ps) _ _ rfl rfl (k : Int) op arg (Later.w ‹_›) (HS.out.later (Later.h ‹_›)) (HT2.out.later (Later.h ‹_›)) (by omega) (by omega); with_reducible exact Later.call (hC _ _))
                | (go_at_call 5; have hC := fun arg => kn_fits6 (shopX b fs ps) _ _ rfl rfl arg (Later.w ‹_›) (HS.out.later (Later.h ‹_›)) (HT2.out.later (Later.h ‹_›)); with_reducible exact Later.call (hC _)))))
              refine wpQuiet_nil ?_
              intro x2
              obtain ⟨w10, hb10⟩ := x2
              dsimp only
              have HB10 := Lib.hid (Bel.then HB1.out (Bel.then HB2.out hb10))
              clear hb10 hnk hnl hd0 hd1 hdl
              go_wp2_with fail
              go_roundw
              case rel => exact ⟨q + 1, by omega, by omega, rfl, HB10.out⟩
              case measure => simp [intOf]; omega
        · have hqe : q = 13 := by omega
          subst hqe
          go_wp2_with fail
          go_roundw
          case rel => exact ⟨k + 1, by omega, by go_num, HBq.out⟩
          case measure => simp [intOf]; omega
    · have hk13 : k = 13 := by omega
      subst hk13
      rw [show ((13 : Nat) : Int) = 13 from rfl]
      obtain ⟨wA, rfl⟩ : ∃ W, W = wr := ⟨_, rfl⟩
      have HT1 := Lib.hid (HT.out.later HBk.out)
      have HB1 := Lib.hid (Bel.then HB.out HBk.out)
      clear HN HT HB HBk hk hkl
      go_wp2_with fail
      refine (shop_is wA).mono ?_
      rintro e1 w1 ⟨rfl, hw1⟩
      have hat1 := shopW_at wA
      have hb1 := (shopW_in wA).2.2
      rw [← hw1] at hat1 hb1
      have HA1 := Lib.hid hat1
      have HB2 := Lib.hid (Bel.then HB1.out hb1)
      have HT2 := Lib.hid (HT1.out.later hb1)
      obtain ⟨b, hbe⟩ : ∃ b, b = wA.heap.size := ⟨_, rfl⟩
      rw [← hbe] at HA1
      dsimp only [shopV, shopD, declV]
      rw [← hbe]
      clear hat1 hb1 hw1 HT1 HB1 hbe
      obtain ⟨W2, hW2⟩ : ∃ W2, W2 = w1.alloc (.cells #[.slice (some ⟨b + 1 + 1 + 1 + 1, 0, none⟩) 1 1, .slice (some ⟨b + 1 + 1 + 1, 0, none⟩) 3 3] 25) := ⟨_, rfl⟩
      have hgr2 : Below w1.heap.size w1 W2 := by rw [hW2]; exact Bel.grew (Below.refl _ _) _
      have hd2 : Has W2 w1.heap.size #[.slice (some ⟨b + 1 + 1 + 1 + 1, 0, none⟩) 1 1, .slice (some ⟨b + 1 + 1 + 1, 0, none⟩) 3 3] := by rw [hW2]; exact Has.new _ _ _
      have HA := Lib.hid (HA1.out.later hgr2)
      have HB := Lib.hid (Bel.then HB2.out hgr2)
      have HD := Lib.hid hd2
      have HT := Lib.hid (HT2.out.later hgr2)
      have HW2 := Lib.hid hW2
      obtain ⟨db, hdb⟩ : ∃ d, d = w1.heap.size := ⟨_, rfl⟩
      rw [← hdb] at HD
      have HDB := Lib.hid hdb
      clear hgr2 hd2 hW2 HA1 HB2 HT2 hdb
      go_wp2_with fail
      rw [← HW2.out, ← HDB.out]
      clear HW2 HDB
      go_loopw [7] (fun i wr => ∃ k : Nat, k ≤ 20 ∧ i = .int .i64 k ∧ Below W2.heap.size W2 wr) (fun i _ => 20 - (intOf i).toNat)
      case atStart => exact ⟨0, Nat.zero_le _, rfl, Below.refl _ _⟩
      case round =>
        obtain ⟨i, hi, rfl, hb⟩ := hrel
        have HBi := Lib.hid hb
        clear hb
        by_cases hil : i < 20
        · obtain ⟨W3, rfl⟩ : ∃ W, W = wr := ⟨_, rfl⟩
          have hiI : (i : Int) < 20 := by omega
          have HA3 := Lib.hid (HA.out.later HBi.out)
          have HD3 := Lib.hid (HD.out.later HBi.out)
          have HT3 := Lib.hid (HT.out.later HBi.out)
          have hd := HD3.out.2
          have hdl := HD3.out.1
          go_wp2_with fail
          have hcopy := copyDecl_any (shopX b (shF b) shopPs) W3 HA3.out.inn (len_sh b) (show 3 ≤ 1099511627776 by decide)
          dsimp only [declV] at hcopy
          refine hcopy.mono ?_
          clear hcopy
          rintro e4 w4 ⟨E, rfl, hE, hpl, _, hb4⟩
          obtain ⟨fs, f, g, cf, tb, tc, A', c', hco⟩ := cop_of hE hpl
          dsimp only [declV]
          rw [hco.tv, hco.pv]
          obtain ⟨W5, hW5⟩ : ∃ W, W = w4.alloc (.cells #[.slice (some ⟨tb, 0, none⟩) 1 tc, .slice A' 3 c'] 25) := ⟨_, rfl⟩
          have hgr5 : Below w4.heap.size w4 W5 := by rw [hW5]; exact Bel.grew (Below.refl _ _) _
          have he5 : Has W5 w4.heap.size #[.slice (some ⟨tb, 0, none⟩) 1 tc, .slice A' 3 c'] := by rw [hW5]; exact Has.new _ _ _
          have HE5 := Lib.hid he5
          have HEO := Lib.hid (hE.later hgr5)
          have HB35 := Lib.hid (Bel.then hb4 hgr5)
          have HCO := Lib.hid hco
          have HW5 := Lib.hid hW5
          have hct : W5.cell? ⟨tb, 0, none⟩ = some (.slice (some ⟨g, 0, none⟩) 6 cf) := (hgr5.cell (p := ⟨tb, 0, none⟩) hco.lt).trans hco.ct
          obtain ⟨u, hu⟩ := hco.cg
          have hcg : W5.cell? ⟨g, 15, none⟩ = some u := (hgr5.cell (p := ⟨g, 15, none⟩) hco.lg).trans hu
          have hfg : ∀ o, W5.frozen? ⟨g, o, none⟩ = false := fun o => (hgr5.frozen (p := ⟨g, o, none⟩) hco.lg).trans (hco.fg o)
          have hlg : g < W5.heap.size := by have := hco.lg; have := hgr5.size; omega
          have hlt : tb < W5.heap.size := by have := hco.lt; have := hgr5.size; omega
          have HFG := Lib.hid hfg
          have HCT := Lib.hid hct
          have hec := he5.2
          have hel := he5.1
          clear hE hpl hb4 hgr5 he5 hco hW5 hu
          go_upto_region 45 with fail
          rw [← HW5.out]
          clear HW5 hd hdl
          have hmk := run_make_mv i (by omega)
          go_region
          obtain ⟨X, hX⟩ : ∃ X, X = W5.setCell ⟨g, 15, none⟩ (.slice (some ⟨W5.heap.size, 0, none⟩) i i) := ⟨_, rfl⟩
          rw [← hX]
          have hsx : X.heap.size = W5.heap.size := by rw [hX]; simp [World.setCell]
          obtain ⟨W6, hW6⟩ : ∃ W, W = (X.alloc (.cells (intsV (List.replicate (i * 4) 0)) 39)).drew := ⟨_, rfl⟩
          rw [← hW6]
          have hbx : Below X.heap.size X W6 := by rw [hW6]; exact Below.drew (Bel.grew (Below.refl _ _) _)
          have hm6 : Has W6 W5.heap.size (intsV (List.replicate (i * 4) 0)) := by
            rw [hW6, ← hsx]
            exact (Has.new X (intsV (List.replicate (i * 4) 0)) 39).later (Below.drew (Below.refl _ _))
          have hmf : ∀ o, W6.frozen? ⟨W5.heap.size, o, none⟩ = false := by
            intro o
            rw [hW6]
            show (X.alloc _).frozen? _ = false
            rw [frozen?_alloc_cells]
            unfold World.frozen?
            rw [hsx.symm, Array.getElem?_eq_none (Nat.le_refl _)]
          have hex : Has X w4.heap.size #[.slice (some ⟨tb, 0, none⟩) 1 tc, .slice A' 3 c'] := by
            rw [hX]; exact HE5.out.setOther_ (by have := HCO.out.lg; omega) _ _
          have hcx : X.cell? ⟨tb, 0, none⟩ = some (.slice (some ⟨g, 0, none⟩) 6 cf) := by
            rw [hX]; exact (World.cell?_setCell_other _ ⟨g, 15, none⟩ ⟨tb, 0, none⟩ _ (by simp [HCO.out.ne])).trans hct
          have hgx : X.cell? ⟨g, 15, none⟩ = some (.slice (some ⟨W5.heap.size, 0, none⟩) i i) := by
            rw [hX]; exact World.cell?_setCell_same _ _ _ hcg
          have hgl : W3.heap.size ≤ g := by
            have h := HEO.out.2.1 ⟨fs, .slice (some ⟨g, 0, none⟩) 6 cf⟩ (by rw [HCO.out.ts]; simp)
            exact own_base h.1.2 g rfl
          have hb36 : Below W3.heap.size W3 W6 := by
            have h1 : Below W3.heap.size W3 X := by rw [hX]; exact HB35.out.setCell (p := ⟨g, 15, none⟩) hgl _
            exact Bel.then h1 hbx
          have HEX := Lib.hid hex
          have HCX := Lib.hid hcx
          have HGX := Lib.hid hgx
          have HXE := Lib.hid hX
          have HBX := Lib.hid hbx
          have HM6 := Lib.hid hm6
          have HMF := Lib.hid hmf
          have HB36 := Lib.hid hb36
          have HXD := Lib.hid hX
          have HLG : Hid (g < X.heap.size) := Lib.hid (by rw [hsx]; exact hlg)
          have HLT : Hid (tb < X.heap.size) := Lib.hid (by rw [hsx]; exact hlt)
          obtain ⟨mb, hmb⟩ : ∃ m, m = W5.heap.size := ⟨_, rfl⟩
          have HXLE : Hid (W3.heap.size ≤ X.heap.size) := Lib.hid (by rw [hsx]; exact HB35.out.size)
          have HMB : Hid (mb = X.heap.size) := Lib.hid (by rw [hsx, hmb])
          rw [← hmb] at HM6 HMF HGX HXD
          obtain ⟨eb, heb⟩ : ∃ m, m = w4.heap.size := ⟨_, rfl⟩
          rw [← heb] at HEX HE5
          rw [← heb]
          clear hX hsx hbx hm6 hmf hex hcx hgx hgl hb36 hmb heb hec hel hct hcg hfg hlg hlt HFG HCT hmk hW6
          go_wp2_with fail
          go_loopw [9] (fun z wr => ∃ k : Nat, k ≤ i ∧ z = .int .i64 k ∧ Hid ((∃ l : List Int, l.length = i * 4 ∧ Has wr mb (intsV l)) ∧ Below X.heap.size X wr ∧ Below W3.heap.size W3 wr ∧ ∀ o, wr.frozen? ⟨mb, o, none⟩ = false)) (fun z _ => i - (intOf z).toNat)
          case atStart => exact ⟨0, Nat.zero_le _, rfl, Lib.hid ⟨⟨_, by simp, HM6.out⟩, HBX.out, HB36.out, HMF.out⟩⟩
          case round =>
            obtain ⟨k, hk, rfl, HS⟩ := hrel
            obtain ⟨l, hll, hml⟩ := HS.out.1
            have he := (HEX.out.later HS.out.2.1).2
            have hel := (HEX.out.later HS.out.2.1).1
            have hct := (HS.out.2.1.cell (p := ⟨tb, 0, none⟩) HLT.out).trans HCX.out
            have hcg := (HS.out.2.1.cell (p := ⟨g, 15, none⟩) HLG.out).trans HGX.out
            have hgl : g < wr.heap.size := by have := HLG.out; have := HS.out.2.1.size; omega
            have htl : tb < wr.heap.size := by have := HLT.out; have := HS.out.2.1.size; omega
            by_cases hki : k < i
            · have hkiI : (k : Int) < (i : Int) := by omega
              have hmf := HS.out.2.2.2 (k * 4 + 2)
              obtain ⟨y, hy⟩ : ∃ y, l[k * 4 + 2]? = some y := ⟨_, List.getElem?_eq_getElem (by omega)⟩
              have hmc : wr.cell? ⟨mb, k * 4 + 2, none⟩ = some (.int .i64 y) := by
                rw [hml.2]
                simp [hy]
              have HLL := Lib.hid hll
              have HML := Lib.hid hml
              clear hll hml hy
              go_wp2_with fail
              go_roundw
              case rel =>
                refine ⟨k + 1, by omega, by go_num, Lib.hid ⟨⟨l.set (k * 4 + 2) (-1), by rw [List.length_set]; exact HLL.out, ?_⟩, ?_, ?_, fun o => ?_⟩⟩
                · rw [← ints_set]
                  exact HML.out.set_ (by simp; have := HLL.out; omega) _
                · exact HS.out.2.1.setCell (p := ⟨mb, k * 4 + 2, none⟩) (by have := HMB.out; show X.heap.size ≤ mb; omega) _
                · exact HS.out.2.2.1.setCell (p := ⟨mb, k * 4 + 2, none⟩) (by have := HMB.out; have := HB36.out.size; have := HBX.out.size; show W3.heap.size ≤ mb; have := HXLE.out; omega) _
                · rw [World.frozen?_setCell]; exact HS.out.2.2.2 o
              case measure => simp [intOf]; omega
            · have hke : i = k := by omega
              subst hke
              obtain ⟨W7, rfl⟩ : ∃ W, W = wr := ⟨_, rfl⟩
              obtain ⟨ms, hms, hmsl⟩ := mv_in hml hll
              have hbx7 := HS.out.2.1
              rw [HXD.out] at hbx7
              have hs5 : (W5.setCell ⟨g, 15, none⟩ (.slice (some ⟨mb, 0, none⟩) i i)).heap.size = W5.heap.size := by simp [World.setCell]
              rw [hs5] at hbx7
              have HEIN : Hid ((⟨[⟨fs.set 3 ⟨f.k, f.p, f.fl, ms, .slice (some ⟨mb, 0, none⟩) i i⟩, .slice (some ⟨g, 0, none⟩) 6 cf⟩], E.ps, E.tv, E.pv⟩ : Dc).In W7 W7.heap.size) := Lib.hid (one_in (j := 3) HEO.out HCO.out.ts HCO.out.f3 hbx7 hmsl)
              have HETV : Hid (E.tv = .slice (some ⟨tb, 0, none⟩) 1 tc ∧ E.pv = .slice A' 3 c') := Lib.hid ⟨HCO.out.tv, HCO.out.pv⟩
              have HEX7 := Lib.hid (HEX.out.later HS.out.2.1)
              have HB7 := Lib.hid (Bel.then HBi.out HS.out.2.2.1)
              have HA7 := Lib.hid (HA.out.later HB7.out)
              have HD7 := Lib.hid (HD.out.later HB7.out)
              have HT7 := Lib.hid (HT.out.later HB7.out)
              clear hk hll hml he hel hct hcg hgl htl hki hbx7 hs5 hmsl hms HS HEX HCX HGX HXE HBX HM6 HMF HB36 HLG HLT HMB HXD HE5 HEO HB35 HCO HA3 HD3 HT3
              have hd := HD7.out.2
              have hdl := HD7.out.1
              go_wp2_with fail
              have hcopy := copyDecl_any (shopX b (shF b) shopPs) W7 HA7.out.inn (len_sh b) (show 3 ≤ 1099511627776 by decide)
              dsimp only [declV] at hcopy
              refine hcopy.mono ?_
              clear hcopy
              rintro e8 w8 ⟨G, rfl, hG, hgp, _, hb8⟩
              obtain ⟨fs2, f2, g2, cf2, tb2, tc2, A2, c2, hco2⟩ := cop_of hG hgp
              have hgst := GSt.first (gb := w8.heap.size) hG ⟨shF b, .slice (some ⟨b + 1 + 1, 0, none⟩) 6 6⟩ ⟨0, 2, 2, 0, 1⟩ (Nat.le_refl _)
              have HGL : Hid (G.ts.length = 1 ∧ G.ps.length = 3) := Lib.hid ⟨by rw [hco2.ts]; rfl, by rw [hco2.ps]; rfl⟩
              rw [hco2.tv, hco2.pv] at hgst
              dsimp only [declV]
              rw [hco2.tv, hco2.pv]
              obtain ⟨W9, hW9⟩ : ∃ W, W = w8.alloc (.cells #[.slice (some ⟨tb2, 0, none⟩) 1 tc2, .slice A2 3 c2] 25) := ⟨_, rfl⟩
              have hgr9 : Below w8.heap.size w8 W9 := by rw [hW9]; exact Bel.grew (Below.refl _ _) _
              have hg9 : Has W9 w8.heap.size #[.slice (some ⟨tb2, 0, none⟩) 1 tc2, .slice A2 3 c2] := by rw [hW9]; exact Has.new _ _ _
              have hgf : ∀ o, W9.frozen? ⟨w8.heap.size, o, none⟩ = false := by intro o; rw [hW9]; simp [go_sem]
              obtain ⟨gb, hgb⟩ : ∃ m, m = w8.heap.size := ⟨_, rfl⟩
              rw [← hgb] at hg9 hgf hgst
              have HGB : Hid (W7.heap.size ≤ gb) := Lib.hid (by rw [hgb]; exact hb8.size)
              have HG9 := Lib.hid hg9
              have HGF := Lib.hid hgf
              have HGS := Lib.hid (hgst.1.later hgr9)
              have HGN := Lib.hid hgst.2
              have HB79 := Lib.hid (Bel.then hb8 hgr9)
              have HW9 := Lib.hid hW9
              have HGE := Lib.hid hgb
              clear hG hgp hb8 hco2 hgst hgr9 hg9 hgf hgb hW9 hd hdl
              go_upto_region 51 with fail
              rw [← HW9.out, ← HGE.out]
              clear HW9 HGE
              go_wp2_with fail
              go_loopw [11] (fun z wr => ∃ k : Nat, k ≤ i ∧ z = .int .i64 k ∧ ∃ (AT : Option Addr) (nT cT : Nat) (AP : Option Addr) (nP cP : Nat), nT = 1 + k ∧ nP = 3 + k ∧ Hid (GR W7 wr gb k k G ⟨shF b, .slice (some ⟨b + 1 + 1, 0, none⟩) 6 6⟩ ⟨0, 2, 2, 0, 1⟩ (.slice AT nT cT) (.slice AP nP cP))) (fun z _ => i - (intOf z).toNat)
              case atStart => exact ⟨0, Nat.zero_le _, rfl, _, _, _, _, _, _, rfl, rfl, Lib.hid ⟨HG9.out, HGS.out, HB79.out, HGF.out⟩⟩
              case round =>
                obtain ⟨k, hk, rfl, AT, nT, cT, AP, nP, cP, hnT, hnP, HS⟩ := hrel
                have hg := HS.out.1.2
                have hgl := HS.out.1.1
                have hgf := HS.out.2.2.2
                have hd := (HD7.out.later HS.out.2.2.1).2
                have hdl := (HD7.out.later HS.out.2.2.1).1
                by_cases hki : k < i
                · have hkiI : (k : Int) < (i : Int) := by omega
                  have hty : wr.cell? ⟨b + 1 + 1 + 1 + 1, 0, none⟩ = some (.slice (some ⟨b + 1 + 1, 0, none⟩) 6 6) := (HA7.out.later HS.out.2.2.1).t.2 0
                  have htyl := (HA7.out.later HS.out.2.2.1).t.1
                  obtain ⟨XS, hXS⟩ : ∃ XS, XS = (((G.ts ++ List.replicate k (⟨shF b, .slice (some ⟨b + 1 + 1, 0, none⟩) 6 6⟩ : Ty)).map Ty.cells).flatten) := ⟨_, rfl⟩
                  have hrow := (HS.out.2.1.ts.later (Below.drew (Below.refl wr.heap.size wr))).2
                  rw [← hXS, List.length_map, List.length_append, List.length_replicate, HGL.out.1, ← hnT] at hrow
                  have HRW := Lib.hid hrow
                  have HXS := Lib.hid hXS
                  have hnT8 : nT ≤ 40 := by omega
                  have hlow : W7.heap.size ≤ wr.heap.size := HS.out.2.2.1.size
                  have hne : gb ≠ wr.heap.size := by omega
                  have hne' : wr.heap.size ≠ gb := by omega
                  have HNT := Lib.hid hnT
                  have HNP := Lib.hid hnP
                  clear hrow hXS hnT hnP
                  go_wp2_with fail
                  go_cut [] from 248 to 256 (fun wx => ∃ (AU : Option Addr) (cU : Nat), Hid (GR W7 wx gb (k + 1) k G ⟨shF b, .slice (some ⟨b + 1 + 1, 0, none⟩) 6 6⟩ ⟨0, 2, 2, 0, 1⟩ (.slice AU (nT + 1) cU) (.slice AP nP cP)))
                  case first =>
                    as_aux_lemma =>
                      obtain ⟨hj, hy0, hy1, hy2⟩ := HKJ.out
                      go_region_law (first
                        | (refine step_append_lies _ (by rfl) _ _ _ (by rfl) W7.heap.size 45 j0 _ 1 24 Tryd.underlying22 hj hy0 hy1 hy2 rfl (by decide) (.slice AT nT cT) nT _ (by rfl) (HRW.out.alloc _) ⟨wr.heap.size, 0, none⟩ 1 1 [.slice (some ⟨b + 1 + 1, 0, none⟩) 6 6] (by rfl) (by rfl) (cells_newL wr.drew _ _) (by intro u hu; simp at hu; rcases hu with rfl; rfl) (by omega) (by unfold maxLen; omega) (by omega) (by show W7.heap.size ≤ (wr.alloc _).heap.size; rw [World.size_alloc]; exact Nat.le_succ_of_le hlow) (wr.heap.size + 1) (by simp) ?_; intro gU cU w4 hown4 hgrow4 hat4 hlt4; obtain ⟨c1, c2, c3⟩ := GR.cell (cs := #[.slice (some ⟨b + 1 + 1, 0, none⟩) 6 6]) (t := 45) HS.out HS.out.2.1.nt hgrow4; have HOW4 := Lib.hid hown4; have HG4 := Lib.hid hgrow4; have HAT := Lib.hid hat4; clear hown4 hgrow4 hat4))
                      all_goals
                        go_wp2_with fail
                        go_meet
                        exact ⟨_, _, Lib.hid (GR.addT (cs := #[.slice (some ⟨b + 1 + 1, 0, none⟩) 6 6]) (t := 45) HS.out HGN.out (by rw [HGL.out.1]; exact HNT.out) HGB.out HG4.out HOW4.out HXS.out HAT.out)⟩
                  case rest =>
                    obtain ⟨AU, cU, HS1⟩ := hcut
                    clear hg hgl hgf hd hdl hty htyl HRW HXS hlow hne hne'
                    have hg := HS1.out.1.2
                    have hgl := HS1.out.1.1
                    have hgf := HS1.out.2.2.2
                    have hd := (HD7.out.later HS1.out.2.2.1).2
                    have hdl := (HD7.out.later HS1.out.2.2.1).1
                    have hpj : ∀ o, wc.cell? ⟨b + 1 + 1 + 1, o, none⟩ = (shopC4)[o]? := (HA7.out.later HS1.out.2.2.1).p.2
                    have h5 : wc.cell? ⟨b + 1 + 1 + 1, 5, none⟩ = some (.int .i64 0) := hpj 5
                    have h6 : wc.cell? ⟨b + 1 + 1 + 1, 6, none⟩ = some (.int .i64 2) := hpj 6
                    have h7 : wc.cell? ⟨b + 1 + 1 + 1, 7, none⟩ = some (.int .i64 2) := hpj 7
                    have h8 : wc.cell? ⟨b + 1 + 1 + 1, 8, none⟩ = some (.int .i64 0) := hpj 8
                    have h9 : wc.cell? ⟨b + 1 + 1 + 1, 9, none⟩ = some (.int .i64 1) := hpj 9
                    have hpjl := (HA7.out.later HS1.out.2.2.1).p.1
                    obtain ⟨XS, hXS⟩ : ∃ XS, XS = (((G.ps ++ List.replicate k (⟨0, 2, 2, 0, 1⟩ : Pj)).map Pj.cells).flatten) := ⟨_, rfl⟩
                    have hrow := (HS1.out.2.1.ps.later (Below.drew (Below.refl wc.heap.size wc))).2
                    rw [← hXS, List.length_map, List.length_append, List.length_replicate, HGL.out.2, ← HNP.out] at hrow
                    have HRW := Lib.hid hrow
                    have HXS := Lib.hid hXS
                    have hnP8 : nP ≤ 40 := by have := HNP.out; omega
                    have hlow : W7.heap.size ≤ wc.heap.size := HS1.out.2.2.1.size
                    have hne : gb ≠ wc.heap.size := by omega
                    have hne' : wc.heap.size ≠ gb := by omega
                    clear hrow hXS hpj
                    go_wp2_with fail
                    obtain ⟨hk', hx0, hx1, hx2⟩ := HKP.out
                    go_region_law (first
                      | (refine step_append_lies _ (by rfl) _ _ _ (by rfl) W7.heap.size 47 k0 _ 5 40 Tryd.underlying23 hk' hx0 hx1 hx2 rfl (by decide) (.slice AP nP cP) nP _ (by rfl) (HRW.out.alloc _) ⟨wc.heap.size, 0, none⟩ 1 1 [.int .i64 0, .int .i64 2, .int .i64 2, .int .i64 0, .int .i64 1] (by rfl) (by rfl) (cells_newL wc.drew _ _) (by intro u hu; simp only [List.mem_cons, List.not_mem_nil, or_false] at hu; rcases hu with rfl | rfl | rfl | rfl | rfl <;> rfl) (by omega) (by unfold maxLen; omega) (by omega) (by show W7.heap.size ≤ (wc.alloc _).heap.size; rw [World.size_alloc]; exact Nat.le_succ_of_le hlow) (wc.heap.size + 1) (by simp) ?_; intro gU cU' w4 hown4 hgrow4 hat4 hlt4; obtain ⟨c1, c2, c3⟩ := GR.cell (cs := #[.int .i64 0, .int .i64 2, .int .i64 2, .int .i64 0, .int .i64 1]) (t := 47) HS1.out HS1.out.2.1.np hgrow4; have HOW4 := Lib.hid hown4; have HG4 := Lib.hid hgrow4; have HAT := Lib.hid hat4; clear hown4 hgrow4 hat4))
                    all_goals
                      go_wp2_with fail
                      go_roundw
                      case rel =>
                        exact ⟨k + 1, by omega, by go_num, _, _, _, _, _, _, by have := HNT.out; omega, by have := HNP.out; omega, Lib.hid (GR.addP (cs := #[.int .i64 0, .int .i64 2, .int .i64 2, .int .i64 0, .int .i64 1]) (t := 47) HS1.out HGN.out (by rw [HGL.out.2]; exact HNP.out) HGB.out HG4.out HOW4.out HXS.out HAT.out)⟩
                      case measure => simp [intOf]; omega
                · as_aux_lemma =>
                    have hke : i = k := by omega
                    subst hke
                    have he := (HEX7.out.later HS.out.2.2.1).2
                    have hel := (HEX7.out.later HS.out.2.2.1).1
                    have HEI := Lib.hid (HEIN.out.later HS.out.2.2.1)
                    have HTW := Lib.hid (HT7.out.later HS.out.2.2.1)
                    have HTI : Hid (Ty.In wr wr.heap.size ⟨shF b, .slice (some ⟨b + 1 + 1, 0, none⟩) 6 6⟩) := Lib.hid ((HA7.out.later HS.out.2.2.1).inn.2.1 ⟨shF b, .slice (some ⟨b + 1 + 1, 0, none⟩) 6 6⟩ (by simp))
                    have HGI := Lib.hid (HS.out.2.1.inn HTI.out)
                    have HBW := Lib.hid (Bel.then HB7.out HS.out.2.2.1)
                    have HGH := Lib.hid HS.out.1
                    clear hg hgl hgf hd hdl hki HTI hnT hnP
                    go_wp2_with fail
                    refine (kn_checks6' HEI.out HETV.out.1 HETV.out.2 0 3 5 i HTW.out).mono ?_
                    rintro e10 w10 ⟨rfl, hb10⟩
                    have hg := (HGH.out.later hb10).2
                    have hgl := (HGH.out.later hb10).1
                    have HGI1 := Lib.hid (HGI.out.later hb10)
                    have HTW1 := Lib.hid (HTW.out.later hb10)
                    have HBW1 := Lib.hid (Bel.then HBW.out hb10)
                    clear hb10 he hel
                    by_cases hi12 : i < 12
                    · have hiI12 : (i : Int) < 12 := by omega
                      go_wp2_with fail
                      refine (kn_checks6' HGI1.out rfl rfl i 3 5 1 HTW1.out).mono ?_
                      rintro e11 w11 ⟨rfl, hb11⟩
                      have HBW2 := Lib.hid (Bel.then HBW1.out hb11)
                      clear hb11 hg hgl
                      go_wp2_with fail
                      go_roundw
                      case rel => exact ⟨i + 1, by omega, by go_num, HBW2.out⟩
                      case measure => simp [intOf]; omega
                    · have hiI12 : ¬ (i : Int) < 12 := by omega
                      go_wp2_with fail
                      go_roundw
                      case rel => exact ⟨i + 1, by omega, by go_num, HBW1.out⟩
                      case measure => simp [intOf]; omega
        · have hi20 : i = 20 := by omega
          subst hi20
          go_wp2_with fail
          refine (works06_any _ (HT.out.later HBi.out)).mono ?_
          rintro e2 w4 ⟨rfl, hb⟩
          have HB4 := Lib.hid (Bel.then HB.out (Bel.then HBi.out hb))
          clear hb
          go_wp2_with fail
          go_ret
          exact ⟨rfl, HB4.out⟩
end Go.Proofs.YtamnligooelmgaaDoor
