/- quaysideref06.Check. -/
import Derived.Test.YtamnligooelmgaaDoorROne
set_option maxRecDepth 100000
set_option maxRecDepth 100000
set_option linter.unusedVariables false
set_option linter.unusedSimpArgs false
namespace Go.Proofs.YtamnligooelmgaaDoor
open Go.RowKit Go.BigFrame

theorem WrongRel.self (t : Ty) (f : Fd) : WrongRel t f (wrongP t.pl f.pl) := by
  have key : ∃ c, WrongRel t f c := by
    unfold WrongRel
    by_cases h1 : InK f
    · by_cases h2 : PolOk f
      · by_cases h3 : ∃ m ∈ f.ms, BadM m
        · exact ⟨1, .inr (.inr (.inl ⟨h1, h2, h3, rfl⟩))⟩
        · by_cases h4 : ∃ m ∈ f.ms, LostM t m
          · exact ⟨8, .inr (.inr (.inr (.inl ⟨h1, h2, h3, h4, rfl⟩)))⟩
          · exact ⟨0, .inr (.inr (.inr (.inr ⟨h1, h2, h3, h4, rfl⟩)))⟩
      · exact ⟨1, .inr (.inl ⟨h1, h2, rfl⟩)⟩
    · exact ⟨2, .inl ⟨h1, rfl⟩⟩
  obtain ⟨c, hc⟩ := key
  rw [← hc.val]; exact hc
theorem rone_is (t : Ty) (f : Fd) (g : Int) (hg : g = wrongP t.pl f.pl) (w : World) (ht : t.In w w.heap.size) (hf : f.In w w.heap.size) (hl : t.fs.length ≤ 1099511627776) (hm : f.ms.length ≤ 1099511627776) :
    Calls Tryd.prog 27 #[tyV t, fdV' f] w fun e w' => e = .returned (.int .i64 g) ∧ Below w.heap.size w w' :=
  (rone_any t f w ht hf hl hm).mono fun e w' ⟨c, he, hr, hb⟩ => ⟨by rw [he, hr.val, hg], hb⟩
/-- The ways of a projection whose field is there: kd: the kind of the register that it groups by. -/
def ShowWay (p : Pj) (kd r : Int) : Prop :=
  (((p.g == 3) = true ∧ (p.g != 3) = false ∧ p.g = 3 ∧ (((kd != 2) = true ∧ r = 8) ∨ ((kd != 2) = false ∧ p.m < 1 ∧ r = 2) ∨ ((kd != 2) = false ∧ 1 ≤ p.m ∧ 5 < p.m ∧ r = 2) ∨ ((kd != 2) = false ∧ 1 ≤ p.m ∧ p.m ≤ 5 ∧ r = 0))) ∨
   ((p.g == 3) = false ∧ (p.g != 3) = true ∧ (((p.b != 0) = true ∧ r = 8) ∨ ((p.b != 0) = false ∧ p.g < 1 ∧ r = 2) ∨ ((p.b != 0) = false ∧ 1 ≤ p.g ∧ 3 < p.g ∧ r = 2) ∨ ((p.b != 0) = false ∧ 1 ≤ p.g ∧ p.g ≤ 3 ∧ p.m < 1 ∧ r = 2) ∨ ((p.b != 0) = false ∧ 1 ≤ p.g ∧ p.g ≤ 3 ∧ 1 ≤ p.m ∧ 5 < p.m ∧ r = 2) ∨ ((p.b != 0) = false ∧ 1 ≤ p.g ∧ p.g ≤ 3 ∧ 1 ≤ p.m ∧ p.m ≤ 5 ∧ r = 0))))
theorem showWay (D : Dc) (p : Pj) (t : Ty) (hf : ∃ f, FldAt D p.t p.f f) (ht : D.ts[p.t.toNat]? = some t) : ∃ r, ShowWay p ((kindP t.pl p.b).getD 0) r ∧ ShowsRel D p r := by
  have hk : (∃ t, D.ts[p.t.toNat]? = some t ∧ IsK t p.b 2) ↔ (kindP t.pl p.b).getD 0 = 2 := by
    constructor
    · rintro ⟨t', h1, h2⟩
      rw [ht] at h1
      injection h1 with h1
      subst h1
      rw [IsK.pl.1 h2]; rfl
    · intro h
      refine ⟨t, ht, IsK.pl.2 ?_⟩
      cases hkp : kindP t.pl p.b with
      | none => rw [hkp] at h; simp at h
      | some x => rw [hkp] at h; simp at h; rw [h]
  obtain ⟨kd, hkd⟩ : ∃ kd, kd = (kindP t.pl p.b).getD 0 := ⟨_, rfl⟩
  rw [← hkd] at hk ⊢
  unfold ShowWay ShowsRel GrpBad KndBad
  rw [hk]
  by_cases hg : p.g = 3
  · by_cases h2 : kd = 2
    · by_cases h3 : p.m < 1
      · exact ⟨2, .inl ⟨beqt hg, bnef hg, hg, .inr (.inl ⟨bnef h2, h3, rfl⟩)⟩, .inr ⟨hf, .inr (.inl ⟨by omega, by omega, rfl⟩)⟩⟩
      · by_cases h4 : p.m ≤ 5
        · exact ⟨0, .inl ⟨beqt hg, bnef hg, hg, .inr (.inr (.inr ⟨bnef h2, by omega, h4, rfl⟩))⟩, .inr ⟨hf, .inr (.inr ⟨by omega, by omega, rfl⟩)⟩⟩
        · exact ⟨2, .inl ⟨beqt hg, bnef hg, hg, .inr (.inr (.inl ⟨bnef h2, by omega, by omega, rfl⟩))⟩, .inr ⟨hf, .inr (.inl ⟨by omega, by omega, rfl⟩)⟩⟩
    · exact ⟨8, .inl ⟨beqt hg, bnef hg, hg, .inl ⟨bnet h2, rfl⟩⟩, .inr ⟨hf, .inl ⟨.inl ⟨hg, h2⟩, rfl⟩⟩⟩
  · by_cases hb : p.b = 0
    · by_cases h1 : p.g < 1
      · exact ⟨2, .inr ⟨beqf hg, bnet hg, .inr (.inl ⟨bnef hb, h1, rfl⟩)⟩, .inr ⟨hf, .inr (.inl ⟨by omega, by omega, rfl⟩)⟩⟩
      · by_cases h2 : p.g ≤ 3
        · by_cases h3 : p.m < 1
          · exact ⟨2, .inr ⟨beqf hg, bnet hg, .inr (.inr (.inr (.inl ⟨bnef hb, by omega, h2, h3, rfl⟩)))⟩, .inr ⟨hf, .inr (.inl ⟨by omega, by omega, rfl⟩)⟩⟩
          · by_cases h4 : p.m ≤ 5
            · exact ⟨0, .inr ⟨beqf hg, bnet hg, .inr (.inr (.inr (.inr (.inr ⟨bnef hb, by omega, h2, by omega, h4, rfl⟩))))⟩, .inr ⟨hf, .inr (.inr ⟨by omega, by omega, rfl⟩)⟩⟩
            · exact ⟨2, .inr ⟨beqf hg, bnet hg, .inr (.inr (.inr (.inr (.inl ⟨bnef hb, by omega, h2, by omega, by omega, rfl⟩))))⟩, .inr ⟨hf, .inr (.inl ⟨by omega, by omega, rfl⟩)⟩⟩
        · exact ⟨2, .inr ⟨beqf hg, bnet hg, .inr (.inr (.inl ⟨bnef hb, by omega, by omega, rfl⟩))⟩, .inr ⟨hf, .inr (.inl ⟨by omega, by omega, rfl⟩)⟩⟩
    · exact ⟨8, .inr ⟨beqf hg, bnet hg, .inl ⟨bnet hb, rfl⟩⟩, .inr ⟨hf, .inl ⟨.inr ⟨hg, hb⟩, rfl⟩⟩⟩
set_option maxHeartbeats 16000000 in
theorem rcheck06_any (D : Dc) (w : World) (hD : D.In w w.heap.size) (hL : LenD D) (hp : D.ps.length ≤ 1099511627776) :
    Calls Tryd.prog 13 #[declV D] w fun e w' => CRet (ChkRel D) w e w' := by
  obtain ⟨ts, ps, tv, pv⟩ := D
  obtain ⟨A, c, h1⟩ := hD.1.shapeL
  obtain ⟨A', c', h2⟩ := hD.2.2.shapeL
  dsimp only at h1 h2 hp
  subst h1 h2
  obtain ⟨W, hW⟩ : ∃ W, W = w.alloc (.cells #[.slice A ts.length c, .slice A' ps.length c'] 25) := ⟨_, rfl⟩
  have hB : Below w.heap.size w W := by rw [hW]; exact Bel.grew (Below.refl _ _) _
  have hC := Has.new w #[.slice A ts.length c, .slice A' ps.length c'] 25
  rw [← hW] at hC
  have htl : (ts.length : Int) ≤ 1099511627776 := by have := hL.1; dsimp only at this; omega
  have hpl : (ps.length : Int) ≤ 1099511627776 := by omega
  have HD := Lib.hid (hD.later hB)
  have HB := Lib.hid hB
  have HW := Lib.hid hW
  have HL := Lib.hid hL
  have HC := Lib.hid hC
  have hc := hC.2
  have hcl := hC.1
  clear hD hB hW hL hC
  obtain ⟨R, hRR⟩ : ∃ R : Int → Prop, R = ChkRel ⟨ts, ps, .slice A ts.length c, .slice A' ps.length c'⟩ := ⟨_, rfl⟩
  have HRR := Lib.hid hRR
  rw [← hRR]
  clear hRR
  go_enter Tryd.func13, Tryd.ntmps13
  go_wp2_with fail
  rw [← HW.out]
  clear HW
  refine (rmany_any ⟨ts, ps, .slice A ts.length c, .slice A' ps.length c'⟩ W HD.out).mono ?_
  rintro e w2 ⟨bm, rfl, hbm, hb⟩
  have HB2 := Lib.hid (Bel.then HB.out hb)
  have HD2 := Lib.hid (HD.out.later hb)
  have HC2 := Lib.hid (HC.out.later hb)
  clear hb hc hcl HD HC
  cases bm
  rotate_left
  · have HM : Hid (R 3) := by rw [HRR.out]; exact Lib.hid (.inl ⟨hbm.1 rfl, rfl⟩)
    clear hbm
    go_wp2_with fail
    go_ret
    exact CRet.mk HB2.out HM.out
  have HNM : Hid (¬ ManyP ⟨ts, ps, .slice A ts.length c, .slice A' ps.length c'⟩) := Lib.hid fun h => by have := hbm.2 h; cases this
  clear hbm
  have hc := HC2.out.2
  have hcl := HC2.out.1
  go_wp2_with fail
  clear hc hcl
  go_loopw [3] (fun i wr => ∃ k : Nat, k ≤ ts.length ∧ i = .int .i64 k ∧ Below w2.heap.size w2 wr ∧ Hid (∀ t ∈ ts.take k, TypeRel t 0)) (fun i _ => ts.length - (intOf i).toNat)
  case atStart => exact ⟨0, Nat.zero_le _, rfl, Below.refl _ _, Lib.hid (by simp)⟩
  case round =>
    obtain ⟨k, hk, rfl, hb, HS⟩ := hrel
    have HBk := Lib.hid hb
    have hc := (HC2.out.later hb).2
    have hcl := (HC2.out.later hb).1
    by_cases hlt : k < ts.length
    · obtain ⟨t, ht⟩ : ∃ t, ts[k]? = some t := ⟨_, List.getElem?_eq_getElem hlt⟩
      have htm := List.mem_of_getElem? ht
      have HTS := Lib.hid (take_snoc ht)
      have HTE := Lib.hid ht
      have hD3 := HD2.out.later hb
      obtain ⟨b, off, rfl, hbb, hcap, hcx⟩ := hD3.1.at ht
      have hti := hD3.2.1 t htm
      have htl2 := HL.out.2 t htm
      obtain ⟨fs, fv⟩ := t
      obtain ⟨A2, c2, h2⟩ := hti.1.shapeL
      dsimp only at h2 htl2
      subst h2
      have hct := hcx 0 _ rfl
      rw [Nat.mul_one, Nat.add_zero] at hct
      dsimp only at hct
      have hkI : (k : Int) < (ts.length : Int) := by omega
      have hfl : (fs.length : Int) ≤ 1099511627776 := by have := htl2.1; omega
      have HTI := Lib.hid hti
      have HTL := Lib.hid htl2
      have HCT := Lib.hid hct
      have HBB := Lib.hid hbb
      obtain ⟨W4, rfl⟩ : ∃ W, W = wr := ⟨_, rfl⟩
      clear hD3 hcx hti htl2 htm ht hb
      go_wp2_with fail
      clear hc hcl hct
      go_loopw [4] (fun i wq => ∃ j : Nat, j ≤ fs.length ∧ i = .int .i64 j ∧ Below W4.heap.size W4 wq ∧ Hid (∀ f ∈ fs.take j, WrongRel ⟨fs, .slice A2 fs.length c2⟩ f 0)) (fun i _ => fs.length - (intOf i).toNat)
      case atStart => exact ⟨0, Nat.zero_le _, rfl, Below.refl _ _, Lib.hid (by simp)⟩
      case round =>
        obtain ⟨j, hj, rfl, hb3, HF⟩ := hrel
        have HB5 := Lib.hid hb3
        have hc := (HC2.out.later (Bel.then HBk.out hb3)).2
        have hcl := (HC2.out.later (Bel.then HBk.out hb3)).1
        have hct := (hb3.cell (p := ⟨b, off + k, none⟩) HBB.out).trans HCT.out
        have hbw : b < wr.heap.size := by have := hb3.size; omega
        by_cases hjl : j < fs.length
        · obtain ⟨f, hfj⟩ : ∃ f, fs[j]? = some f := ⟨_, List.getElem?_eq_getElem hjl⟩
          have hfm := List.mem_of_getElem? hfj
          have HFT := Lib.hid (take_snoc hfj)
          have HFE := Lib.hid hfj
          have hT5 := HTI.out.later hb3
          obtain ⟨b2, off2, rfl, hb2, hcap2, hcy⟩ := hT5.1.at hfj
          have hfi := hT5.2 f hfm
          have hms := HTL.out.2 f hfm
          obtain ⟨F, hF⟩ : ∃ F, F = f := ⟨_, rfl⟩
          rw [← hF] at HFT HFE
          obtain ⟨fk, fp, ffl, ms, mv⟩ := f
          obtain ⟨A3, c3, h3⟩ := SlR.shapeL hfi
          dsimp only at h3 hms
          subst h3
          have hf0 := hcy 0 _ rfl
          have hf1 := hcy 1 _ rfl
          have hf2 := hcy 2 _ rfl
          have hf3 := hcy 3 _ rfl
          rw [Nat.add_zero] at hf0
          dsimp only at hf0 hf1 hf2 hf3
          have hjI : (j : Int) < (fs.length : Int) := by omega
          obtain ⟨g, hg⟩ : ∃ g, g = wrongP (Ty.pl ⟨fs, .slice (some ⟨b2, off2, none⟩) fs.length c2⟩) (Fd.pl ⟨fk, fp, ffl, ms, .slice A3 ms.length c3⟩) := ⟨_, rfl⟩
          have HG := Lib.hid hg
          have HR : Hid (WrongRel ⟨fs, .slice (some ⟨b2, off2, none⟩) fs.length c2⟩ F g) := by rw [hF, hg]; exact Lib.hid (WrongRel.self _ _)
          have HTK := Lib.hid hT5
          have HFK := Lib.hid hfi
          clear hT5 hcy hfi hfm hfj hb3 hg hF
          by_cases hr0 : g = 0
          · have hq : (g != 0) = false := bnef hr0
            have HR0 : Hid (WrongRel ⟨fs, .slice (some ⟨b2, off2, none⟩) fs.length c2⟩ F 0) := by rw [← hr0]; exact HR
            clear hr0
            go_wp2_with fail
            refine wp_region_later (by kernel_rfl) (by kernel_rfl) ?_
            repeat (any_goals (first | go_big_quiet_step ((go_at_call 27; have hC := rone_is ⟨fs, .slice (some ⟨b2, off2, none⟩) fs.length c2⟩ ⟨fk, fp, ffl, ms, .slice A3 ms.length c3⟩ g HG.out (Later.w ‹_›) (HTK.out.later (Later.h ‹_›)) (HFK.out.later (Later.h ‹_›)) HTL.out.1 hms; with_reducible exact Later.call hC))))
            refine wpQuiet_nil ?_
            intro x
            obtain ⟨w7, hb7⟩ := x
            dsimp only
            have HB7 := Lib.hid (Bel.then HB5.out hb7)
            clear hb7 hf0 hf1 hf2 hf3 hct hc
            go_wp2_with fail
            go_roundw
            case rel =>
              refine ⟨j + 1, by omega, by go_num, HB7.out, ?_⟩
              rw [HFT.out]
              exact Lib.hid (all_snoc HF.out HR0.out)
            case measure => simp [intOf]; omega
          · have hrb : (g != 0) = true := bnet hr0
            have HREL : Hid (R g) := by
              rw [HRR.out]
              exact Lib.hid (.inr ⟨HNM.out, .inl ⟨hr0, .inr ⟨hr0, k, _, HTE.out, .inr ⟨hr0, j, _, HFE.out, HR.out, HF.out⟩, HS.out⟩⟩⟩)
            clear hr0
            go_wp2_with fail
            refine wp_region_later (by kernel_rfl) (by kernel_rfl) ?_
            repeat (any_goals (first | go_big_quiet_step ((go_at_call 27; have hC := rone_is ⟨fs, .slice (some ⟨b2, off2, none⟩) fs.length c2⟩ ⟨fk, fp, ffl, ms, .slice A3 ms.length c3⟩ g HG.out (Later.w ‹_›) (HTK.out.later (Later.h ‹_›)) (HFK.out.later (Later.h ‹_›)) HTL.out.1 hms; with_reducible exact Later.call hC))))
            refine wpQuiet_nil ?_
            intro x
            obtain ⟨w7, hb7⟩ := x
            dsimp only
            have HB7 := Lib.hid (Bel.then HB5.out hb7)
            clear hb7 hf0 hf1 hf2 hf3 hct hc
            go_wp2_with fail
            go_ret
            exact CRet.mk (Bel.then HB2.out (Bel.then HBk.out HB7.out)) HREL.out
        · have hj4 : j = fs.length := by omega
          subst hj4
          rw [List.take_length] at HF
          clear hb3
          go_wp2_with fail
          go_roundw
          case rel =>
            refine ⟨k + 1, by omega, by go_num, Bel.then HBk.out HB5.out, ?_⟩
            rw [HTS.out]
            exact Lib.hid (all_snoc HS.out (.inl ⟨rfl, HF.out⟩))
          case measure => simp [intOf]; omega
    · have hk4 : k = ts.length := by omega
      subst hk4
      rw [List.take_length] at HS
      obtain ⟨W8, rfl⟩ : ∃ W, W = wr := ⟨_, rfl⟩
      clear hb
      go_wp2_with fail
      clear hc hcl
      go_loopw [6] (fun i wr => ∃ k : Nat, k ≤ ps.length ∧ i = .int .i64 k ∧ Below w2.heap.size w2 wr ∧ Hid (∀ p ∈ ps.take k, ShowsRel ⟨ts, ps, .slice A ts.length c, .slice A' ps.length c'⟩ p 0)) (fun i _ => ps.length - (intOf i).toNat)
      case atStart => exact ⟨0, Nat.zero_le _, rfl, HBk.out, Lib.hid (by simp)⟩
      case round =>
        obtain ⟨j, hj, rfl, hb, HP⟩ := hrel
        have HB5 := Lib.hid hb
        have hv := (HC2.out.later hb).2
        have hvl := (HC2.out.later hb).1
        by_cases hjl : j < ps.length
        · obtain ⟨p, hp'⟩ : ∃ p, ps[j]? = some p := ⟨_, List.getElem?_eq_getElem hjl⟩
          have HPT := Lib.hid (take_snoc hp')
          have HPE := Lib.hid hp'
          have hD5 := HD2.out.later hb
          obtain ⟨b, off, rfl, hbb, hcap, hcx⟩ := hD5.2.2.at hp'
          have h0 := hcx 0 _ rfl
          have h1 := hcx 1 _ rfl
          have h2 := hcx 2 _ rfl
          have h3 := hcx 3 _ rfl
          have h4 := hcx 4 _ rfl
          rw [Nat.add_zero] at h0
          obtain ⟨PP, hPP⟩ : ∃ PP, PP = p := ⟨_, rfl⟩
          rw [← hPP] at HPT HPE
          obtain ⟨pt, pf, pg, pb, pm⟩ := p
          dsimp only at h0 h1 h2 h3 h4
          have hjI : (j : Int) < (ps.length : Int) := by omega
          obtain ⟨W9, hW9⟩ : ∃ W9, W9 = wr.alloc (.cells #[.int .i64 pt, .int .i64 pf, .int .i64 pg, .int .i64 pb, .int .i64 pm] 47) := ⟨_, rfl⟩
          have hgr : Below wr.heap.size wr W9 := by rw [hW9]; exact Bel.grew (Below.refl _ _) _
          have hPc := Has.new wr #[.int .i64 pt, .int .i64 pf, .int .i64 pg, .int .i64 pb, .int .i64 pm] 47
          rw [← hW9] at hPc
          have HPC := Lib.hid hPc
          have HD6 := Lib.hid (hD5.later hgr)
          have HB6 := Lib.hid (Bel.then HB5.out hgr)
          have HW9 := Lib.hid hW9
          have HPP := Lib.hid hPP
          clear hD5 hcx hp' hgr hb hW9 hPc hPP
          go_wp2_with fail
          rw [← HW9.out]
          clear HW9
          refine (rfield_any ⟨ts, ps, .slice A ts.length c, .slice (some ⟨b, off, none⟩) ps.length c'⟩ pt pf W9 HD6.out HL.out).mono ?_
          rintro e w7 (⟨t, f', v', q0, q1, q2, q3, rfl, hown, hb7⟩ | ⟨hno, rfl, hb7⟩)
          rotate_left
          · have HX : Hid (R 8) := by
              rw [HRR.out]
              refine Lib.hid (.inr ⟨HNM.out, .inr ⟨.inl ⟨rfl, HS.out⟩, .inr ⟨by decide, j, _, HPE.out, ?_, HP.out⟩⟩⟩)
              rw [HPP.out]
              exact .inl ⟨fun ⟨f, t, q⟩ => hno ⟨t, f, q⟩, rfl⟩
            have HB7 := Lib.hid (Bel.then HB6.out hb7)
            have HZ : ∀ o, Below w2.heap.size w2 (w7.alloc o) := fun o => Bel.grew HB7.out o
            clear hno hb7 h0 h1 h2 h3 h4 hv
            go_wp2_with fail
            go_ret
            exact CRet.mk (Bel.then HB2.out (HZ _)) HX.out
          obtain ⟨A4, c4, h4'⟩ := SlR.shapeL hown.sl
          subst h4'
          obtain ⟨W8', hW8⟩ : ∃ W8, W8 = w7.alloc (.cells #[.int .i64 f'.k, .int .i64 f'.p, .bool f'.fl, .slice A4 f'.ms.length c4] 33) := ⟨_, rfl⟩
          have hgr8 : Below w7.heap.size w7 W8' := by rw [hW8]; exact Bel.grew (Below.refl _ _) _
          have hb78 := Bel.then hb7 hgr8
          obtain ⟨n, rfl⟩ := Int.eq_ofNat_of_zero_le q0
          rw [Int.toNat_natCast] at q1
          have hD8 := HD6.out.later hb78
          obtain ⟨b8, off8, hA8, hb8, hcap8, hcx8⟩ := hD8.1.at q1
          subst hA8
          have hti8 := hD8.2.1 t (List.mem_of_getElem? q1)
          have htl8 := (HL.out.2 t (List.mem_of_getElem? q1)).1
          have hn := (List.getElem?_eq_some_iff.1 q1).1
          obtain ⟨r, hway, hrel⟩ := showWay ⟨ts, ps, .slice (some ⟨b8, off8, none⟩) ts.length c, .slice (some ⟨b, off, none⟩) ps.length c'⟩ ⟨n, pf, pg, pb, pm⟩ t ⟨f', t, q0, by rw [Int.toNat_natCast]; exact q1, q2, q3⟩ (by rw [Int.toNat_natCast]; exact q1)
          obtain ⟨kd, hkd⟩ : ∃ kd, kd = (kindP t.pl pb).getD 0 := ⟨_, rfl⟩
          dsimp only at hway
          rw [← hkd] at hway
          have hkind : ∀ W : World, t.In W W.heap.size → Calls Tryd.prog 28 #[tyV t, .int .i64 pb] W fun e w' => e = .returned (.int .i64 kd) ∧ Below W.heap.size W w' := fun W h => by rw [hkd]; exact rkind_any t pb W h htl8
          have HKIND := Lib.hid hkind
          have HTI8 := Lib.hid hti8
          have hct8 := hcx8 0 _ rfl
          rw [Nat.mul_one, Nat.add_zero] at hct8
          obtain ⟨fs8, fv8⟩ := t
          obtain ⟨A9, c9, h9⟩ := hti8.1.shapeL
          dsimp only at h9 hct8
          subst h9
          have hp8 := (HPC.out.later hb78).2
          have hp8l := (HPC.out.later hb78).1
          have hc8 := (HC2.out.later (Bel.then HB6.out hb78)).2
          have hc8l := (HC2.out.later (Bel.then HB6.out hb78)).1
          have HB8 := Lib.hid (Bel.then HB6.out hb78)
          have HW8 := Lib.hid hW8
          have hnI : (n : Int) < (ts.length : Int) := by dsimp only at hn; omega
          have hn0 : (0 : Int) ≤ (n : Int) := by omega
          have HREL : Hid (ShowsRel ⟨ts, ps, .slice (some ⟨b8, off8, none⟩) ts.length c, .slice (some ⟨b, off, none⟩) ps.length c'⟩ PP r) := by rw [HPP.out]; exact Lib.hid hrel
          have HWAY := Lib.hid hway
          have HRET : Hid (r ≠ 0 → R r) := Lib.hid fun h => by
            rw [HRR.out]
            exact .inr ⟨HNM.out, .inr ⟨.inl ⟨rfl, HS.out⟩, .inr ⟨h, j, _, HPE.out, HREL.out, HP.out⟩⟩⟩
          unfold ShowWay at HWAY
          clear hown hb7 hgr8 hb78 hD8 hcx8 hti8 htl8 hkd hkind hW8 hway hrel q0 q1 q2 q3 h0 h1 h2 h3 h4 hv hvl
          dsimp only at HWAY
          rcases HWAY.out with ⟨a1, a2, a3, ⟨k1, rfl⟩ | ⟨k1, k2, rfl⟩ | ⟨k1, k2, k3, rfl⟩ | ⟨k1, k2, k3, rfl⟩⟩ | ⟨a1, a2, ⟨k1, rfl⟩ | ⟨k1, k2, rfl⟩ | ⟨k1, k2, k3, rfl⟩ | ⟨k1, k2, k3, k4, rfl⟩ | ⟨k1, k2, k3, k4, k5, rfl⟩ | ⟨k1, k2, k3, k4, k5, rfl⟩⟩
          all_goals
            clear HWAY
            go_wp2_with fail
            rw [← HW8.out]
            clear HW8
            refine wp_region_later (by kernel_rfl) (by kernel_rfl) ?_
            repeat (any_goals (first | go_big_quiet_step ((go_at_call 28; have hC := HKIND.out (Later.w ‹_›) (HTI8.out.later (Later.h ‹_›)); with_reducible exact Later.call hC))))
            refine wpQuiet_nil ?_
            intro x
            obtain ⟨w9, hb9⟩ := x
            dsimp only
            have HB9 := Lib.hid (Bel.then HB8.out hb9)
            have hp9 : ∀ o, w9.cell? ⟨wr.heap.size, o, none⟩ = #[Value.int .i64 n, .int .i64 pf, .int .i64 pg, .int .i64 pb, .int .i64 pm][o]? := fun o => (hb9.cell (p := ⟨wr.heap.size, o, none⟩) hp8l).trans (hp8 o)
            have hp9l : wr.heap.size < w9.heap.size := by have := hb9.size; omega
            clear hb9 hct8 hp8 hc8
            go_wp2_with fail
            first
              | (go_ret
                 exact CRet.mk (Bel.then HB2.out HB9.out) (HRET.out (by decide)))
              | (go_roundw
                 case rel =>
                   refine ⟨j + 1, by omega, by go_num, HB9.out, ?_⟩
                   rw [HPT.out]
                   exact Lib.hid (all_snoc HP.out HREL.out)
                 case measure => simp [intOf]; omega)
        · have hj4 : j = ps.length := by omega
          subst hj4
          rw [List.take_length] at HP
          have HX : Hid (R 0) := by
            rw [HRR.out]
            exact Lib.hid (.inr ⟨HNM.out, .inr ⟨.inl ⟨rfl, HS.out⟩, .inl ⟨rfl, HP.out⟩⟩⟩)
          clear hb
          go_wp2_with fail
          go_ret
          exact CRet.mk (Bel.then HB2.out HB5.out) HX.out
end Go.Proofs.YtamnligooelmgaaDoor
