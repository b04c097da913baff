/- schema.Check. -/
import Derived.Test.YtamnligooelmgaaDoorSShow2
import Derived.Test.YtamnligooelmgaaDoorSWrong2
set_option maxRecDepth 100000
set_option linter.unusedVariables false
set_option linter.unusedSimpArgs false
namespace Go.Proofs.YtamnligooelmgaaDoor
open Go.RowKit Go.BigFrame

/-- The first that is not 0. -/
def FirstRel {α : Type} (R : α → Int → Prop) (l : List α) (c : Int) : Prop := (c = 0 ∧ ∀ x ∈ l, R x 0) ∨ (c ≠ 0 ∧ ∃ i x, l[i]? = some x ∧ R x c ∧ ∀ y ∈ l.take i, R y 0)
def TypeRel (t : Ty) (c : Int) : Prop := FirstRel (WrongRel t) t.fs c
def NotMany (D : Dc) : Prop := ¬ ManyP D
def ChkRel (D : Dc) (c : Int) : Prop := (ManyP D ∧ c = 3) ∨ (¬ ManyP D ∧ ((c ≠ 0 ∧ FirstRel TypeRel D.ts c) ∨ (FirstRel TypeRel D.ts 0 ∧ FirstRel (ShowsRel D) D.ps c)))

set_option maxRecDepth 100000 in
set_option maxHeartbeats 16000000 in
theorem check_any (D : Dc) (w : World) (hD : D.In w w.heap.size) (hT : Tab w) (hL : LenD D) :
    Calls Tryd.prog 10 #[declV D] w fun e w' => CRet (ChkRel D) w e w' := by
  obtain ⟨ts, ps, tv, pv⟩ := D
  obtain ⟨A, c, h1⟩ := hD.1.shapeL
  obtain ⟨A', c', h2⟩ := hD.2.2.shapeL
  dsimp only at h1 h2
  subst h1 h2
  obtain ⟨W, hW⟩ : ∃ W, W = w.alloc (.cells #[.slice A ts.length c, .slice A' ps.length c'] 25) := ⟨_, rfl⟩
  have hB : Below w.heap.size w W := by rw [hW]; exact Bel.grew (Below.refl _ _) _
  have hC := Has.new w #[.slice A ts.length c, .slice A' ps.length c'] 25
  rw [← hW] at hC
  have HD := Lib.hid (hD.later hB)
  have HT := Lib.hid (hT.later hB)
  have HB := Lib.hid hB
  have HW := Lib.hid hW
  have HL := Lib.hid hL
  have HC := Lib.hid hC
  have hc := hC.2
  have hlt := hC.1
  clear hD hT hB hW hL hC
  go_enter Tryd.func10, Tryd.ntmps10
  go_wp2_with fail
  rw [← HW.out]
  clear HW
  refine (many_any ⟨ts, ps, .slice A ts.length c, .slice A' ps.length c'⟩ W HD.out).mono ?_
  rintro e w2 ⟨bm, rfl, hbm, hb⟩
  have HB2 := Lib.hid (Bel.then HB.out hb)
  have HBx := Lib.hid hb
  clear hb hc hlt
  cases bm
  rotate_left
  · have hm := hbm.1 rfl
    clear hbm
    have HM := Lib.hid (show ChkRel ⟨ts, ps, .slice A ts.length c, .slice A' ps.length c'⟩ 3 from .inl ⟨hm, rfl⟩)
    clear hm
    go_wp2_with fail
    go_ret
    exact CRet.mk HB2.out HM.out
  have hnm : ¬ ManyP ⟨ts, ps, .slice A ts.length c, .slice A' ps.length c'⟩ := fun h => by have := hbm.2 h; cases this
  clear hbm
  have hl8 : ts.length ≤ 8 ∧ ps.length ≤ 8 := by
    constructor
    · rcases Nat.lt_or_ge 8 ts.length with h | h
      · exact absurd (.inl (fun hh => by dsimp only at hh; omega)) hnm
      · exact h
    · rcases Nat.lt_or_ge 8 ps.length with h | h
      · exact absurd (.inr (.inl h)) hnm
      · exact h
  have hl8a : (ts.length : Int) ≤ 8 := by omega
  have hl8b : (ps.length : Int) ≤ 8 := by omega
  have hNM : NotMany ⟨ts, ps, .slice A ts.length c, .slice A' ps.length c'⟩ := hnm
  have HD2 := Lib.hid (HD.out.later HBx.out)
  have HT2 := Lib.hid (HT.out.later HBx.out)
  have HC2 := Lib.hid (HC.out.later HBx.out)
  clear hnm hl8 HD HT HC HB HBx
  have hc := HC2.out.2
  have hlt := HC2.out.1
  go_wp2_with fail
  clear hc hlt
  go_loopw [16] (fun i wr => ∃ k : Nat, k ≤ ts.length ∧ i = .int .i64 k ∧ Below w2.heap.size w2 wr ∧ Hid (∀ t ∈ ts.take k, TypeRel t 0)) (fun i _ => ts.length - (intOf i).toNat)
  case atStart => exact ⟨0, Nat.zero_le _, rfl, Below.refl _ _, Lib.hid (by simp)⟩
  case round =>
    obtain ⟨k, hk, rfl, hb, HS⟩ := hrel
    have HBw := Lib.hid hb
    clear hb
    by_cases hlt : k < ts.length
    · obtain ⟨t, ht⟩ : ∃ t, ts[k]? = some t := ⟨_, List.getElem?_eq_getElem hlt⟩
      have htm := List.mem_of_getElem? ht
      have HTS := Lib.hid (take_snoc ht)
      have HTE := Lib.hid ht
      have hD3 := HD2.out.later HBw.out
      obtain ⟨b, off, rfl, hbb, hcap, hcx⟩ := hD3.1.at ht
      have hti := hD3.2.1 t htm
      have htl := HL.out.2 t htm
      obtain ⟨fs, fv⟩ := t
      obtain ⟨A2, c2, h2⟩ := hti.1.shapeL
      dsimp only at h2 htl
      subst h2
      have hct := hcx 0 _ rfl
      rw [Nat.mul_one, Nat.add_zero] at hct
      dsimp only at hct
      have hkI : (k : Int) < (ts.length : Int) := by omega
      have hgr : Below wr.heap.size wr (wr.alloc (.cells #[.slice A2 fs.length c2] 45)) := Bel.grew (Below.refl _ _) _
      obtain ⟨W4, hW4⟩ : ∃ W4, W4 = wr.alloc (.cells #[.slice A2 fs.length c2] 45) := ⟨_, rfl⟩
      have hV := Has.new wr #[.slice A2 fs.length c2] 45
      rw [← hW4] at hgr hV
      have HV := Lib.hid hV
      have HTI := Lib.hid (hti.later hgr)
      have HB4 := Lib.hid (Bel.then HBw.out hgr)
      have HTL := Lib.hid htl
      have HW4 := Lib.hid hW4
      have hfl : (fs.length : Int) ≤ 1099511627776 := by have := htl.1; omega
      clear hD3 hcx hti htl htm ht hgr hW4 hV
      go_wp2_with fail
      rw [← HW4.out]
      clear HW4
      go_loopw [23] (fun i wr => ∃ j : Nat, j ≤ fs.length ∧ i = .int .i64 j ∧ Below W4.heap.size W4 wr ∧ Hid (∀ f ∈ fs.take j, WrongRel ⟨fs, .slice A2 fs.length c2⟩ f 0)) (fun i _ => fs.length - (intOf i).toNat)
      case atStart => exact ⟨0, Nat.zero_le _, rfl, Below.refl _ _, Lib.hid (by simp)⟩
      case round =>
        obtain ⟨j, hj, rfl, hb3, HF⟩ := hrel
        have HB5 := Lib.hid hb3
        clear hb3
        by_cases hjl : j < fs.length
        · obtain ⟨f, hfj⟩ : ∃ f, fs[j]? = some f := ⟨_, List.getElem?_eq_getElem hjl⟩
          have hfm := List.mem_of_getElem? hfj
          have HFT := Lib.hid (take_snoc hfj)
          have HFE := Lib.hid hfj
          have hT5 := HTI.out.later HB5.out
          obtain ⟨b2, off2, rfl, hb2, hcap2, hcy⟩ := hT5.1.at hfj
          have hfi := hT5.2 f hfm
          have hms := HTL.out.2 f hfm
          obtain ⟨fk, fp, ffl, ms, mv⟩ := f
          obtain ⟨A3, c3, h3⟩ := SlR.shapeL hfi
          dsimp only at h3 hms
          subst h3
          have hf0 := hcy 0 _ rfl
          have hf1 := hcy 1 _ rfl
          have hf2 := hcy 2 _ rfl
          have hf3 := hcy 3 _ rfl
          rw [Nat.add_zero] at hf0
          dsimp only at hf0 hf1 hf2 hf3
          have hjI : (j : Int) < (fs.length : Int) := by omega
          have hgr : Below wr.heap.size wr (wr.alloc (.cells #[.int .i64 fk, .int .i64 fp, .bool ffl, .slice A3 ms.length c3] 33)) := Bel.grew (Below.refl _ _) _
          have HTT := Lib.hid ((HT2.out.later HB4.out).later (Bel.then HB5.out hgr))
          have HTK := Lib.hid (hT5.later hgr)
          have HFK := Lib.hid (Fd.In.later hfi hgr)
          have HB6 := Lib.hid (Bel.then HB5.out hgr)
          have hv := (HV.out.later HB5.out).2
          have hvl := (HV.out.later HB5.out).1
          clear hT5 hcy hfi hfm hfj hgr
          go_wp2_with fail
          refine (wrong_any ⟨fs, .slice (some ⟨b2, off2, none⟩) fs.length c2⟩ ⟨fk, fp, ffl, ms, .slice A3 ms.length c3⟩ _ HTT.out HTK.out HFK.out HTL.out.1 hms).mono ?_
          rintro e w7 ⟨r, rfl, hr, hb7⟩
          have HB7 := Lib.hid (Bel.then HB6.out hb7)
          have HR := Lib.hid hr
          clear hr hb7 hv hvl hf0 hf1 hf2 hf3
          by_cases hr0 : r = 0
          · subst hr0
            go_wp2_with fail
            go_roundw
            case rel =>
              refine ⟨j + 1, by omega, by go_num, HB7.out, ?_⟩
              rw [HFT.out]
              exact Lib.hid (all_snoc HF.out HR.out)
            case measure => simp [intOf]; omega
          · have hrb : (r != 0) = true := by simp [hr0]
            have HREL : Hid (ChkRel ⟨ts, ps, .slice (some ⟨b, off, none⟩) ts.length c, .slice A' ps.length c'⟩ r) := Lib.hid (.inr ⟨hNM, .inl ⟨hr0, .inr ⟨hr0, k, _, HTE.out, .inr ⟨hr0, j, _, HFE.out, HR.out, HF.out⟩, HS.out⟩⟩⟩)
            clear hr0 HR
            go_wp2_with fail
            go_ret
            exact CRet.mk (Bel.then HB2.out (Bel.then HB4.out HB7.out)) HREL.out
        · have hj4 : j = fs.length := by omega
          subst hj4
          rw [List.take_length] at HF
          go_wp2_with fail
          go_roundw
          case rel =>
            refine ⟨k + 1, by omega, by go_num, Bel.then HB4.out HB5.out, ?_⟩
            rw [HTS.out]
            exact Lib.hid (all_snoc HS.out (.inl ⟨rfl, HF.out⟩))
          case measure => simp [intOf]; omega
    · have hk4 : k = ts.length := by omega
      subst hk4
      rw [List.take_length] at HS
      have hc := (HC2.out.later HBw.out).2
      have hlt2 := (HC2.out.later HBw.out).1
      obtain ⟨W8, rfl⟩ : ∃ W, W = wr := ⟨_, rfl⟩
      go_wp2_with fail
      clear hc hlt2
      go_loopw [38] (fun i wr => ∃ k : Nat, k ≤ ps.length ∧ i = .int .i64 k ∧ Below w2.heap.size w2 wr ∧ Hid (∀ p ∈ ps.take k, ShowsRel ⟨ts, ps, .slice A ts.length c, .slice A' ps.length c'⟩ p 0)) (fun i _ => ps.length - (intOf i).toNat)
      case atStart => exact ⟨0, Nat.zero_le _, rfl, HBw.out, Lib.hid (by simp)⟩
      case round =>
        obtain ⟨j, hj, rfl, hb, HP⟩ := hrel
        have HB5 := Lib.hid hb
        clear hb
        by_cases hjl : j < ps.length
        · obtain ⟨p, hp⟩ : ∃ p, ps[j]? = some p := ⟨_, List.getElem?_eq_getElem hjl⟩
          have HPT := Lib.hid (take_snoc hp)
          have HPE := Lib.hid hp
          have hD5 := HD2.out.later HB5.out
          obtain ⟨b, off, rfl, hbb, hcap, hcx⟩ := hD5.2.2.at hp
          have h0 := hcx 0 _ rfl
          have h1 := hcx 1 _ rfl
          have h2 := hcx 2 _ rfl
          have h3 := hcx 3 _ rfl
          have h4 := hcx 4 _ rfl
          rw [Nat.add_zero] at h0
          obtain ⟨pt, pf, pg, pb, pm⟩ := p
          dsimp only at h0 h1 h2 h3 h4
          have hjI : (j : Int) < (ps.length : Int) := by omega
          have hgr : Below wr.heap.size wr (wr.alloc (.cells #[.int .i64 pt, .int .i64 pf, .int .i64 pg, .int .i64 pb, .int .i64 pm] 47)) := Bel.grew (Below.refl _ _) _
          have HD6 := Lib.hid (hD5.later hgr)
          have HB6 := Lib.hid (Bel.then HB5.out hgr)
          have hv := (HC2.out.later HB5.out).2
          have hvl := (HC2.out.later HB5.out).1
          clear hD5 hcx hp hgr
          go_wp2_with fail
          refine (shows_any ⟨ts, ps, .slice A ts.length c, .slice (some ⟨b, off, none⟩) ps.length c'⟩ ⟨pt, pf, pg, pb, pm⟩ _ HD6.out HL.out).mono ?_
          rintro e w7 ⟨r, rfl, hr, hb7⟩
          have HB7 := Lib.hid (Bel.then HB6.out hb7)
          have HR := Lib.hid hr
          clear hr hb7 hv hvl h0 h1 h2 h3 h4
          by_cases hr0 : r = 0
          · subst hr0
            go_wp2_with fail
            go_roundw
            case rel =>
              refine ⟨j + 1, by omega, by go_num, HB7.out, ?_⟩
              rw [HPT.out]
              exact Lib.hid (all_snoc HP.out HR.out)
            case measure => simp [intOf]; omega
          · have hrb : (r != 0) = true := by simp [hr0]
            have HREL : Hid (ChkRel ⟨ts, ps, .slice A ts.length c, .slice (some ⟨b, off, none⟩) ps.length c'⟩ r) := Lib.hid (.inr ⟨hNM, .inr ⟨.inl ⟨rfl, HS.out⟩, .inr ⟨hr0, j, _, HPE.out, HR.out, HP.out⟩⟩⟩)
            clear hr0 HR
            go_wp2_with fail
            go_ret
            exact CRet.mk (Bel.then HB2.out HB7.out) HREL.out
        · have hj4 : j = ps.length := by omega
          subst hj4
          rw [List.take_length] at HP
          have HREL : Hid (ChkRel ⟨ts, ps, .slice A ts.length c, .slice A' ps.length c'⟩ 0) := Lib.hid (.inr ⟨hNM, .inr ⟨.inl ⟨rfl, HS.out⟩, .inl ⟨rfl, HP.out⟩⟩⟩)
          go_wp2_with fail
          go_ret
          exact CRet.mk (Bel.then HB2.out HB5.out) HREL.out
end Go.Proofs.YtamnligooelmgaaDoor
