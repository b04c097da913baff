/- DeclBack: the walk. -/
import Derived.Test.YtjcocahhpjgbhaaMzDBytes
import Derived.Test.YtjcocahhpjgbhaaMzShown
set_option maxRecDepth 100000
set_option maxRecDepth 100000
set_option maxRecDepth 100000
set_option linter.unusedVariables false
set_option linter.unusedSimpArgs false
namespace Go.Proofs.Ytjcocahhpjgbhaa
open Go.RowKit Go.BigFrame

theorem Sl.capB {k : IntKind} {w : World} {B n c : Nat} {A : Option Addr} {xs : List Int} (h : Sl k w B (.slice A n c) xs) : xs.length ≤ c := by
  rcases h with ⟨A', c', hv, rfl⟩ | ⟨b, off, c', hv, hlt, hc, hx⟩
  · exact Nat.zero_le _
  · injection hv with h1 h2 h3
    subst h3; exact hc
theorem encs_max {D : PD} (h : i64D D) (hm : manyDc D = false) : (encs (nDc D)).length ≤ 45000 ∧ 1 ≤ (encs (nDc D)).length := by
  have h1 := encs_le (i64_nDc h hm)
  have h2 := nDc_le (vDc_of h hm)
  have h3 := encs_pos (l := nDc D)
  have h4 : 1 ≤ (nDc D).length := by unfold nDc nTs; simp
  exact ⟨by omega, by omega⟩
theorem get_back_x {D : PD} (h : i64D D) (hm : manyDc D = false) : dGetE (encs (nDc D)) = 0 ∧ dGetD (encs (nDc D)) = D ∧ Bytes (encs (nDc D)) := ⟨(dGet_back (vDc_of h hm)).1, (dGet_back (vDc_of h hm)).2, encs_byte (i64_nDc h hm)⟩
set_option maxHeartbeats 32000000 in
theorem declBack_any (D : Dc) (xs : List Int) (x : Int) (v : Value) (w : World) (hD : D.In w w.heap.size) (h64 : i64D D.pl) (hx : Sl .u8 w w.heap.size v xs) (hby : Bytes xs) (hx0 : 0 ≤ x) (hx1 : x ≤ 255) :
    Calls Try.prog 4 #[declV D, v, .int .u8 x] w fun e w' => e = .returned (.bool true) ∧ Below w.heap.size w w' := by
  obtain ⟨A, nt, c, A', np, c', h1, h2⟩ := decl_shape hD
  obtain ⟨AX, cx, rfl⟩ := hx.shape
  dsimp only [declV]
  rw [h1, h2]
  have HTV := Lib.hid (And.intro h1 h2)
  clear h1 h2
  obtain ⟨W, hW⟩ : ∃ W, W = w.alloc (.cells #[.slice A nt c, .slice A' np c'] 25) := ⟨_, rfl⟩
  have hB : Below w.heap.size w W := by rw [hW]; exact Bel.grew (Below.refl _ _) _
  have hC : Has W w.heap.size #[.slice A nt c, .slice A' np c'] := by rw [hW]; exact Has.new _ _ _
  have HD := Lib.hid (hD.later hB)
  have HX := Lib.hid (hx.later hB)
  have HB := Lib.hid hB
  have HC := Lib.hid hC
  have HW := Lib.hid hW
  have H64 := Lib.hid h64
  have HBY := Lib.hid hby
  have hc := hC.2
  have hcl := hC.1
  clear hD hx hB hC hW h64 hby
  obtain ⟨bg, hbg⟩ : ∃ b, bigD 20 20 20 40 D.pl = b := ⟨_, rfl⟩
  have HBG := Lib.hid hbg
  clear hbg
  go_enter Try.func4, Try.ntmps4
  go_wp2_with fail
  rw [← HW.out]
  clear HW
  refine (long07_is D _ _ HTV.out.1 HTV.out.2 W HD.out bg HBG.out).mono ?_
  rintro e w1 ⟨rfl, hb1⟩
  have HB1 := Lib.hid (Bel.then HB.out hb1)
  have HD1 := Lib.hid (HD.out.later hb1)
  have HX1 := Lib.hid (HX.out.later hb1)
  have HC1 := Lib.hid (HC.out.later hb1)
  clear hb1 hc hcl HD HX HC HB
  by_cases hlong : bg = true ∨ (bg = false ∧ (4096 : Int) < (xs.length : Int))
  · rcases hlong with rfl | ⟨rfl, hgt⟩
    all_goals
      go_wp2_with fail
      refine (known07_any w1).mono ?_
      rintro e w2 ⟨rfl, hb2⟩
      have HB2 := Lib.hid (Bel.then HB1.out hb2)
      clear hb2
      go_wp2_with fail
      go_ret
      exact ⟨rfl, HB2.out⟩
  have hbf : bg = false := by cases bg; rfl; exact absurd (.inl rfl) hlong
  subst hbf
  have hle : (xs.length : Int) ≤ 4096 := by
    rcases Int.lt_or_le 4096 (xs.length : Int) with h | h
    · exact absurd (.inr ⟨rfl, h⟩) hlong
    · exact h
  clear hlong
  have HL := Lib.hid (big_len HBG.out)
  have hc := HC1.out.2
  have hcl := HC1.out.1
  go_wp2_with fail
  refine (dPut_is D _ _ HTV.out.1 HTV.out.2 w1 HD1.out H64.out HL.out.1 HL.out.2).mono ?_
  intro e w2 hput
  -- what stands at the second half
  have hmid : (manyDc D.pl = true ∧ e = .returned (.tuple #[.slice none 0 0, .int .i64 3]) ∧ Below w1.heap.size w1 w2) ∨ (manyDc D.pl = false ∧ ∃ A n c, Hid (n = (encs (nDc D.pl)).length) ∧ e = .returned (.tuple #[.slice A n c, .int .i64 0]) ∧ Hid (Sl .u8 w2 w2.heap.size (.slice A n c) (encs (nDc D.pl))) ∧ Below w1.heap.size w1 w2) := by
    rcases hput with h | ⟨h1, h2⟩
    · exact .inl h
    · obtain ⟨A, n, c, k1, k2, k3, k4⟩ := h2
      exact .inr ⟨h1, A, n, c, Lib.hid k1, k2, Lib.hid k3, k4⟩
  clear hput
  rcases hmid with ⟨hm, rfl, hb2⟩ | ⟨hm, A1, n1, c1, HN0, rfl, HS0, hb2⟩
  have HXM := Lib.hid (HX1.out.later hb2)
  have HBM := Lib.hid (Bel.then HB1.out hb2)
  obtain ⟨wm, rfl⟩ : ∃ X, X = w2 := ⟨_, rfl⟩
  clear hb2 hm hc hcl HC1 HD1 HX1 HB1
  go_upto_region 14 with fail
  rotate_left
  have hn1 := HN0.out
  have hs1 := HS0.out
  clear HN0 HS0
  have HX2 := Lib.hid (HX1.out.later hb2)
  have HB2 := Lib.hid (Bel.then HB1.out hb2)
  have HC2 := Lib.hid (HC1.out.later hb2)
  have HD2 := Lib.hid (HD1.out.later hb2)
  obtain ⟨ys, hys⟩ : ∃ ys, ys = encs (nDc D.pl) := ⟨_, rfl⟩
  have hmx := encs_max H64.out hm
  have hgb := get_back_x H64.out hm
  have VD := Lib.hid (vDc_of H64.out hm)
  have HLG := Lib.hid (And.intro (fun (z : Int) (h0 : 0 ≤ z) (h1 : z ≤ 255) => dGet_long (vDc_of H64.out hm) h0 h1) (fun (m : Nat) (h : m < (encs (nDc D.pl)).length) => dGet_cut (vDc_of H64.out hm) h))
  rw [← hys] at hn1 hs1 hmx hgb HLG
  obtain ⟨q, hq⟩ : ∃ q, n1 = q + 1 := ⟨n1 - 1, by omega⟩
  have hq1 : (n1 : Int) - 1 = (q : Int) := by omega
  obtain ⟨A5, c5, h5⟩ := sliced_shape A1 0 q c1
  rw [Nat.sub_zero] at h5
  have hs1' : Sl .u8 w2 w2.heap.size (.slice A1 ys.length c1) ys := by rw [← hn1]; exact hs1
  have hcap : ys.length ≤ c1 := hs1'.capB
  have hcut : ∀ W : World, (Instr.sliceAt 26 (.slice A1 n1 c1) none (some (.int .i64 ((n1 : Int) - 1))) none).run Try.prog W = .ok (.slice A5 q c5) W := fun W => by
    have h := run_upto A1 ys.length c1 q (by omega) W
    rw [← hn1] at h
    rw [hq1, h, h5]
  have hs5 : Sl .u8 w2 w2.heap.size (.slice A5 q c5) (ys.take q) := by
    have h := hs1'.upto_ (a := q) (by omega)
    rw [h5] at h
    exact h
  have HS2 := Lib.hid hs1
  have HS5 := Lib.hid hs5
  have HMX := Lib.hid hmx
  have HGB := Lib.hid hgb
  have HN1 := Lib.hid hn1
  have HQ := Lib.hid hq
  have hn1a : (1 : Int) ≤ (n1 : Int) := by omega
  have hn1b : (n1 : Int) ≤ 45000 := by omega
  have hn0 : ((n1 : Int) == 0) = false := by simp; omega
  clear hb2 hm hc hcl HC1 HD1 HX1 HB1 hys hmx hgb hn1 hs1 hs1' h5 hcap hs5 hq hq1
  go_wp2_with fail
  refine (dGet_any ys _ w2 HS2.out (by have := HMX.out.1; omega) HGB.out.2.2 D.pl 0 HGB.out.2.1 HGB.out.1).mono ?_
  rintro e w3 ⟨G, rfl, hG, hgp, hb3⟩
  obtain ⟨X1, m1, k1, X2, m2, k2, g1, g2⟩ := decl_shape hG.inn
  dsimp only [declV]
  rw [g1, g2]
  obtain ⟨W4, hW4⟩ : ∃ W4, W4 = w3.alloc (.cells #[.slice X1 m1 k1, .slice X2 m2 k2] 25) := ⟨_, rfl⟩
  have hg4 : Below w3.heap.size w3 W4 := by rw [hW4]; exact Bel.grew (Below.refl _ _) _
  have hC4 : Has W4 w3.heap.size #[.slice X1 m1 k1, .slice X2 m2 k2] := by rw [hW4]; exact Has.new _ _ _
  have hb24 := Bel.then hb3 hg4
  have HGV := Lib.hid (And.intro g1 g2)
  have HGP := Lib.hid hgp
  have HG4 := Lib.hid (hG.inn.later hg4)
  have HP4 := Lib.hid hC4
  have HX4 := Lib.hid (HX2.out.later hb24)
  have HC4 := Lib.hid (HC2.out.later hb24)
  have HD4 := Lib.hid (HD2.out.later hb24)
  have HS4 := Lib.hid (HS2.out.later hb24)
  have HS54 := Lib.hid (HS5.out.later hb24)
  have HB4 := Lib.hid (Bel.then HB2.out hb24)
  have HW4 := Lib.hid hW4
  clear g1 g2 hG hgp hb3 hg4 hC4 hb24 hW4 HX2 HC2 HD2 HS2 HS5 HB2
  go_upto_region 8 with fail
  rw [← HW4.out]
  clear HW4
  have hlit : OwnK .u8 5 (W4.alloc (.cells #[] 5)) W4.heap.size (.slice (some ⟨W4.heap.size, 0, none⟩) 0 0) [] := OwnK.lit W4 5 [] 0 _ rfl rfl (by decide)
  have hsrc : Sl .u8 (W4.alloc (.cells #[] 5)) (W4.alloc (.cells #[] 5)).heap.size (.slice A1 n1 c1) ys := HS4.out.later (Bel.grew (Below.refl _ _) _)
  have hb4a : Below W4.heap.size W4 (W4.alloc (.cells #[] 5)) := Bel.grew (Below.refl _ _) _
  have HLIT := Lib.hid hlit
  have HSRC := Lib.hid hsrc
  have HB4A := Lib.hid hb4a
  have HYL := Lib.hid HMX.out.1
  clear hlit hsrc hb4a
  have tok1 : True := trivial
  go_wp2_with (first
    | (at_builtin; have _t := tok1; refine wpList_append_sl rfl _ _ 26 rfl Try.underlying26 infoBytes (by decide) rfl rfl HLIT.out HSRC.out (by rw [List.length_nil]; have := HYL.out; omega) (by rw [World.size_alloc]; omega) ?_; intro v1 w5 hown1 hb5; rw [List.nil_append] at hown1; have HO5 := Lib.hid hown1; have HB5 := Lib.hid (HB4A.out.trans hb5); have hs5 := hb5.size; clear hown1 hb5 tok1)
    | (at_builtin; refine wpList_append_sl rfl _ _ 26 rfl Try.underlying26 infoBytes (by decide) rfl rfl (HO5.out.grow _) (Sl.one _ _ x _ rfl) (by rw [List.length_cons, List.length_nil]; have := HYL.out; omega) (by rw [World.size_alloc] at hs5 ⊢; omega) ?_; intro v2 w6 hown2 hb6; have HO6 := Lib.hid hown2.sl; have HB6 := Lib.hid ((HB5.out.alloc (by rw [World.size_alloc] at hs5; omega) _).trans hb6); clear hown2 hb6))
  have HB46 : Hid (Below W4.heap.size W4 w6) := HB6
  have HYX : Hid (Bytes (ys ++ [x])) := Lib.hid (bytes_snoc HGB.out.2.2 hx0 hx1)
  have hl6 : (ys ++ [x]).length ≤ 1099511627776 := by rw [List.length_append]; have := HYL.out; simp only [List.length_cons, List.length_nil]; omega
  have HL6 := Lib.hid hl6
  have H5E := Lib.hid (HLG.out.1 x hx0 hx1)
  clear hl6 hs5 HO5 HB5 HLIT HSRC HB4A
  obtain ⟨zs, hzs⟩ : ∃ zs, zs = ys ++ [x] := ⟨_, rfl⟩
  rw [← hzs] at HO6 HYX HL6 H5E
  clear hzs
  obtain ⟨Az, cz, hz⟩ := HO6.out.shape
  subst hz
  refine (dGet_any zs _ w6 HO6.out HL6.out HYX.out (dGetD zs) 5 rfl H5E.out).mono ?_
  rintro e w7 ⟨G2, rfl, hG2, _, hb7⟩
  obtain ⟨Z1, i1, k3, Z2, i2, k4, g3, g4⟩ := decl_shape hG2.inn
  dsimp only [declV]
  rw [g3, g4]
  obtain ⟨W8, hW8⟩ : ∃ W8, W8 = w7.alloc (.cells #[.slice Z1 i1 k3, .slice Z2 i2 k4] 25) := ⟨_, rfl⟩
  have hg8 : Below w7.heap.size w7 W8 := by rw [hW8]; exact Bel.grew (Below.refl _ _) _
  have hb48 : Below W4.heap.size W4 W8 := Bel.then HB46.out (Bel.then hb7 hg8)
  have HG8 := Lib.hid (HG4.out.later hb48)
  have HP8 := Lib.hid (HP4.out.later hb48)
  have HX8 := Lib.hid (HX4.out.later hb48)
  have HC8 := Lib.hid (HC4.out.later hb48)
  have HD8 := Lib.hid (HD4.out.later hb48)
  have HS58 := Lib.hid (HS54.out.later hb48)
  have HB8 := Lib.hid (Bel.then HB4.out hb48)
  have HW8 := Lib.hid hW8
  clear g3 g4 hG2 hb7 hg8 hb48 hW8 HG4 HP4 HX4 HC4 HD4 HS4 HS54 HB4 HB46 HB6 HO6
  have hp := HP8.out.2
  have hpl := HP8.out.1
  have hc := HC8.out.2
  have hcl := HC8.out.1
  go_upto_region 9 with fail
  rw [← HW8.out]
  clear HW8
  go_wp2_with fail
  refine (sameD_is G D _ _ _ _ HGV.out.1 HGV.out.2 HTV.out.1 HTV.out.2 W8 HG8.out HD8.out HGP.out (lenD_v (by rw [HGP.out]; exact VD.out)).1 (lenD_v (by rw [HGP.out]; exact VD.out)).2).mono ?_
  rintro e w9 ⟨rfl, hb9⟩
  have HX9 := Lib.hid (HX8.out.later hb9)
  have HS59 := Lib.hid (HS58.out.later hb9)
  have HB9 := Lib.hid (Bel.then HB8.out hb9)
  clear hb9 hp hpl hc hcl HP8 HC8 HG8 HD8 HX8 HS58 HB8
  go_wp2_with fail
  have H4E : Hid (dGetE (ys.take q) = 4) := Lib.hid (HLG.out.2 q (by have := HN1.out; have := HQ.out; omega))
  refine (dGet_any (ys.take q) _ w9 HS59.out (by have := HYL.out; rw [List.length_take]; omega) (fun d hd => HGB.out.2.2 d (List.mem_of_mem_take hd)) (dGetD (ys.take q)) 4 rfl H4E.out).mono ?_
  rintro e w10 ⟨G3, rfl, hG3, _, hb10⟩
  obtain ⟨Q1, q1, k5, Q2, q2, k6, g5, g6⟩ := decl_shape hG3.inn
  dsimp only [declV]
  rw [g5, g6]
  obtain ⟨wm, hwm⟩ : ∃ X, X = w10.alloc (.cells #[.slice Q1 q1 k5, .slice Q2 q2 k6] 25) := ⟨_, rfl⟩
  have hg11 : Below w10.heap.size w10 wm := by rw [hwm]; exact Bel.grew (Below.refl _ _) _
  have HXM := Lib.hid (HX9.out.later (Bel.then hb10 hg11))
  have HBM := Lib.hid (Bel.then HB9.out (Bel.then hb10 hg11))
  have HWM := Lib.hid hwm
  clear g5 g6 hG3 hb10 hg11 hwm HX9 HS59 HB9 hcut hn1a hn1b hn0 HYL HMX HGB HLG HN1 HQ
  go_upto_region 14 with fail
  rw [← HWM.out]
  clear HWM
  all_goals
    obtain ⟨GE, hGE⟩ : ∃ E, dGetE xs = E := ⟨_, rfl⟩
    have HGE := Lib.hid hGE
    clear hGE
    go_wp2_with fail
    refine (dGet_any xs _ wm HXM.out (by omega) HBY.out (dGetD xs) GE rfl HGE.out).mono ?_
    rintro e v1 ⟨R, rfl, hR, hrp, hv1⟩
    obtain ⟨R1, r1, j1, R2, r2, j2, f1, f2⟩ := decl_shape hR.inn
    dsimp only [declV]
    rw [f1, f2]
    obtain ⟨V2, hV2⟩ : ∃ X, X = v1.alloc (.cells #[.slice R1 r1 j1, .slice R2 r2 j2] 25) := ⟨_, rfl⟩
    have hg2 : Below v1.heap.size v1 V2 := by rw [hV2]; exact Bel.grew (Below.refl _ _) _
    have hC2 : Has V2 v1.heap.size #[.slice R1 r1 j1, .slice R2 r2 j2] := by rw [hV2]; exact Has.new _ _ _
    have HRV := Lib.hid (And.intro f1 f2)
    have HRP := Lib.hid hrp
    have HR2 := Lib.hid (hR.inn.later hg2)
    have HXV := Lib.hid (HXM.out.later (Bel.then hv1 hg2))
    have HBV := Lib.hid (Bel.then HBM.out (Bel.then hv1 hg2))
    have HV2 := Lib.hid hV2
    have hp := hC2.2
    have hpl := hC2.1
    clear f1 f2 hR hrp hv1 hg2 hC2 hV2 HXM HBM
    go_upto_region 15 with fail
    rw [← HV2.out]
    clear HV2
    by_cases hE0 : GE = 0
    · subst hE0
      obtain ⟨hvd, hby⟩ := dGet_ok HBY.out HGE.out
      rw [← HRP.out] at hvd hby
      have HVD := Lib.hid hvd
      have HBB := Lib.hid hby
      have hm : manyDc R.pl = false := many_of hvd
      have HM := Lib.hid hm
      clear hvd hby hm
      go_wp2_with fail
      refine ((dPut_is R _ _ HRV.out.1 HRV.out.2 V2 HR2.out (i64_of HVD.out) (lenD_v HVD.out).1 (lenD_v HVD.out).2).mono fun e w' h => DPutRet.ok h HM.out).mono ?_
      rintro e v3 ⟨A9, n9, c9, hn9, rfl, hs9, hv3⟩
      rw [HBB.out] at hs9
      have HS9 := Lib.hid hs9
      have HX3 := Lib.hid (HXV.out.later hv3)
      have HB3 := Lib.hid (Bel.then HBV.out hv3)
      clear hs9 hv3 hn9 hp hpl
      go_wp2_with fail
      refine (sameBytes_is (b := true) HS9.out HX3.out (by simp) (by omega)).mono ?_
      rintro e v4 ⟨rfl, hv4⟩
      have HB4 := Lib.hid (Bel.then HB3.out hv4)
      clear hv4
      go_wp2_with fail
      refine (known07_any v4).mono ?_
      rintro e v5 ⟨rfl, hv5⟩
      have HB5 := Lib.hid (Bel.then HB4.out hv5)
      clear hv5
      go_wp2_with fail
      go_ret
      exact ⟨rfl, HB5.out⟩
    · have hEb : (GE != 0) = true := by simp [hE0]
      have hEb2 : (GE == 0) = false := by simp [hE0]
      have HRZ : Hid (R.pl = ⟨[], []⟩) := Lib.hid (by rw [HRP.out]; exact dGet_no (by rw [HGE.out]; exact hE0))
      have HRL := Lib.hid (get_len HBY.out HRP.out)
      go_wp2_with fail
      refine (sameD_is R ⟨[], [], .slice none 0 0, .slice none 0 0⟩ _ _ _ _ HRV.out.1 HRV.out.2 rfl rfl V2 HR2.out ⟨SlR.none_, (fun t ht => by cases ht), SlR.none_⟩ (by rw [HRZ.out]; rfl) HRL.out.1 HRL.out.2).mono ?_
      rintro e v3 ⟨rfl, hv3⟩
      have HB3 := Lib.hid (Bel.then HBV.out hv3)
      clear hv3 hp hpl
      go_wp2_with fail
      refine (known07_any v3).mono ?_
      rintro e v5 ⟨rfl, hv5⟩
      have HB5 := Lib.hid (Bel.then HB3.out hv5)
      clear hv5
      go_wp2_with fail
      go_ret
      exact ⟨rfl, HB5.out⟩
end Go.Proofs.Ytjcocahhpjgbhaa
