/- quaysideref07.Put. -/
import Derived.Test.YtjcocahhpjgbhaaMzDNum
import Derived.Test.YtjcocahhpjgbhaaMzDPut4
set_option maxRecDepth 100000
set_option maxRecDepth 100000
set_option maxRecDepth 100000
set_option linter.unusedVariables false
set_option linter.unusedSimpArgs false
namespace Go.Proofs.Ytjcocahhpjgbhaa
open Go.RowKit Go.BigFrame

theorem i64_nDc {D : PD} (h : i64D D) (hm : manyDc D = false) : I64s (nDc D) := (cod_dc (xs := []) (fun d hd => by cases hd)).n64 D (vDc_of h hm)
theorem sm_of {D : Dc} (h : manyDc D.pl = false) : D.ts.length ≤ 8 ∧ D.ps.length ≤ 8 ∧ ∀ t ∈ D.ts, SmT 8 16 t := by
  unfold manyDc Dc.pl at h
  simp only [Bool.or_eq_false_iff, decide_eq_false_iff_not, List.any_eq_false, List.length_map] at h
  obtain ⟨⟨h1, h2⟩, h3⟩ := h
  refine ⟨by omega, by omega, fun t ht => ?_⟩
  have h4 := h3 t.pl (List.mem_map_of_mem ht)
  unfold manyTy at h4
  rw [Bool.not_eq_true] at h4
  simp only [Bool.or_eq_false_iff, decide_eq_false_iff_not, List.any_eq_false] at h4
  refine ⟨by have := h4.1; unfold Ty.pl at this; rw [List.length_map] at this; omega, fun f hf => ?_⟩
  have h5 := h4.2 f.pl (by unfold Ty.pl; exact List.mem_map_of_mem hf)
  unfold manyFd at h5
  rw [decide_eq_true_iff] at h5
  unfold SmF
  unfold Fd.pl at h5
  dsimp only at h5
  omega
set_option maxHeartbeats 8000000 in
theorem rPut_any (D : Dc) (w : World) (hD : D.In w w.heap.size) (h64 : i64D D.pl) :
    Calls Try.prog 11 #[declV D] w fun e w' => DPutRet D.pl w e w' := by
  obtain ⟨tv, htv⟩ : ∃ tv, tv = D.tv := ⟨_, rfl⟩
  obtain ⟨pv, hpv⟩ : ∃ pv, pv = D.pv := ⟨_, rfl⟩
  obtain ⟨A, c, h1⟩ := hD.1.shapeL
  obtain ⟨A', c', h2⟩ := hD.2.2.shapeL
  obtain ⟨nt, hnt⟩ : ∃ n, n = D.ts.length := ⟨_, rfl⟩
  obtain ⟨np, hnp⟩ : ∃ n, n = D.ps.length := ⟨_, rfl⟩
  rw [← hnt] at h1
  rw [← hnp] at h2
  dsimp only [declV]
  rw [h1, h2]
  have HTV := Lib.hid h1
  have HPV := Lib.hid h2
  clear htv hpv hnt hnp h1 h2
  obtain ⟨W, hW⟩ : ∃ W, W = w.alloc (.cells #[.slice A nt c, .slice A' np c'] 25) := ⟨_, rfl⟩
  have hB : Below w.heap.size w W := by rw [hW]; exact Bel.grew (Below.refl _ _) _
  have hC : Has W w.heap.size #[.slice A nt c, .slice A' np c'] := by rw [hW]; exact Has.new _ _ _
  have HD := Lib.hid (hD.later hB)
  have HB := Lib.hid hB
  have HC := Lib.hid hC
  have HW := Lib.hid hW
  have H64 := Lib.hid h64
  have hc := hC.2
  have hcl := hC.1
  clear hD hB hC hW h64
  go_enter Try.func11, Try.ntmps11
  go_wp2_with fail
  rw [← HW.out]
  clear HW
  have hmany := rmany07_any D W HD.out
  dsimp only [declV] at hmany
  rw [HTV.out, HPV.out] at hmany
  refine hmany.mono ?_
  clear hmany
  rintro e w1 ⟨rfl, hb1⟩
  rw [← many_big]
  have HB1 := Lib.hid (HB.out.trans (hb1.mono HB.out.size))
  have HD1 := Lib.hid (HD.out.later hb1)
  have HC1 := Lib.hid (HC.out.later hb1)
  clear hb1 hc hcl
  by_cases hm : manyDc D.pl = true
  · rw [hm]
    have HM := Lib.hid hm
    clear hm
    go_wp2_with fail
    go_ret2
    exact .inl ⟨HM.out, rfl, HB1.out⟩
  · have hm0 : manyDc D.pl = false := by simpa using hm
    rw [hm0]
    obtain ⟨ht8, hp8, hsm⟩ := sm_of hm0
    have HM := Lib.hid hm0
    have H8 := Lib.hid (And.intro ht8 (And.intro hp8 hsm))
    have hc := HC1.out.2
    have hcl := HC1.out.1
    clear hm hm0 ht8 hp8 hsm
    go_wp2_with fail
    have hnum := numbers_any D w1 HD1.out H8.out.1 H8.out.2.1 H8.out.2.2
    dsimp only [declV] at hnum
    rw [HTV.out, HPV.out] at hnum
    refine hnum.mono ?_
    clear hnum
    rintro e w2 ⟨AL, nL, cL, hnL, rfl, hsl, hb2⟩
    have h64n := i64_nDc H64.out HM.out
    have hle := nDc_le (vDc_of H64.out HM.out)
    obtain ⟨R, hR⟩ : ∃ R, R = nDc D.pl := ⟨_, rfl⟩
    rw [← hR] at hnL hsl h64n hle
    have HRR := Lib.hid hR
    have HSL := Lib.hid hsl
    have HB2 := Lib.hid (HB1.out.trans (hb2.mono HB1.out.size))
    have H64N := Lib.hid h64n
    have hnL5 : nL ≤ 5000 := by omega
    have HNL := Lib.hid hnL
    have hnLI : (nL : Int) ≤ 5000 := by omega
    clear hsl hb2 hR hnL h64n hc hcl hle
    go_wp2_with fail
    go_loopw [5, 6] (fun u i wr => ∃ (v : Value) (k : Nat), k ≤ nL ∧ v = u ∧ i = .int .i64 k ∧ Below w2.heap.size w2 wr ∧ Hid (Sl .u8 wr wr.heap.size v (encs (R.take k)))) (fun _ i _ => nL - (intOf i).toNat)
    case atStart => exact ⟨_, 0, Nat.zero_le _, rfl, rfl, Below.refl _ _, Lib.hid (.inl ⟨none, 0, rfl, rfl⟩)⟩
    case round =>
      obtain ⟨v, k, hk, rfl, rfl, hb, HV⟩ := hrel
      have HBk := Lib.hid hb
      clear hb
      by_cases hlt : k < nL
      · have hkR : k < R.length := by rw [← HNL.out]; exact hlt
        obtain ⟨x, hx⟩ : ∃ x, R[k]? = some x := ⟨_, List.getElem?_eq_getElem hkR⟩
        obtain ⟨b, off, hA, hbb, hcap, hcx⟩ := (HSL.out.later HBk.out).elem hkR
        subst hA
        rw [hx] at hcx
        dsimp only [Option.getD_some] at hcx
        have HX64 := Lib.hid (H64N.out x (List.mem_of_getElem? hx))
        have HTK : Hid (R.take (k + 1) = R.take k ++ [x]) := Lib.hid (take_snoc hx)
        have HLE : Hid ((encs (R.take k)).length ≤ 1099511627776) := Lib.hid (by
          have h := encs_le (l := R.take k) (fun n hn => H64N.out n (List.mem_of_mem_take hn))
          have h2 : (R.take k).length ≤ k := List.length_take_le _ _
          omega)
        have hcap' : nL ≤ cL := by rw [HNL.out]; exact hcap
        have hkI : (k : Int) < (nL : Int) := by omega
        clear hx hkR hcap
        go_wp2_with fail
        refine (rint_any _ x _ _ _ HV.out (Nat.le_refl _) HLE.out HX64.out.1 HX64.out.2).mono ?_
        rintro e w4 ⟨r, rfl, ho, hb4⟩
        rw [← encs_snoc, ← HTK.out] at ho
        have HO := Lib.hid ho.sl
        have HB4 := Lib.hid (Bel.then HBk.out hb4)
        clear ho hb4 hcx
        go_wp2_with fail
        go_roundw
        case rel => exact ⟨_, k + 1, by omega, rfl, by go_num, HB4.out, HO⟩
        case measure => simp [intOf]; omega
      · have hk' : k = nL := by omega
        subst hk'
        have hv := HV.out
        rw [List.take_of_length_le (by rw [← HNL.out]; exact Nat.le_refl _), HRR.out] at hv
        obtain ⟨A9, c9, h9⟩ := hv.shape
        obtain ⟨n9, hn9⟩ : ∃ n, n = (encs (nDc D.pl)).length := ⟨_, rfl⟩
        rw [← hn9] at h9
        subst h9
        have HV9 := Lib.hid hv
        have HN9 := Lib.hid hn9
        clear hv hn9 HV
        go_wp2_with fail
        go_ret2
        exact .inr ⟨HM.out, A9, n9, c9, HN9.out, rfl, HV9.out, HB2.out.trans (HBk.out.mono HB2.out.size)⟩
end Go.Proofs.Ytjcocahhpjgbhaa
