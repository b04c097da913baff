/- DeclBytes: the walk. -/
import Derived.Test.YtjcocahhpjgbhaaMzDKnown
set_option maxRecDepth 100000
set_option maxRecDepth 100000
set_option maxRecDepth 100000
set_option linter.unusedVariables false
set_option linter.unusedSimpArgs false
namespace Go.Proofs.Ytjcocahhpjgbhaa
open Go.RowKit Go.BigFrame

theorem big_len {D : Dc} (h : bigD 20 20 20 40 D.pl = false) : LenD D ∧ D.ps.length ≤ 1099511627776 := by
  unfold bigD Dc.pl at h
  simp only [Bool.or_eq_false_iff, decide_eq_false_iff_not, List.any_eq_false, List.length_map] at h
  obtain ⟨⟨h1, h2⟩, h3⟩ := h
  refine ⟨⟨by omega, fun t ht => ?_⟩, by omega⟩
  have h4 := h3 t.pl (List.mem_map_of_mem ht)
  unfold bigT at h4
  rw [Bool.not_eq_true] at h4
  simp only [Bool.or_eq_false_iff, decide_eq_false_iff_not, List.any_eq_false] at h4
  refine ⟨by have := h4.1; unfold Ty.pl at this; rw [List.length_map] at this; omega, fun f hf => ?_⟩
  have h5 := h4.2 f.pl (by unfold Ty.pl; exact List.mem_map_of_mem hf)
  unfold bigF at h5
  rw [decide_eq_true_iff] at h5
  unfold Fd.pl at h5
  dsimp only at h5
  omega
theorem get_len {xs : List Int} (hb : Bytes xs) {G : Dc} (h : G.pl = dGetD xs) : LenD G ∧ G.ps.length ≤ 1099511627776 := by
  by_cases he : dGetE xs = 0
  · exact lenD_v (by rw [h]; exact (dGet_ok hb he).1)
  · rw [dGet_no he] at h
    have h1 : G.ts.length = 0 := by have := congrArg (fun D => D.ts.length) h; simpa [Dc.pl] using this
    have h2 : G.ps.length = 0 := by have := congrArg (fun D => D.ps.length) h; simpa [Dc.pl] using this
    have h3 : G.ts = [] := List.eq_nil_of_length_eq_zero h1
    exact ⟨⟨by omega, fun t ht => by rw [h3] at ht; cases ht⟩, by omega⟩
theorem copyD_is (D : Dc) (tv pv : Value) (h1 : D.tv = tv) (h2 : D.pv = pv) (w : World) (hD : D.In w w.heap.size) (hL : LenD D) (hp : D.ps.length ≤ 1099511627776) :
    Calls Try.prog 9 #[.agg #[tv, pv]] w fun e w' => CopyDRet D w e w' := by
  subst h1 h2; exact copyDecl_any D w hD hL hp
theorem rPut_is (D : Dc) (tv pv : Value) (h1 : D.tv = tv) (h2 : D.pv = pv) (w : World) (hD : D.In w w.heap.size) (h64 : i64D D.pl) :
    Calls Try.prog 11 #[.agg #[tv, pv]] w fun e w' => DPutRet D.pl w e w' := by
  subst h1 h2; exact rPut_any D w hD h64
theorem long07_is (D : Dc) (tv pv : Value) (h1 : D.tv = tv) (h2 : D.pv = pv) (w : World) (hD : D.In w w.heap.size) (b : Bool) (hb : bigD 20 20 20 40 D.pl = b) :
    Calls Try.prog 7 #[.agg #[tv, pv]] w fun e w' => e = .returned (.bool b) ∧ Below w.heap.size w w' := by
  subst h1 h2 hb; exact long07_any D w hD
/-- A declaration's value, taken apart. -/
theorem decl_shape {D : Dc} {w : World} {B : Nat} (h : D.In w B) : ∃ A n c A' n' c', D.tv = .slice A n c ∧ D.pv = .slice A' n' c' := by
  obtain ⟨A, c, h1⟩ := h.1.shapeL
  obtain ⟨A', c', h2⟩ := h.2.2.shapeL
  exact ⟨A, _, c, A', _, c', h1, h2⟩
set_option maxHeartbeats 16000000 in
theorem declBytes_any (D : Dc) (xs : List Int) (v : Value) (w : World) (hD : D.In w w.heap.size) (h64 : i64D D.pl) (hx : Sl .u8 w w.heap.size v xs) (hby : Bytes xs) :
    Calls Try.prog 3 #[declV D, v] w fun e w' => e = .returned (.bool true) ∧ Below w.heap.size w w' := by
  obtain ⟨A, nt, c, A', np, c', h1, h2⟩ := decl_shape hD
  obtain ⟨AX, cx, rfl⟩ := hx.shape
  dsimp only [declV]
  rw [h1, h2]
  have HTV := Lib.hid (And.intro h1 h2)
  clear h1 h2
  obtain ⟨W, hW⟩ : ∃ W, W = w.alloc (.cells #[.slice A nt c, .slice A' np c'] 25) := ⟨_, rfl⟩
  have hB : Below w.heap.size w W := by rw [hW]; exact Bel.grew (Below.refl _ _) _
  have hC : Has W w.heap.size #[.slice A nt c, .slice A' np c'] := by rw [hW]; exact Has.new _ _ _
  have HD := Lib.hid (hD.later hB)
  have HX := Lib.hid (hx.later hB)
  have HB := Lib.hid hB
  have HC := Lib.hid hC
  have HW := Lib.hid hW
  have H64 := Lib.hid h64
  have HBY := Lib.hid hby
  have hc := hC.2
  have hcl := hC.1
  clear hD hx hB hC hW h64 hby
  obtain ⟨bg, hbg⟩ : ∃ b, bigD 20 20 20 40 D.pl = b := ⟨_, rfl⟩
  have HBG := Lib.hid hbg
  clear hbg
  go_enter Try.func3, Try.ntmps3
  go_wp2_with fail
  rw [← HW.out]
  clear HW
  refine (long07_is D _ _ HTV.out.1 HTV.out.2 W HD.out bg HBG.out).mono ?_
  rintro e w1 ⟨rfl, hb1⟩
  have HB1 := Lib.hid (Bel.then HB.out hb1)
  have HD1 := Lib.hid (HD.out.later hb1)
  have HX1 := Lib.hid (HX.out.later hb1)
  have HC1 := Lib.hid (HC.out.later hb1)
  clear hb1 hc hcl HD HX HC HB
  by_cases hlong : bg = true ∨ (bg = false ∧ (4096 : Int) < (xs.length : Int))
  · have HB1' := HB1
    rcases hlong with rfl | ⟨rfl, hgt⟩
    all_goals
      go_wp2_with fail
      refine (known07_any w1).mono ?_
      rintro e w2 ⟨rfl, hb2⟩
      have HB2 := Lib.hid (Bel.then HB1.out hb2)
      clear hb2
      go_wp2_with fail
      go_ret
      exact ⟨rfl, HB2.out⟩
  have hbf : bg = false := by cases bg; rfl; exact absurd (.inl rfl) hlong
  subst hbf
  have hle : (xs.length : Int) ≤ 4096 := by
    rcases Int.lt_or_le 4096 (xs.length : Int) with h | h
    · exact absurd (.inr ⟨rfl, h⟩) hlong
    · exact h
  clear hlong
  have HL := Lib.hid (big_len HBG.out)
  have hc := HC1.out.2
  have hcl := HC1.out.1
  go_wp2_with fail
  refine (copyD_is D _ _ HTV.out.1 HTV.out.2 w1 HD1.out HL.out.1 HL.out.2).mono ?_
  rintro e w2 ⟨E, rfl, hE, hpl, _, hb2⟩
  obtain ⟨B, mt, d, B', mp, d', g1, g2⟩ := decl_shape hE.inn
  dsimp only [declV]
  rw [g1, g2]
  obtain ⟨W3, hW3⟩ : ∃ W3, W3 = w2.alloc (.cells #[.slice B mt d, .slice B' mp d'] 25) := ⟨_, rfl⟩
  have hg3 : Below w2.heap.size w2 W3 := by rw [hW3]; exact Bel.grew (Below.refl _ _) _
  have hC3 : Has W3 w2.heap.size #[.slice B mt d, .slice B' mp d'] := by rw [hW3]; exact Has.new _ _ _
  have hb13 := Bel.then hb2 hg3
  have HEV := Lib.hid (And.intro g1 g2)
  have HPL := Lib.hid hpl
  have HLE := Lib.hid (And.intro (HL.out.1.pl hpl) (show E.ps.length ≤ 1099511627776 by
    have : E.ps = D.ps := congrArg PD.ps hpl
    rw [this]; exact HL.out.2))
  have HE3 := Lib.hid (hE.inn.later hg3)
  have HI3 := Lib.hid hC3
  have HC3 := Lib.hid (HC1.out.later hb13)
  have HD3 := Lib.hid (HD1.out.later hb13)
  have HX3 := Lib.hid (HX1.out.later hb13)
  have HB3 := Lib.hid (Bel.then HB1.out hb13)
  have HW3 := Lib.hid hW3
  clear g1 g2 hE hpl hb2 hg3 hC3 hb13 hW3 hc hcl HC1 HD1 HX1 HB1
  have hi := HI3.out.2
  have hil := HI3.out.1
  go_wp2_with fail
  rw [← HW3.out]
  clear HW3
  refine (dPut_is E _ _ HEV.out.1 HEV.out.2 W3 HE3.out (by rw [HPL.out]; exact H64.out) HLE.out.1 HLE.out.2).mono ?_
  rw [HPL.out]
  intro e w4 hput
  have hpc : ∃ (A1 : Option Addr) (n1 c1 : Nat) (E1 : Int) (ys : List Int), e = .returned (.tuple #[.slice A1 n1 c1, .int .i64 E1]) ∧ Sl .u8 w4 w4.heap.size (.slice A1 n1 c1) ys ∧ Below W3.heap.size W3 w4 ∧ ys.length ≤ 1099511627776 ∧ E1 = (if manyDc D.pl then 3 else 0) ∧ ys = (if manyDc D.pl then [] else encs (nDc D.pl)) := by
    rcases hput with ⟨hm, he, hb⟩ | ⟨hm, A1, n1, c1, hn, he, hs, hb⟩
    · exact ⟨none, 0, 0, 3, [], he, .inl ⟨none, 0, rfl, rfl⟩, hb, Nat.zero_le _, by rw [if_pos hm], by rw [if_pos hm]⟩
    · refine ⟨A1, n1, c1, 0, _, he, hs, hb, ?_, by rw [if_neg (by rw [hm]; decide)], by rw [if_neg (by rw [hm]; decide)]⟩
      have h1 := encs_le (i64_nDc H64.out hm)
      have h2 := nDc_le (vDc_of H64.out hm)
      omega
  obtain ⟨A1, n1, c1, E1, ys, rfl, hs1, hb4, hyl, hE1, hys⟩ := hpc
  have HS4 := Lib.hid hs1
  have HYL := Lib.hid hyl
  have HE1 := Lib.hid hE1
  have HYS := Lib.hid hys
  have HI4 := Lib.hid (HI3.out.later hb4)
  have HC4 := Lib.hid (HC3.out.later hb4)
  have HE4 := Lib.hid (HE3.out.later hb4)
  have HD4 := Lib.hid (HD3.out.later hb4)
  have HX4 := Lib.hid (HX3.out.later hb4)
  have HB4 := Lib.hid (Bel.then HB3.out hb4)
  clear hput hs1 hb4 hyl hE1 hys hi hil HI3 HC3 HE3 HD3 HX3 HB3
  have hc := HC4.out.2
  have hcl := HC4.out.1
  go_wp2_with fail
  refine (rPut_is D _ _ HTV.out.1 HTV.out.2 w4 HD4.out H64.out).mono ?_
  intro e w5 hput
  have hpc : ∃ (A2 : Option Addr) (n2 c2 : Nat), e = .returned (.tuple #[.slice A2 n2 c2, .int .i64 E1]) ∧ Sl .u8 w5 w5.heap.size (.slice A2 n2 c2) ys ∧ Below w4.heap.size w4 w5 := by
    rw [HE1.out, HYS.out]
    rcases hput with ⟨hm, he, hb⟩ | ⟨hm, A1, n1, c1, hn, he, hs, hb⟩
    · rw [if_pos hm, if_pos hm]
      exact ⟨none, 0, 0, he, .inl ⟨none, 0, rfl, rfl⟩, hb⟩
    · rw [if_neg (by rw [hm]; decide), if_neg (by rw [hm]; decide)]
      exact ⟨A1, n1, c1, he, hs, hb⟩
  obtain ⟨A2, n2, c2, rfl, hs2, hb5⟩ := hpc
  have HS5 := Lib.hid (HS4.out.later hb5)
  have HT5 := Lib.hid hs2
  have HI5 := Lib.hid (HI4.out.later hb5)
  have HC5 := Lib.hid (HC4.out.later hb5)
  have HE5 := Lib.hid (HE4.out.later hb5)
  have HD5 := Lib.hid (HD4.out.later hb5)
  have HX5 := Lib.hid (HX4.out.later hb5)
  have HB5 := Lib.hid (Bel.then HB4.out hb5)
  clear hput hs2 hb5 hc hcl HI4 HC4 HE4 HD4 HX4 HB4 HS4
  have hne1 : (E1 != E1) = false := by simp
  have hne2 : (E1 == E1) = true := by simp
  go_wp2_with fail
  refine (sameBytes_is (b := true) HS5.out HT5.out (by simp) HYL.out).mono ?_
  rintro e w6 ⟨rfl, hb6⟩
  have HI6 := Lib.hid (HI5.out.later hb6)
  have HC6 := Lib.hid (HC5.out.later hb6)
  have HE6 := Lib.hid (HE5.out.later hb6)
  have HD6 := Lib.hid (HD5.out.later hb6)
  have HX6 := Lib.hid (HX5.out.later hb6)
  have HB6 := Lib.hid (Bel.then HB5.out hb6)
  clear hb6 HI5 HC5 HE5 HD5 HX5 HB5 HS5 HT5
  have hc := HC6.out.2
  have hcl := HC6.out.1
  have hi := HI6.out.2
  have hil := HI6.out.1
  go_wp2_with fail
  refine (sameD_is E D _ _ _ _ HEV.out.1 HEV.out.2 HTV.out.1 HTV.out.2 w6 HE6.out HD6.out HPL.out HLE.out.1 HLE.out.2).mono ?_
  rintro e w7 ⟨rfl, hb7⟩
  have HX7 := Lib.hid (HX6.out.later hb7)
  have HB7 := Lib.hid (Bel.then HB6.out hb7)
  clear hb7 hc hcl hi hil HI6 HC6 HE6 HD6 HX6 HB6
  obtain ⟨GE, hGE⟩ : ∃ E, dGetE xs = E := ⟨_, rfl⟩
  have HGE := Lib.hid hGE
  clear hGE
  go_wp2_with fail
  refine (dGet_any xs _ w7 HX7.out (by omega) HBY.out (dGetD xs) GE rfl HGE.out).mono ?_
  rintro e w8 ⟨G, rfl, hG, hgp, hb8⟩
  obtain ⟨X1, m1, k1, X2, m2, k2, g1, g2⟩ := decl_shape hG.inn
  dsimp only [declV]
  rw [g1, g2]
  obtain ⟨W9, hW9⟩ : ∃ W9, W9 = w8.alloc (.cells #[.slice X1 m1 k1, .slice X2 m2 k2] 25) := ⟨_, rfl⟩
  have hg9 : Below w8.heap.size w8 W9 := by rw [hW9]; exact Bel.grew (Below.refl _ _) _
  have hC9 : Has W9 w8.heap.size #[.slice X1 m1 k1, .slice X2 m2 k2] := by rw [hW9]; exact Has.new _ _ _
  have hb79 := Bel.then hb8 hg9
  have HGV := Lib.hid (And.intro g1 g2)
  have HGP := Lib.hid hgp
  have HG9 := Lib.hid (hG.inn.later hg9)
  have HP9 := Lib.hid hC9
  have HX9 := Lib.hid (HX7.out.later hb79)
  have HB9 := Lib.hid (Bel.then HB7.out hb79)
  have HW9 := Lib.hid hW9
  clear g1 g2 hG hgp hb8 hg9 hC9 hb79 hW9 HX7 HB7
  go_wp2_with fail
  rw [← HW9.out]
  clear HW9
  refine (rGet_any xs _ W9 HX9.out (by omega) HBY.out (dGetD xs) GE rfl HGE.out).mono ?_
  rintro e w10 ⟨Q, rfl, hQ, hqp, hb10⟩
  obtain ⟨Y1, l1, j1, Y2, l2, j2, g1, g2⟩ := decl_shape hQ.inn
  dsimp only [declV]
  rw [g1, g2]
  obtain ⟨W11, hW11⟩ : ∃ W11, W11 = w10.alloc (.cells #[.slice Y1 l1 j1, .slice Y2 l2 j2] 25) := ⟨_, rfl⟩
  have hg11 : Below w10.heap.size w10 W11 := by rw [hW11]; exact Bel.grew (Below.refl _ _) _
  have hC11 : Has W11 w10.heap.size #[.slice Y1 l1 j1, .slice Y2 l2 j2] := by rw [hW11]; exact Has.new _ _ _
  have hb911 := Bel.then hb10 hg11
  have HQV := Lib.hid (And.intro g1 g2)
  have HQP := Lib.hid hqp
  have HG11 := Lib.hid (HG9.out.later hb911)
  have HP11 := Lib.hid (HP9.out.later hb911)
  have HQ11 := Lib.hid (hQ.inn.later hg11)
  have HR11 := Lib.hid hC11
  have HB11 := Lib.hid (Bel.then HB9.out hb911)
  have HW11 := Lib.hid hW11
  clear g1 g2 hQ hqp hb10 hg11 hC11 hb911 hW11 HG9 HP9 HX9 HB9
  have hp := HP11.out.2
  have hpl := HP11.out.1
  have hr := HR11.out.2
  have hrl := HR11.out.1
  have hge1 : (GE == GE) = true := by simp
  go_upto_region 10 with fail
  rw [← HW11.out]
  clear HW11
  go_wp2_with fail
  refine (sameD_is G Q _ _ _ _ HGV.out.1 HGV.out.2 HQV.out.1 HQV.out.2 W11 HG11.out HQ11.out (by rw [HGP.out, HQP.out]) (get_len HBY.out HGP.out).1 (get_len HBY.out HGP.out).2).mono ?_
  rintro e w12 ⟨rfl, hb12⟩
  have HB12 := Lib.hid (Bel.then HB11.out hb12)
  clear hb12 hp hpl hr hrl
  go_wp2_with fail
  refine (known07_any w12).mono ?_
  rintro e w13 ⟨rfl, hb13⟩
  have HB13 := Lib.hid (Bel.then HB12.out hb13)
  clear hb13
  go_wp2_with fail
  go_ret
  exact ⟨rfl, HB13.out⟩
end Go.Proofs.Ytjcocahhpjgbhaa
