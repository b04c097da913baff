/- quaysideref07.field. -/
import Derived.Test.YtjcocahhpjgbhaaMzDRef1
import Derived.Deep.Cut
set_option maxRecDepth 100000
set_option maxRecDepth 100000
set_option maxRecDepth 100000
set_option linter.unusedVariables false
set_option linter.unusedSimpArgs false
namespace Go.Proofs.Ytjcocahhpjgbhaa
open Go.RowKit Go.BigFrame

/-- Block b holds the cells cs, and may be written. -/
def HasF (w : World) (b : Nat) (cs : Array Value) : Prop := Has w b cs ∧ ∀ o, w.frozen? ⟨b, o, none⟩ = false
theorem HasF.new {w W : World} {cs : Array Value} {t : TypeId} (h : W = w.alloc (.cells cs t)) : HasF W w.heap.size cs := by
  subst h
  exact ⟨Has.new _ _ _, fun o => by simp [go_sem]⟩
theorem HasF.but {w w' : World} {p b : Nat} {cs : Array Value} (h : HasF w b cs) (hb : But p w w') (hp : b ≠ p) : HasF w' b cs :=
  ⟨⟨Nat.lt_of_lt_of_le h.1.1 hb.size, fun o => (hb.cell h.1.1 hp).trans (h.1.2 o)⟩, fun o => (hb.frozen h.1.1 hp).trans (h.2 o)⟩
theorem HasF.below {w w' : World} {b B : Nat} {cs : Array Value} (h : HasF w b cs) (hb : Below B w w') (hp : b < B) : HasF w' b cs :=
  ⟨⟨Nat.lt_of_lt_of_le h.1.1 hb.size, fun o => (hb.cell (p := ⟨b, o, none⟩) hp).trans (h.1.2 o)⟩, fun o => (hb.frozen (p := ⟨b, o, none⟩) hp).trans (h.2 o)⟩
theorem HasF.set {w : World} {b o : Nat} {cs cs' : Array Value} {v : Value} (h : HasF w b cs) (ho : o < cs.size) (he : cs.setIfInBounds o v = cs') : HasF (w.setCell ⟨b, o, none⟩ v) b cs' := by
  subst he
  exact ⟨h.1.set_ ho v, fun i => by rw [World.frozen?_setCell]; exact h.2 i⟩
theorem HasF.setOther {w : World} {b q o : Nat} {cs : Array Value} {v : Value} (h : HasF w b cs) (hne : q ≠ b) : HasF (w.setCell ⟨q, o, none⟩ v) b cs :=
  ⟨h.1.setOther_ hne o v, fun i => by rw [World.frozen?_setCell]; exact h.2 i⟩
theorem grownBy_below {w w' : World} {row : Option Nat} {B : Nat} (hg : w.grownBy w' row) (hB : B ≤ w.heap.size) (hr : ∀ g, row = some g → B ≤ g) : Below B w w' := (Below.refl B w).grown hg hB hr
set_option maxHeartbeats 16000000 in
theorem rfield07_any {xs : List Int} {S : Value} {p : Nat} {st : Nat × Int} {w : World} (hR : Rd w p xs S (st.1 : Int) st.2) (hl : xs.length ≤ 1099511627776) (ha : st.1 ≤ xs.length) (hb : Bytes xs) (r : PF × Nat × Int) (hr : rdFd xs st = r) :
    Calls Try.prog 34 #[.pointer (some ⟨p, 0, none⟩)] w fun e w' => RdFdRet p xs S r w e w' := by
  obtain ⟨i0, hi, hz0, hz1, hz2⟩ := info_parts infoMv
  obtain ⟨⟨k0, s1⟩, h1⟩ : ∃ y, nextI xs st = y := ⟨_, rfl⟩
  obtain ⟨⟨p0, s2⟩, h2⟩ : ∃ y, nextI xs s1 = y := ⟨_, rfl⟩
  obtain ⟨⟨f0, s3⟩, h3⟩ : ∃ y, nextC xs 1 s2 = y := ⟨_, rfl⟩
  obtain ⟨⟨n, s4⟩, h4⟩ : ∃ y, nextC xs 16 s3 = y := ⟨_, rfl⟩
  have hle1 := nextI_le ha
  rw [h1] at hle1
  have hle2 := nextI_le (st := s1) hle1
  rw [h2] at hle2
  have hle3 := nextC_le (most := 1) (st := s2) hle2
  rw [h3] at hle3
  have hle4 := nextC_le (most := 16) (st := s3) hle3
  rw [h4] at hle4
  dsimp only at hle1 hle2 hle3 hle4
  have hnv := nextC_val (xs := xs) (st := s3) (most := 16) (by decide)
  rw [h4] at hnv
  obtain ⟨N, hN⟩ := Int.eq_ofNat_of_zero_le hnv.1
  dsimp only at hN hnv
  subst hN
  have HRR : Hid (((⟨k0, p0, f0 == 1, (lstR (rdMv xs) N s4).1⟩ : PF), (lstR (rdMv xs) N s4).2) = r) := by
    have e : rdFd xs st = (⟨(nextI xs st).1, (nextI xs (nextI xs st).2).1, (nextC xs 1 (nextI xs (nextI xs st).2).2).1 == 1, (cntR xs 16 (rdMv xs) (nextC xs 1 (nextI xs (nextI xs st).2).2).2).1⟩, (cntR xs 16 (rdMv xs) (nextC xs 1 (nextI xs (nextI xs st).2).2).2).2) := rfl
    rw [h1] at e
    dsimp only at e
    rw [h2] at e
    dsimp only at e
    rw [h3] at e
    dsimp only at e
    have e2 : cntR xs 16 (rdMv xs) s3 = lstR (rdMv xs) N s4 := by unfold cntR; rw [h4]; simp
    rw [e2, hr] at e
    exact Lib.hid e.symm
  have HLE := Lib.hid (And.intro hle1 (And.intro hle2 (And.intro hle3 hle4)))
  have H1 := Lib.hid h1
  have H2 := Lib.hid h2
  have H3 := Lib.hid h3
  have H4 := Lib.hid h4
  have HBY := Lib.hid hb
  have hN8 : N ≤ 16 := by omega
  obtain ⟨fl, hfl⟩ : ∃ b : Bool, b = (f0 == 1) := ⟨_, rfl⟩
  have hfl1 : (f0 == 1) = fl := hfl.symm
  rw [hfl1] at HRR
  obtain ⟨W, hW⟩ : ∃ W, W = w.alloc (.cells #[.int .i64 0, .int .i64 0, .bool false, .slice none 0 0] 45) := ⟨_, rfl⟩
  have hB : Below w.heap.size w W := by rw [hW]; exact Bel.grew (Below.refl _ _) _
  have hplt := hR.lt
  have HR := Lib.hid (hR.below hB)
  have HQ := Lib.hid (HasF.new hW)
  have HB := Lib.hid (But.of hB : But p w W)
  have HW := Lib.hid hW
  have hne : w.heap.size ≠ p := by omega
  clear hr hR hb h1 h2 h3 h4 hnv hle1 hle2 hle3 hle4 hW hB hfl
  go_enter Try.func34, Try.ntmps34
  go_wp2_with fail
  rw [← HW.out]
  clear HW
  refine (rInt_next HR.out hl ha HBY.out _ H1.out).mono ?_
  rintro e w1 ⟨rfl, hb1, hR1⟩
  dsimp only at hR1 ⊢
  have hs1 : w.heap.size < w1.heap.size := Nat.lt_of_lt_of_le HQ.out.1.1 hb1.size
  obtain ⟨W2, hW2⟩ : ∃ W2, W2 = w1.alloc (.cells #[.int .i64 k0, .int .i64 0, .bool false, .slice none 0 0] 45) := ⟨_, rfl⟩
  have hB2 : Below w1.heap.size w1 W2 := by rw [hW2]; exact Bel.grew (Below.refl _ _) _
  have HR2 := Lib.hid (hR1.below hB2)
  have HF2 := Lib.hid (HasF.new hW2)
  have HQ2 := Lib.hid ((HQ.out.but hb1 hne).below hB2 hs1)
  have HB2 := Lib.hid ((HB.out.trans hb1).trans (But.of hB2))
  have HW2 := Lib.hid hW2
  obtain ⟨q, hq⟩ : ∃ q, q = w1.heap.size := ⟨_, rfl⟩
  have HQE := Lib.hid hq
  rw [← hq] at HF2
  have hqp : q ≠ p := by have := HR2.out.lt; omega
  have hpq : p < q := by omega
  have hwq : w.heap.size < q := by omega
  clear hb1 hR1 hB2 hW2 HR HQ HB hs1 hq
  go_wp2_with fail
  rw [← HW2.out, ← HQE.out]
  clear HW2 HQE
  refine (rInt_next HR2.out hl HLE.out.1 HBY.out _ H2.out).mono ?_
  rintro e w3 ⟨rfl, hb3, hR3⟩
  dsimp only at hR3 ⊢
  have hF3 := HF2.out.but hb3 hqp
  have HQ3 := Lib.hid (HQ2.out.but hb3 hne)
  have HB3 := Lib.hid (HB2.out.trans hb3)
  have HR3 := Lib.hid hR3
  have c1 := hF3.1.2 1
  have f1 := hF3.2 1
  have hqs3 := hF3.1.1
  have HF3 := Lib.hid hF3
  clear hb3 hR3 HF2 HQ2 HB2 HR2 hF3
  go_wp2_with fail
-- GEN
  obtain ⟨W4, hW4⟩ : ∃ X, X = w3.setCell ⟨q, 1, none⟩ (.int .i64 p0) := ⟨_, rfl⟩
  rw [← hW4]
  have HF4 : Hid (HasF W4 q #[.int .i64 k0, .int .i64 p0, .bool false, .slice none 0 0]) := Lib.hid (by rw [hW4]; exact HF3.out.set (o := 1) (by show _ < 4; decide) rfl)
  have HB4 : Hid (But p w W4) := Lib.hid (by rw [hW4]; exact HB3.out.fresh (by omega) 1 _)
  have HR4 : Hid (Rd W4 p xs S (s2.1 : Int) s2.2) := Lib.hid (by rw [hW4]; exact HR3.out.other (by omega) 1 _)
  have HQ4 : Hid (HasF W4 w.heap.size #[.int .i64 0, .int .i64 0, .bool false, .slice none 0 0]) := Lib.hid (by rw [hW4]; exact HQ3.out.setOther (by omega))
  clear hW4
  clear c1 f1 hqs3 HF3 HQ3 HB3 HR3
  refine (rCount_next HR4.out hl HLE.out.2.1 HBY.out _ H3.out).mono ?_
  rintro e w5 ⟨rfl, hb5, hR5⟩
  dsimp only at hR5 ⊢
  have hF5 := HF4.out.but hb5 hqp
  have HQ5 := Lib.hid (HQ4.out.but hb5 hne)
  have HB5 := Lib.hid (HB4.out.trans hb5)
  have HR5 := Lib.hid hR5
  have c2 := hF5.1.2 2
  have f2 := hF5.2 2
  have hqs5 := hF5.1.1
  have HF5 := Lib.hid hF5
  clear hb5 hR5 HF4 HQ4 HB4 HR4 hF5
  go_wp2_with fail
  obtain ⟨W6, hW6⟩ : ∃ X, X = w5.setCell ⟨q, 2, none⟩ (.bool fl) := ⟨_, rfl⟩
  rw [← hW6]
  have HF6 : Hid (HasF W6 q #[.int .i64 k0, .int .i64 p0, .bool fl, .slice none 0 0]) := Lib.hid (by rw [hW6]; exact HF5.out.set (o := 2) (by show _ < 4; decide) rfl)
  have HB6 : Hid (But p w W6) := Lib.hid (by rw [hW6]; exact HB5.out.fresh (by omega) 2 _)
  have HR6 : Hid (Rd W6 p xs S (s3.1 : Int) s3.2) := Lib.hid (by rw [hW6]; exact HR5.out.other (by omega) 2 _)
  have HQ6 : Hid (HasF W6 w.heap.size #[.int .i64 0, .int .i64 0, .bool false, .slice none 0 0]) := Lib.hid (by rw [hW6]; exact HQ5.out.setOther (by omega))
  clear hW6
  clear c2 f2 hqs5 HF5 HQ5 HB5 HR5 hfl1
  refine (rCount_next HR6.out hl HLE.out.2.2.1 HBY.out _ H4.out).mono ?_
  rintro e w7 ⟨rfl, hb7, hR7⟩
  dsimp only at hR7 ⊢
  have HF7 := Lib.hid (HF6.out.but hb7 hqp)
  have HQ7 := Lib.hid (HQ6.out.but hb7 hne)
  have HB7 := Lib.hid (HB6.out.trans hb7)
  have HR7 := Lib.hid hR7
  clear hb7 hR7 HF6 HQ6 HB6 HR6
  go_wp2_with fail
  go_loopw [5] (fun i wr => ∃ (v : Value) (k : Nat), k ≤ N ∧ i = .int .i64 k ∧ Hid (But p w wr ∧ Rd wr p xs S ((lstR (rdMv xs) k s4).2.1 : Int) (lstR (rdMv xs) k s4).2.2 ∧ HasF wr q #[.int .i64 k0, .int .i64 p0, .bool fl, v] ∧ HasF wr w.heap.size #[.int .i64 0, .int .i64 0, .bool false, .slice none 0 0] ∧ MAt wr (q + 1) v (lstR (rdMv xs) k s4).1)) (fun i _ => N - (intOf i).toNat)
  case atStart => exact ⟨_, 0, Nat.zero_le _, rfl, Lib.hid ⟨HB7.out, HR7.out, HF7.out, HQ7.out, MAt.nil_ _ _⟩⟩
  case round =>
    obtain ⟨v, k, hk, rfl, HS⟩ := hrel
    clear HF7 HQ7 HB7 HR7
    have hqs := HS.out.2.2.1.1.1
    by_cases hlt : k < N
    · have hle := (cod_lst (cod_mv HBY.out) k).le s4 HLE.out.2.2.2
      have hpl := lstR_len (rdMv xs) k s4
      obtain ⟨⟨x, t4⟩, hx⟩ : ∃ y, rdMv xs (lstR (rdMv xs) k s4).2 = y := ⟨_, rfl⟩
      have HL1 : Hid (lstR (rdMv xs) (k + 1) s4 = ((lstR (rdMv xs) k s4).1 ++ [x], t4)) := Lib.hid (by
        have e : lstR (rdMv xs) (k + 1) s4 = ((lstR (rdMv xs) k s4).1 ++ [(rdMv xs (lstR (rdMv xs) k s4).2).1], (rdMv xs (lstR (rdMv xs) k s4).2).2) := rfl
        rw [e, hx])
      obtain ⟨⟨pl, sk⟩, hsk⟩ : ∃ y, y = lstR (rdMv xs) k s4 := ⟨_, rfl⟩
      have HS1 : Hid (But p w wr ∧ Rd wr p xs S (sk.1 : Int) sk.2 ∧ HasF wr q #[.int .i64 k0, .int .i64 p0, .bool fl, v] ∧ HasF wr w.heap.size #[.int .i64 0, .int .i64 0, .bool false, .slice none 0 0] ∧ MAt wr (q + 1) v pl) := by
        have h := HS.out
        rw [← hsk] at h
        exact Lib.hid h
      rw [← hsk] at hle hx HL1 hpl
      dsimp only at hle hx HL1 hpl
      obtain ⟨⟨x0, t1⟩, g1⟩ : ∃ y, nextI xs sk = y := ⟨_, rfl⟩
      obtain ⟨⟨x1, t2⟩, g2⟩ : ∃ y, nextI xs t1 = y := ⟨_, rfl⟩
      obtain ⟨⟨x2, t3⟩, g3⟩ : ∃ y, nextI xs t2 = y := ⟨_, rfl⟩
      obtain ⟨⟨x3, t5⟩, g4⟩ : ∃ y, nextI xs t3 = y := ⟨_, rfl⟩
      have hx4 : x = ⟨x0, x1, x2, x3⟩ ∧ t4 = t5 := by
        have e : rdMv xs sk = (⟨(nextI xs sk).1, (nextI xs (nextI xs sk).2).1, (nextI xs (nextI xs (nextI xs sk).2).2).1, (nextI xs (nextI xs (nextI xs (nextI xs sk).2).2).2).1⟩, (nextI xs (nextI xs (nextI xs (nextI xs sk).2).2).2).2) := rfl
        rw [g1] at e
        dsimp only at e
        rw [g2] at e
        dsimp only at e
        rw [g3] at e
        dsimp only at e
        rw [g4] at e
        rw [hx] at e
        injection e with e1 e2
        exact ⟨e1, e2⟩
      obtain ⟨hx5, hx6⟩ := hx4
      subst hx5 hx6
      have le1 := nextI_le (st := sk) hle
      rw [g1] at le1
      have le2 := nextI_le (st := t1) le1
      rw [g2] at le2
      have le3 := nextI_le (st := t2) le2
      rw [g3] at le3
      dsimp only at le1 le2 le3
      have HLL := Lib.hid (And.intro hle (And.intro le1 (And.intro le2 le3)))
      have HG := Lib.hid (And.intro g1 (And.intro g2 (And.intro g3 g4)))
      have HPL := Lib.hid hpl
      have hpl8 : pl.length ≤ 16 := by omega
      have hkI : (k : Int) < (N : Int) := by omega
      clear hle hx hsk HS hpl g1 g2 g3 g4 le1 le2 le3
      go_wp2_with fail
      refine (rInt_next HS1.out.2.1 hl HLL.out.1 HBY.out _ HG.out.1).mono ?_
      rintro e u1 ⟨rfl, hb1, hR1⟩
      dsimp only at hR1 ⊢
      obtain ⟨U2, hU2⟩ : ∃ X, X = u1.alloc (.cells #[.int .i64 x0, .int .i64 0, .int .i64 0, .int .i64 0] 76) := ⟨_, rfl⟩
      have hBU : Below u1.heap.size u1 U2 := by rw [hU2]; exact Bel.grew (Below.refl _ _) _
      have HR2 := Lib.hid (hR1.below hBU)
      have HM2 := Lib.hid (HasF.new hU2)
      have HB2 := Lib.hid (hb1.trans (But.of hBU))
      have HU2 := Lib.hid hU2
      obtain ⟨m, hm⟩ : ∃ m, m = u1.heap.size := ⟨_, rfl⟩
      have HME := Lib.hid hm
      have hmw : wr.heap.size ≤ m := by have := hb1.size; omega
      rw [← hm] at HM2
      have hmp : m ≠ p := by have := HS1.out.2.1.lt; omega
      have hpm : p < m := by have := HS1.out.2.1.lt; omega
      clear hb1 hR1 hBU hU2 hm
      go_wp2_with fail
      rw [← HU2.out, ← HME.out]
      clear HU2 HME
      refine (rInt_next HR2.out hl HLL.out.2.1 HBY.out _ HG.out.2.1).mono ?_
      rintro e u3 ⟨rfl, hb1, hR1⟩
      dsimp only at hR1 ⊢
      have hM := HM2.out.but hb1 hmp
      have HBx := Lib.hid (HB2.out.trans hb1)
      have HRx := Lib.hid hR1
      have c1 := hM.1.2 1
      have f1 := hM.2 1
      have ms1 := hM.1.1
      have HMx := Lib.hid hM
      clear hb1 hR1 hM HM2 HB2 HR2
      go_wp2_with fail
      obtain ⟨Ua, hUa⟩ : ∃ X, X = u3.setCell ⟨m, 1, none⟩ (.int .i64 x1) := ⟨_, rfl⟩
      rw [← hUa]
      have HMa : Hid (HasF Ua m #[.int .i64 x0, .int .i64 x1, .int .i64 0, .int .i64 0]) := Lib.hid (by rw [hUa]; exact HMx.out.set (o := 1) (by show _ < 4; decide) rfl)
      have HBa : Hid (But p wr Ua) := Lib.hid (by rw [hUa]; exact HBx.out.fresh (by omega) 1 _)
      have HRa : Hid (Rd Ua p xs S (t2.1 : Int) t2.2) := Lib.hid (by rw [hUa]; exact HRx.out.other (by omega) 1 _)
      clear hUa
      clear c1 f1 ms1 HMx HBx HRx
      refine (rInt_next HRa.out hl HLL.out.2.2.1 HBY.out _ HG.out.2.2.1).mono ?_
      rintro e u4 ⟨rfl, hb1, hR1⟩
      dsimp only at hR1 ⊢
      have hM := HMa.out.but hb1 hmp
      have HBx := Lib.hid (HBa.out.trans hb1)
      have HRx := Lib.hid hR1
      have c1 := hM.1.2 2
      have f1 := hM.2 2
      have ms1 := hM.1.1
      have HMx := Lib.hid hM
      clear hb1 hR1 hM HMa HBa HRa
      go_wp2_with fail
      obtain ⟨Ub, hUb⟩ : ∃ X, X = u4.setCell ⟨m, 2, none⟩ (.int .i64 x2) := ⟨_, rfl⟩
      rw [← hUb]
      have HMb : Hid (HasF Ub m #[.int .i64 x0, .int .i64 x1, .int .i64 x2, .int .i64 0]) := Lib.hid (by rw [hUb]; exact HMx.out.set (o := 2) (by show _ < 4; decide) rfl)
      have HBb : Hid (But p wr Ub) := Lib.hid (by rw [hUb]; exact HBx.out.fresh (by omega) 2 _)
      have HRb : Hid (Rd Ub p xs S (t3.1 : Int) t3.2) := Lib.hid (by rw [hUb]; exact HRx.out.other (by omega) 2 _)
      clear hUb
      clear c1 f1 ms1 HMx HBx HRx
      refine (rInt_next HRb.out hl HLL.out.2.2.2 HBY.out _ HG.out.2.2.2).mono ?_
      rintro e u5 ⟨rfl, hb1, hR1⟩
      dsimp only at hR1 ⊢
      have hM := HMb.out.but hb1 hmp
      have HBx := Lib.hid (HBb.out.trans hb1)
      have HRx := Lib.hid hR1
      have c1 := hM.1.2 3
      have f1 := hM.2 3
      have ms1 := hM.1.1
      have HMx := Lib.hid hM
      clear hb1 hR1 hM HMb HBb HRb
      go_upto_region 12 with fail
      obtain ⟨Uc, hUc⟩ : ∃ X, X = u5.setCell ⟨m, 3, none⟩ (.int .i64 x3) := ⟨_, rfl⟩
      rw [← hUc]
      have HMc : Hid (HasF Uc m #[.int .i64 x0, .int .i64 x1, .int .i64 x2, .int .i64 x3]) := Lib.hid (by rw [hUc]; exact HMx.out.set (o := 3) (by show _ < 4; decide) rfl)
      have HBc : Hid (But p wr Uc) := Lib.hid (by rw [hUc]; exact HBx.out.fresh (by omega) 3 _)
      have HRc : Hid (Rd Uc p xs S (t4.1 : Int) t4.2) := Lib.hid (by rw [hUc]; exact HRx.out.other (by omega) 3 _)
      clear hUc
      clear c1 f1 ms1 HMx HBx HRx
      have hq9 := HS1.out.2.2.1.but HBc.out hqp
      have hw9 := HS1.out.2.2.2.1.but HBc.out hne
      have hat9 := HS1.out.2.2.2.2.but (show p < q + 1 from by omega) HBc.out
      have hrow : Uc.ownsRow (q + 1) 76 4 v pl.length ((pl.map Mv.cells).flatten) := hat9
      have c3 := hq9.1.2 3
      have cm := HMc.out.1.2
      have cml := HMc.out.1.1
      have fq3 := hq9.2 3
      have hqm : q ≠ m := by omega
      have hmq : m ≠ q := by omega
      have hqs9 := hq9.1.1
      have hmU : m < Uc.heap.size := cml
      have HQ9 := Lib.hid hq9
      have HW9 := Lib.hid hw9
      have HROW := Lib.hid hrow
      clear hq9 hw9 hat9
      go_wp2_with (at_builtin; refine wpList_append_own _ rfl _ _ 43 rfl (q + 1) 76 i0 _ 4 32 Try.underlying43 hi hz0 hz1 hz2 rfl (by decide) v pl.length _ rfl (hrow.alloc _) ⟨Uc.heap.size, 0, none⟩ 1 1 [.int .i64 x0, .int .i64 x1, .int .i64 x2, .int .i64 x3] rfl rfl (cells_newL _ _ _) (by intro u hu; simp at hu; rcases hu with rfl | rfl | rfl | rfl <;> rfl) (by unfold maxLen; omega) (by omega) (by rw [World.size_alloc]; omega) ?_; intro v' w4 hown4 hgrow4 _; obtain ⟨Av, nv, cv, rfl⟩ := row_shape hown4; have hob := fun g (hg : v.ownBlock = some g) => own_base HROW.out g hg; have hbg : Below (q + 1) (Uc.alloc (.cells #[.int .i64 x0, .int .i64 x1, .int .i64 x2, .int .i64 x3] 76)) w4 := grownBy_below hgrow4 (by rw [World.size_alloc]; omega) hob; have hq4 := (HQ9.out.below (Below.alloc (Below.refl Uc.heap.size Uc) (Nat.le_refl _) (.cells #[.int .i64 x0, .int .i64 x1, .int .i64 x2, .int .i64 x3] 76)) hqs9).below hbg (Nat.lt_succ_self q); have d3 := hq4.1.2 3; have df3 := hq4.2 3; have dl := hq4.1.1; have HQ4 := Lib.hid hq4; have HOW4 := Lib.hid hown4; have HG4 := Lib.hid hgrow4; have HBG := Lib.hid hbg; have HOB := Lib.hid hob; clear hown4 hgrow4 hbg hob hq4)
      go_roundw
      case rel =>
        have hal : Below Uc.heap.size Uc (Uc.alloc (.cells #[.int .i64 x0, .int .i64 x1, .int .i64 x2, .int .i64 x3] 76)) := Bel.grew (Below.refl _ _) _
        have hB4 : But p w w4 := ((HS1.out.1.trans HBc.out).trans (But.of hal)).grownBy HG4.out (fun g hg => by have := HOB.out g hg; omega)
        have hR4 := (HRc.out.below hal).grown HG4.out (fun g hg => by have := HOB.out g hg; omega)
        refine ⟨.slice Av nv cv, k + 1, by omega, by go_num, Lib.hid ⟨hB4.fresh (by omega) 3 _, ?_, HQ4.out.set (o := 3) (by show 3 < 4; decide) rfl, ?_, ?_⟩⟩
        · rw [HL1.out]
          exact hR4.other hpq 3 _
        · exact ((HW9.out.below hal (by omega)).below HBG.out (by omega)).setOther (by omega)
        · rw [HL1.out]
          have h5 := row_set HOW4.out (Nat.lt_succ_self q) 3 (.slice Av nv cv)
          unfold MAt
          simpa using h5
      case measure => simp [intOf]; omega
    · have hk' : k = N := by omega
      subst hk'
      obtain ⟨hB, hR, hF, hQ, hA⟩ := HS.out
      clear HS
      obtain ⟨Av, nv, cv, rfl⟩ := row_shape hA
      have hcq := hF.1.2
      have hcr := hQ.1.2
      have hfr := hQ.2
      have hrl := hQ.1.1
      have hqr : q ≠ w.heap.size := by omega
      have h1 := hQ.set (o := 0) (v := .int .i64 k0) (by show 0 < 4; decide) rfl
      have h2 := h1.set (o := 1) (v := .int .i64 p0) (by show 1 < 4; decide) rfl
      have h3 := h2.set (o := 2) (v := .bool fl) (by show 2 < 4; decide) rfl
      have h4 := h3.set (o := 3) (v := .slice Av nv cv) (by show 3 < 4; decide) rfl
      have hB4 := (((hB.fresh (Nat.le_refl _) 0 (.int .i64 k0)).fresh (Nat.le_refl _) 1 (.int .i64 p0)).fresh (Nat.le_refl _) 2 (.bool fl)).fresh (Nat.le_refl _) 3 (.slice Av nv cv)
      have hR4 := (((hR.other hplt 0 (.int .i64 k0)).other hplt 1 (.int .i64 p0)).other hplt 2 (.bool fl)).other hplt 3 (.slice Av nv cv)
      have hO : Fd.Own wr (q + 1) ⟨k0, p0, fl, (lstR (rdMv xs) k s4).1, .slice Av nv cv⟩ := ⟨mv_rows _, by rw [List.length_map]; exact hA⟩
      have hq1 : w.heap.size < q + 1 := by omega
      have hO4 := ((((hO.setOther hq1 0 (.int .i64 k0)).setOther hq1 1 (.int .i64 p0)).setOther hq1 2 (.bool fl)).setOther hq1 3 (.slice Av nv cv)).down (Nat.le_of_lt hq1)
      obtain ⟨wf, hwf⟩ : ∃ wf, wf = (((wr.setCell ⟨w.heap.size, 0, none⟩ (.int .i64 k0)).setCell ⟨w.heap.size, 1, none⟩ (.int .i64 p0)).setCell ⟨w.heap.size, 2, none⟩ (.bool fl)).setCell ⟨w.heap.size, 3, none⟩ (.slice Av nv cv) := ⟨_, rfl⟩
      rw [← hwf] at h4 hB4 hR4 hO4
      have HWF := Lib.hid hwf
      have HF4 := Lib.hid h4
      have HB4 := Lib.hid hB4
      have HR4 := Lib.hid hR4
      have HO4 := Lib.hid hO4
      clear h1 h2 h3 h4 hB4 hR4 hO hO4 hwf hB hR hF hQ hA
      go_wp2_with fail
      rw [← HWF.out]
      clear hcq hcr hfr
      have g0 := HF4.out.1.2 0
      have g1 := HF4.out.1.2 1
      have g2 := HF4.out.1.2 2
      have g3 := HF4.out.1.2 3
      simp at g0 g1 g2 g3
      simp [bodyPost, results, Try.results34, go_sem, g0, g1, g2, g3]
      refine ⟨Av, nv, cv, ?_, ?_, HB4.out, ?_⟩
      · rw [← HRR.out]
      · rw [← HRR.out]; exact HO4.out
      · rw [← HRR.out]; exact HR4.out
end Go.Proofs.Ytjcocahhpjgbhaa
