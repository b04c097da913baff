/- decl.Get. -/
import Derived.Test.YtjcocahhpjgbhaaMzDGet2
set_option maxRecDepth 100000
set_option maxRecDepth 100000
set_option maxRecDepth 100000
set_option linter.unusedVariables false
set_option linter.unusedSimpArgs false
namespace Go.Proofs.Ytjcocahhpjgbhaa
open Go.RowKit Go.BigFrame

/-- Declarations that were read, in new memory; the code. -/
def DGetRet (D : PD) (E : Int) (w : World) (e : Ending) (w' : World) : Prop :=
  ∃ G : Dc, e = .returned (.tuple #[declV G, .int .i64 E]) ∧ G.Own w' w.heap.size ∧ G.pl = D ∧ Below w.heap.size w w'
theorem own_none (w : World) (lo : Nat) : Dc.Own w lo ⟨[], [], .slice none 0 0, .slice none 0 0⟩ := ⟨OwnR.nil_ _ _, (fun t ht => by cases ht), OwnR.nil_ _ _⟩
set_option maxHeartbeats 8000000 in
theorem dGet_any (xs : List Int) (v : Value) (w : World) (hx : Sl .u8 w w.heap.size v xs) (hl : xs.length ≤ 1099511627776) (hb : Bytes xs) (D : PD) (E : Int) (hD : dGetD xs = D) (hE : dGetE xs = E) :
    Calls Try.prog 14 #[v] w fun e w' => DGetRet D E w e w' := by
  obtain ⟨A, c, rfl⟩ := hx.shape
  obtain ⟨⟨ts, s1⟩, h1⟩ : ∃ y, cntR xs 8 (rdTy xs) (0, 0) = y := ⟨_, rfl⟩
  obtain ⟨⟨ps, s2⟩, h2⟩ : ∃ y, cntR xs 8 (rdPj xs) s1 = y := ⟨_, rfl⟩
  have hRD : rdDc xs (0, 0) = (⟨ts, ps⟩, s2) := by
    have e : rdDc xs (0, 0) = (⟨(cntR xs 8 (rdTy xs) (0, 0)).1, (cntR xs 8 (rdPj xs) (cntR xs 8 (rdTy xs) (0, 0)).2).1⟩, (cntR xs 8 (rdPj xs) (cntR xs 8 (rdTy xs) (0, 0)).2).2) := rfl
    rw [e, h1]
    dsimp only
    rw [h2]
  have hle1 := (cod_list hb (most := 8) (by decide) (by decide) (cod_ty hb)).le (0, 0) (Nat.zero_le _)
  rw [h1] at hle1
  dsimp only at hle1
  have HLE1 := Lib.hid hle1
  have hE' : doneR xs (s2.1 : Int) s2.2 = E := by rw [← hE]; unfold dGetE doneN; rw [hRD]
  have hD' : D = if E = 0 then ⟨ts, ps⟩ else ⟨[], []⟩ := by rw [← hD]; unfold dGetD; rw [hE, hRD]
  have HE := Lib.hid hE'
  have HD := Lib.hid hD'
  have H1 := Lib.hid h1
  have H2 := Lib.hid h2
  have HBY := Lib.hid hb
  obtain ⟨W, hW⟩ : ∃ W, W = w.alloc (.cells #[.slice none 0 0, .slice none 0 0] 25) := ⟨_, rfl⟩
  have hB : Below w.heap.size w W := by rw [hW]; exact Bel.grew (Below.refl _ _) _
  have hC : Has W w.heap.size #[.slice none 0 0, .slice none 0 0] := by rw [hW]; exact Has.new _ _ _
  have hfz : ∀ i, W.frozen? ⟨w.heap.size, i, none⟩ = false := by intro i; rw [hW]; simp [go_sem]
  have HX := Lib.hid (hx.later hB)
  have HB := Lib.hid hB
  have HW := Lib.hid hW
  have HC := Lib.hid hC
  have HF := Lib.hid hfz
  clear hx hE hD h1 h2 hRD hE' hD' hB hC hfz hW hb hle1
  go_enter Try.func14, Try.ntmps14
  go_wp2_with fail
  rw [← HW.out]
  clear HW
  refine (From_any xs _ W HX.out hl).mono ?_
  rintro e w1 ⟨p, S, rfl, hp, hb1, hR1⟩
  have hqp : w.heap.size < p := by have := HC.out.1; omega
  have hpl1 := hR1.lt
  have HB1 := Lib.hid hb1
  have HR1 := Lib.hid hR1
  clear hb1 hR1
  go_wp2_with fail
  refine (getsTy_any (st := (0, 0)) HR1.out hl (Nat.zero_le _) HBY.out _ H1.out).mono ?_
  rintro e w2 ⟨v1, rfl, ⟨T, hT1, hT2, hT3⟩, hb2, hR2⟩
  dsimp only at hT3 hR2
  obtain ⟨A1, n1, c1, rfl⟩ := row_shape hT1
  obtain ⟨W3, hW3⟩ : ∃ W3, W3 = w2.alloc (.cells #[.slice A1 n1 c1, .slice none 0 0] 25) := ⟨_, rfl⟩
  have hg3 : Below w2.heap.size w2 W3 := by rw [hW3]; exact Bel.grew (Below.refl _ _) _
  have hC3 : Has W3 w2.heap.size #[.slice A1 n1 c1, .slice none 0 0] := by rw [hW3]; exact Has.new _ _ _
  have hfz3 : ∀ i, W3.frozen? ⟨w2.heap.size, i, none⟩ = false := by intro i; rw [hW3]; simp [go_sem]
  have hs12 : w1.heap.size ≤ w2.heap.size := hb2.size
  have HT := Lib.hid (show TAt w2 w1.heap.size (.slice A1 n1 c1) ts from ⟨T, hT1, hT2, hT3⟩)
  have HG3 := Lib.hid hg3
  have HB12 := Lib.hid hb2
  have HR3 := Lib.hid (hR2.below hg3)
  have HC3 := Lib.hid hC3
  have HF3 := Lib.hid hfz3
  have HW3 := Lib.hid hW3
  have hq3 := hC3.1
  have hne3 : w2.heap.size ≠ p := by omega
  clear hT1 hT2 hT3 hb2 hR2 hg3 hC3 hfz3 hW3
  go_wp2_with fail
  rw [← HW3.out]
  clear HW3
  refine (getsPj_any HR3.out hl HLE1.out HBY.out _ H2.out).mono ?_
  rintro e w4 ⟨v2, rfl, hP, hb4, hR4⟩
  dsimp only at hP hR4
  obtain ⟨A2, n2, c2, rfl⟩ := row_shape hP
  have d0 : w4.cell? ⟨w2.heap.size, 0, none⟩ = some (.slice A1 n1 c1) := (hb4.cell hq3 hne3).trans (HC3.out.2 0)
  have d1 : w4.cell? ⟨w2.heap.size, 1, none⟩ = some (.slice none 0 0) := (hb4.cell hq3 hne3).trans (HC3.out.2 1)
  have hf4 : ∀ o, w4.frozen? ⟨w2.heap.size, o, none⟩ = false := fun o => (hb4.frozen hq3 hne3).trans (HF3.out o)
  have hq4 : w2.heap.size < w4.heap.size := Nat.lt_of_lt_of_le hq3 hb4.size
  have hps : p < w1.heap.size := hpl1
  obtain ⟨W5, hW5⟩ : ∃ W5, W5 = w4.setCell ⟨w2.heap.size, 1, none⟩ (.slice A2 n2 c2) := ⟨_, rfl⟩
  have e0 : W5.cell? ⟨w2.heap.size, 0, none⟩ = some (.slice A1 n1 c1) := by rw [hW5]; exact (World.cell?_setCell_other _ ⟨w2.heap.size, 1, none⟩ ⟨w2.heap.size, 0, none⟩ _ (by simp)).trans d0
  have e1 : W5.cell? ⟨w2.heap.size, 1, none⟩ = some (.slice A2 n2 c2) := by rw [hW5]; exact World.cell?_setCell_same _ _ _ d1
  have hq5 : w2.heap.size < W5.heap.size := by rw [hW5]; simpa [World.setCell] using hq4
  have hR5 : Rd W5 p xs S (s2.1 : Int) s2.2 := by rw [hW5]; exact hR4.other (by omega) 1 _
  have hB25 : But p w2 W5 := by rw [hW5]; exact ((But.of HG3.out : But p w2 W3).trans hb4).fresh (Nat.le_refl _) 1 _
  obtain ⟨T, hT1, hT2, hT3⟩ := HT.out.but hps hB25
  have hP5 : PAt W5 W3.heap.size (.slice A2 n2 c2) ps := by rw [hW5]; exact row_set hP hq3 1 _
  have hlo : w1.heap.size ≤ W3.heap.size := by omega
  have hG5 : Dc.Own W5 w1.heap.size ⟨T, ps, .slice A1 n1 c1, .slice A2 n2 c2⟩ := ⟨⟨ty_rows _, by rw [List.length_map]; exact hT1⟩, hT2, ⟨pj_rows _, by rw [List.length_map]; exact row_down hP5 hlo⟩⟩
  have hW15 : Below W.heap.size W W5 := HB1.out.trans ((HB12.out.trans hB25).below hp HB1.out.size)
  have r0 : W5.cell? ⟨w.heap.size, 0, none⟩ = some (.slice none 0 0) := (hW15.cell (p := ⟨w.heap.size, 0, none⟩) HC.out.1).trans (HC.out.2 0)
  have r1 : W5.cell? ⟨w.heap.size, 1, none⟩ = some (.slice none 0 0) := (hW15.cell (p := ⟨w.heap.size, 1, none⟩) HC.out.1).trans (HC.out.2 1)
  have rf : ∀ o, W5.frozen? ⟨w.heap.size, o, none⟩ = false := fun o => (hW15.frozen (p := ⟨w.heap.size, o, none⟩) HC.out.1).trans (HF.out o)
  have hwq : w.heap.size < w1.heap.size := by omega
  have hw5 : w.heap.size < W5.heap.size := by have := hW15.size; have := HC.out.1; omega
  have hpl : Dc.pl ⟨T, ps, .slice A1 n1 c1, .slice A2 n2 c2⟩ = ⟨ts, ps⟩ := by unfold Dc.pl; rw [hT3]
  have HPL := Lib.hid hpl
  have HG5 := Lib.hid hG5
  have HR5 := Lib.hid hR5
  have HBF := Lib.hid (HB.out.trans (hW15.mono HB.out.size))
  have HW5 := Lib.hid hW5
  have HV5 := Lib.hid (And.intro e0 (And.intro e1 (And.intro r0 (And.intro r1 rf))))
  clear hpl hG5 hR5 hW15 hP5 hT1 hT2 hT3 hB25 hP hb4 hR4 e0 e1 r0 r1 rf hW5 HR1 HR3
  go_wp2_with fail
  rw [← HW5.out]
  clear HW5 d0 d1 hf4
  refine (Done_any HR5.out).mono ?_
  rintro e w6 ⟨rfl, hb6⟩
  rw [HE.out]
  obtain ⟨e0, e1, r0, r1, rf⟩ := HV5.out
  have k0 := (hb6.cell (p := ⟨w2.heap.size, 0, none⟩) hq5).trans e0
  have k1 := (hb6.cell (p := ⟨w2.heap.size, 1, none⟩) hq5).trans e1
  have t0 := (hb6.cell (p := ⟨w.heap.size, 0, none⟩) hw5).trans r0
  have t1 := (hb6.cell (p := ⟨w.heap.size, 1, none⟩) hw5).trans r1
  have tf : ∀ o, w6.frozen? ⟨w.heap.size, o, none⟩ = false := fun o => (hb6.frozen (p := ⟨w.heap.size, o, none⟩) hw5).trans (rf o)
  have hw6 : w.heap.size < w6.heap.size := Nat.lt_of_lt_of_le hw5 hb6.size
  have hq6 : w2.heap.size < w6.heap.size := Nat.lt_of_lt_of_le hq5 hb6.size
  have hB6 : Below w.heap.size w w6 := HBF.out.trans (hb6.mono HBF.out.size)
  have HB6 := Lib.hid hB6
  have HG6 := Lib.hid (HG5.out.later hb6)
  clear hB6 hb6 e0 e1 r0 r1 rf HV5 HG5 HR5 HBF
  have fin : ∀ (a b : Value), ∃ wf, wf = (w6.setCell ⟨w.heap.size, 0, none⟩ a).setCell ⟨w.heap.size, 1, none⟩ b ∧ wf.cell? ⟨w.heap.size, 0, none⟩ = some a ∧ wf.cell? ⟨w.heap.size, 1, none⟩ = some b ∧ Below w.heap.size w wf ∧ Dc.Own wf w1.heap.size ⟨T, ps, .slice A1 n1 c1, .slice A2 n2 c2⟩ := by
    intro a b
    refine ⟨_, rfl, ?_, ?_, (HB6.out.setCell (p := ⟨w.heap.size, 0, none⟩) (Nat.le_refl _) _).setCell (p := ⟨w.heap.size, 1, none⟩) (Nat.le_refl _) _, (HG6.out.setOther hwq 0 a).setOther hwq 1 b⟩
    · exact (World.cell?_setCell_other _ ⟨w.heap.size, 1, none⟩ ⟨w.heap.size, 0, none⟩ _ (by simp)).trans (World.cell?_setCell_same _ _ _ t0)
    · exact World.cell?_setCell_same _ _ _ ((World.cell?_setCell_other _ ⟨w.heap.size, 0, none⟩ ⟨w.heap.size, 1, none⟩ _ (by simp)).trans t1)
  have hwl : w.heap.size ≤ w1.heap.size := Nat.le_of_lt hwq
  by_cases hE0 : E = 0
  · have hDD : D = ⟨ts, ps⟩ := by rw [HD.out, if_pos hE0]
    have HDD := Lib.hid hDD
    obtain ⟨wf, hwf, q0, q1, hBf, hGf⟩ := fin (.slice A1 n1 c1) (.slice A2 n2 c2)
    have HQ := Lib.hid (And.intro q0 (And.intro q1 (And.intro hBf hGf)))
    have HWF := Lib.hid hwf
    clear fin hwf q0 q1 hBf hGf hDD
    subst hE0
    go_wp2_with fail
    rw [← HWF.out]
    obtain ⟨q0, q1, hBf, hGf⟩ := HQ.out
    simp [bodyPost, results, Try.results14, go_sem, q0, q1]
    exact ⟨⟨T, ps, .slice A1 n1 c1, .slice A2 n2 c2⟩, rfl, hGf.down hwl, HPL.out.trans HDD.out.symm, hBf⟩
  · have hDD : D = ⟨[], []⟩ := by rw [HD.out, if_neg hE0]
    have HDD := Lib.hid hDD
    obtain ⟨wf, hwf, q0, q1, hBf, _⟩ := fin (.slice none 0 0) (.slice none 0 0)
    have HQ := Lib.hid (And.intro q0 (And.intro q1 hBf))
    have HWF := Lib.hid hwf
    have hEb : (E != 0) = true := by simp [hE0]
    have hEb2 : (E == 0) = false := by simp [hE0]
    clear fin hwf q0 q1 hBf hDD
    go_wp2_with fail
    rw [← HWF.out]
    obtain ⟨q0, q1, hBf⟩ := HQ.out
    simp [bodyPost, results, Try.results14, go_sem, q0, q1]
    exact ⟨⟨[], [], .slice none 0 0, .slice none 0 0⟩, rfl, own_none _ _, HDD.out.symm, hBf⟩
end Go.Proofs.Ytjcocahhpjgbhaa
