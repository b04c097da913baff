/- schema.Fits. -/
import Derived.Test.YtamnligooelmgaaDoorSField
import Derived.Test.YtamnligooelmgaaDoorSWrong
set_option maxRecDepth 100000
set_option linter.unusedVariables false
set_option linter.unusedSimpArgs false
namespace Go.Proofs.YtamnligooelmgaaDoor
open Go.RowKit Go.BigFrame

def LenD (D : Dc) : Prop := D.ts.length ≤ 1099511627776 ∧ ∀ t ∈ D.ts, t.fs.length ≤ 1099511627776 ∧ ∀ f ∈ t.fs, f.ms.length ≤ 1099511627776
/-- The field that is meant. -/
def FldAt (D : Dc) (ti fi : Int) (f : Fd) : Prop := ∃ t, 0 ≤ ti ∧ D.ts[ti.toNat]? = some t ∧ 0 ≤ fi ∧ t.fs[fi.toNat]? = some f
theorem FldAt.one {D : Dc} {ti fi : Int} {f g : Fd} (h : FldAt D ti fi f) (k : FldAt D ti fi g) : f = g := by
  obtain ⟨t, _, h1, _, h2⟩ := h
  obtain ⟨t', _, k1, _, k2⟩ := k
  have := h1.symm.trans k1
  injection this with this
  subst this
  have := h2.symm.trans k2
  injection this
/-- Whether an operation is of a field's kind; whether its argument is out of its place. -/
def OpK (f : Fd) (op : Int) : Prop := (op = 1 ∧ f.k = 1) ∨ (op = 2 ∧ f.k = 2) ∨ (op = 3 ∧ f.k = 3) ∨ (op = 4 ∧ f.k = 3) ∨ (op = 5 ∧ f.k = 4)
def ArgBad (f : Fd) (op arg : Int) : Prop := (op = 1 ∧ arg = 0) ∨ (op = 5 ∧ ¬ (0 ≤ arg ∧ arg ≤ (f.ms.length : Int) - 1))
def FitsRel (D : Dc) (ti fi op arg c : Int) : Prop := ((¬ ∃ f, FldAt D ti fi f) ∧ c = 8) ∨ ∃ f, FldAt D ti fi f ∧ ((¬ OpK f op ∧ c = 2) ∨ (OpK f op ∧ ArgBad f op arg ∧ c = 1) ∨ (OpK f op ∧ ¬ ArgBad f op arg ∧ c = 0))

set_option maxRecDepth 100000 in
set_option maxHeartbeats 16000000 in
theorem fits_some (D : Dc) (ti fi op arg r : Int) (f : Fd) (w : World) (hD : D.In w w.heap.size) (hT : Tab w) (hL : LenD D) (hf : FldAt D ti fi f) (hms : f.ms.length ≤ 1099511627776)
    (h : (¬ (1 ≤ op ∧ op ≤ 5) ∧ r = 2) ∨ (op = 1 ∧ ((1 : Int) != f.k) = true ∧ r = 2) ∨ (op = 2 ∧ ((2 : Int) != f.k) = true ∧ r = 2) ∨ (op = 3 ∧ ((3 : Int) != f.k) = true ∧ r = 2) ∨ (op = 4 ∧ ((3 : Int) != f.k) = true ∧ r = 2) ∨ (op = 5 ∧ ((4 : Int) != f.k) = true ∧ r = 2) ∨
      (op = 1 ∧ ((1 : Int) != f.k) = false ∧ arg = 0 ∧ r = 1) ∨ (op = 1 ∧ ((1 : Int) != f.k) = false ∧ (arg == 0) = false ∧ r = 0) ∨ (op = 2 ∧ ((2 : Int) != f.k) = false ∧ r = 0) ∨ (op = 3 ∧ ((3 : Int) != f.k) = false ∧ r = 0) ∨ (op = 4 ∧ ((3 : Int) != f.k) = false ∧ r = 0) ∨
      (op = 5 ∧ ((4 : Int) != f.k) = false ∧ (0 ≤ arg ∧ arg ≤ (f.ms.length : Int) - 1) ∧ r = 0) ∨ (op = 5 ∧ ((4 : Int) != f.k) = false ∧ ¬ (0 ≤ arg ∧ arg ≤ (f.ms.length : Int) - 1) ∧ r = 1)) :
    Calls Tryd.prog 15 #[declV D, .int .i64 ti, .int .i64 fi, .int .i64 op, .int .i64 arg] w fun e w' => e = .returned (.int .i64 r) ∧ Below w.heap.size w w' := by
  obtain ⟨ts, ps, tv, pv⟩ := D
  obtain ⟨A, c, h1⟩ := hD.1.shapeL
  obtain ⟨A', c', h2⟩ := hD.2.2.shapeL
  dsimp only at h1 h2
  subst h1 h2
  obtain ⟨W, hW⟩ : ∃ W, W = w.alloc (.cells #[.slice A ts.length c, .slice A' ps.length c'] 25) := ⟨_, rfl⟩
  have hB : Below w.heap.size w W := by rw [hW]; exact Bel.grew (Below.refl _ _) _
  have hC := Has.new w #[.slice A ts.length c, .slice A' ps.length c'] 25
  rw [← hW] at hC
  have HD := Lib.hid (hD.later hB)
  have HT := Lib.hid (hT.later hB)
  have HB := Lib.hid hB
  have HW := Lib.hid hW
  have HL := Lib.hid hL
  have HF := Lib.hid hf
  have H := Lib.hid h
  have hc := hC.2
  have hw1 : IntKind.i64.wrap ((f.ms.length : Int) - 1) = (f.ms.length : Int) - 1 := IntWalk.i64_in _ (by omega)
  clear hD hT hB hC hW hL hf h
  go_enter Tryd.func15, Tryd.ntmps15
  go_wp2_with fail
  rw [← HW.out]
  clear HW
  refine (field_any ⟨ts, ps, .slice A ts.length c, .slice A' ps.length c'⟩ ti fi W HD.out HL.out).mono ?_
  rintro e w2 (⟨t, f', v', q0, q1, q2, q3, rfl, hown, hb⟩ | ⟨hno, rfl, hb⟩)
  rotate_left
  · obtain ⟨t, h⟩ := HF.out
    exact absurd ⟨t, f, h⟩ hno
  have hff : f' = f := FldAt.one (D := ⟨ts, ps, .slice A ts.length c, .slice A' ps.length c'⟩) ⟨t, q0, q1, q2, q3⟩ HF.out
  subst hff
  obtain ⟨A4, c4, h4⟩ := SlR.shapeL hown.sl
  subst h4
  have HB2 := Lib.hid (Bel.then HB.out hb)
  have HT2 := Lib.hid (HT.out.later hb)
  clear hown hb q0 q1 q2 q3 HB HT HD hc
  obtain ⟨W3, hW3⟩ : ∃ W3, W3 = w2.alloc (.cells #[.int .i64 f'.k, .int .i64 f'.p, .bool f'.fl, .slice A4 f'.ms.length c4] 33) := ⟨_, rfl⟩
  have hgr : Below w2.heap.size w2 W3 := by rw [hW3]; exact Bel.grew (Below.refl _ _) _
  have hV := Has.new w2 #[.int .i64 f'.k, .int .i64 f'.p, .bool f'.fl, .slice A4 f'.ms.length c4] 33
  rw [← hW3] at hV
  have hT3 := HT2.out.later hgr
  have k1 := hT3.kn 1 (by decide)
  have k2 := hT3.kn 2 (by decide)
  have k3 := hT3.kn 3 (by decide)
  have k4 := hT3.kn 4 (by decide)
  have k5 := hT3.kn 5 (by decide)
  dsimp only [kindsL, List.getElem?_cons_zero, List.getElem?_cons_succ, Option.getD_some] at k1 k2 k3 k4 k5
  have hsz : 0 < W3.heap.size := by have := hT3.sz; omega
  have HB3 := Lib.hid (Bel.then HB2.out hgr)
  have HV := Lib.hid hV
  have hvc := hV.2
  have hvl := hV.1
  have HW3 := Lib.hid hW3
  clear hT3 HT2 HB2 hgr hV hW3
  obtain ⟨fk, fp, ffl, ms, fv⟩ := f'
  dsimp only at hvc hw1 hms HW3 HV H ⊢
  rcases H.out with ⟨ho, rfl⟩ | ⟨rfl, hk, rfl⟩ | ⟨rfl, hk, rfl⟩ | ⟨rfl, hk, rfl⟩ | ⟨rfl, hk, rfl⟩ | ⟨rfl, hk, rfl⟩ | ⟨rfl, hk, rfl, rfl⟩ | ⟨rfl, hk, ha, rfl⟩ | ⟨rfl, hk, rfl⟩ | ⟨rfl, hk, rfl⟩ | ⟨rfl, hk, rfl⟩ | ⟨rfl, hk, ha, rfl⟩ | ⟨rfl, hk, ha, rfl⟩
  all_goals
    clear H
    go_wp2_with fail
    rw [← HW3.out]
    clear HW3
    refine wp_region_later (by kernel_rfl) (by kernel_rfl) ?_
    repeat (any_goals (first | go_big_quiet_step ((go_at_call 24; first | (have hC := within_no _ 1 5 (Later.w ‹_›) ho; with_reducible exact Later.callS hC) | (have hC := within_yes 1 1 5 (Later.w ‹_›) (by decide); with_reducible exact Later.callS hC) | (have hC := within_yes 2 1 5 (Later.w ‹_›) (by decide); with_reducible exact Later.callS hC) | (have hC := within_yes 3 1 5 (Later.w ‹_›) (by decide); with_reducible exact Later.callS hC) | (have hC := within_yes 4 1 5 (Later.w ‹_›) (by decide); with_reducible exact Later.callS hC) | (have hC := within_yes 5 1 5 (Later.w ‹_›) (by decide); with_reducible exact Later.callS hC)))))
    refine wpQuiet_nil ?_
    intro x
    obtain ⟨w4, hb4⟩ := x
    have HB4 := Lib.hid (Bel.then HB3.out hb4)
    have HV4 := Lib.hid (HV.out.later hb4)
    dsimp only
    clear hb4 k1 k2 k3 k4 k5 hvc hvl
    have hvc := HV4.out.2
    have hvl := HV4.out.1
    go_wp2_with fail
    try
      (first | refine (within_yes arg 0 _ _ ha).mono ?_ | refine (within_no arg 0 _ _ ha).mono ?_
       rintro e w5 ⟨rfl, rfl⟩
       go_wp2_with fail)
    go_ret
    exact ⟨rfl, HB4.out⟩
end Go.Proofs.YtamnligooelmgaaDoor
