/- The document's Get of an event. -/
import Derived.Test.YtjjccjannandlaaMzERefGet
import Derived.Test.YtjjccjannandlaaMzEvP
set_option maxRecDepth 100000
set_option linter.unusedVariables false
set_option linter.unusedSimpArgs false
namespace Go.Proofs.Ytjjccjannandlaa
open Go.RowKit Go.BigFrame

set_option maxHeartbeats 8000000 in
theorem erGet_any (xs : List Int) (v : Value) (w : World) (hx : Sl .u8 w w.heap.size v xs) (hl : xs.length ≤ 1099511627776) (hb : Bytes xs) (g : Nat → Int) (d : Int) (gs : List Int) (hg : gF xs = g) (hd : eE xs = d) (hgs : gD xs = gs) :
    Calls Try.prog 32 #[v] w fun e w' => ∃ dv, e = .returned (.tuple #[evV g dv, .int .i64 d]) ∧ OwnInts w' w.heap.size dv gs ∧ Below w.heap.size w w' := by
  obtain ⟨A, c, rfl⟩ := hx.shape
  obtain ⟨w1, hw1⟩ : ∃ w1, w1 = w.alloc (.cells #[.int .i64 0, .int .i64 0, .int .i64 0, .slice none 0 0, .int .i64 0, .int .i64 0, .int .i64 0, .int .i64 0, .int .i64 0, .int .i64 0] 39) := ⟨_, rfl⟩
  have hB1 : Below w.heap.size w w1 := by rw [hw1]; exact Bel.grew (Below.refl _ _) _
  have hs1 : w1.heap.size = w.heap.size + 1 := by rw [hw1]; simp
  have hr1 : Cells10 w1 w.heap.size (evC (fun _ => 0) (.slice none 0 0)) := by
    intro o ho
    rw [hw1]
    rcases (show o = 0 ∨ o = 1 ∨ o = 2 ∨ o = 3 ∨ o = 4 ∨ o = 5 ∨ o = 6 ∨ o = 7 ∨ o = 8 ∨ o = 9 from by omega) with rfl | rfl | rfl | rfl | rfl | rfl | rfl | rfl | rfl | rfl
    all_goals simp [go_sem, evC]
  obtain ⟨f, hf⟩ : ∃ f, eF xs = f := ⟨_, rfl⟩
  obtain ⟨fs, hfs⟩ : ∃ fs, eD xs = fs := ⟨_, rfl⟩
  obtain ⟨sE, hsE⟩ : ∃ s, rdN xs (eS xs) 6 = s := ⟨_, rfl⟩
  have hdone : doneR xs (sE.1 : Int) sE.2 = d := by rw [← hd]; unfold eE doneN; rw [hsE]
  have hcase : (d = 0 ∧ g = f ∧ gs = fs) ∨ (d ≠ 0 ∧ g = (fun _ => 0) ∧ gs = []) := by
    by_cases h0 : d = 0
    · left
      refine ⟨h0, ?_, ?_⟩
      · rw [← hg, ← hf]; funext i; unfold gF; rw [if_pos (by rw [hd]; exact h0)]
      · rw [← hgs, ← hfs]; unfold gD; rw [if_pos (by rw [hd]; exact h0)]
    · exact .inr ⟨h0, by rw [← hg]; exact gF_no (by rw [hd]; exact h0), by rw [← hgs]; exact gD_no (by rw [hd]; exact h0)⟩
  have HX := Lib.hid (hx.later hB1)
  have HBY := Lib.hid hb
  have HF := Lib.hid (And.intro hf (And.intro hfs hsE))
  have HDN := Lib.hid hdone
  have HCS := Lib.hid hcase
  have HW1 := Lib.hid hw1
  have HB1 := Lib.hid hB1
  have HS1 := Lib.hid hs1
  have HR1 := Lib.hid hr1
  clear hx hb hf hfs hsE hdone hcase hw1 hB1 hs1 hr1 hg hd hgs
  go_enter Try.func32, Try.ntmps32
  go_wp2_with fail
  rw [← HW1.out]
  refine (rFrom_new xs _ w1 HX.out hl).mono ?_
  rintro e w3 ⟨p, S, rfl, hp, hb3, hR, _⟩
  have hp' : w.heap.size + 1 ≤ p := by have := HS1.out; omega
  have HB3 : Hid (Below w.heap.size w w3) := Lib.hid (Bel.then HB1.out hb3)
  have HR3 := Lib.hid (HR1.out.below (B := w1.heap.size) (by have := HS1.out; omega) hb3)
  have HRd := Lib.hid hR
  clear hp hb3 hR HW1 HB1 HS1 HR1 HX
  go_wp2_with fail
  refine (erRead_any xs S p w3 HRd.out hl HBY.out f fs sE HF.out.1 HF.out.2.1 HF.out.2.2).mono ?_
  rintro e w4 ⟨dv, rfl, hown, hb4, hR⟩
  have hplt := HRd.out.lt
  have HB4 : Hid (Below w.heap.size w w4) := Lib.hid (HB3.out.trans (hb4.below (by omega) HB3.out.size))
  have HR4 := Lib.hid (HR3.out.but (by omega) (by omega) hb4)
  have HO4 := Lib.hid (hown.down (B' := w.heap.size + 1) (by have := HRd.out.lt; omega))
  have HRd4 := Lib.hid hR
  have hp4 : p < w4.heap.size := by have := hb4.size; omega
  obtain ⟨A4, c4, rfl⟩ := hown.sl.shape
  clear hown hb4 hR HB3 HR3 HRd hplt HF
  obtain ⟨w5, hw5⟩ : ∃ w5, w5 = w4.alloc (.cells #[.int .i64 (f 0), .int .i64 (f 1), .int .i64 (f 2), .slice A4 fs.length c4, .int .i64 (f 3), .int .i64 (f 4), .int .i64 (f 5), .int .i64 (f 6), .int .i64 (f 7), .int .i64 (f 8)] 39) := ⟨_, rfl⟩
  have hgr : Below w4.heap.size w4 w5 := by rw [hw5]; exact Bel.grew (Below.refl _ _) _
  have HE5 : Hid (Cells10 w5 w4.heap.size (evC f (.slice A4 fs.length c4))) := by
    refine Lib.hid fun o ho => ?_
    rw [hw5]
    rcases (show o = 0 ∨ o = 1 ∨ o = 2 ∨ o = 3 ∨ o = 4 ∨ o = 5 ∨ o = 6 ∨ o = 7 ∨ o = 8 ∨ o = 9 from by omega) with rfl | rfl | rfl | rfl | rfl | rfl | rfl | rfl | rfl | rfl
    all_goals simp [go_sem, evC]
  have HB5 := Lib.hid (Bel.then HB4.out hgr)
  have HR5 := Lib.hid (HR4.out.below (B := w4.heap.size) (by omega) hgr)
  have HO5 := Lib.hid (HO4.out.later hgr)
  have HRd5 := Lib.hid (HRd4.out.below hgr)
  have hs5 : w4.heap.size < w5.heap.size := by rw [hw5]; simp
  have HW5 := Lib.hid hw5
  clear hgr hw5 HB4 HR4 HO4 HRd4
  go_wp2_with fail
  change Calls _ _ _ (w4.alloc (.cells #[.int .i64 (f 0), .int .i64 (f 1), .int .i64 (f 2), .slice A4 fs.length c4, .int .i64 (f 3), .int .i64 (f 4), .int .i64 (f 5), .int .i64 (f 6), .int .i64 (f 7), .int .i64 (f 8)] 39)) _
  rw [← HW5.out]
  clear HW5
  refine (rDone_any HRd5.out).mono ?_
  rw [HDN.out]
  rintro e w6 ⟨rfl, hb6⟩
  have HE6 := Lib.hid (HE5.out.below hs5 hb6)
  have HB6 := Lib.hid (Bel.then HB5.out hb6)
  have HR6 := Lib.hid (HR5.out.below (B := w5.heap.size) (by omega) hb6)
  have HO6 := Lib.hid (HO5.out.later hb6)
  have HRd6 := Lib.hid (HRd5.out.below hb6)
  clear hb6 HE5 HB5 HR5 HO5 HRd5
  rcases HCS.out with ⟨rfl, rfl, rfl⟩ | ⟨h0, rfl, rfl⟩
  · obtain ⟨⟨r0, f0⟩, ⟨r1, f1⟩, ⟨r2, f2⟩, ⟨r3, f3⟩, ⟨r4, f4⟩, ⟨r5, f5⟩, ⟨r6, f6⟩, ⟨r7, f7⟩, ⟨r8, f8⟩, ⟨r9, f9⟩⟩ := And.intro (HR6.out 0 (by decide)) (And.intro (HR6.out 1 (by decide)) (And.intro (HR6.out 2 (by decide)) (And.intro (HR6.out 3 (by decide)) (And.intro (HR6.out 4 (by decide)) (And.intro (HR6.out 5 (by decide)) (And.intro (HR6.out 6 (by decide)) (And.intro (HR6.out 7 (by decide)) (And.intro (HR6.out 8 (by decide)) (HR6.out 9 (by decide))))))))))
    dsimp only [evC] at r0 r1 r2 r3 r4 r5 r6 r7 r8 r9
    obtain ⟨q0, q1, q2, q3, q4, q5, q6, q7, q8, q9⟩ := And.intro (HE6.out 0 (by decide)).1 (And.intro (HE6.out 1 (by decide)).1 (And.intro (HE6.out 2 (by decide)).1 (And.intro (HE6.out 3 (by decide)).1 (And.intro (HE6.out 4 (by decide)).1 (And.intro (HE6.out 5 (by decide)).1 (And.intro (HE6.out 6 (by decide)).1 (And.intro (HE6.out 7 (by decide)).1 (And.intro (HE6.out 8 (by decide)).1 (HE6.out 9 (by decide)).1))))))))
    dsimp only [evC] at q0 q1 q2 q3 q4 q5 q6 q7 q8 q9
    have HCf := Lib.hid (HR6.out.store (evC g (.slice A4 gs.length c4)))
    have HBf := Lib.hid (Below.store10 HB6.out (Nat.le_refl _) (evC g (.slice A4 gs.length c4)))
    have HOf := Lib.hid (((HO6.out : OwnK .i64 3 _ _ _ _).store10 (q := w.heap.size) (fun b hb => by have := own_base HO6.out.row b hb; omega) (evC g (.slice A4 gs.length c4))).down (B' := w.heap.size) (by omega))
    clear HE6 HB6 HR6 HO6 HRd6 HBY HDN HCS
    go_wp2_with fail
    change bodyPost _ _ _ _ _ (store10 w6 w.heap.size (evC g (.slice A4 gs.length c4)))
    obtain ⟨wf, hwf⟩ : ∃ wf, wf = store10 w6 w.heap.size (evC g (.slice A4 gs.length c4)) := ⟨_, rfl⟩
    rw [← hwf] at HCf HBf HOf ⊢
    clear hwf q0 q1 q2 q3 q4 q5 q6 q7 q8 q9 r0 r1 r2 r3 r4 r5 r6 r7 r8 r9
    obtain ⟨c0, c1, c2, c3, c4', c5, c6, c7, c8, c10⟩ := And.intro (HCf.out 0 (by decide)).1 (And.intro (HCf.out 1 (by decide)).1 (And.intro (HCf.out 2 (by decide)).1 (And.intro (HCf.out 3 (by decide)).1 (And.intro (HCf.out 4 (by decide)).1 (And.intro (HCf.out 5 (by decide)).1 (And.intro (HCf.out 6 (by decide)).1 (And.intro (HCf.out 7 (by decide)).1 (And.intro (HCf.out 8 (by decide)).1 (HCf.out 9 (by decide)).1))))))))
    dsimp only [evC] at c0 c1 c2 c3 c4' c5 c6 c7 c8 c10
    have hBf := HBf.out
    have hOf := HOf.out
    simp [bodyPost, results, Try.results32, go_sem, c0, c1, c2, c3, c4', c5, c6, c7, c8, c10, hBf]
    exact hOf
  · have hdb : (d != 0) = true := by simp [h0]
    go_wp2_with fail
    refine (rDone_any HRd6.out).mono ?_
    rw [HDN.out]
    rintro e w7 ⟨rfl, hb7⟩
    have HB7 := Lib.hid (Bel.then HB6.out hb7)
    have HR7 := Lib.hid (HR6.out.below (B := w6.heap.size) (by have := HB6.out.size; have := HRd6.out.lt; omega) hb7)
    have HCf := Lib.hid (HR7.out.store (evC (fun _ => 0) (.slice none 0 0)))
    have HBf := Lib.hid (Below.store10 HB7.out (Nat.le_refl _) (evC (fun _ => 0) (.slice none 0 0)))
    obtain ⟨⟨r0, f0⟩, ⟨r1, f1⟩, ⟨r2, f2⟩, ⟨r3, f3⟩, ⟨r4, f4⟩, ⟨r5, f5⟩, ⟨r6, f6⟩, ⟨r7, f7⟩, ⟨r8, f8⟩, ⟨r9, f9⟩⟩ := And.intro (HR7.out 0 (by decide)) (And.intro (HR7.out 1 (by decide)) (And.intro (HR7.out 2 (by decide)) (And.intro (HR7.out 3 (by decide)) (And.intro (HR7.out 4 (by decide)) (And.intro (HR7.out 5 (by decide)) (And.intro (HR7.out 6 (by decide)) (And.intro (HR7.out 7 (by decide)) (And.intro (HR7.out 8 (by decide)) (HR7.out 9 (by decide))))))))))
    dsimp only [evC] at r0 r1 r2 r3 r4 r5 r6 r7 r8 r9
    clear hb7 HE6 HB6 HR6 HO6 HRd6 HBY HDN HCS HB7 HR7
    go_wp2_with fail
    change bodyPost _ _ _ _ _ (store10 w7 w.heap.size (evC (fun _ => 0) (.slice none 0 0)))
    obtain ⟨wf, hwf⟩ : ∃ wf, wf = store10 w7 w.heap.size (evC (fun _ => 0) (.slice none 0 0)) := ⟨_, rfl⟩
    rw [← hwf] at HCf HBf ⊢
    clear hwf r0 r1 r2 r3 r4 r5 r6 r7 r8 r9
    obtain ⟨c0, c1, c2, c3, c4', c5, c6, c7, c8, c10⟩ := And.intro (HCf.out 0 (by decide)).1 (And.intro (HCf.out 1 (by decide)).1 (And.intro (HCf.out 2 (by decide)).1 (And.intro (HCf.out 3 (by decide)).1 (And.intro (HCf.out 4 (by decide)).1 (And.intro (HCf.out 5 (by decide)).1 (And.intro (HCf.out 6 (by decide)).1 (And.intro (HCf.out 7 (by decide)).1 (And.intro (HCf.out 8 (by decide)).1 (HCf.out 9 (by decide)).1))))))))
    dsimp only [evC] at c0 c1 c2 c3 c4' c5 c6 c7 c8 c10
    have hBf := HBf.out
    simp [bodyPost, results, Try.results32, go_sem, c0, c1, c2, c3, c4', c5, c6, c7, c8, c10, hBf]
    exact OwnK.nil_ _ _
end Go.Proofs.Ytjjccjannandlaa
