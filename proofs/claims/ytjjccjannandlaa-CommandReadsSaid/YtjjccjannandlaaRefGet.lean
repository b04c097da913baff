/- The document's Get of a command. -/
import Derived.Test.YtjjccjannandlaaRefPut
import Derived.Test.YtjjccjannandlaaCGet
import Derived.StillTailTactics
set_option linter.unusedVariables false
set_option linter.unusedSimpArgs false
namespace Go.Proofs.Ytjjccjannandlaa
open Go.RowKit Go.BigFrame

set_option maxHeartbeats 8000000 in
theorem rGet_any (xs : List Int) (v : Value) (w : World) (hx : Sl .u8 w w.heap.size v xs) (hl : xs.length ≤ 1099511627776) (hb : Bytes xs) (g : Nat → Int) (d : Int) (hg : getC xs = g) (hd : getE xs = d) :
    Calls Try.prog 14 #[v] w fun e w' => e = .returned (.tuple #[cmdV g, .int .i64 d]) ∧ Below w.heap.size w w' := by
  obtain ⟨A, c, rfl⟩ := hx.shape
  have HX := Lib.hid hx
  have HBY := Lib.hid hb
  have HG := Lib.hid hg
  have HD := Lib.hid hd
  clear hx hb hg hd
  obtain ⟨w1, hw1⟩ : ∃ w1, w1 = w.alloc (.cells #[.int .i64 0, .int .i64 0, .int .i64 0, .int .i64 0, .int .i64 0, .int .i64 0, .int .i64 0] 24) := ⟨_, rfl⟩
  have hB1 : Below w.heap.size w w1 := by rw [hw1]; exact Bel.grew (Below.refl _ _) _
  have hs1 : w1.heap.size = w.heap.size + 1 := by rw [hw1]; simp
  have h7 : Cells7 w1 w.heap.size (fun _ => 0) := by
    intro o ho
    rw [hw1]
    rcases (show o = 0 ∨ o = 1 ∨ o = 2 ∨ o = 3 ∨ o = 4 ∨ o = 5 ∨ o = 6 from by omega) with rfl | rfl | rfl | rfl | rfl | rfl | rfl
    all_goals simp [go_sem]
  have HW1 := Lib.hid hw1
  have HB1 := Lib.hid hB1
  have HS1 := Lib.hid hs1
  have HR1 := Lib.hid h7
  clear hw1 hB1 hs1 h7
  go_enter Try.func14, Try.ntmps14
  go_wp2_with fail
  rw [← HW1.out]
  refine (rFrom_new xs _ w1 (HX.out.later HB1.out) hl).mono ?_
  rintro e w3 ⟨p, S, rfl, hp, hb3, hR, _⟩
  have hp' : w.heap.size + 1 ≤ p := by have := HS1.out; omega
  have HB3 : Hid (Below w.heap.size w w3) := HB1.out.trans (hb3.mono (by have := HS1.out; omega))
  have HR3 := Lib.hid (HR1.out.below (by have := HS1.out; omega) hb3)
  have HRd := Lib.hid hR
  clear hp hb3 hR HW1 HB1 HS1 HR1
  go_wp2_with fail
  go_loopw [5, 6] (fun l i wr => ∃ k : Nat, k ≤ 7 ∧ i = .int .i64 k ∧ OwnK .i64 3 wr (p + 1) l (firstN (valN xs (0, 0)) k) ∧ Below w.heap.size w wr ∧ Rd wr p xs S ((rdN xs (0, 0) k).1 : Int) (rdN xs (0, 0) k).2 ∧ Cells7 wr w.heap.size (fun _ => 0)) (fun _ i _ => 7 - (intOf i).toNat)
  case atStart => exact ⟨0, by omega, rfl, OwnK.nil_ _ _, HB3.out, HRd.out, HR3.out⟩
  case round =>
    obtain ⟨k, hk, rfl, hown, hb, hR, hRes⟩ := hrel
    have HO := Lib.hid hown
    have HB := Lib.hid hb
    have HR := Lib.hid hR
    have HRes := Lib.hid hRes
    clear hown hb hR hRes HB3 HRd HR3
    have hplt := HR.out.lt
    have hle := rdN_le (xs := xs) (st := (0, 0)) (Nat.zero_le _) k
    obtain ⟨st, hst⟩ : ∃ st, rdN xs (0, 0) k = st := ⟨_, rfl⟩
    rw [hst] at HR hle
    by_cases hk7 : k < 7
    · have hkI : (k : Int) < 7 := by omega
      obtain ⟨r, hr⟩ : ∃ r, nextI xs st = r := ⟨_, rfl⟩
      have hv1 : valN xs (0, 0) k = r.1 := by unfold valN; rw [hst, hr]
      have HN : Hid (rdN xs (0, 0) (k + 1) = r.2) := by rw [rdN_succ, hst, hr]; exact Lib.hid rfl
      have HSU : Hid (firstN (valN xs (0, 0)) (k + 1) = firstN (valN xs (0, 0)) k ++ [r.1]) := by rw [← hv1]; exact firstN_succ _ _
      have HNR := Lib.hid hr
      clear hst hr hv1
      go_wp2_with fail
      refine (rInt_next HR.out hl hle HBY.out r HNR.out).mono ?_
      rintro e w5 ⟨rfl, hb5, hR5⟩
      have HO5 := Lib.hid (HO.out.but (Nat.lt_succ_self p) hb5)
      have HRes5 := Lib.hid (HRes.out.but (by omega) (by omega) hb5)
      have HB5 := Lib.hid (HB.out.trans (hb5.below (by omega) HB.out.size))
      have HR5 := Lib.hid hR5
      have hp5 := HR5.out.lt
      clear hb5 hR5 HO HRes HB HR
      go_wp2_with (at_builtin; refine wpList_append_sl rfl _ _ 35 rfl Try.underlying35 infoInts (by decide) rfl rfl (HO5.out.grow _) (Sl.one _ _ r.1 _ rfl) (by rw [firstN_length, List.length_cons, List.length_nil]; omega) (by rw [World.size_alloc]; omega) ?_; intro v6 w6 hown6 hb6)
      have hb56 : Below (p + 1) w5 w6 := ((Below.refl _ _).alloc (by omega) _).trans hb6
      go_roundw
      case rel =>
        refine ⟨k + 1, by omega, by go_num, ?_, HB5.out.trans (hb56.mono (by omega)), ?_, HRes5.out.below (by omega) hb56⟩
        · rw [HSU.out]; exact hown6
        · rw [HN.out]; exact HR5.out.below1 hb56
      case measure => simp [intOf]; omega
    · have hk4 : k = 7 := by omega
      subst hk4
      have HDD : Hid (doneR xs (st.1 : Int) st.2 = d) := by
        rw [← HD.out]; unfold getE doneN; rw [hst]; exact Lib.hid rfl
      go_wp2_with fail
      refine (rDone_any HR.out).mono ?_
      rw [HDD.out]
      rintro e w5 ⟨rfl, hb5⟩
      have HB5 := Lib.hid (Bel.then HB.out hb5)
      have HO5 := Lib.hid (HO.out.later hb5)
      have HRes5 := Lib.hid (HRes.out.below (by omega) hb5)
      clear hb5 HO HRes HB HR
      obtain ⟨⟨r0, f0⟩, ⟨r1, f1⟩, ⟨r2, f2⟩, ⟨r3, f3⟩, ⟨r4, f4⟩, ⟨r5, f5⟩, ⟨r6, f6⟩⟩ := And.intro (HRes5.out 0 (by decide)) (And.intro (HRes5.out 1 (by decide)) (And.intro (HRes5.out 2 (by decide)) (And.intro (HRes5.out 3 (by decide)) (And.intro (HRes5.out 4 (by decide)) (And.intro (HRes5.out 5 (by decide)) (HRes5.out 6 (by decide)))))))
      by_cases hd0 : d = 0
      · have hdb : (d != 0) = false := by simp [hd0]
        have hgv : ∀ o, g o = valN xs (0, 0) o := fun o => by rw [← HG.out]; unfold getC; rw [if_pos (by rw [HD.out]; exact hd0)]
        have hfn : firstN (valN xs (0, 0)) 7 = firstN g 7 := by unfold firstN; exact List.map_congr_left fun i _ => (hgv i).symm
        rw [hfn] at HO5
        obtain ⟨A5, c5, h5⟩ := HO5.out.sl.shape
        rw [firstN_length] at h5
        subst h5
        obtain ⟨b, off, rfl, hbB, hcap, hcx⟩ := HO5.out.sl.elem (i := 0) (by rw [firstN_length]; decide)
        have hall : ∀ i, i < 7 → w5.cell? ⟨b, off + i, none⟩ = some (.int .i64 (g i)) := fun i hi => by
          obtain ⟨b', off', hA, _, _, hc⟩ := HO5.out.sl.elem (i := i) (by rw [firstN_length]; exact hi)
          injection hA with hA
          injection hA with hA1 hA2
          subst hA1 hA2
          rw [firstN_get hi] at hc
          exact hc
        obtain ⟨l0, l1, l2, l3, l4, l5, l6⟩ := And.intro (hall 0 (by decide)) (And.intro (hall 1 (by decide)) (And.intro (hall 2 (by decide)) (And.intro (hall 3 (by decide)) (And.intro (hall 4 (by decide)) (And.intro (hall 5 (by decide)) (hall 6 (by decide)))))))
        rw [Nat.add_zero] at l0
        rw [firstN_length] at hcap
        have HC7 := Lib.hid (Cells7.store7 (w := w5.drew) HRes5.out g)
        have HB7 := Lib.hid (Below.store7 (Below.drew HB5.out) (Nat.le_refl _) g)
        have hbp := own_base (OwnK.row HO5.out) b rfl
        have hn1 : b ≠ w.heap.size := by omega
        have hn2 : w.heap.size ≠ b := by omega
        clear HRes5 HX HBY hall hcx hgv hfn
        subst hd0
        go_wp2_with fail
        go_still_tail 21, (by kernel_rfl)
        change wpList _ _ _ _ _ w5.drew
        obtain ⟨w6, h6⟩ : ∃ w6, w6 = w5.drew := ⟨_, rfl⟩
        rw [← h6] at HC7 HB7 ⊢
        replace r0 : w6.cell? ⟨w.heap.size, 0, none⟩ = some (.int .i64 0) := by rw [h6]; exact r0
        replace r1 : w6.cell? ⟨w.heap.size, 1, none⟩ = some (.int .i64 0) := by rw [h6]; exact r1
        replace r2 : w6.cell? ⟨w.heap.size, 2, none⟩ = some (.int .i64 0) := by rw [h6]; exact r2
        replace r3 : w6.cell? ⟨w.heap.size, 3, none⟩ = some (.int .i64 0) := by rw [h6]; exact r3
        replace r4 : w6.cell? ⟨w.heap.size, 4, none⟩ = some (.int .i64 0) := by rw [h6]; exact r4
        replace r5 : w6.cell? ⟨w.heap.size, 5, none⟩ = some (.int .i64 0) := by rw [h6]; exact r5
        replace r6 : w6.cell? ⟨w.heap.size, 6, none⟩ = some (.int .i64 0) := by rw [h6]; exact r6
        replace f0 : w6.frozen? ⟨w.heap.size, 0, none⟩ = false := by rw [h6]; exact f0
        replace f1 : w6.frozen? ⟨w.heap.size, 1, none⟩ = false := by rw [h6]; exact f1
        replace f2 : w6.frozen? ⟨w.heap.size, 2, none⟩ = false := by rw [h6]; exact f2
        replace f3 : w6.frozen? ⟨w.heap.size, 3, none⟩ = false := by rw [h6]; exact f3
        replace f4 : w6.frozen? ⟨w.heap.size, 4, none⟩ = false := by rw [h6]; exact f4
        replace f5 : w6.frozen? ⟨w.heap.size, 5, none⟩ = false := by rw [h6]; exact f5
        replace f6 : w6.frozen? ⟨w.heap.size, 6, none⟩ = false := by rw [h6]; exact f6
        clear h6 l0 l1 l2 l3 l4 l5 l6
        go_wp2_with fail
        change bodyPost _ _ _ _ _ (store7 w6 w.heap.size g)
        obtain ⟨wf, hwf⟩ : ∃ wf, wf = store7 w6 w.heap.size g := ⟨_, rfl⟩
        rw [← hwf] at HC7 HB7 ⊢
        obtain ⟨c0, c1, c2, c3, c4, c5, c6⟩ := And.intro (HC7.out 0 (by decide)).1 (And.intro (HC7.out 1 (by decide)).1 (And.intro (HC7.out 2 (by decide)).1 (And.intro (HC7.out 3 (by decide)).1 (And.intro (HC7.out 4 (by decide)).1 (And.intro (HC7.out 5 (by decide)).1 (HC7.out 6 (by decide)).1)))))
        have hBf := HB7.out
        clear hwf
        simp [bodyPost, results, Try.results14, go_sem, c0, c1, c2, c3, c4, c5, c6, hBf]
      · have hdb : (d != 0) = true := by simp [hd0]
        have hg0 : g = fun _ => 0 := funext fun o => by rw [← HG.out]; unfold getC; rw [if_neg (by rw [HD.out]; exact hd0)]
        have HC7 := Lib.hid (HRes5.out.store7 (fun _ => 0))
        have HB7 := Lib.hid (Below.store7 HB5.out (Nat.le_refl _) (fun _ => 0))
        clear HRes5 HX HBY HG
        subst hg0
        go_wp2_with fail
        change bodyPost _ _ _ _ _ (store7 w5 w.heap.size (fun _ => 0))
        obtain ⟨wf, hwf⟩ : ∃ wf, wf = store7 w5 w.heap.size (fun _ => 0) := ⟨_, rfl⟩
        rw [← hwf] at HC7 HB7 ⊢
        obtain ⟨c0, c1, c2, c3, c4, c5, c6⟩ := And.intro (HC7.out 0 (by decide)).1 (And.intro (HC7.out 1 (by decide)).1 (And.intro (HC7.out 2 (by decide)).1 (And.intro (HC7.out 3 (by decide)).1 (And.intro (HC7.out 4 (by decide)).1 (And.intro (HC7.out 5 (by decide)).1 (HC7.out 6 (by decide)).1)))))
        have hBf := HB7.out
        clear hwf
        dsimp only at c0 c1 c2 c3 c4 c5 c6
        simp [bodyPost, results, Try.results14, go_sem, c0, c1, c2, c3, c4, c5, c6, hBf]
end Go.Proofs.Ytjjccjannandlaa
