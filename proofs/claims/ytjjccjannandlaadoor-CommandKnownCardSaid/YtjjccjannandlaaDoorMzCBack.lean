/- CommandBack: the walk. -/
import Derived.Test.YtjjccjannandlaaDoorMzWorks08
import Derived.Test.YtjjccjannandlaaDoorCells7
import Derived.Test.YtjjccjannandlaaDoorPick
set_option maxRecDepth 100000
set_option maxRecDepth 100000
set_option linter.unusedVariables false
set_option linter.unusedSimpArgs false
namespace Go.Proofs.YtjjccjannandlaaDoor
open Go.RowKit Go.BigFrame

theorem cmdV_congr {f g : Nat → Int} (h : ∀ i, i < 7 → f i = g i) : cmdV f = cmdV g := by
  unfold cmdV
  rw [h 0 (by decide), h 1 (by decide), h 2 (by decide), h 3 (by decide), h 4 (by decide), h 5 (by decide), h 6 (by decide)]

set_option maxRecDepth 100000 in
set_option maxHeartbeats 8000000 in
theorem commandBack_any (v : Nat → Int) (xs : List Int) (cut : Int) (x : Value) (w : World) (h64 : V64 v) (hx : Sl .u8 w w.heap.size x xs) (hb : Bytes xs) (h0 : -9223372036854775808 ≤ cut) (h1 : cut ≤ 9223372036854775807) :
    Calls Tryd.prog 19 #[cmdV v, x, .int .i64 cut] w fun e w' => e = .returned (.bool true) ∧ Below w.heap.size w w' := by
  obtain ⟨A, c, rfl⟩ := hx.shape
  have HX := Lib.hid hx
  have HBY := Lib.hid hb
  have H64 := Lib.hid h64
  have HCUT := Lib.hid (And.intro h0 h1)
  clear hx hb h64 h0 h1
  have hb1 : Below w.heap.size w (w.alloc (.cells (cells7 v) 27)) := Bel.grew (Below.refl _ _) _
  by_cases hbig : 4096 < (xs.length : Int)
  · have HB1 := Lib.hid hb1
    clear hb1
    go_enter Tryd.func19, Tryd.ntmps19
    go_wp2_with fail
    refine (works08_any _).mono ?_
    rintro e w1 ⟨rfl, hb⟩
    have HB := Lib.hid (Bel.then HB1.out hb)
    clear hb
    go_wp2_with fail
    go_ret
    exact ⟨rfl, HB.out⟩
  · have hlx : xs.length ≤ 4096 := by omega
    have HC1 := Lib.hid (Has.new w (cells7 v) 27)
    have HB1 := Lib.hid hb1
    have HX1 := Lib.hid (HX.out.later hb1)
    clear hb1
    have hc1 := HC1.out.2
    go_enter Tryd.func19, Tryd.ntmps19
    go_wp2_with fail
    refine (cPut_any v _ H64.out).mono ?_
    rintro e w2 ⟨r2, rfl, hr, hb⟩
    have hpl : (encs (firstN v 7)).length ≤ 63 := by have := encs_le (firstN_64 H64.out (Nat.le_refl 7)); rw [firstN_length] at this; omega
    have hpl7 : 7 ≤ (encs (firstN v 7)).length := by have := encs_pos (l := firstN v 7); rw [firstN_length] at this; omega
    obtain ⟨P, hP⟩ : ∃ P, P = encs (firstN v 7) := ⟨_, rfl⟩
    have HPB : Hid (Bytes P) := by rw [hP]; exact encs_byte (firstN_64 H64.out (Nat.le_refl 7))
    have HE0 : Hid (getE P = 0) := by rw [hP]; exact getE_back H64.out
    have HG0 : Hid (∀ i, i < 7 → getC P i = v i) := by rw [hP]; exact fun i hi => getC_back H64.out hi
    have HECUT : Hid (∀ m, m < P.length → getE (P.take m) = 4) := by rw [hP]; exact fun m hm => getE_cut H64.out hm
    have HELONG : Hid (getE (P ++ [0]) = 5) := by rw [hP]; exact getE_long H64.out 0
    rw [← hP] at hr hpl hpl7
    have HP2 := Lib.hid (OwnK.sl hr)
    have HB2 := Lib.hid (Bel.then HB1.out hb)
    have HC2 := Lib.hid (HC1.out.later hb)
    have HX2 := Lib.hid (HX1.out.later hb)
    obtain ⟨A2, k2, rfl⟩ := HP2.out.shape
    clear hr hb hP HC1 HB1 HX1 hc1
    go_wp2_with fail
    refine (cGet_any P _ _ HP2.out (by omega) HPB.out _ 0 rfl HE0.out).mono ?_
    rintro e w3 ⟨rfl, hb⟩
    rw [cmdV_congr HG0.out]
    have HP3 := Lib.hid (HP2.out.later hb)
    have HB3 := Lib.hid (Bel.then HB2.out hb)
    have HC3 := Lib.hid (HC2.out.later hb)
    have HX3 := Lib.hid (HX2.out.later hb)
    clear hb HP2 HB2 HC2 HX2
    have hc3 := HC3.out.2
    have hlt3 := HC3.out.1
    obtain ⟨L, hL⟩ : ∃ L, L = P.length := ⟨_, rfl⟩
    rw [← hL] at hpl hpl7
    rw [← hL]
    have hL7 : ¬ (L : Int) < 7 := by omega
    have HL := Lib.hid hL
    clear hL
    go_wp2_with fail
    refine (pick_any cut (L : Int) _ HCUT.out.1 HCUT.out.2 (by omega) (by omega)).mono ?_
    rintro e w4 ⟨m, rfl, hm0, hm1, rfl⟩
    obtain ⟨m, rfl⟩ := Int.eq_ofNat_of_zero_le hm0
    have hgrow : Below w3.heap.size w3 (w3.alloc (.cells (cells7 v) 27)) := Bel.grew (Below.refl _ _) _
    have hmP : m < P.length := by have := HL.out; omega
    obtain ⟨A5, c5, he5⟩ := sliced_shape A2 0 m k2
    rw [Nat.sub_zero] at he5
    have hcut := fun W => run_upto A2 L k2 m (by have := HP3.out.cap'; omega) W
    rw [he5] at hcut
    have HP4 := Lib.hid (HP3.out.later hgrow)
    have HX4 := Lib.hid (HX3.out.later hgrow)
    have HB4 := Lib.hid (Bel.then HB3.out hgrow)
    have HS4 : Hid (Sl .u8 (w3.alloc (.cells (cells7 v) 27)) (w3.alloc (.cells (cells7 v) 27)).heap.size (.slice A5 m c5) (P.take m)) := by
      have := HP4.out.upto_ (a := m) (by omega)
      rw [he5] at this
      exact this
    rw [← HL.out] at HP4
    clear he5 hm0 hm1 HP3 HX3 HB3 HC3 hc3 hlt3 hL7 hgrow
    go_wp2_with fail
    refine (cGet_any (P.take m) _ _ HS4.out (by rw [List.length_take_of_le (by omega)]; have := HL.out; omega) (fun d hd => HPB.out d (List.mem_of_mem_take hd)) _ 4 rfl (HECUT.out m hmP)).mono ?_
    rintro e w5 ⟨rfl, hb⟩
    obtain ⟨g5, hg5⟩ : ∃ g5, g5 = getC (P.take m) := ⟨_, rfl⟩
    rw [← hg5]
    have HP5 := Lib.hid (HP4.out.later hb)
    have HX5 := Lib.hid (HX4.out.later hb)
    have HB5 := Lib.hid (Bel.then HB4.out hb)
    clear hb HP4 HX4 HB4 HS4 hcut hg5
    go_wp2_with fail
    have hgrow : Below w5.heap.size w5 (w5.alloc (.cells (cells7 g5) 27)) := Bel.grew (Below.refl _ _) _
    refine (copyBytes_any P _ _ _ (HP5.out.later hgrow) (Nat.le_refl _) (by have := HL.out; omega)).mono ?_
    rintro e w6 ⟨r6, rfl, hown, hb⟩
    have HO6 := Lib.hid (hown.down (B' := w.heap.size) (Nat.le_trans HB5.out.size hgrow.size))
    have HX6 := Lib.hid ((HX5.out.later hgrow).later hb)
    have HB6 := Lib.hid (Bel.then (Bel.then HB5.out hgrow) hb)
    obtain ⟨A6, c6, h6⟩ := hown.sl.shape
    rw [← HL.out] at h6
    subst h6
    clear hb hown HP5 HX5 HB5 hgrow
    go_wp2_with (at_builtin; refine wpList_append_sl rfl _ _ 51 rfl Tryd.underlying51 infoBytes (by decide) rfl rfl (HO6.out.grow _) (Sl.one _ _ 0 _ rfl) (by have := HL.out; rw [List.length_cons, List.length_nil]; omega) (by rw [World.size_alloc]; exact Nat.le_succ_of_le HB6.out.size) ?_; intro v7 w7 hown7 hb7)
    have HB7 : Hid (Below w.heap.size w w7) := (HB6.out.alloc HB6.out.size _).trans hb7
    have HX7 : Hid (Sl .u8 w7 w7.heap.size (.slice A xs.length c) xs) := (HX.out.below HB7.out).more HB7.out.size
    have HO7 := Lib.hid hown7.sl
    clear hown7 hb7 HB6 HX6 HO6
    refine (cGet_any (P ++ [0]) _ _ HO7.out (by rw [List.length_append, List.length_singleton]; have := HL.out; omega) (fun d hd => by
      rcases List.mem_append.1 hd with h | h
      · exact HPB.out d h
      · have : d = 0 := by simpa using h
        omega) _ 5 rfl HELONG.out).mono ?_
    rintro e w8 ⟨rfl, hb⟩
    obtain ⟨g8, hg8⟩ : ∃ g8, g8 = getC (P ++ [0]) := ⟨_, rfl⟩
    rw [← hg8]
    have HB8 := Lib.hid (Bel.then HB7.out hb)
    have HX8 := Lib.hid (HX7.out.later hb)
    clear hb HB7 HX7 HO7 hg8
    go_wp2_with fail
    obtain ⟨d, hd⟩ : ∃ d, getE xs = d := ⟨_, rfl⟩
    obtain ⟨g, hg⟩ : ∃ g, getC xs = g := ⟨_, rfl⟩
    have hgrow : Below w8.heap.size w8 (w8.alloc (.cells (cells7 g8) 27)) := Bel.grew (Below.refl _ _) _
    refine (cGet_any xs _ _ (HX8.out.later hgrow) (by omega) HBY.out g d hg hd).mono ?_
    rintro e w9 ⟨rfl, hb⟩
    have HB9 := Lib.hid (Bel.then (Bel.then HB8.out hgrow) hb)
    have HX9 := Lib.hid ((HX8.out.later hgrow).later hb)
    clear hb hgrow HB8 HX8
    by_cases hd0 : d = 0
    · obtain ⟨hok, hok64⟩ := getE_ok HBY.out (by rw [hd]; exact hd0)
      rw [hg] at hok hok64
      have hdb : (d == 0) = true := by simp [hd0]
      have hdb' : (d != 0) = false := by simp [hd0]
      have HOK := Lib.hid hok
      have HOK64 := Lib.hid hok64
      clear hd hg hok hok64
      go_wp2_with fail
      have hgrow : Below w9.heap.size w9 (w9.alloc (.cells (cells7 g) 27)) := Bel.grew (Below.refl _ _) _
      refine (cPut_any g _ HOK64.out).mono ?_
      rintro e wa ⟨ra, rfl, hr, hb⟩
      rw [HOK.out] at hr
      have HRa := Lib.hid (OwnK.sl hr)
      have HBa := Lib.hid (Bel.then (Bel.then HB9.out hgrow) hb)
      have HXa := Lib.hid ((HX9.out.later hgrow).later hb)
      clear hr hb hgrow HB9 HX9
      go_wp2_with fail
      refine (sameBytes_is HRa.out HXa.out (b := true) (decide_eq_true rfl) (by omega)).mono ?_
      rintro e wb ⟨rfl, hb⟩
      have HBb := Lib.hid (Bel.then HBa.out hb)
      clear hb HBa HXa HRa
      go_wp2_with fail
      refine (works08_any _).mono ?_
      rintro e wc ⟨rfl, hb⟩
      have HBc := Lib.hid (Bel.then HBb.out hb)
      clear hb HBb
      go_wp2_with fail
      go_ret
      exact ⟨rfl, HBc.out⟩
    · have hg0 : g = fun _ => 0 := by rw [← hg]; exact funext fun i => getC_no (by rw [hd]; exact hd0) i
      have hdb : (d == 0) = false := by simp [hd0]
      have hdb' : (d != 0) = true := by simp [hd0]
      clear hd hg
      subst hg0
      go_wp2_with fail
      refine (works08_any _).mono ?_
      rintro e wc ⟨rfl, hb⟩
      have HBc := Lib.hid (Bel.then (Bel.grew HB9.out _) hb)
      clear hb HB9
      go_wp2_with fail
      go_ret
      exact ⟨rfl, HBc.out⟩
end Go.Proofs.YtjjccjannandlaaDoor
