/- EventBack: the walk. -/
import Derived.Test.YtjjccjannandlaaMzEBytes
import Derived.Test.YtjjccjannandlaaMzShown
set_option maxRecDepth 100000
set_option linter.unusedVariables false
set_option linter.unusedSimpArgs false
namespace Go.Proofs.Ytjjccjannandlaa
open Go.RowKit Go.BigFrame

theorem Sl.cap'' {k : IntKind} {w : World} {B n c : Nat} {A : Option Addr} {xs : List Int} (h : Sl k w B (.slice A n c) xs) : xs.length ≤ c := by
  rcases h with ⟨A', c', hv, rfl⟩ | ⟨b, off, c', hv, hlt, hc, hx⟩
  · simp
  · injection hv with h1 h2 h3
    subst h3; exact hc
theorem gD_len (xs : List Int) : (gD xs).length ≤ 64 := by
  unfold gD
  split
  · unfold eD; rw [firstN_length]; exact eN_le xs
  · exact Nat.zero_le _
theorem snoc_bytes {P : List Int} {x : Int} (h : Bytes P) (h0 : 0 ≤ x) (h1 : x ≤ 255) : Bytes (P ++ [x]) := by
  intro d hd
  rcases List.mem_append.1 hd with h' | h'
  · exact h d h'
  · have : d = x := by simpa using h'
    omega

set_option maxRecDepth 100000 in
set_option maxHeartbeats 16000000 in
theorem eventBack_any (f : Nat → Int) (dv : Value) (ds xs : List Int) (more : Int) (x : Value) (w : World) (hd : Sl .i64 w w.heap.size dv ds) (h64 : Ev64 f ds) (hx : Sl .u8 w w.heap.size x xs) (hb : Bytes xs) (hm0 : 0 ≤ more) (hm1 : more ≤ 255) :
    Calls Try.prog 8 #[evV f dv, x, .int .u8 more] w fun e w' => e = .returned (.bool true) ∧ Below w.heap.size w w' := by
  obtain ⟨A, c, rfl⟩ := hx.shape
  obtain ⟨A0, c0, rfl⟩ := hd.shape
  have hb1 : Below w.heap.size w (w.alloc (.cells (cells10 f (.slice A0 ds.length c0)) 39)) := Bel.grew (Below.refl _ _) _
  by_cases hbig : 200 < (ds.length : Int) ∨ ((ds.length : Int) ≤ 200 ∧ 4096 < (xs.length : Int))
  · have HB1 := Lib.hid hb1
    clear hb1 hx hd hm0 hm1
    rcases hbig with h1 | ⟨h1, h2⟩
    all_goals
      go_enter Try.func8, Try.ntmps8
      go_wp2_with fail
      refine (known05_any _).mono ?_
      rintro e w1 ⟨rfl, hb⟩
      have HB := Lib.hid (Bel.then HB1.out hb)
      clear hb
      go_wp2_with fail
      go_ret
      exact ⟨rfl, HB.out⟩
  · have hlI : ¬ (ds.length : Int) > 200 := by omega
    have hlJ : ¬ (xs.length : Int) > 4096 := by omega
    have HC1 := Lib.hid (Has.new w (cells10 f (.slice A0 ds.length c0)) 39)
    have HB1 := Lib.hid hb1
    have HD1 := Lib.hid (hd.later hb1)
    have HX := Lib.hid hx
    have HBY := Lib.hid hb
    have H64 := Lib.hid h64
    have HMO := Lib.hid (And.intro hm0 hm1)
    clear hb1 hx hd hb h64 hbig hm0 hm1
    have hc1 := HC1.out.2
    have hlt1 := HC1.out.1
    by_cases hl : (ds.length : Int) ≤ 64
    focus
      have hl' : ds.length ≤ 64 := by omega
      go_enter Try.func8, Try.ntmps8
      go_wp2_with fail
      refine (ePut_any f _ ds _ HD1.out hl' H64.out).mono ?_
      rintro e w2 ⟨r2, rfl, hown, hb⟩
      have hall := H64.out.all (ds := ds) (by omega)
      obtain ⟨P, hP⟩ : ∃ P, P = encs (evL f ds) := ⟨_, rfl⟩
      have hle := encs_le hall
      have hge := encs_pos (l := evL f ds)
      rw [evL_length] at hle hge
      have HPB : Hid (Bytes P) := by rw [hP]; exact Lib.hid (encs_byte hall)
      have HE0 : Hid (eE P = 0) := by rw [hP]; exact Lib.hid (eE_back H64.out hl')
      have HGF : Hid (∀ i, i < 9 → gF P i = f i) := by rw [hP]; exact Lib.hid (fun i hi => gF_back H64.out hl' hi)
      have HGD : Hid (gD P = ds) := by rw [hP]; exact Lib.hid (gD_back H64.out hl')
      have HCUT : Hid (∀ m, m < P.length → eE (P.take m) = 4) := by rw [hP]; exact Lib.hid (fun m hm => eE_cut H64.out hl' hm)
      have HLONG : Hid (eE (P ++ [more]) = 5) := by rw [hP]; exact Lib.hid (eE_long H64.out hl' more)
      rw [← hP] at hown hle hge
      obtain ⟨M, hM⟩ : ∃ M, P.length = M + 1 := ⟨P.length - 1, by omega⟩
      obtain ⟨L, hL⟩ : ∃ L, L = P.length := ⟨_, rfl⟩
      have HP2 := Lib.hid (OwnK.sl hown)
      have HB2 := Lib.hid (Bel.then HB1.out hb)
      have HC2 := Lib.hid (HC1.out.later hb)
      have HD2 := Lib.hid (HD1.out.later hb)
      obtain ⟨A2, k2, h2⟩ := HP2.out.shape
      rw [← hL] at h2
      subst h2
      have hL0 : 0 < (L : Int) := by omega
      have hL1 : (L : Int) ≤ 999 := by omega
      have HLP := Lib.hid hL
      have HLM : Hid (L = M + 1) := Lib.hid (by omega)
      have hwr : IntKind.i64.wrap ((L : Int) - 1) = (M : Int) := by rw [IntWalk.i64_in _ (by omega)]; omega
      clear hb hown HC1 HB1 HD1 hc1 hlt1 hP hle hge hM hL hall
      have hc2 := HC2.out.2
      have hlt2 := HC2.out.1
      go_wp2_with fail
      refine (eGet_any P _ _ HP2.out (by have := HLP.out; omega) HPB.out (gF P) 0 ds rfl HE0.out HGD.out).mono ?_
      rintro e w3 ⟨dv3, rfl, hown, hb⟩
      rw [evV_congr HGF.out]
      have HO3 := Lib.hid (OwnK.sl (hown : OwnK .i64 3 _ _ _ _))
      have HP3 := Lib.hid (HP2.out.later hb)
      have HB3 := Lib.hid (Bel.then HB2.out hb)
      have HC3 := Lib.hid (HC2.out.later hb)
      have HD3 := Lib.hid (HD2.out.later hb)
      obtain ⟨A3, k3, rfl⟩ := HO3.out.shape
      clear hb hown HC2 HB2 HD2 HP2 hc2 hlt2
      obtain ⟨W4, hW4⟩ : ∃ W4, W4 = (w3.alloc (.cells (cells10 f (.slice A3 ds.length k3)) 39)).alloc (.cells #[] 5) := ⟨_, rfl⟩
      have hg4 : Below w3.heap.size w3 W4 := by rw [hW4]; exact Bel.grew (Bel.grew (Below.refl _ _) _) _
      have HE4 : Hid (Has W4 w3.heap.size (cells10 f (.slice A3 ds.length k3))) := by rw [hW4]; exact Lib.hid ((Has.new w3 _ _).grow _)
      have HZ4 : Hid (OwnBytes W4 (w3.heap.size + 1) (.slice (some ⟨w3.heap.size + 1, 0, none⟩) 0 0) []) := by
        have := OwnK.built (k := .u8) (e := 5) (w3.alloc (.cells (cells10 f (.slice A3 ds.length k3)) 39)) #[] [] 0 (w3.heap.size + 1) rfl rfl (by simp) (by decide)
        rw [hW4]
        rwa [show (w3.alloc (.cells (cells10 f (.slice A3 ds.length k3)) 39)).heap.size = w3.heap.size + 1 from by simp] at this
      have HP4 := Lib.hid (HP3.out.later hg4)
      have HG4 := Lib.hid hg4
      have HS4 : Hid (W4.heap.size = w3.heap.size + 2) := by rw [hW4]; exact Lib.hid (by simp)
      have HW4 := Lib.hid hW4
      have HN4 : Hid (([] : List Int).length + P.length ≤ 4398046511104) := Lib.hid (by rw [List.length_nil]; have := HLP.out; omega)
      have HN5 : Hid (P.length + [more].length ≤ 4398046511104) := Lib.hid (by rw [List.length_singleton]; have := HLP.out; omega)
      clear hg4 hW4
      go_wp2_with (first
        | (at_builtin; rw [← HW4.out]; refine wpList_append_sl rfl _ _ 22 rfl Try.underlying22 infoBytes (by decide) rfl rfl HZ4.out HP4.out HN4.out (by have := HS4.out; omega) ?_; intro v5 w5 hown5 hb5; rw [List.nil_append] at hown5; have HZ5 := Lib.hid hown5; have HB5 := Lib.hid hb5; have HS5 : Hid (w3.heap.size + 2 ≤ w5.heap.size) := Lib.hid (by have := hb5.size; have := HS4.out; omega); have hsh := hown5.sl.shape; clear hown5 hb5 HZ4 HN4 HW4; obtain ⟨A5, k5, rfl⟩ := hsh)
        | (at_builtin; refine wpList_append_sl rfl _ _ 22 rfl Try.underlying22 infoBytes (by decide) rfl rfl (HZ5.out.grow _) (Sl.one _ _ more _ rfl) HN5.out (by rw [World.size_alloc]; have := HS5.out; omega) ?_; intro v6 w6 hown6 hb6; have HZ6 := Lib.hid hown6.sl; have HB6 : Hid (Below (w3.heap.size + 1) W4 w6) := Lib.hid ((HB5.out.alloc (by have := HS5.out; omega) _).trans hb6); clear hown6 hb6 HZ5 HN5 HB5 HS5))
      have hs6 := HB6.out.size
      have HE6 : Hid (Has w6 w3.heap.size (cells10 f (.slice A3 ds.length k3))) := Lib.hid ⟨by have := HS4.out; omega, fun i => (HB6.out.cell (p := ⟨w3.heap.size, i, none⟩) (Nat.lt_succ_self _)).trans (HE4.out.2 i)⟩
      have HB36 := Lib.hid (HG4.out.trans (HB6.out.mono (Nat.le_succ _)))
      clear HE4 HP4 HG4 HS4 HB6 hs6
      refine (eGet_any (P ++ [more]) _ _ HZ6.out (by rw [List.length_append, List.length_singleton]; have := HLP.out; omega) (snoc_bytes HPB.out HMO.out.1 HMO.out.2) (fun _ => 0) 5 [] (gF_no (by rw [HLONG.out]; decide)) HLONG.out (gD_no (by rw [HLONG.out]; decide))).mono ?_
      rintro e w7 ⟨dv7, rfl, hown, hb⟩
      obtain ⟨A7, k7, h7⟩ := (OwnK.sl (hown : OwnK .i64 3 _ _ _ _)).shape
      subst h7
      have HB37 := Lib.hid (HB36.out.trans (hb.mono HB36.out.size))
      have HE7 := Lib.hid (HE6.out.later hb)
      have HC7 := Lib.hid (HC3.out.later HB37.out)
      have hg8 : Below w7.heap.size w7 (w7.alloc (.cells (cells10 (fun _ => 0) (.slice A7 ([] : List Int).length k7)) 39)) := Bel.grew (Below.refl _ _) _
      have HB38 := Lib.hid (HB37.out.trans (hg8.mono HB37.out.size))
      have HD8 := Lib.hid (HD3.out.later HB38.out)
      have HP8 := Lib.hid (HP3.out.later HB38.out)
      have HO8 := Lib.hid (HO3.out.later HB38.out)
      have HB8 := Lib.hid (Bel.then HB3.out HB38.out)
      clear hown hb hg8 HE6 HB36 HZ6 HC3 HD3 HP3 HO3 HB3 HB38 HB37
      have hcE := HE7.out.2
      have hlE := HE7.out.1
      have hcC := HC7.out.2
      have hlC := HC7.out.1
      go_wp2_with fail
      refine (sameEv_eq f _ _ ds _ HO8.out HD8.out (by omega)).mono ?_
      rintro e w9 ⟨rfl, hb⟩
      have HP9 := Lib.hid (HP8.out.later hb)
      have HB9 := Lib.hid (Bel.then HB8.out hb)
      obtain ⟨A5, c5, he5⟩ := sliced_shape A2 0 M k2
      rw [Nat.sub_zero] at he5
      have hcut := fun W => run_upto A2 L k2 M (by have := HP9.out.cap''; have := HLP.out; have := HLM.out; omega) W
      rw [he5] at hcut
      have HS9 : Hid (Sl .u8 w9 w9.heap.size (.slice A5 M c5) (P.take M)) := by
        have := HP9.out.upto_ (a := M) (by have := HLP.out; have := HLM.out; omega)
        rw [he5] at this
        exact Lib.hid this
      clear hb HP8 HB8 HO8 HD8 HC7 HE7 hcE hlE hcC hlC he5 HP9
      go_wp2_with fail
      refine (eGet_any (P.take M) _ _ HS9.out (by rw [List.length_take]; have := HLP.out; omega) (fun d hd => HPB.out d (List.mem_of_mem_take hd)) (fun _ => 0) 4 [] (gF_no (by rw [HCUT.out M (by have := HLP.out; have := HLM.out; omega)]; decide)) (HCUT.out M (by have := HLP.out; have := HLM.out; omega)) (gD_no (by rw [HCUT.out M (by have := HLP.out; have := HLM.out; omega)]; decide))).mono ?_
      rintro e wA ⟨dvA, rfl, hown, hb⟩
      have HBA := Lib.hid (Bel.then HB9.out hb)
      obtain ⟨AA, kA, hA⟩ := (OwnK.sl (hown : OwnK .i64 3 _ _ _ _)).shape
      subst hA
      have HBz := Lib.hid (Bel.then HBA.out (Bel.grew (Below.refl _ _) (.cells (cells10 (fun _ => 0) (.slice AA ([] : List Int).length kA)) 39)))
      clear hown hb HB9 hcut HS9 HBA HPB HE0 HGF HGD HCUT HLONG
      go_wp2_with fail
    rotate_left
    focus
      have hl' : 64 < ds.length := by omega
      go_enter Try.func8, Try.ntmps8
      go_wp2_with fail
      refine (ePut_many f _ ds _ HD1.out hl').mono ?_
      rintro e w2 ⟨rfl, hb⟩
      have HBz := Lib.hid (Bel.then HB1.out hb)
      have hc2 := (HC1.out.later hb).2
      have hlt2 := (HC1.out.later hb).1
      clear hb HC1 HB1 HD1 hc1 hlt1
      go_wp2_with fail
    all_goals
      obtain ⟨d, hd⟩ : ∃ d, eE xs = d := ⟨_, rfl⟩
      obtain ⟨g, hg⟩ : ∃ g, gF xs = g := ⟨_, rfl⟩
      obtain ⟨gs, hgs⟩ : ∃ gs, gD xs = gs := ⟨_, rfl⟩
      refine (eGet_any xs _ _ (HX.out.later HBz.out) (by omega) HBY.out g d gs hg hd hgs).mono ?_
      rintro e wB ⟨dvB, rfl, hown, hb⟩
      have HOB := Lib.hid (OwnK.sl (hown : OwnK .i64 3 _ _ _ _))
      have HBB := Lib.hid (Bel.then HBz.out hb)
      obtain ⟨AB, kB, rfl⟩ := HOB.out.shape
      have hgr : Below wB.heap.size wB (wB.alloc (.cells (cells10 g (.slice AB gs.length kB)) 39)) := Bel.grew (Below.refl _ _) _
      have HBC := Lib.hid (Bel.then HBB.out hgr)
      have HOC := Lib.hid (HOB.out.later hgr)
      clear hown hb HBz hgr HBB HOB
      by_cases hd0 : d = 0
      · obtain ⟨hok, hok64, hok3⟩ := eE_ok HBY.out (by rw [hd]; exact hd0)
        rw [hg, hgs] at hok hok64
        rw [hgs] at hok3
        have HOK := Lib.hid hok
        have HOK64 := Lib.hid hok64
        clear hd hg hgs hok hok64
        subst hd0
        go_wp2_with fail
        refine (ePut_any g _ gs _ HOC.out hok3 HOK64.out).mono ?_
        rintro e wD ⟨rD, rfl, hr, hb⟩
        rw [HOK.out] at hr
        have HRD := Lib.hid (OwnK.sl hr)
        have HBD := Lib.hid (Bel.then HBC.out hb)
        obtain ⟨AD, kD, rfl⟩ := HRD.out.shape
        clear hr hb HBC HOC
        go_wp2_with fail
        refine (sameBytes_is HRD.out (HX.out.later HBD.out) (b := true) (decide_eq_true rfl) (by omega)).mono ?_
        rintro e wF ⟨rfl, hb⟩
        have HBF := Lib.hid (Bel.then HBD.out hb)
        clear hb HBD HRD
        go_wp2_with fail
        refine (known05_any _).mono ?_
        rintro e wG ⟨rfl, hb⟩
        have HBG := Lib.hid (Bel.then HBF.out hb)
        clear hb HBF
        go_wp2_with fail
        go_ret
        exact ⟨rfl, HBG.out⟩
      · have hne : (d != 0) = true := by simp [hd0]
        have hg0 : g = fun _ => 0 := by rw [← hg]; exact gF_no (by rw [hd]; exact hd0)
        have hgs0 : gs = [] := by rw [← hgs]; exact gD_no (by rw [hd]; exact hd0)
        clear hd hg hgs
        subst hg0 hgs0
        go_wp2_with fail
        refine (sameEv_eq (fun _ => 0) _ (.slice none 0 0) [] _ HOC.out Sl.nil_ (by decide)).mono ?_
        rintro e wD ⟨rfl, hb⟩
        have HBD := Lib.hid (Bel.then HBC.out hb)
        clear hb HBC HOC
        go_wp2_with fail
        refine (known05_any _).mono ?_
        rintro e wG ⟨rfl, hb⟩
        have HBG := Lib.hid (Bel.then HBD.out hb)
        clear hb HBD
        go_wp2_with fail
        go_ret
        exact ⟨rfl, HBG.out⟩
end Go.Proofs.Ytjjccjannandlaa
