/- EventMay: the walk. -/
import Derived.Test.YtjjccjannandlaaEChecks
import Derived.Test.YtjjccjannandlaaPick
set_option linter.unusedVariables false
set_option linter.unusedSimpArgs false
namespace Go.Proofs.Ytjjccjannandlaa
open Go.RowKit Go.BigFrame

theorem Sl.put {k : IntKind} {w : World} {B g n c i : Nat} {xs : List Int} (h : Sl k w B (.slice (some ⟨g, 0, none⟩) n c) xs) (hi : i < xs.length) (x : Int) :
    Sl k (w.setCell ⟨g, i, none⟩ (.int k x)) (w.setCell ⟨g, i, none⟩ (.int k x)).heap.size (.slice (some ⟨g, 0, none⟩) n c) (xs.set i x) := by
  rcases h with ⟨A', c', hv, rfl⟩ | ⟨b, off, c', hv, hlt, hc, hx⟩
  · simp at hi
  · injection hv with h1 h2 h3
    injection h1 with h1
    injection h1 with h1 h4
    subst h1 h4 h2 h3
    have hg : g < w.heap.size := by
      have := hx i hi
      rw [Nat.zero_add] at this
      rcases Nat.lt_or_ge g w.heap.size with hlt | hge
      · exact hlt
      · simp [World.cell?, Array.getElem?_eq_none hge] at this
    refine .inr ⟨g, 0, c, by rw [List.length_set], by simpa [World.setCell] using hg, by rw [List.length_set]; exact hc, fun j hj => ?_⟩
    rw [List.length_set] at hj
    rw [Nat.zero_add]
    have hxi := hx i hi
    have hxj := hx j hj
    rw [Nat.zero_add] at hxi hxj
    by_cases he : j = i
    · subst he
      rw [List.getElem?_set_self hi]
      exact World.cell?_setCell_same w _ _ hxi
    · rw [List.getElem?_set_ne (Ne.symm he)]
      exact (World.cell?_setCell_other w ⟨g, i, none⟩ ⟨g, j, none⟩ _ (by simp [he])).trans hxj
theorem chk_len {f : Nat → Int} {xs : List Int} {n : Int} (h : (xs.length : Int) ≠ n) : chkE f xs n = 1 := by
  unfold chkE
  rw [if_pos (.inr (.inr (.inr (.inr (.inr (.inr (.inl h)))))))]
/-- What may be, with one thing of it out of its place. -/
theorem chk_at {f g : Nat → Int} {xs : List Int} {n : Int} (h : chkE f xs n = 0) : 
    (∃ k : Nat, f 0 = (k : Int) ∧ k < xs.length ∧ xs[k]?.getD 0 = f 1 - 1) ∧ n = (xs.length : Int) ∧ ¬ AnyNeg xs ∧ 1 ≤ f 1 ∧ 1 ≤ f 2 ∧ 0 ≤ f 4 ∧ 0 ≤ f 8 ∧ 1 ≤ f 6 ∧ f 6 ≤ 5 ∧ 0 ≤ f 3 ∧ 0 ≤ f 5 ∧ f 3 < 8 ∧ f 5 < 8 := by
  rcases chkE_cases f xs n with ⟨_, h1⟩ | ⟨hn, ha, h1, h2, h3, h4, k, hk, hkl, h5⟩
  · rw [h] at h1; omega
  · rcases h5 with ⟨_, h6⟩ | ⟨h6, ⟨_, h7⟩ | ⟨h7, h8, ⟨_, h9⟩ | ⟨h9, h10, h11, h12, _⟩⟩⟩
    · rw [h] at h6; omega
    · rw [h] at h7; omega
    · rw [h] at h9; omega
    · exact ⟨⟨k, hk, hkl, h6⟩, hn, ha, h1, h2, h3, h4, h7, h8, h9, h10, h11, h12⟩
theorem notArg {f : Nat → Int} {xs : List Int} {n : Int} {k : Nat} (hk : f 0 = (k : Int)) (hkl : k < xs.length) (hn : n = (xs.length : Int)) (ha : ¬ AnyNeg xs) (h1 : 1 ≤ f 1) (h2 : 1 ≤ f 2) (h3 : 0 ≤ f 4) (h4 : 0 ≤ f 8) :
    ¬ (f 0 < 0 ∨ n ≤ f 0 ∨ f 1 < 1 ∨ f 2 < 1 ∨ f 4 < 0 ∨ f 8 < 0 ∨ (xs.length : Int) ≠ n ∨ AnyNeg xs) := by
  intro h
  rcases h with h | h | h | h | h | h | h | h
  · omega
  · omega
  · omega
  · omega
  · omega
  · omega
  · exact h hn.symm
  · exact ha h
def putF (f : Nat → Int) (i : Nat) (v : Int) : Nat → Int := fun j => if j = i then v else f j
theorem chk_op {f : Nat → Int} {xs : List Int} {n : Int} (h : chkE f xs n = 0) : chkE (putF f 6 6) xs n = 2 := by
  obtain ⟨⟨k, hk, hkl, hs⟩, hn, ha, h1, h2, h3, h4, _⟩ := chk_at (g := f) h
  unfold chkE
  rw [if_neg (notArg (f := putF f 6 6) (k := k) hk hkl hn ha h1 h2 h3 h4), if_neg (by
    show ¬ (xs[(f 0).toNat]?.getD 0 ≠ f 1 - 1)
    rw [hk, Int.toNat_natCast]; exact fun hh => hh hs), if_pos (.inr (by show (5 : Int) < 6; decide))]
theorem chk_type {f : Nat → Int} {xs : List Int} {n : Int} (h : chkE f xs n = 0) : chkE (putF f 3 8) xs n = 8 := by
  obtain ⟨⟨k, hk, hkl, hs⟩, hn, ha, h1, h2, h3, h4, h5, h6, _⟩ := chk_at (g := f) h
  unfold chkE
  rw [if_neg (notArg (f := putF f 3 8) (k := k) hk hkl hn ha h1 h2 h3 h4), if_neg (by
    show ¬ (xs[(f 0).toNat]?.getD 0 ≠ f 1 - 1)
    rw [hk, Int.toNat_natCast]; exact fun hh => hh hs), if_neg (by show ¬ (f 6 < 1 ∨ 5 < f 6); omega), if_pos (.inr (.inr (.inl (by show (8 : Int) ≤ 8; decide))))]
theorem chk_field {f : Nat → Int} {xs : List Int} {n : Int} (h : chkE f xs n = 0) : chkE (putF f 5 (-1)) xs n = 8 := by
  obtain ⟨⟨k, hk, hkl, hs⟩, hn, ha, h1, h2, h3, h4, h5, h6, _⟩ := chk_at (g := f) h
  unfold chkE
  rw [if_neg (notArg (f := putF f 5 (-1)) (k := k) hk hkl hn ha h1 h2 h3 h4), if_neg (by
    show ¬ (xs[(f 0).toNat]?.getD 0 ≠ f 1 - 1)
    rw [hk, Int.toNat_natCast]; exact fun hh => hh hs), if_neg (by show ¬ (f 6 < 1 ∨ 5 < f 6); omega), if_pos (.inr (.inl (by show (-1 : Int) < 0; decide)))]
theorem chk_lam {f : Nat → Int} {xs : List Int} {n : Int} : chkE (putF f 2 0) xs n = 1 := by
  unfold chkE
  rw [if_pos (.inr (.inr (.inr (.inl (by show (0 : Int) < 1; decide)))))]
theorem chk_dep {f : Nat → Int} {xs : List Int} {n : Int} {k : Nat} (hk : f 0 = (k : Int)) (h : chkE f xs n = 0) : chkE f (xs.set k (f 1)) n = 9 := by
  obtain ⟨⟨k', hk', hkl, hs⟩, hn, ha, h1, h2, h3, h4, _⟩ := chk_at (g := f) h
  have : k' = k := by omega
  subst this
  unfold chkE
  rw [if_neg (notArg (f := f) (k := k') hk (by simpa using hkl) (by simpa using hn) ?_ h1 h2 h3 h4), if_pos ?_]
  · rw [hk, Int.toNat_natCast, List.getElem?_set_self hkl]
    show f 1 ≠ f 1 - 1
    omega
  · rintro ⟨x, hx, hx0⟩
    rcases List.mem_or_eq_of_mem_set hx with hx | rfl
    · exact ha ⟨x, hx, hx0⟩
    · omega
theorem chk_neg {f : Nat → Int} {xs : List Int} {n : Int} {m : Nat} (hm : m < xs.length) : chkE f (xs.set m (-1)) n = 1 := by
  unfold chkE
  rw [if_pos (.inr (.inr (.inr (.inr (.inr (.inr (.inr ⟨-1, List.mem_set hm (-1), by decide⟩)))))))]

set_option maxRecDepth 100000 in
set_option maxHeartbeats 16000000 in
theorem eventMay_any (f : Nat → Int) (dv : Value) (ds : List Int) (kk : Int) (w : World) (hd : Sl .i64 w w.heap.size dv ds) (h64 : Ev64 f ds) (h0 : -9223372036854775808 ≤ kk) (h1 : kk ≤ 9223372036854775807) :
    Calls Try.prog 9 #[evV f dv, .int .i64 kk] w fun e w' => e = .returned (.bool true) ∧ Below w.heap.size w w' := by
  obtain ⟨A0, c0, rfl⟩ := hd.shape
  have hb1 : Below w.heap.size w (w.alloc (.cells (cells10 f (.slice A0 ds.length c0)) 39)) := Bel.grew (Below.refl _ _) _
  have HC1 := Lib.hid (Has.new w (cells10 f (.slice A0 ds.length c0)) 39)
  have HB1 := Lib.hid hb1
  have HD1 := Lib.hid (hd.later hb1)
  have H64 := Lib.hid h64
  have HKK := Lib.hid (And.intro h0 h1)
  clear hb1 hd h64 h0 h1
  by_cases hbig : 64 < (ds.length : Int)
  · go_enter Try.func9, Try.ntmps9
    go_wp2_with fail
    refine (known05_any _).mono ?_
    rintro e w1 ⟨rfl, hb⟩
    have HB := Lib.hid (Bel.then HB1.out hb)
    clear hb
    go_wp2_with fail
    go_ret
    exact ⟨rfl, HB.out⟩
  · have hl : ¬ (ds.length : Int) > 64 := by omega
    obtain ⟨d, hd⟩ : ∃ d, chkE f ds (ds.length : Int) = d := ⟨_, rfl⟩
    have HF1 := Lib.hid (H64.out.1 1 (by decide)).2
    by_cases hd0 : d = 0
    · subst hd0
      have HD0 := Lib.hid hd
      obtain ⟨⟨k, hk, hkl, _⟩, _⟩ := chk_at (g := f) hd
      have HKF := Lib.hid (And.intro hk hkl)
      clear hd hk hkl hbig
      have hwp : IntKind.i64.wrap ((ds.length : Int) + 1) = (ds.length : Int) + 1 := IntWalk.i64_in _ (by omega)
      have hwm : IntKind.i64.wrap ((ds.length : Int) - 1) = (ds.length : Int) - 1 := IntWalk.i64_in _ (by omega)
      have hc1 := HC1.out.2
      have hlt1 := HC1.out.1
      go_enter Try.func9, Try.ntmps9
      go_wp2_with fail
      refine (eCheck_any f _ ds _ _ HD1.out (by omega) HF1.out 0 HD0.out).mono ?_
      rintro e w2 ⟨rfl, hb⟩
      have HC2 := Lib.hid (HC1.out.later hb)
      have HB2 := Lib.hid (Bel.then HB1.out hb)
      have HD2 := Lib.hid (HD1.out.later hb)
      clear hb HC1 HB1 HD1 hc1 hlt1
      have hc2 := HC2.out.2
      have hlt2 := HC2.out.1
      go_wp2_with fail
      refine (eCheck_any f _ ds _ _ HD2.out (by omega) HF1.out 1 (chk_len (by omega))).mono ?_
      rintro e w3 ⟨rfl, hb⟩
      have HC3 := Lib.hid (HC2.out.later hb)
      have HB3 := Lib.hid (Bel.then HB2.out hb)
      have HD3 := Lib.hid (HD2.out.later hb)
      clear hb HC2 HB2 HD2 hc2 hlt2
      have hc3 := HC3.out.2
      have hlt3 := HC3.out.1
      go_wp2_with fail
      refine (eCheck_any f _ ds _ _ HD3.out (by omega) HF1.out 1 (chk_len (by omega))).mono ?_
      rintro e w4 ⟨rfl, hb⟩
      have HC4 := Lib.hid (HC3.out.later hb)
      have HB4 := Lib.hid (Bel.then HB3.out hb)
      have HD4 := Lib.hid (HD3.out.later hb)
      clear hb HC3 HB3 HD3 hc3 hlt3 hwp hwm
      have hc4 := HC4.out.2
      have hlt4 := HC4.out.1
      have hlt4b : w.heap.size < w4.heap.size + 1 := by omega
      have hlt4c : w.heap.size < w4.heap.size + 1 + 1 := by omega
      have hlt4d : w.heap.size < w4.heap.size + 1 + 1 + 1 := by omega
      go_wp2_with fail
      obtain ⟨W5, hW5⟩ : ∃ W5, W5 = (((w4.alloc (.cells #[.int .i64 (f 0), .int .i64 (f 1), .int .i64 (f 2), .slice A0 ds.length c0, .int .i64 (f 3), .int .i64 (f 4), .int .i64 (f 5), .int .i64 6, .int .i64 (f 7), .int .i64 (f 8)] 39)).alloc (.cells #[.int .i64 (f 0), .int .i64 (f 1), .int .i64 (f 2), .slice A0 ds.length c0, .int .i64 8, .int .i64 (f 4), .int .i64 (f 5), .int .i64 (f 6), .int .i64 (f 7), .int .i64 (f 8)] 39)).alloc (.cells #[.int .i64 (f 0), .int .i64 (f 1), .int .i64 (f 2), .slice A0 ds.length c0, .int .i64 (f 3), .int .i64 (f 4), .int .i64 (-1), .int .i64 (f 6), .int .i64 (f 7), .int .i64 (f 8)] 39)).alloc (.cells #[.int .i64 (f 0), .int .i64 (f 1), .int .i64 0, .slice A0 ds.length c0, .int .i64 (f 3), .int .i64 (f 4), .int .i64 (f 5), .int .i64 (f 6), .int .i64 (f 7), .int .i64 (f 8)] 39) := ⟨_, rfl⟩
      rw [← hW5]
      have hg : Below w4.heap.size w4 W5 := by rw [hW5]; exact Bel.grew (Bel.grew (Bel.grew (Bel.grew (Below.refl _ _) _) _) _) _
      have HA := Lib.hid (show Has W5 w4.heap.size #[.int .i64 (f 0), .int .i64 (f 1), .int .i64 (f 2), .slice A0 ds.length c0, .int .i64 (f 3), .int .i64 (f 4), .int .i64 (f 5), .int .i64 6, .int .i64 (f 7), .int .i64 (f 8)] by rw [hW5]; exact (((Has.new w4 _ _).grow _).grow _).grow _)
      have HBk := Lib.hid (show Has W5 (w4.heap.size + 1) #[.int .i64 (f 0), .int .i64 (f 1), .int .i64 (f 2), .slice A0 ds.length c0, .int .i64 8, .int .i64 (f 4), .int .i64 (f 5), .int .i64 (f 6), .int .i64 (f 7), .int .i64 (f 8)] by rw [hW5]; exact ((Has.new1 _ _ _ (by simp)).grow _).grow _)
      have HCk := Lib.hid (show Has W5 (w4.heap.size + 1 + 1) #[.int .i64 (f 0), .int .i64 (f 1), .int .i64 (f 2), .slice A0 ds.length c0, .int .i64 (f 3), .int .i64 (f 4), .int .i64 (-1), .int .i64 (f 6), .int .i64 (f 7), .int .i64 (f 8)] by rw [hW5]; exact (Has.new1 _ _ _ (by simp)).grow _)
      have HDk := Lib.hid (show Has W5 (w4.heap.size + 1 + 1 + 1) #[.int .i64 (f 0), .int .i64 (f 1), .int .i64 0, .slice A0 ds.length c0, .int .i64 (f 3), .int .i64 (f 4), .int .i64 (f 5), .int .i64 (f 6), .int .i64 (f 7), .int .i64 (f 8)] by rw [hW5]; exact Has.new1 _ _ _ (by simp))
      have HC5 := Lib.hid (HC4.out.later hg)
      have HD5v := Lib.hid (HD4.out.later hg)
      have HB5 := Lib.hid (Bel.then HB4.out hg)
      have HD5 := Lib.hid (HD4.out.later hg)
      clear hg hW5 HC4 HB4 HD4 hc4 hlt4 hlt4b hlt4c hlt4d
      refine (copyEvent_any f _ ds _ HD5.out (by omega)).mono ?_
      rintro e w6 ⟨du, rfl, hown, hb⟩
      have hown' : OwnK .i64 3 w6 W5.heap.size du ds := hown
      rcases hown'.shape with ⟨_, h0⟩ | ⟨g, c1, rfl, hgl, hgu, hgc⟩
      · have := HKF.out.2
        rw [h0] at this
        exact absurd this (Nat.not_lt_zero _)
      have hcx : w6.cell? ⟨g, k, none⟩ = some (.int .i64 (ds[k]?.getD 0)) := by
        obtain ⟨b, off, hA, _, _, hc⟩ := hown'.sl.elem HKF.out.2
        injection hA with hA
        injection hA with h1 h2
        subst h1 h2
        rw [Nat.zero_add] at hc
        exact hc
      have hfx : w6.frozen? ⟨g, k, none⟩ = false := World.ownsRow.frozenAt hown'.row k
      obtain ⟨ov, hov⟩ : ∃ ov, ov = ds[k]?.getD 0 := ⟨_, rfl⟩
      rw [← hov] at hcx
      have HO6 := Lib.hid hown'.sl
      have HB56 := Lib.hid hb
      have hc6 := (HC5.out.later hb).2
      have hlt6 := (HC5.out.later hb).1
      have hk0 : 0 ≤ f 0 := by have := HKF.out.1; omega
      have hk1 : f 0 < (ds.length : Int) := by have := HKF.out.1; have := HKF.out.2; omega
      have hkt : (f 0).toNat = k := by have := HKF.out.1; omega
      have hgne : g ≠ w6.heap.size := by omega
      have hgne' : w6.heap.size ≠ g := by omega
      have hgn0 : g ≠ w.heap.size := by have := HC5.out.1; omega
      have hgn0' : w.heap.size ≠ g := by omega
      clear hov hown hown' hb
      go_wp2_with fail
      obtain ⟨W7, hW7⟩ : ∃ W7, W7 = (w6.setCell ⟨g, k, none⟩ (.int .i64 (f 1))).alloc (.cells #[.int .i64 (f 0), .int .i64 (f 1), .int .i64 (f 2), .slice (some ⟨g, 0, none⟩) ds.length c1, .int .i64 (f 3), .int .i64 (f 4), .int .i64 (f 5), .int .i64 (f 6), .int .i64 (f 7), .int .i64 (f 8)] 39) := ⟨_, rfl⟩
      rw [← hW7]
      have HB57 : Hid (Below W5.heap.size W5 W7) := by rw [hW7]; exact Lib.hid ((HB56.out.setCell hgl _).alloc (by simpa [World.setCell] using HB56.out.size) _)
      have HF7 := Lib.hid (show Has W7 w6.heap.size #[.int .i64 (f 0), .int .i64 (f 1), .int .i64 (f 2), .slice (some ⟨g, 0, none⟩) ds.length c1, .int .i64 (f 3), .int .i64 (f 4), .int .i64 (f 5), .int .i64 (f 6), .int .i64 (f 7), .int .i64 (f 8)] by rw [hW7]; exact Has.new1 _ _ _ (by simp [World.setCell]))
      have HS7 : Hid (Sl .i64 W7 W7.heap.size (.slice (some ⟨g, 0, none⟩) ds.length c1) (ds.set k (f 1))) := by
        have h := (HO6.out.put HKF.out.2 (f 1)).later (w := W7) (by rw [hW7]; exact Bel.grew (Below.refl _ _) _)
        exact Lib.hid h
      have HC7 := Lib.hid (HC5.out.later HB57.out)
      have HD7 := Lib.hid (HD5.out.later HB57.out)
      clear hW7 hcx hfx HO6 HB56 hc6 hlt6 hk0 hk1 hkt hgne hgne' hgn0 hgn0' HC5 HD5
      refine (copyEvent_any f _ ds _ HD7.out (by omega)).mono ?_
      rintro e w8 ⟨du, rfl, hown, hb⟩
      have hown' : OwnK .i64 3 w8 W7.heap.size du ds := hown
      rcases hown'.shape with ⟨_, h0⟩ | ⟨g2, c2, rfl, hg2l, hg2u, hg2c⟩
      · have := HKF.out.2
        rw [h0] at this
        exact absurd this (Nat.not_lt_zero _)
      have HF8 := Lib.hid (HF7.out.later hb)
      have HS8 := Lib.hid (HS7.out.later hb)
      have HB58 : Hid (Below W5.heap.size W5 w8) := Lib.hid (HB57.out.trans (hb.mono HB57.out.size))
      have HB78 := Lib.hid hb
      have HO8 := Lib.hid hown'.sl
      have HC8 := Lib.hid (HC7.out.later hb)
      obtain ⟨W9, hW9⟩ : ∃ W9, W9 = w8.alloc (.cells #[.int .i64 (f 0), .int .i64 (f 1), .int .i64 (f 2), .slice (some ⟨g2, 0, none⟩) ds.length c2, .int .i64 (f 3), .int .i64 (f 4), .int .i64 (f 5), .int .i64 (f 6), .int .i64 (f 7), .int .i64 (f 8)] 39) := ⟨_, rfl⟩
      have hgr : Below w8.heap.size w8 W9 := by rw [hW9]; exact Bel.grew (Below.refl _ _) _
      have HG9 := Lib.hid (show Has W9 w8.heap.size #[.int .i64 (f 0), .int .i64 (f 1), .int .i64 (f 2), .slice (some ⟨g2, 0, none⟩) ds.length c2, .int .i64 (f 3), .int .i64 (f 4), .int .i64 (f 5), .int .i64 (f 6), .int .i64 (f 7), .int .i64 (f 8)] by rw [hW9]; exact Has.new _ _ _)
      have HO9 := Lib.hid (HO8.out.later hgr)
      have HF9 := Lib.hid (HF8.out.later hgr)
      have HS9 := Lib.hid (HS8.out.later hgr)
      have HB59 : Hid (Below W5.heap.size W5 W9) := Lib.hid (HB58.out.trans (hgr.mono HB58.out.size))
      have HB79 : Hid (Below W7.heap.size W7 W9) := Lib.hid (HB78.out.trans (hgr.mono HB78.out.size))
      have hfz : ∀ m, W9.frozen? ⟨g2, m, none⟩ = false := fun m => ((hgr.frozen (p := ⟨g2, m, none⟩) hg2u)).trans (World.ownsRow.frozenAt hown'.row m)
      have HCL : Hid (∀ m, m < ds.length → ∃ ov, W9.cell? ⟨g2, m, none⟩ = some ov) := Lib.hid fun m hm => by
        obtain ⟨b, off, hA, _, _, hc⟩ := HO9.out.elem hm
        injection hA with hA
        injection hA with h1 h2
        subst h1 h2
        rw [Nat.zero_add] at hc
        exact ⟨_, hc⟩
      have HFZ := Lib.hid hfz
      have hc11 : W9.cell? ⟨w8.heap.size, 3, none⟩ = some (.slice (some ⟨g2, 0, none⟩) ds.length c2) := by exact HG9.out.2 3
      have hg2n : g2 ≠ w8.heap.size := by omega
      have hg2n' : w8.heap.size ≠ g2 := by omega
      have HW9 := Lib.hid hW9
      have HS57 := Lib.hid HB57.out.size
      have HGL := Lib.hid (And.intro hgl (And.intro hgu (And.intro hg2l hg2u)))
      clear hfz hW9 hgr hown hown' hb HC7 HD7 HF8 HS8 HB58 HB78 HO8 HC8 HB57 HF9 HS9
      go_wp2_with fail
      rw [← HW9.out]
      go_region_law (first | (go_simp; go_at_call 19; refine (pick_any kk (ds.length : Int) _ HKK.out.1 HKK.out.2 (by have := HKF.out.2; omega) (by omega)).mono ?_; rintro e wP ⟨m, rfl, hm0, hm1, rfl⟩; obtain ⟨m, rfl⟩ := Int.eq_ofNat_of_zero_le hm0; have hml : m < ds.length := Int.ofNat_lt.mp hm1; obtain ⟨ov2, hov2⟩ := HCL.out m hml; have hfz2 := HFZ.out m))
      all_goals
        obtain ⟨W, hW⟩ : ∃ W, W = (W9.setCell ⟨g2, m, none⟩ (.int .i64 (-1))).drew := ⟨_, rfl⟩
        try rw [← hW]
        have HB5W : Hid (Below W5.heap.size W5 W) := by rw [hW]; have := HGL.out; have := HS57.out; exact Lib.hid (Below.drew (HB59.out.setCell (by show W5.heap.size ≤ g2; omega) _))
        have HB7W : Hid (Below W7.heap.size W7 W) := by rw [hW]; exact Lib.hid (Below.drew (HB79.out.setCell HGL.out.2.2.1 _))
        have HGW := Lib.hid (show Has W w8.heap.size #[.int .i64 (f 0), .int .i64 (f 1), .int .i64 (f 2), .slice (some ⟨g2, 0, none⟩) ds.length c2, .int .i64 (f 3), .int .i64 (f 4), .int .i64 (f 5), .int .i64 (f 6), .int .i64 (f 7), .int .i64 (f 8)] by rw [hW]; exact ⟨by simpa [World.setCell] using HG9.out.1, fun o => (World.cell?_setCell_other W9 ⟨g2, m, none⟩ ⟨w8.heap.size, o, none⟩ _ (by simp [hg2n'])).trans (HG9.out.2 o)⟩)
        have HPW : Hid (Sl .i64 W W.heap.size (.slice (some ⟨g2, 0, none⟩) ds.length c2) (ds.set m (-1))) := by rw [hW]; exact Lib.hid (HO9.out.put hml (-1))
        have HAW := Lib.hid (HA.out.later HB5W.out)
        have HBW := Lib.hid (HBk.out.later HB5W.out)
        have HCW := Lib.hid (HCk.out.later HB5W.out)
        have HDW := Lib.hid (HDk.out.later HB5W.out)
        have HVW := Lib.hid (HD5v.out.later HB5W.out)
        have HFW := Lib.hid (HF7.out.later HB7W.out)
        have HSW := Lib.hid (HS7.out.later HB7W.out)
        have HWB := Lib.hid (Bel.then HB5.out HB5W.out)
        have HBc : Hid (Below W.heap.size W W) := Lib.hid (Below.refl _ _)
        have HML := Lib.hid hml
        clear hW HA HBk HCk HDk HD5v HF7 HS7 HB5 HB5W HB7W HG9 HO9 HB59 HB79 hc11 hg2n hg2n' HCL HFZ HGL hml hov2 hfz2
        have hca := HAW.out.2
        have hla := HAW.out.1
        go_wp2_with fail
        refine (eCheck_any (putF f 6 6) _ ds _ _ (HVW.out.later HBc.out) (by omega) HF1.out 2 (chk_op HD0.out)).mono ?_
        rintro e x0 ⟨rfl, hb⟩
        have HBc := Lib.hid (Bel.then HBc.out hb)
        clear hb hca hla
        have hca := (HBW.out.later HBc.out).2
        have hla := (HBW.out.later HBc.out).1
        go_wp2_with fail
        refine (eCheck_any (putF f 3 8) _ ds _ _ (HVW.out.later HBc.out) (by omega) HF1.out 8 (chk_type HD0.out)).mono ?_
        rintro e x1 ⟨rfl, hb⟩
        have HBc := Lib.hid (Bel.then HBc.out hb)
        clear hb hca hla
        have hca := (HCW.out.later HBc.out).2
        have hla := (HCW.out.later HBc.out).1
        go_wp2_with fail
        refine (eCheck_any (putF f 5 (-1)) _ ds _ _ (HVW.out.later HBc.out) (by omega) HF1.out 8 (chk_field HD0.out)).mono ?_
        rintro e x2 ⟨rfl, hb⟩
        have HBc := Lib.hid (Bel.then HBc.out hb)
        clear hb hca hla
        have hca := (HDW.out.later HBc.out).2
        have hla := (HDW.out.later HBc.out).1
        go_wp2_with fail
        refine (eCheck_any (putF f 2 0) _ ds _ _ (HVW.out.later HBc.out) (by omega) HF1.out 1 chk_lam).mono ?_
        rintro e x3 ⟨rfl, hb⟩
        have HBc := Lib.hid (Bel.then HBc.out hb)
        clear hb hca hla
        have hca := (HFW.out.later HBc.out).2
        have hla := (HFW.out.later HBc.out).1
        go_wp2_with fail
        refine (eCheck_any f _ (ds.set k (f 1)) _ _ (HSW.out.later HBc.out) (by rw [List.length_set]; omega) HF1.out 9 (chk_dep HKF.out.1 HD0.out)).mono ?_
        rintro e x4 ⟨rfl, hb⟩
        have HBc := Lib.hid (Bel.then HBc.out hb)
        clear hb hca hla
        have hca := (HGW.out.later HBc.out).2
        have hla := (HGW.out.later HBc.out).1
        go_wp2_with fail
        refine (eCheck_any f _ (ds.set m (-1)) _ _ (HPW.out.later HBc.out) (by rw [List.length_set]; omega) HF1.out 1 (chk_neg HML.out)).mono ?_
        rintro e x5 ⟨rfl, hb⟩
        have HBc := Lib.hid (Bel.then HBc.out hb)
        clear hb hca hla
        go_wp2_with fail
        refine (known05_any _).mono ?_
        rintro e x7 ⟨rfl, hb⟩
        have HBc := Lib.hid (Bel.then HBc.out hb)
        clear hb
        go_wp2_with fail
        go_ret
        exact ⟨rfl, Bel.then HWB.out HBc.out⟩
    · have hne : (d != 0) = true := by simp [hd0]
      have hc1 := HC1.out.2
      have hlt1 := HC1.out.1
      go_enter Try.func9, Try.ntmps9
      go_wp2_with fail
      refine (eCheck_any f _ ds _ _ HD1.out (by omega) HF1.out d hd).mono ?_
      rintro e w2 ⟨rfl, hb⟩
      have HB2 := Lib.hid (Bel.then HB1.out hb)
      clear hb HC1 HB1 HD1 hc1 hlt1
      go_wp2_with fail
      refine (known05_any _).mono ?_
      rintro e w1 ⟨rfl, hb⟩
      have HB := Lib.hid (Bel.then HB2.out hb)
      clear hb
      go_wp2_with fail
      go_ret
      exact ⟨rfl, HB.out⟩
end Go.Proofs.Ytjjccjannandlaa
