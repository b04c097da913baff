/- Check of an event: the program's and the document's are one. CopyEvent. -/
import Derived.Test.YtjjccjannandlaaMzERef
import Derived.Test.YtjjccjannandlaaMzEChk2
import Derived.Test.YtjjccjannandlaaMzEGetP
set_option maxRecDepth 100000
set_option linter.unusedVariables false
set_option linter.unusedSimpArgs false
namespace Go.Proofs.Ytjjccjannandlaa
open Go.RowKit Go.BigFrame

theorem chkE_cases (f : Nat → Int) (xs : List Int) (n : Int) :
    ((f 0 < 0 ∨ n ≤ f 0 ∨ f 1 < 1 ∨ f 2 < 1 ∨ f 4 < 0 ∨ f 8 < 0 ∨ (xs.length : Int) ≠ n ∨ AnyNeg xs) ∧ chkE f xs n = 1) ∨
    (n = (xs.length : Int) ∧ ¬ AnyNeg xs ∧ 1 ≤ f 1 ∧ 1 ≤ f 2 ∧ 0 ≤ f 4 ∧ 0 ≤ f 8 ∧ ∃ k : Nat, f 0 = (k : Int) ∧ k < xs.length ∧
      ((xs[k]?.getD 0 ≠ f 1 - 1 ∧ chkE f xs n = 9) ∨ (xs[k]?.getD 0 = f 1 - 1 ∧ (((f 6 < 1 ∨ 5 < f 6) ∧ chkE f xs n = 2) ∨ (1 ≤ f 6 ∧ f 6 ≤ 5 ∧ (((f 3 < 0 ∨ f 5 < 0 ∨ 8 ≤ f 3 ∨ 8 ≤ f 5) ∧ chkE f xs n = 8) ∨ (0 ≤ f 3 ∧ 0 ≤ f 5 ∧ f 3 < 8 ∧ f 5 < 8 ∧ chkE f xs n = 0))))))) := by
  unfold chkE
  by_cases h : f 0 < 0 ∨ n ≤ f 0 ∨ f 1 < 1 ∨ f 2 < 1 ∨ f 4 < 0 ∨ f 8 < 0 ∨ (xs.length : Int) ≠ n ∨ AnyNeg xs
  · exact .inl ⟨h, by rw [if_pos h]⟩
  · right
    rw [if_neg h]
    have ha : ¬ AnyNeg xs := fun hh => h (.inr (.inr (.inr (.inr (.inr (.inr (.inr hh)))))))
    have hn : (xs.length : Int) = n := by
      by_cases hn : (xs.length : Int) = n
      · exact hn
      · exact absurd (.inr (.inr (.inr (.inr (.inr (.inr (.inl hn))))))) h
    have h1 : ¬ (f 0 < 0 ∨ n ≤ f 0 ∨ f 1 < 1 ∨ f 2 < 1 ∨ f 4 < 0 ∨ f 8 < 0) := fun hh => h (by
      rcases hh with hh | hh | hh | hh | hh | hh
      · exact .inl hh
      · exact .inr (.inl hh)
      · exact .inr (.inr (.inl hh))
      · exact .inr (.inr (.inr (.inl hh)))
      · exact .inr (.inr (.inr (.inr (.inl hh))))
      · exact .inr (.inr (.inr (.inr (.inr (.inl hh))))))
    clear h
    obtain ⟨k, hk⟩ := Int.eq_ofNat_of_zero_le (show 0 ≤ f 0 by omega)
    refine ⟨hn.symm, ha, by omega, by omega, by omega, by omega, k, hk, by omega, ?_⟩
    rw [hk, Int.toNat_natCast]
    by_cases h2 : xs[k]?.getD 0 = f 1 - 1
    · right
      refine ⟨h2, ?_⟩
      rw [if_neg (fun hh => hh h2)]
      by_cases h3 : f 6 < 1 ∨ 5 < f 6
      · exact .inl ⟨h3, if_pos h3⟩
      · rw [if_neg h3]
        right
        refine ⟨by omega, by omega, ?_⟩
        by_cases h4 : f 3 < 0 ∨ f 5 < 0 ∨ 8 ≤ f 3 ∨ 8 ≤ f 5
        · exact .inl ⟨h4, if_pos h4⟩
        · exact .inr ⟨by omega, by omega, by omega, by omega, if_neg h4⟩
    · exact .inl ⟨h2, if_pos h2⟩

theorem eCheck_any (f : Nat → Int) (dv : Value) (xs : List Int) (n : Int) (w : World) (hx : Sl .i64 w w.heap.size dv xs) (hl : xs.length ≤ 1099511627776) (h64 : f 1 ≤ 9223372036854775807) (d : Int) (hd : chkE f xs n = d) :
    Calls Try.prog 27 #[evV f dv, .int .i64 n] w fun e w' => e = .returned (.int .i64 d) ∧ Below w.heap.size w w' := by
  have h := chkE_cases f xs n
  rw [hd] at h
  rcases h with ⟨h, rfl⟩ | ⟨rfl, h8, h3, h4, h5, h6, k, hk, hkn, h⟩
  · exact eChk_arg f dv xs n w hx hl h
  · refine eChk_rest f dv xs w hx hl k hk hkn h3 h4 h5 h6 h8 h64 d ?_
    rcases h with h | ⟨h, ⟨h2, rfl⟩ | ⟨h2, h2', ⟨h7, rfl⟩ | h7⟩⟩
    · exact .inl h
    · exact .inr ⟨h, by omega⟩
    · exact .inr ⟨h, by omega⟩
    · exact .inr ⟨h, by omega⟩

theorem rCheck_any (f : Nat → Int) (dv : Value) (xs : List Int) (n : Int) (w : World) (hx : Sl .i64 w w.heap.size dv xs) (hl : xs.length ≤ 1099511627776) (h64 : f 1 ≤ 9223372036854775807) (d : Int) (hd : chkE f xs n = d) :
    Calls Try.prog 28 #[evV f dv, .int .i64 n] w fun e w' => e = .returned (.int .i64 d) ∧ Below w.heap.size w w' := by
  have h := chkE_cases f xs n
  rw [hd] at h
  rcases h with ⟨h, rfl⟩ | ⟨rfl, h8, h3, h4, h5, h6, k, hk, hkn, h⟩
  · by_cases hn : (xs.length : Int) = n
    · by_cases h5 : 0 ≤ f 0 ∧ f 0 < n ∧ 1 ≤ f 1 ∧ 1 ≤ f 2 ∧ 0 ≤ f 4 ∧ 0 ≤ f 8
      · have ha : AnyNeg xs := by
          rcases h with h | h | h | h | h | h | h | h
          · omega
          · omega
          · omega
          · omega
          · omega
          · omega
          · exact absurd hn h
          · exact h
        subst hn
        exact rChk_neg f dv xs w hx hl h5.1 h5.2.1 h5.2.2.1 h5.2.2.2.1 h5.2.2.2.2.1 h5.2.2.2.2.2 ha
      · exact rChk_arg f dv xs n w hx hl (by omega)
    · have hne : ((xs.length : Int) != n) = true := by simp [hn]
      by_cases h5 : 0 ≤ f 0 ∧ f 0 < n ∧ 1 ≤ f 1 ∧ 1 ≤ f 2 ∧ 0 ≤ f 4 ∧ 0 ≤ f 8
      · exact rChk_arg f dv xs n w hx hl (.inr (.inr (.inr (.inr (.inr (.inr ⟨h5.1, h5.2.1, h5.2.2.1, h5.2.2.2.1, h5.2.2.2.2.1, h5.2.2.2.2.2, hne⟩))))))
      · exact rChk_arg f dv xs n w hx hl (by omega)
  · refine rChk_rest f dv xs w hx hl k hk hkn h3 h4 h5 h6 h8 h64 d ?_
    rcases h with h | ⟨h, ⟨h2, rfl⟩ | ⟨h2, h2', ⟨h7, rfl⟩ | h7⟩⟩
    · exact .inl h
    · exact .inr ⟨h, by omega⟩
    · exact .inr ⟨h, by omega⟩
    · exact .inr ⟨h, by omega⟩

set_option maxHeartbeats 4000000 in
theorem copyEvent_any (f : Nat → Int) (dv : Value) (xs : List Int) (w : World) (hx : Sl .i64 w w.heap.size dv xs) (hl : xs.length ≤ 1099511627776) :
    Calls Try.prog 26 #[evV f dv] w fun e w' => ∃ du, e = .returned (evV f du) ∧ OwnInts w' w.heap.size du xs ∧ Below w.heap.size w w' := by
  obtain ⟨A, c, rfl⟩ := hx.shape
  obtain ⟨W, hW⟩ : ∃ W, W = (w.alloc (.cells #[.int .i64 (f 0), .int .i64 (f 1), .int .i64 (f 2), .slice A xs.length c, .int .i64 (f 3), .int .i64 (f 4), .int .i64 (f 5), .int .i64 (f 6), .int .i64 (f 7), .int .i64 (f 8)] 39)).alloc (.cells #[.int .i64 0, .int .i64 0, .int .i64 0, .slice none 0 0, .int .i64 0, .int .i64 0, .int .i64 0, .int .i64 0, .int .i64 0, .int .i64 0] 39) := ⟨_, rfl⟩
  have hB : Below w.heap.size w W := by rw [hW]; exact Bel.grew (Bel.grew (Below.refl _ _) _) _
  have hC : Cells10 W w.heap.size (evC f (.slice A xs.length c)) := by
    intro o ho
    rw [hW]
    rcases (show o = 0 ∨ o = 1 ∨ o = 2 ∨ o = 3 ∨ o = 4 ∨ o = 5 ∨ o = 6 ∨ o = 7 ∨ o = 8 ∨ o = 9 from by omega) with rfl | rfl | rfl | rfl | rfl | rfl | rfl | rfl | rfl | rfl
    all_goals simp [go_sem, evC]
  have hR : Cells10 W (w.heap.size + 1) (evC (fun _ => 0) (.slice none 0 0)) := by
    intro o ho
    rw [hW]
    rcases (show o = 0 ∨ o = 1 ∨ o = 2 ∨ o = 3 ∨ o = 4 ∨ o = 5 ∨ o = 6 ∨ o = 7 ∨ o = 8 ∨ o = 9 from by omega) with rfl | rfl | rfl | rfl | rfl | rfl | rfl | rfl | rfl | rfl
    all_goals simp [go_sem, evC]
  have hs : W.heap.size = w.heap.size + 2 := by rw [hW]; simp
  have HX := Lib.hid (hx.later hB)
  have HB := Lib.hid hB
  have HC := Lib.hid hC
  have HR := Lib.hid hR
  have HW := Lib.hid hW
  have HS := Lib.hid hs
  obtain ⟨d3, e3⟩ := hC 3 (by decide)
  dsimp only [evC] at d3
  clear hx hB hC hW hs hR
  go_enter Try.func26, Try.ntmps26
  go_wp2_with fail
  rw [← HW.out]
  refine (copyInts_any xs _ _ _ HX.out (Nat.le_refl _) hl).mono ?_
  rintro e w2 ⟨r, rfl, hown, hb⟩
  have HC2 := Lib.hid (HC.out.below (B := W.heap.size) (by have := HS.out; omega) hb)
  have HR2 := Lib.hid (HR.out.below (B := W.heap.size) (by have := HS.out; omega) hb)
  have HB2 := Lib.hid (Bel.then HB.out hb)
  have HO2 := Lib.hid hown
  obtain ⟨A2, c2, rfl⟩ := hown.sl.shape
  clear hown hb HC HB HW d3 e3 HR
  have HC3 := Lib.hid (HC2.out.set' (k := 3) (g := evC f (.slice A2 xs.length c2)) (x := .slice A2 xs.length c2) (by decide) (fun o ho => evC_deps f _ _ ho))
  have HR3 := Lib.hid (HR2.out.setOther (b := w.heap.size) (k := 3) (by omega) (.slice A2 xs.length c2))
  have HB3 : Hid (Below w.heap.size w (w2.setCell ⟨w.heap.size, 3, none⟩ (.slice A2 xs.length c2))) := HB2.out.setCell (Nat.le_refl _) _
  have HO3 := Lib.hid ((HO2.out : OwnK .i64 3 _ _ _ _).setOther (q := w.heap.size) (fun b hb => by have := own_base HO2.out.row b hb; have := HS.out; omega) 3 (.slice A2 xs.length c2))
  obtain ⟨⟨c0, _⟩, ⟨c1, _⟩, ⟨c2', _⟩, ⟨c3, e3⟩, ⟨c4, _⟩, ⟨c5, _⟩, ⟨c6, _⟩, ⟨c7, _⟩, ⟨c8, _⟩, ⟨c9, _⟩⟩ := And.intro (HC2.out 0 (by decide)) (And.intro (HC2.out 1 (by decide)) (And.intro (HC2.out 2 (by decide)) (And.intro (HC2.out 3 (by decide)) (And.intro (HC2.out 4 (by decide)) (And.intro (HC2.out 5 (by decide)) (And.intro (HC2.out 6 (by decide)) (And.intro (HC2.out 7 (by decide)) (And.intro (HC2.out 8 (by decide)) (HC2.out 9 (by decide))))))))))
  dsimp only [evC] at c0 c1 c2' c3 c4 c5 c6 c7 c8 c9
  obtain ⟨⟨r0, f0⟩, ⟨r1, f1⟩, ⟨r2, f2⟩, ⟨r3, f3⟩, ⟨r4, f4⟩, ⟨r5, f5⟩, ⟨r6, f6⟩, ⟨r7, f7⟩, ⟨r8, f8⟩, ⟨r9, f9⟩⟩ := And.intro (HR2.out 0 (by decide)) (And.intro (HR2.out 1 (by decide)) (And.intro (HR2.out 2 (by decide)) (And.intro (HR2.out 3 (by decide)) (And.intro (HR2.out 4 (by decide)) (And.intro (HR2.out 5 (by decide)) (And.intro (HR2.out 6 (by decide)) (And.intro (HR2.out 7 (by decide)) (And.intro (HR2.out 8 (by decide)) (HR2.out 9 (by decide))))))))))
  dsimp only [evC] at r0 r1 r2 r3 r4 r5 r6 r7 r8 r9
  have HCf := Lib.hid (HR3.out.store (evC f (.slice A2 xs.length c2)))
  have HBf := Lib.hid (Below.store10 (q := w.heap.size + 1) HB3.out (by omega) (evC f (.slice A2 xs.length c2)))
  have HOf := Lib.hid (((HO3.out : OwnK .i64 3 _ _ _ _).store10 (q := w.heap.size + 1) (fun b hb => by have := own_base HO3.out.row b hb; have := HS.out; omega) (evC f (.slice A2 xs.length c2))).down (B' := w.heap.size) (by have := HS.out; omega))
  clear HC3 HR3 HB3 HO3 HX HC2 HB2 HO2 HR2
  go_wp2_with fail
  change bodyPost _ _ _ _ _ (store10 (w2.setCell ⟨w.heap.size, 3, none⟩ (.slice A2 xs.length c2)) (w.heap.size + 1) (evC f (.slice A2 xs.length c2)))
  obtain ⟨wf, hwf⟩ : ∃ wf, wf = store10 (w2.setCell ⟨w.heap.size, 3, none⟩ (.slice A2 xs.length c2)) (w.heap.size + 1) (evC f (.slice A2 xs.length c2)) := ⟨_, rfl⟩
  rw [← hwf] at HCf HBf HOf ⊢
  clear hwf r0 r1 r2 r3 r4 r5 r6 r7 r8 r9 c0 c1 c2' c3 c4 c5 c6 c7 c8 c9
  obtain ⟨c0, c1, c2', c3, c4, c5, c6, c7, c8, c9⟩ := And.intro (HCf.out 0 (by decide)).1 (And.intro (HCf.out 1 (by decide)).1 (And.intro (HCf.out 2 (by decide)).1 (And.intro (HCf.out 3 (by decide)).1 (And.intro (HCf.out 4 (by decide)).1 (And.intro (HCf.out 5 (by decide)).1 (And.intro (HCf.out 6 (by decide)).1 (And.intro (HCf.out 7 (by decide)).1 (And.intro (HCf.out 8 (by decide)).1 (HCf.out 9 (by decide)).1))))))))
  dsimp only [evC] at c0 c1 c2' c3 c4 c5 c6 c7 c8 c9
  have hBf := HBf.out
  have hOf := HOf.out
  simp [bodyPost, results, Try.results26, go_sem, c0, c1, c2', c3, c4, c5, c6, c7, c8, c9, hBf]
  exact hOf
end Go.Proofs.Ytjjccjannandlaa
