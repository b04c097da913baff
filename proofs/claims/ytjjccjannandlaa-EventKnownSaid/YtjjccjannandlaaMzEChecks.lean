/- EventChecks: the walk. -/
import Derived.Test.YtjjccjannandlaaMzEKnown
set_option maxRecDepth 100000
set_option linter.unusedVariables false
set_option linter.unusedSimpArgs false
namespace Go.Proofs.Ytjjccjannandlaa
open Go.RowKit Go.BigFrame

abbrev cells10 (f : Nat → Int) (dv : Value) : Array Value := #[.int .i64 (f 0), .int .i64 (f 1), .int .i64 (f 2), dv, .int .i64 (f 3), .int .i64 (f 4), .int .i64 (f 5), .int .i64 (f 6), .int .i64 (f 7), .int .i64 (f 8)]

set_option maxRecDepth 100000 in
set_option maxHeartbeats 8000000 in
theorem eventChecks_any (f : Nat → Int) (dv : Value) (xs : List Int) (n : Int) (w : World) (hx : Sl .i64 w w.heap.size dv xs) (h64 : f 1 ≤ 9223372036854775807) :
    Calls Try.prog 6 #[evV f dv, .int .i64 n] w fun e w' => e = .returned (.bool true) ∧ Below w.heap.size w w' := by
  obtain ⟨A, c, rfl⟩ := hx.shape
  have hb1 : Below w.heap.size w (w.alloc (.cells (cells10 f (.slice A xs.length c)) 39)) := Bel.grew (Below.refl _ _) _
  by_cases hbig : 200 < (xs.length : Int)
  · have HB1 := Lib.hid hb1
    clear hb1 hx
    go_enter Try.func6, Try.ntmps6
    go_wp2_with fail
    refine (known05_any _).mono ?_
    rintro e w1 ⟨rfl, hb⟩
    have HB := Lib.hid (Bel.then HB1.out hb)
    clear hb
    go_wp2_with fail
    go_ret
    exact ⟨rfl, HB.out⟩
  · have hl : xs.length ≤ 200 := by omega
    have HC1 := Lib.hid (Has.new w (cells10 f (.slice A xs.length c)) 39)
    have HB1 := Lib.hid hb1
    have HX1 := Lib.hid (hx.later hb1)
    have hlI : ¬ (xs.length : Int) > 200 := by omega
    clear hb1 hx
    have hc1 := HC1.out.2
    have hlt1 := HC1.out.1
    go_enter Try.func6, Try.ntmps6
    go_wp2_with fail
    refine (copyEvent_any f _ xs _ HX1.out (by omega)).mono ?_
    rintro e w2 ⟨du, rfl, hown, hb⟩
    have HO2 := Lib.hid (OwnK.sl (hown : OwnK .i64 3 _ _ _ _))
    obtain ⟨A2, k2, rfl⟩ := HO2.out.shape
    have HB2 := Lib.hid (Bel.then HB1.out hb)
    have HC2 := Lib.hid (HC1.out.later hb)
    have HX2 := Lib.hid (HX1.out.later hb)
    clear hb hown HC1 HB1 HX1 hc1 hlt1
    go_wp2_with fail
    obtain ⟨W, hW⟩ : ∃ W, W = w2.alloc (.cells (cells10 f (.slice A2 xs.length k2)) 39) := ⟨_, rfl⟩
    change Code.wp _ _ _ _ (w2.alloc (.cells (cells10 f (.slice A2 xs.length k2)) 39))
    rw [← hW]
    have hgr : Below w2.heap.size w2 W := by rw [hW]; exact Bel.grew (Below.refl _ _) _
    have hE : Has W w2.heap.size (cells10 f (.slice A2 xs.length k2)) := by rw [hW]; exact Has.new _ _ _
    have hC := HC2.out.later hgr
    have HBW := Lib.hid (Bel.then HB2.out hgr)
    have HXW := Lib.hid (HX2.out.later hgr)
    have HOW := Lib.hid (HO2.out.later hgr)
    obtain ⟨d, hd⟩ : ∃ d, chkE f xs n = d := ⟨_, rfl⟩
    have HCK : Hid (∀ x : Later W, Calls Try.prog 27 #[evV f (.slice A2 xs.length k2), .int .i64 n] x.w fun e w' => e = .returned (.int .i64 d) ∧ Below x.w.heap.size x.w w') := fun x => eCheck_any f _ xs n x.w (HOW.out.later x.h) (by omega) h64 d hd
    have HRK : Hid (∀ x : Later W, Calls Try.prog 28 #[evV f (.slice A xs.length c), .int .i64 n] x.w fun e w' => e = .returned (.int .i64 d) ∧ Below x.w.heap.size x.w w') := fun x => rCheck_any f _ xs n x.w (HXW.out.later x.h) (by omega) h64 d hd
    have HSE : Hid (∀ x : Later W, Calls Try.prog 22 #[evV f (.slice A2 xs.length k2), evV f (.slice A xs.length c)] x.w fun e w' => e = .returned (.bool true) ∧ Below x.w.heap.size x.w w') := fun x => sameEv_eq f _ _ xs x.w (HOW.out.later x.h) (HXW.out.later x.h) (by omega)
    have hlC := hC.1
    have hlE := hE.1
    replace hC := hC.2
    replace hE := hE.2
    clear hW hgr hd HB2 HC2 HX2 HO2
    refine wp_region_later (by kernel_rfl) (by kernel_rfl) ?_
    repeat (any_goals (first | go_big_quiet_step (first | (go_at_call 27; have hC := HCK.out ‹_›; with_reducible exact Later.call hC) | (go_at_call 28; have hC := HRK.out ‹_›; with_reducible exact Later.call hC) | (go_at_call 22; have hC := HSE.out ‹_›; with_reducible exact Later.call hC) | (go_at_call 25; have hC := known05_any (Later.w ‹_›); with_reducible exact Later.call hC))))
    refine wpQuiet_nil ?_
    intro x
    obtain ⟨w5, hb5⟩ := x
    have HB5 := Lib.hid (Bel.then HBW.out hb5)
    dsimp only
    clear hb5
    go_wp2_with fail
    go_ret
    exact ⟨rfl, HB5.out⟩
end Go.Proofs.Ytjjccjannandlaa
