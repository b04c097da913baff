/- The walk of ConflictBoth: it returns true. -/
import Derived.Test.YtbfnlaemlflmpaaConf5
set_option linter.unusedVariables false
set_option linter.unusedSimpArgs false
namespace Go.Proofs.Ytbfnlaemlflmpaa
open Go.RowKit Go.BigFrame

theorem against_is {k p : Int} {fl : Bool} {mv : Value} {oa aa ob ab : Int} {b : Bool} (h : agn k oa aa ob ab = b) (w : World) :
    Calls Try.prog 14 #[fdV k p fl mv, .int .i64 oa, .int .i64 aa, .int .i64 ob, .int .i64 ab] w
      fun e w' => e = .returned (.bool b) ∧ Below w.heap.size w w' := h ▸ against_any k p fl mv oa aa ob ab w

theorem agn_swap (k oa aa ob ab : Int) : agn k ob ab oa aa = agn k oa aa ob ab := by rw [Bool.eq_iff_iff]; simp [agn]; omega
theorem agn_self (k oa aa : Int) : agn k oa aa oa aa = false := by rw [Bool.eq_false_iff]; simp [agn]; omega
theorem agn_ways {k oa aa ob ab : Int} (h : agn k oa aa ob ab = true) :
    (k = 2 ∧ oa = 2 ∧ ob = 2 ∧ (aa == ab) = false) ∨ (k = 4 ∧ oa = 5 ∧ ob = 5 ∧ (aa == ab) = false) ∨ (k = 3 ∧ aa = ab ∧ oa = 3 ∧ ob = 4) ∨ (k = 3 ∧ aa = ab ∧ oa = 4 ∧ ob = 3) := by
  rw [beq_eq_false_iff_ne]
  simp [agn] at h
  omega

set_option maxHeartbeats 400000 in
/-- With what Against answers at hand. -/
theorem conflictBoth_of (b : Bool) (k p : Int) (fl : Bool) (mv : Value) (oa aa ob ab q : Int) (w : World) (h1 : agn k oa aa ob ab = b)
    (h : b = true → (k = 2 ∧ oa = 2 ∧ ob = 2 ∧ (aa == ab) = false) ∨ (k = 4 ∧ oa = 5 ∧ ob = 5 ∧ (aa == ab) = false) ∨ (k = 3 ∧ aa = ab ∧ oa = 3 ∧ ob = 4) ∨ (k = 3 ∧ aa = ab ∧ oa = 4 ∧ ob = 3)) :
    Calls Try.prog 4 #[fdV k p fl mv, .int .i64 oa, .int .i64 aa, .int .i64 ob, .int .i64 ab, .int .i64 q] w
      fun r w' => r = .returned (.bool true) ∧ Below w.heap.size w w' := by
  have H1 := Lib.hid h1
  have H2 := Lib.hid ((agn_swap k oa aa ob ab).trans h1)
  have H3 := Lib.hid (agn_self k oa aa)
  clear h1
  cases b
  · clear h
    go_enter Try.func4, Try.ntmps4
    go_wp2_with fail
    refine (against_is H1.out _).mono ?_
    rintro r w1 ⟨rfl, hb1⟩
    obtain ⟨hc1, hf1, z1⟩ := Bel.cells hb1
    go_wp2_with fail
    refine (against_is H2.out _).mono ?_
    rintro r w2 ⟨rfl, hb2⟩
    obtain ⟨hc2, hf2, z2⟩ := Bel.cells (Bel.then hb1 hb2)
    go_wp2_with fail
    refine (against_is H3.out _).mono ?_
    rintro r w3 ⟨rfl, hb3⟩
    obtain ⟨hc3, hf3, z3⟩ := Bel.cells (Bel.then (Bel.then hb1 hb2) hb3)
    go_wp2_with fail
    refine (against_is H1.out _).mono ?_
    rintro r w4 ⟨rfl, hb4⟩
    go_wp2_with fail
    refine (works12_any _).mono ?_
    rintro r w5 ⟨rfl, hb5⟩
    go_wp2_with fail
    go_ret
    exact ⟨rfl, Bel.then (Bel.then (Bel.then (Bel.then (Bel.then (Bel.grew (Below.refl _ _) _) hb1) hb2) hb3) hb4) hb5⟩
  · rcases h rfl with ⟨rfl, rfl, rfl, h4⟩ | ⟨rfl, rfl, rfl, h4⟩ | ⟨rfl, rfl, rfl, rfl⟩ | ⟨rfl, rfl, rfl, rfl⟩
    all_goals
      clear h
      go_enter Try.func4, Try.ntmps4
      go_wp2_with fail
      refine (against_is H1.out _).mono ?_
      rintro r w1 ⟨rfl, hb1⟩
      obtain ⟨hc1, hf1, z1⟩ := Bel.cells hb1
      go_wp2_with fail
      refine (against_is H2.out _).mono ?_
      rintro r w2 ⟨rfl, hb2⟩
      obtain ⟨hc2, hf2, z2⟩ := Bel.cells (Bel.then hb1 hb2)
      go_wp2_with fail
      refine (against_is H3.out _).mono ?_
      rintro r w3 ⟨rfl, hb3⟩
      obtain ⟨hc3, hf3, z3⟩ := Bel.cells (Bel.then (Bel.then hb1 hb2) hb3)
      go_wp2_with fail
      refine (against_is H1.out _).mono ?_
      rintro r w4 ⟨rfl, hb4⟩
      go_wp2_with fail
      refine (works12_any _).mono ?_
      rintro r w5 ⟨rfl, hb5⟩
      go_wp2_with fail
      go_ret
      exact ⟨rfl, Bel.then (Bel.then (Bel.then (Bel.then (Bel.then (Bel.grew (Below.refl _ _) _) hb1) hb2) hb3) hb4) hb5⟩

theorem conflictBoth_any (k p : Int) (fl : Bool) (mv : Value) (oa aa ob ab q : Int) (w : World) :
    Calls Try.prog 4 #[fdV k p fl mv, .int .i64 oa, .int .i64 aa, .int .i64 ob, .int .i64 ab, .int .i64 q] w
      fun r w' => r = .returned (.bool true) ∧ Below w.heap.size w w' :=
  conflictBoth_of _ k p fl mv oa aa ob ab q w rfl agn_ways
end Go.Proofs.Ytbfnlaemlflmpaa
