/- The walk of works (chapter 12). -/
import Derived.Test.YtbfnlaemlflmpaaConf4
set_option linter.unusedVariables false
set_option linter.unusedSimpArgs false
namespace Go.Proofs.Ytbfnlaemlflmpaa
open Go.RowKit Go.BigFrame

set_option maxHeartbeats 400000 in
theorem works12_any (w : World) :
    Calls Try.prog 13 #[] w fun r w' => r = .returned (.bool true) ∧ Below w.heap.size w w' := by
  go_enter Try.func13, Try.ntmps13
  go_wp2_with (first
    | (go_at_call 19; (with_reducible refine (does_any 0 2 5 _).mono ?_); rintro r w1 ⟨rfl, hb1⟩; obtain ⟨hc1, hf1, z1⟩ := Bel.cells hb1; simp at z1)
    | (go_at_call 19; (with_reducible refine (does_any 1 2 6 _).mono ?_); rintro r w2 ⟨rfl, hb2⟩; obtain ⟨hc2, hf2, z2⟩ := Bel.cells hb2; simp at z2))
  have q0 : w.heap.size < w2.heap.size := by omega
  have q1 : w.heap.size + 1 < w2.heap.size := by omega
  have q2 : w1.heap.size < w2.heap.size := by omega
  have p0 : w.heap.size < w1.heap.size := by omega
  have p1 : w.heap.size + 1 < w1.heap.size := by omega
  have p2 : w.heap.size ≤ w2.heap.size := by omega
  have p3 : w.heap.size + 1 ≤ w2.heap.size := by omega
  have p4 : w1.heap.size ≤ w2.heap.size := by omega
  refine wp_region_later (by kernel_rfl) (by kernel_rfl) ?_
  repeat (any_goals (first
    | go_big_quiet_step (first
      | (go_at_call 16; with_reducible exact Later.callB (voids_any 2 2 false (.slice none 0 0) ⟨0, 1, 1, 0, 0, 0, 2, 5, 0⟩ ⟨1, 1, 1, 0, 0, 0, 2, 6, 0⟩ _ _ 0 [] [] _ Sl.nil_ Sl.nil_ (Nat.zero_le _)) (c := true) (by decide))
      | (go_at_call 16; with_reducible exact Later.callB (voids_any 2 2 false (.slice none 0 0) ⟨0, 1, 1, 0, 0, 0, 2, 5, 0⟩ ⟨1, 1, 1, 0, 0, 0, 2, 5, 0⟩ _ _ 0 [] [] _ Sl.nil_ Sl.nil_ (Nat.zero_le _)) (c := false) (by decide))
      | (go_at_call 16; with_reducible exact Later.callB (voids_any 2 3 false (.slice none 0 0) ⟨0, 1, 1, 0, 0, 0, 2, 5, 0⟩ ⟨1, 1, 1, 0, 0, 0, 2, 6, 0⟩ _ _ 0 [] [] _ Sl.nil_ Sl.nil_ (Nat.zero_le _)) (c := false) (by decide))
      | (go_at_call 16; with_reducible exact Later.callB (voids_any 2 3 false (.slice none 0 0) ⟨1, 1, 1, 0, 0, 0, 2, 6, 0⟩ ⟨0, 1, 1, 0, 0, 0, 2, 5, 0⟩ _ _ 0 [] [] _ Sl.nil_ Sl.nil_ (Nat.zero_le _)) (c := true) (by decide))
      | (go_at_call 19; with_reducible exact Later.call (does_any 1 2 5 _)))))
  refine wpQuiet_nil ?_
  intro x
  obtain ⟨w3, hb3⟩ := x
  go_wp2
  go_ret
  exact ⟨rfl, Bel.then (Bel.grew (Bel.then (Bel.grew (Bel.then (Bel.grew (Bel.grew (Below.refl _ _) _) _) hb1) _) hb2) _) hb3⟩
end Go.Proofs.Ytbfnlaemlflmpaa
