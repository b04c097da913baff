/- t -/
import Derived.Test.YtbfnlaemlflmpaaConf3
set_option linter.unusedVariables false
set_option linter.unusedSimpArgs false
namespace Go.Proofs.Ytbfnlaemlflmpaa
open Go.RowKit
set_option maxHeartbeats 400000 in
theorem rvoids_any (k p : Int) (fl : Bool) (mv : Value) (e e' : Ev) (d d' : Value) (B : Nat) (xs xs' : List Int) (w : World) (hs : Sl .i64 w B d xs) (hs' : Sl .i64 w B d' xs') (hB : B ≤ w.heap.size) :
    Calls Try.prog 17 #[fdV k p fl mv, e.val d, e'.val d'] w
      fun r w' => r = .returned (.bool (vd k p e e' xs xs')) ∧ Below w.heap.size w w' := by
  have b0 : ∀ o1 o2 o3, Below B w (((w.alloc o1).alloc o2).alloc o3) := fun o1 o2 o3 => (((Below.refl _ _).alloc hB _).alloc (by simp; omega) _).alloc (by simp; omega) _
  have HS := Lib.hid hs
  have HS' := Lib.hid hs'
  clear hs hs'
  rcases (show p = 2 ∨ p = 3 ∨ ((p == 2) = false ∧ (p == 3) = false) from by rw [beq_eq_false_iff_ne, beq_eq_false_iff_ne]; omega) with rfl | rfl | ⟨hp2, hp3⟩
  all_goals cases hag : agn k e.op e.arg e'.op e'.arg <;> cases hap : apt e e' xs xs'
  all_goals
    go_enter Try.func17, Try.ntmps17
    go_wp2_with (first
      | (go_at_call 35; (with_reducible refine (rapart_any e e' d d' B xs xs' _ (HS.out.below (b0 _ _ _)) (HS'.out.below (b0 _ _ _)) (by simp; omega)).mono ?_); rintro r w1 ⟨rfl, hb1⟩; obtain ⟨hc1, hf1, z1⟩ := Bel.cells hb1; simp at z1)
      | (go_at_call 15; (with_reducible refine (ragainst_any k _ fl mv e.op e.arg e'.op e'.arg _).mono ?_); rintro r w2 ⟨rfl, hb2⟩; obtain ⟨hc2, hf2, z2⟩ := Bel.cells (Bel.then hb1 hb2)))
    all_goals
      go_ret
      refine ⟨?_, ?_⟩
      · simp [vd, *]
      · first | exact Bel.then (Bel.then (Bel.grew (Bel.grew (Bel.grew (Below.refl _ _) _) _) _) hb1) hb2 | exact Bel.then (Bel.grew (Bel.grew (Bel.grew (Below.refl _ _) _) _) _) hb1 | exact Bel.grew (Bel.grew (Bel.grew (Below.refl _ _) _) _) _

set_option maxHeartbeats 400000 in
theorem does_any (o op arg : Int) (w : World) :
    Calls Try.prog 19 #[.int .i64 o, .int .i64 op, .int .i64 arg] w
      fun r w' => r = .returned (Ev.val ⟨o, 1, 1, 0, 0, 0, op, arg, 0⟩ (.slice none 0 0)) ∧ Below w.heap.size w w' := by
  go_enter Try.func19, Try.ntmps19
  go_wp2
  refine bodyPost_ret (v := Ev.val ⟨o, 1, 1, 0, 0, 0, op, arg, 0⟩ (.slice none 0 0)) (by simp [results, Try.results19, go_sem]) rfl ⟨rfl, ?_⟩
  exact Bel.grew (Below.refl _ _) _
end Go.Proofs.Ytbfnlaemlflmpaa
