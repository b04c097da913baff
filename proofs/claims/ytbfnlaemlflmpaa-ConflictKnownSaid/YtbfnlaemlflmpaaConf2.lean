/- Walks of order.Apart, conflict.Voids and their references. -/
import Derived.Test.YtbfnlaemlflmpaaConf
set_option linter.unusedVariables false
set_option linter.unusedSimpArgs false
namespace Go.Proofs.Ytbfnlaemlflmpaa
open Go.RowKit

set_option maxHeartbeats 400000 in
theorem apart_any (e e' : Ev) (d d' : Value) (B : Nat) (xs xs' : List Int) (w : World) (hs : Sl .i64 w B d xs) (hs' : Sl .i64 w B d' xs') (hB : B ≤ w.heap.size) :
    Calls Try.prog 18 #[e.val d, e'.val d'] w
      fun r w' => r = .returned (.bool (apt e e' xs xs')) ∧ Below w.heap.size w w' := by
  have b0 : ∀ o1 o2, Below B w ((w.alloc o1).alloc o2) := fun o1 o2 => ((Below.refl _ _).alloc hB _).alloc (by simp; omega) _
  have HS := Lib.hid hs
  have HS' := Lib.hid hs'
  clear hs hs'
  obtain ⟨o, s, l, t, a, f, op, arg, key⟩ := e
  obtain ⟨o', s', l', t', a', f', op', arg', key'⟩ := e'
  by_cases h1 : o = o'
  · subst h1
    by_cases h2 : s = s'
    · subst h2
      go_enter Try.func18, Try.ntmps18
      go_wp2_with fail
      go_ret
      exact ⟨by simp [apt], Bel.grew (Bel.grew (Below.refl _ _) _) _⟩
    · go_enter Try.func18, Try.ntmps18
      go_wp2_with (first
        | (go_at_call 36; (with_reducible refine (before_any ⟨o, s, l, t, a, f, op, arg, key⟩ ⟨o, s', l', t', a', f', op', arg', key'⟩ d d' B xs' _ (HS'.out.below (b0 _ _)) (by simp; omega)).mono ?_); rintro r w1 ⟨rfl, hb1⟩; obtain ⟨hc1, hf1, z1⟩ := Bel.cells hb1; simp at z1)
        | (go_at_call 36; (with_reducible refine (before_any ⟨o, s', l', t', a', f', op', arg', key'⟩ ⟨o, s, l, t, a, f, op, arg, key⟩ d' d B xs _ (HS.out.below ((b0 _ _).trans (hb1.mono (by simp; omega)))) (by omega)).mono ?_); rintro r w2 ⟨rfl, hb2⟩))
      · go_ret
        exact ⟨by simp [apt, *], Bel.then (Bel.grew (Bel.grew (Below.refl _ _) _) _) hb1⟩
      · go_ret
        refine ⟨by simp [apt, h2]; simp [*], Bel.then (Bel.then (Bel.grew (Bel.grew (Below.refl _ _) _) _) hb1) hb2⟩
  · go_enter Try.func18, Try.ntmps18
    go_wp2_with (first
      | (go_at_call 36; (with_reducible refine (before_any ⟨o, s, l, t, a, f, op, arg, key⟩ ⟨o', s', l', t', a', f', op', arg', key'⟩ d d' B xs' _ (HS'.out.below (b0 _ _)) (by simp; omega)).mono ?_); rintro r w1 ⟨rfl, hb1⟩; obtain ⟨hc1, hf1, z1⟩ := Bel.cells hb1; simp at z1)
      | (go_at_call 36; (with_reducible refine (before_any ⟨o', s', l', t', a', f', op', arg', key'⟩ ⟨o, s, l, t, a, f, op, arg, key⟩ d' d B xs _ (HS.out.below ((b0 _ _).trans (hb1.mono (by simp; omega)))) (by omega)).mono ?_); rintro r w2 ⟨rfl, hb2⟩))
    · go_ret
      exact ⟨by simp [apt, *], Bel.then (Bel.grew (Bel.grew (Below.refl _ _) _) _) hb1⟩
    · go_ret
      refine ⟨by simp [apt, h1]; simp [*], Bel.then (Bel.then (Bel.grew (Bel.grew (Below.refl _ _) _) _) hb1) hb2⟩
end Go.Proofs.Ytbfnlaemlflmpaa
