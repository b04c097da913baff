/- Walks of the references' Apart and Voids, of conflict.Voids, and of does. -/
import Derived.Test.YtbfnlaemlflmpaaConf2
set_option linter.unusedVariables false
set_option linter.unusedSimpArgs false
namespace Go.Proofs.Ytbfnlaemlflmpaa
open Go.RowKit

set_option maxHeartbeats 400000 in
theorem rapart_any (e e' : Ev) (d d' : Value) (B : Nat) (xs xs' : List Int) (w : World) (hs : Sl .i64 w B d xs) (hs' : Sl .i64 w B d' xs') (hB : B ≤ w.heap.size) :
    Calls Try.prog 35 #[e.val d, e'.val d'] w
      fun r w' => r = .returned (.bool (apt e e' xs xs')) ∧ Below w.heap.size w w' := by
  have b0 : ∀ o1 o2, Below B w ((w.alloc o1).alloc o2) := fun o1 o2 => ((Below.refl _ _).alloc hB _).alloc (by simp; omega) _
  have HS := Lib.hid hs
  have HS' := Lib.hid hs'
  clear hs hs'
  obtain ⟨o, s, l, t, a, f, op, arg, key⟩ := e
  obtain ⟨o', s', l', t', a', f', op', arg', key'⟩ := e'
  by_cases h1 : o = o'
  · subst h1
    by_cases h2 : s = s'
    · subst h2
      go_enter Try.func35, Try.ntmps35
      go_wp2_with fail
      go_ret
      exact ⟨by simp [apt], Bel.grew (Bel.grew (Below.refl _ _) _) _⟩
    · go_enter Try.func35, Try.ntmps35
      go_wp2_with (first
        | (go_at_call 39; (with_reducible refine (rbefore_any ⟨o, s, l, t, a, f, op, arg, key⟩ ⟨o, s', l', t', a', f', op', arg', key'⟩ d d' B xs' _ (HS'.out.below (b0 _ _)) (by simp; omega)).mono ?_); rintro r w1 ⟨rfl, hb1⟩; obtain ⟨hc1, hf1, z1⟩ := Bel.cells hb1; simp at z1)
        | (go_at_call 39; (with_reducible refine (rbefore_any ⟨o, s', l', t', a', f', op', arg', key'⟩ ⟨o, s, l, t, a, f, op, arg, key⟩ d' d B xs _ (HS.out.below ((b0 _ _).trans (hb1.mono (by simp; omega)))) (by omega)).mono ?_); rintro r w2 ⟨rfl, hb2⟩))
      · go_ret
        exact ⟨by simp [apt, *], Bel.then (Bel.grew (Bel.grew (Below.refl _ _) _) _) hb1⟩
      · go_ret
        refine ⟨by simp [apt, h2]; simp [*], Bel.then (Bel.then (Bel.grew (Bel.grew (Below.refl _ _) _) _) hb1) hb2⟩
  · go_enter Try.func35, Try.ntmps35
    go_wp2_with (first
      | (go_at_call 39; (with_reducible refine (rbefore_any ⟨o, s, l, t, a, f, op, arg, key⟩ ⟨o', s', l', t', a', f', op', arg', key'⟩ d d' B xs' _ (HS'.out.below (b0 _ _)) (by simp; omega)).mono ?_); rintro r w1 ⟨rfl, hb1⟩; obtain ⟨hc1, hf1, z1⟩ := Bel.cells hb1; simp at z1)
      | (go_at_call 39; (with_reducible refine (rbefore_any ⟨o', s', l', t', a', f', op', arg', key'⟩ ⟨o, s, l, t, a, f, op, arg, key⟩ d' d B xs _ (HS.out.below ((b0 _ _).trans (hb1.mono (by simp; omega)))) (by omega)).mono ?_); rintro r w2 ⟨rfl, hb2⟩))
    · go_ret
      exact ⟨by simp [apt, *], Bel.then (Bel.grew (Bel.grew (Below.refl _ _) _) _) hb1⟩
    · go_ret
      refine ⟨by simp [apt, h1]; simp [*], Bel.then (Bel.then (Bel.grew (Bel.grew (Below.refl _ _) _) _) hb1) hb2⟩

/-- What conflict.Voids answers. -/
def vd (k p : Int) (e e' : Ev) (xs xs' : List Int) : Bool := (p == 2 || (p == 3 && decide (e'.arg < e.arg))) && agn k e.op e.arg e'.op e'.arg && apt e e' xs xs'

/-- A field by value. -/
abbrev fdV (k p : Int) (fl : Bool) (mv : Value) : Value := .agg #[.int .i64 k, .int .i64 p, .bool fl, mv]

set_option maxHeartbeats 400000 in
theorem voids_any (k p : Int) (fl : Bool) (mv : Value) (e e' : Ev) (d d' : Value) (B : Nat) (xs xs' : List Int) (w : World) (hs : Sl .i64 w B d xs) (hs' : Sl .i64 w B d' xs') (hB : B ≤ w.heap.size) :
    Calls Try.prog 16 #[fdV k p fl mv, e.val d, e'.val d'] w
      fun r w' => r = .returned (.bool (vd k p e e' xs xs')) ∧ Below w.heap.size w w' := by
  have b0 : ∀ o1 o2 o3, Below B w (((w.alloc o1).alloc o2).alloc o3) := fun o1 o2 o3 => (((Below.refl _ _).alloc hB _).alloc (by simp; omega) _).alloc (by simp; omega) _
  have HS := Lib.hid hs
  have HS' := Lib.hid hs'
  clear hs hs'
  rcases (show p = 2 ∨ p = 3 ∧ e'.arg < e.arg ∨ p = 3 ∧ e.arg ≤ e'.arg ∨ ((p == 2) = false ∧ (p == 3) = false) from by rw [beq_eq_false_iff_ne, beq_eq_false_iff_ne]; omega) with rfl | ⟨rfl, hgt⟩ | ⟨rfl, hgt⟩ | ⟨hp2, hp3⟩
  all_goals cases hag : agn k e.op e.arg e'.op e'.arg <;> cases hap : apt e e' xs xs'
  all_goals
    go_enter Try.func16, Try.ntmps16
    go_wp2_with (first
      | (go_at_call 14; (with_reducible refine (against_any k _ fl mv e.op e.arg e'.op e'.arg _).mono ?_); rintro r w1 ⟨rfl, hb1⟩; obtain ⟨hc1, hf1, z1⟩ := Bel.cells hb1; simp at z1)
      | (go_at_call 18; (with_reducible refine (apart_any e e' d d' B xs xs' _ (HS.out.below ((b0 _ _ _).trans (hb1.mono (by simp; omega)))) (HS'.out.below ((b0 _ _ _).trans (hb1.mono (by simp; omega)))) (by omega)).mono ?_); rintro r w2 ⟨rfl, hb2⟩))
    go_ret
    refine ⟨?_, ?_⟩
    · simp [vd, *]
    · first | exact Bel.then (Bel.then (Bel.grew (Bel.grew (Bel.grew (Below.refl _ _) _) _) _) hb1) hb2 | exact Bel.then (Bel.grew (Bel.grew (Bel.grew (Below.refl _ _) _) _) _) hb1 | exact Bel.grew (Bel.grew (Bel.grew (Below.refl _ _) _) _) _

end Go.Proofs.Ytbfnlaemlflmpaa
