/- The walk of works (chapter 4). -/
import Derived.Test.YtbfnlaemlflmpaaVec4
import Derived.Test.YtbfnlaemlflmpaaKitI2
set_option linter.unusedVariables false
set_option linter.unusedSimpArgs false
namespace Go.Proofs.Ytbfnlaemlflmpaa
open Go.RowKit

/-- A slice that has just been written out. -/
theorem Sl.built (w : World) (cs : Array Value) (t : TypeId) (xs : List Int) (n b : Nat) (h : cs.toList = xs.map (Value.int .i64)) (hn : n = xs.length) (hb : b = w.heap.size) :
    Sl .i64 (w.alloc (.cells cs t)) (w.alloc (.cells cs t)).heap.size (.slice (some ⟨b, 0, none⟩) n n) xs := by
  subst hn hb
  refine .inr ⟨_, 0, _, rfl, (Has.new w cs t).1, Nat.le_refl _, fun i hi => ?_⟩
  rw [Nat.zero_add, (Has.new w cs t).2 i, ← Array.getElem?_toList, h, List.getElem?_map, List.getElem?_eq_getElem hi]; rfl
theorem Sl.later {k : IntKind} {W w : World} {v : Value} {xs : List Int} (h : Sl k W W.heap.size v xs) (hb : Below W.heap.size W w) : Sl k w w.heap.size v xs := (h.below hb).more hb.size

theorem sum_is {xs : List Int} {v : Value} {w : World} {s : Int} {o : Bool} (hx : Sl .i64 w w.heap.size v xs) (hs : sumV xs = s) (ho : sumOk xs = o) (hl : xs.length ≤ 1099511627776) (hr : ∀ x ∈ xs, x ≤ 9223372036854775807) :
    Calls Try.prog 23 #[v] w fun e w' => e = .returned (.tuple #[.int .i64 s, .bool o]) ∧ w = w' := hs ▸ ho ▸ sum_any xs v _ w hx hl hr
theorem cmp_is {xs ys : List Int} {v u : Value} {w : World} {c : Int} (hx : Sl .i64 w w.heap.size v xs) (hy : Sl .i64 w w.heap.size u ys) (hc : cmpV xs ys = c) (hl : xs.length ≤ 1099511627776) (hl' : ys.length ≤ 1099511627776) :
    Calls Try.prog 27 #[v, u] w fun e w' => e = .returned (.int .i64 c) ∧ w = w' := hc ▸ cmp_any xs ys v u _ w hx hy hl hl'
theorem join_is {xs ys zs : List Int} {v u : Value} {w : World} (hx : Sl .i64 w w.heap.size v xs) (hy : Sl .i64 w w.heap.size u ys) (hz : joinV xs ys = zs) (hl : xs.length ≤ 1099511627776) (hl' : ys.length ≤ 1099511627776) :
    Calls Try.prog 22 #[v, u] w fun e w' => ∃ r, e = .returned r ∧ Own w' w.heap.size r zs ∧ Below w.heap.size w w' := hz ▸ join_any xs ys v u _ w hx hy (Nat.le_refl _) hl hl'
theorem same_is {xs ys : List Int} {v u : Value} {w : World} {b : Bool} (hx : Sl .i64 w w.heap.size v xs) (hy : Sl .i64 w w.heap.size u ys) (hb : decide (xs = ys) = b) (hl : xs.length ≤ 1099511627776) :
    Calls Try.prog 25 #[v, u] w fun e w' => e = .returned (.bool b) ∧ Below w.heap.size w w' :=
  hb ▸ (sameInts_any xs ys v u _ w hx hy hl).mono fun e w' ⟨h, n, hw⟩ => ⟨h, hw ▸ Bel.drewN (Below.refl _ _) n⟩

def bigL : List Int := [4611686018427387904, 4611686018427387904]
theorem big_sum : sumV bigL = 0 := by decide +kernel
theorem big_ok : sumOk bigL = false := by decide +kernel
theorem big_le : ∀ x ∈ bigL, x ≤ 9223372036854775807 := by decide +kernel
theorem big_len : bigL.length ≤ 1099511627776 := by decide +kernel
theorem big_sl (w : World) (t : TypeId) (b : Nat) (hb : b = w.heap.size) : Sl .i64 (w.alloc (.cells #[.int .i64 4611686018427387904, .int .i64 4611686018427387904] t)) (w.alloc (.cells #[.int .i64 4611686018427387904, .int .i64 4611686018427387904] t)).heap.size (.slice (some ⟨b, 0, none⟩) 2 2) bigL :=
  Sl.built w _ t bigL 2 b rfl rfl hb

set_option maxHeartbeats 1000000 in
theorem works04_any (w : World) :
    Calls Try.prog 20 #[] w fun r w' => r = .returned (.bool true) ∧ Below w.heap.size w w' := by
  go_enter Try.func20, Try.ntmps20
  go_wp2_with fail
  refine (sum_is (s := 3) (o := true) (Sl.built w _ _ [1, -7, 2] _ _ rfl rfl (by simp)) (by decide) (by decide) (by decide) (by decide)).mono ?_
  rintro r w1 ⟨rfl, rfl⟩
  have b1 : ∀ o, Below w.heap.size w (w.alloc o) := fun o => Bel.grew (Below.refl _ _) _
  go_wp2_with fail
  refine (sum_is (big_sl _ _ _ (by simp)) big_sum big_ok big_len big_le).mono ?_
  rintro r w1 ⟨rfl, rfl⟩
  have b2 : ∀ o o', Below w.heap.size w ((w.alloc o).alloc o') := fun o o' => Bel.grew (b1 _) _
  obtain ⟨W, hW⟩ : ∃ W, Below w.heap.size w W := ⟨_, b2 (.cells #[] 0) (.cells #[] 0)⟩
  go_wp2_with fail
  refine (cmp_is (c := 0) ((Sl.built _ _ _ [1, 2] _ _ rfl rfl (by simp)).later (Bel.grew (Below.refl _ _) _)) (Sl.built _ _ _ [1, 2, 0] _ _ rfl rfl (by simp)) (by decide) (by decide) (by decide)).mono ?_
  rintro r w1 ⟨rfl, rfl⟩
  go_wp2_with fail
  refine (cmp_is (c := 1) ((Sl.built _ _ _ [1, 2] _ _ rfl rfl (by simp)).later (Bel.grew (Below.refl _ _) _)) (Sl.built _ _ _ [1, 3] _ _ rfl rfl (by simp)) (by decide) (by decide) (by decide)).mono ?_
  rintro r w1 ⟨rfl, rfl⟩
  go_wp2_with fail
  refine (cmp_is (c := 3) ((Sl.built _ _ _ [1, 2] _ _ rfl rfl (by simp)).later (Bel.grew (Below.refl _ _) _)) (Sl.built _ _ _ [2, 1] _ _ rfl rfl (by simp)) (by decide) (by decide) (by decide)).mono ?_
  rintro r w1 ⟨rfl, rfl⟩
  go_wp2_with fail
  refine (join_is (zs := [2, 5, 4]) ((Sl.built _ _ _ [1, 5] _ _ rfl rfl (by simp)).later (Bel.grew (Below.refl _ _) _)) (Sl.built _ _ _ [2, -3, 4] _ _ rfl rfl (by simp)) (by decide) (by decide) (by decide)).mono ?_
  rintro r w2 ⟨r, rfl, ho, hb2⟩
  have HS := Lib.hid ho.sl
  clear ho
  go_wp2_with fail
  refine (same_is (b := true) (HS.out.later (Bel.grew (Below.refl _ _) _)) (Sl.built _ _ _ [2, 5, 4] _ _ rfl rfl (by simp)) (by decide) (by decide)).mono ?_
  rintro r w3 ⟨rfl, hb3⟩
  go_wp2_with fail
  go_ret
  refine ⟨rfl, Bel.then (Bel.grew (Bel.then ?_ hb2) _) hb3⟩
  repeat (first | exact Below.refl _ _ | refine Bel.grew ?_ _)
end Go.Proofs.Ytbfnlaemlflmpaa
