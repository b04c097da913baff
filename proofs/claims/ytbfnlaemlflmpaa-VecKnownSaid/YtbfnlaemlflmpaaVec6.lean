/- The walk of VecJoins: it returns true. -/
import Derived.Test.YtbfnlaemlflmpaaVec5
set_option linter.unusedVariables false
set_option linter.unusedSimpArgs false
namespace Go.Proofs.Ytbfnlaemlflmpaa
open Go.RowKit

theorem atM_iff (xs ys : List Int) : atM xs ys = true ↔ ∀ i : Nat, getV xs i ≤ getV ys i := by
  unfold atM
  rw [Bool.not_eq_true', lessV_false]
theorem atM_is {xs ys : List Int} {v u : Value} {w : World} {b : Bool} (hx : Sl .i64 w w.heap.size v xs) (hy : Sl .i64 w w.heap.size u ys) (hb : atM xs ys = b) (hl : xs.length ≤ 1099511627776) (hl' : ys.length ≤ 1099511627776) :
    Calls Try.prog 33 #[v, u] w fun e w' => e = .returned (.bool b) ∧ w = w' := hb ▸ atMost_any xs ys v u _ w hx hy hl hl'

theorem joinN_congr {xs ys xs' ys' : List Int} (h : ∀ i : Nat, max (getV xs i) (getV ys i) = max (getV xs' i) (getV ys' i)) (n : Nat) : joinN xs ys n = joinN xs' ys' n := by
  unfold joinN
  exact List.map_congr_left fun i _ => h i
theorem joinV_comm (xs ys : List Int) : joinV ys xs = joinV xs ys := by
  unfold joinV
  rw [Nat.max_comm]
  exact joinN_congr (fun i => by omega) _
theorem joinV_assoc (xs ys zs : List Int) : joinV (joinV xs ys) zs = joinV xs (joinV ys zs) := by
  rw [joinV, joinV.eq_def xs (joinV ys zs), joinV_length, joinV_length, Nat.max_assoc]
  exact joinN_congr (fun i => by rw [getV_joinV, getV_joinV]; omega) _
theorem cmpV_same {xs ys : List Int} (h : ∀ i : Nat, getV xs i = getV ys i) : cmpV xs ys = 0 := by
  have h1 : lessV xs ys = false := (lessV_false _ _).2 fun i => by rw [h i]; omega
  have h2 : lessV ys xs = false := (lessV_false _ _).2 fun i => by rw [h i]; omega
  unfold cmpV; rw [h1, h2]; rfl

/-- What VecJoins asks. -/
structure JoinsSay (a b c : List Int) (p q : Bool) : Prop where
  la : a.length ≤ 200
  lb : b.length ≤ 200
  lc : c.length ≤ 200
  lj : (joinV a b).length ≤ 200
  ljc : (joinV (joinV a b) c).length ≤ 200
  lbc : (joinV b c).length ≤ 200
  aj : atM a (joinV a b) = true
  bj : atM b (joinV a b) = true
  ac : atM a c = p
  bc : atM b c = q
  jc : p = true → q = true → atM (joinV a b) c = true
  aa : cmpV (joinV a a) a = 0
  ba : decide (joinV a b = joinV b a) = true
  three : decide (joinV (joinV a b) c = joinV a (joinV b c)) = true
theorem joins_say {a b c : List Int} (la : a.length ≤ 200) (lb : b.length ≤ 200) (lc : c.length ≤ 200) : JoinsSay a b c (atM a c) (atM b c) where
  la := la
  lb := lb
  lc := lc
  lj := by rw [joinV_length]; omega
  ljc := by rw [joinV_length, joinV_length]; omega
  lbc := by rw [joinV_length]; omega
  aj := (atM_iff _ _).2 fun i => by rw [getV_joinV]; omega
  bj := (atM_iff _ _).2 fun i => by rw [getV_joinV]; omega
  ac := rfl
  bc := rfl
  jc := fun h1 h2 => (atM_iff _ _).2 fun i => by rw [getV_joinV]; have := (atM_iff _ _).1 h1 i; have := (atM_iff _ _).1 h2 i; omega
  aa := cmpV_same fun i => by rw [getV_joinV]; omega
  ba := decide_eq_true (joinV_comm b a)
  three := decide_eq_true (joinV_assoc a b c)

set_option maxHeartbeats 2000000 in
theorem vecJoins_of (a b c : List Int) (p q : Bool) (va vb vc : Value) (w : World) (ha : Sl .i64 w w.heap.size va a) (hb : Sl .i64 w w.heap.size vb b) (hc : Sl .i64 w w.heap.size vc c) (h : JoinsSay a b c p q) :
    Calls Try.prog 8 #[va, vb, vc] w fun r w' => r = .returned (.bool true) ∧ Below w.heap.size w w' := by
  obtain ⟨A, ca, rfl⟩ := ha.shape
  obtain ⟨B, cb, rfl⟩ := hb.shape
  obtain ⟨C, cc, rfl⟩ := hc.shape
  have HA := Lib.hid ha
  have HB := Lib.hid hb
  have HC := Lib.hid hc
  have H := Lib.hid h
  have la := h.la
  have lb := h.lb
  have lc := h.lc
  clear h ha hb hc
  cases p <;> cases q
  all_goals
    go_enter Try.func8, Try.ntmps8
    go_wp2_with fail
    refine (join_is HA.out HB.out rfl (by omega) (by omega)).mono ?_
    rintro r w1 ⟨j, rfl, ho, hb1⟩
    have HJ := Lib.hid ho.sl
    have HA1 := Lib.hid (HA.out.later hb1)
    have HB1 := Lib.hid (HB.out.later hb1)
    have HC1 := Lib.hid (HC.out.later hb1)
    have G1 := Lib.hid hb1
    clear ho hb1
    go_wp2_with fail
    refine (atM_is HA1.out HJ.out H.out.aj (by omega) (by have := H.out.lj; omega)).mono ?_
    rintro r w' ⟨rfl, rfl⟩
    go_wp2_with fail
    refine (atM_is HB1.out HJ.out H.out.bj (by omega) (by have := H.out.lj; omega)).mono ?_
    rintro r w' ⟨rfl, rfl⟩
    go_wp2_with fail
    refine (atM_is HA1.out HC1.out H.out.ac (by omega) (by omega)).mono ?_
    rintro r w' ⟨rfl, rfl⟩
    go_wp2_with (first
      | (go_at_call 33; (with_reducible refine (atM_is HB1.out HC1.out H.out.bc (by omega) (by omega)).mono ?_); rintro r w' ⟨rfl, rfl⟩)
      | (go_at_call 33; (with_reducible refine (atM_is HJ.out HC1.out (H.out.jc rfl rfl) (by have := H.out.lj; omega) (by omega)).mono ?_); rintro r w' ⟨rfl, rfl⟩))
    refine (join_is HA1.out HA1.out rfl (by omega) (by omega)).mono ?_
    rintro r w2 ⟨ja, rfl, ho, hb2⟩
    have HJA := Lib.hid ho.sl
    have HA2 := Lib.hid (HA1.out.later hb2)
    have HB2 := Lib.hid (HB1.out.later hb2)
    have HC2 := Lib.hid (HC1.out.later hb2)
    have HJ2 := Lib.hid (HJ.out.later hb2)
    have G2 := Lib.hid (Bel.then G1.out hb2)
    clear ho hb2 HA1 HB1 HC1 HJ G1
    go_wp2_with fail
    refine (cmp_is HJA.out HA2.out H.out.aa (by rw [joinV_length]; omega) (by omega)).mono ?_
    rintro r w' ⟨rfl, rfl⟩
    go_wp2_with fail
    refine (join_is HB2.out HA2.out rfl (by omega) (by omega)).mono ?_
    rintro r w3 ⟨jb, rfl, ho, hb3⟩
    have HJB := Lib.hid ho.sl
    have HA3 := Lib.hid (HA2.out.later hb3)
    have HB3 := Lib.hid (HB2.out.later hb3)
    have HC3 := Lib.hid (HC2.out.later hb3)
    have HJ3 := Lib.hid (HJ2.out.later hb3)
    have G3 := Lib.hid (Bel.then G2.out hb3)
    clear ho hb3 HA2 HB2 HC2 HJ2 G2 HJA
    go_wp2_with fail
    refine (same_is HJ3.out HJB.out H.out.ba (by have := H.out.lj; omega)).mono ?_
    rintro r w4 ⟨rfl, hb4⟩
    have HA4 := Lib.hid (HA3.out.later hb4)
    have HB4 := Lib.hid (HB3.out.later hb4)
    have HC4 := Lib.hid (HC3.out.later hb4)
    have HJ4 := Lib.hid (HJ3.out.later hb4)
    have G4 := Lib.hid (Bel.then G3.out hb4)
    clear hb4 HA3 HB3 HC3 HJ3 G3 HJB
    go_wp2_with fail
    refine (join_is HJ4.out HC4.out rfl (by have := H.out.lj; omega) (by omega)).mono ?_
    rintro r w5 ⟨j5, rfl, ho, hb5⟩
    have HJ5 := Lib.hid ho.sl
    have HA5 := Lib.hid (HA4.out.later hb5)
    have HB5 := Lib.hid (HB4.out.later hb5)
    have HC5 := Lib.hid (HC4.out.later hb5)
    have G5 := Lib.hid (Bel.then G4.out hb5)
    clear ho hb5 HA4 HB4 HC4 HJ4 G4
    go_wp2_with fail
    refine (join_is HB5.out HC5.out rfl (by omega) (by omega)).mono ?_
    rintro r w6 ⟨j6, rfl, ho, hb6⟩
    have HJ6 := Lib.hid ho.sl
    have HA6 := Lib.hid (HA5.out.later hb6)
    have HJ56 := Lib.hid (HJ5.out.later hb6)
    have G6 := Lib.hid (Bel.then G5.out hb6)
    clear ho hb6 HA5 HB5 HC5 HJ5 G5
    go_wp2_with fail
    refine (join_is HA6.out HJ6.out rfl (by omega) (by have := H.out.lbc; omega)).mono ?_
    rintro r w7 ⟨j7, rfl, ho, hb7⟩
    have HJ7 := Lib.hid ho.sl
    have HJ57 := Lib.hid (HJ56.out.later hb7)
    have G7 := Lib.hid (Bel.then G6.out hb7)
    clear ho hb7 HA6 HJ6 HJ56 G6
    go_wp2_with fail
    refine (same_is HJ57.out HJ7.out H.out.three (by have := H.out.ljc; omega)).mono ?_
    rintro r w8 ⟨rfl, hb8⟩
    go_wp2_with fail
    refine (works04_any _).mono ?_
    rintro r w9 ⟨rfl, hb9⟩
    go_wp2_with fail
    go_ret
    exact ⟨rfl, Bel.then (Bel.then G7.out hb8) hb9⟩

set_option maxHeartbeats 400000 in
theorem vecJoins_any (a b c : List Int) (va vb vc : Value) (w : World) (ha : Sl .i64 w w.heap.size va a) (hb : Sl .i64 w w.heap.size vb b) (hc : Sl .i64 w w.heap.size vc c) :
    Calls Try.prog 8 #[va, vb, vc] w fun r w' => r = .returned (.bool true) ∧ Below w.heap.size w w' := by
  by_cases hl : a.length ≤ 200 ∧ b.length ≤ 200 ∧ c.length ≤ 200
  · exact vecJoins_of a b c _ _ va vb vc w ha hb hc (joins_say hl.1 hl.2.1 hl.2.2)
  · obtain ⟨A, ca, rfl⟩ := ha.shape
    obtain ⟨B, cb, rfl⟩ := hb.shape
    obtain ⟨C, cc, rfl⟩ := hc.shape
    have hl' : 200 < a.length ∨ (a.length ≤ 200 ∧ 200 < b.length) ∨ (a.length ≤ 200 ∧ b.length ≤ 200 ∧ 200 < c.length) := by omega
    clear ha hb hc hl
    rcases hl' with h1 | ⟨h1, h2⟩ | ⟨h1, h2, h3⟩
    all_goals
      go_enter Try.func8, Try.ntmps8
      go_wp2_with fail
      refine (works04_any _).mono ?_
      rintro r w9 ⟨rfl, hb9⟩
      go_wp2_with fail
      go_ret
      exact ⟨rfl, hb9⟩

/-- How two stand, the cases. -/
theorem code_ways (l g : Bool) : (code l g = 0 ∧ l = false ∧ g = false) ∨ (code l g = 1 ∧ l = true ∧ g = false) ∨ (code l g = 2 ∧ l = false ∧ g = true) ∨ (code l g = 3 ∧ l = true ∧ g = true) := by
  cases l <;> cases g <;> simp [code]
theorem get_is {xs : List Int} {v : Value} {w : World} {o x : Int} (hs : Sl .i64 w w.heap.size v xs) (hx : getV xs o = x) :
    Calls Try.prog 29 #[v, .int .i64 o] w fun e w' => e = .returned (.int .i64 x) ∧ w = w' := hx ▸ get_any xs v _ o w hs
end Go.Proofs.Ytbfnlaemlflmpaa
