/- Walks of package conflict, of order.Apart and of their references: what each call returns. -/
import Derived.Test.YtbfnlaemlflmpaaBase
set_option linter.unusedVariables false
set_option linter.unusedSimpArgs false
namespace Go.Proofs.Ytbfnlaemlflmpaa
open Go.RowKit

/-- An entry of a vector. -/
def getV (xs : List Int) (o : Int) : Int := if 0 ≤ o ∧ o < xs.length then max (xs[o.toNat]?.getD 0) 0 else 0

theorem getV_in {xs : List Int} {o : Int} (h0 : 0 ≤ o) (h1 : o < xs.length) : getV xs o = max (xs[o.toNat]?.getD 0) 0 := by unfold getV; rw [if_pos ⟨h0, h1⟩]
theorem getV_out {xs : List Int} {o : Int} (h : ¬ (0 ≤ o ∧ o < xs.length)) : getV xs o = 0 := by unfold getV; rw [if_neg h]

set_option maxHeartbeats 400000 in
theorem get_any (xs : List Int) (v : Value) (B : Nat) (o : Int) (w : World) (hs : Sl .i64 w B v xs) :
    Calls Try.prog 29 #[v, .int .i64 o] w fun e w' => e = .returned (.int .i64 (getV xs o)) ∧ w = w' := by
  rcases hs with ⟨A, c, rfl, rfl⟩ | ⟨b, off, c, rfl, hlt, hc, hx⟩
  · have hg : getV [] o = 0 := getV_out (by simp)
    rw [hg]
    clear hg
    go_enter Try.func29, Try.ntmps29
    go_wp2
    all_goals (go_ret; exact ⟨rfl, rfl⟩)
  · by_cases h : 0 ≤ o ∧ o < xs.length
    · have hg := getV_in h.1 h.2
      obtain ⟨n, rfl⟩ := Int.eq_ofNat_of_zero_le h.1
      have hn : n < xs.length := by omega
      have hcell := hx n hn
      rw [hg]
      clear hx hg h
      go_enter Try.func29, Try.ntmps29
      go_wp2
      all_goals
        go_ret
        refine ⟨congrArg (fun z => Ending.returned (.int .i64 z)) ?_, rfl⟩
        try simp only [Int.toNat_natCast, List.getElem?_eq_getElem hn, Option.getD_some]
        omega
    · rw [getV_out h]
      have h' : o < 0 ∨ (xs.length : Int) ≤ o := by omega
      clear h hx
      go_enter Try.func29, Try.ntmps29
      go_wp2
      all_goals (go_ret; exact ⟨rfl, rfl⟩)

set_option maxHeartbeats 400000 in
theorem rget_any (xs : List Int) (v : Value) (B : Nat) (o : Int) (w : World) (hs : Sl .i64 w B v xs) :
    Calls Try.prog 30 #[v, .int .i64 o] w fun e w' => e = .returned (.int .i64 (getV xs o)) ∧ w = w' := by
  rcases hs with ⟨A, c, rfl, rfl⟩ | ⟨b, off, c, rfl, hlt, hc, hx⟩
  · have hg : getV [] o = 0 := getV_out (by simp)
    rw [hg]
    clear hg
    go_enter Try.func30, Try.ntmps30
    go_wp2
    all_goals (go_ret; exact ⟨rfl, rfl⟩)
  · by_cases h : 0 ≤ o ∧ o < xs.length
    · have hg := getV_in h.1 h.2
      obtain ⟨n, rfl⟩ := Int.eq_ofNat_of_zero_le h.1
      have hn : n < xs.length := by omega
      have hcell := hx n hn
      rw [hg]
      clear hx hg h
      go_enter Try.func30, Try.ntmps30
      go_wp2
      all_goals
        go_ret
        refine ⟨congrArg (fun z => Ending.returned (.int .i64 z)) ?_, rfl⟩
        try simp only [Int.toNat_natCast, List.getElem?_eq_getElem hn, Option.getD_some]
        omega
    · rw [getV_out h]
      have h' : o < 0 ∨ (xs.length : Int) ≤ o := by omega
      clear h hx
      go_enter Try.func30, Try.ntmps30
      go_wp2
      all_goals (go_ret; exact ⟨rfl, rfl⟩)

/-- What conflict.Against answers. -/
def agn (k oa aa ob ab : Int) : Bool :=
  (k == 2 && (oa == 2 && ob == 2 && aa != ab)) || (k == 4 && (oa == 5 && ob == 5 && aa != ab)) ||
  (k == 3 && aa == ab && ((oa == 3 && ob == 4) || (oa == 4 && ob == 3)))

set_option maxHeartbeats 400000 in
theorem against_any (k p : Int) (fl : Bool) (mv : Value) (oa aa ob ab : Int) (w : World) :
    Calls Try.prog 14 #[.agg #[.int .i64 k, .int .i64 p, .bool fl, mv], .int .i64 oa, .int .i64 aa, .int .i64 ob, .int .i64 ab] w
      fun e w' => e = .returned (.bool (agn k oa aa ob ab)) ∧ Below w.heap.size w w' := by
  go_enter Try.func14, Try.ntmps14
  go_wp2
  all_goals
    go_ret
    refine ⟨?_, (((Below.refl _ _).alloc (Nat.le_refl _) _).alloc (by simp) _).alloc (by simp; omega) _⟩
    refine congrArg (fun z => Ending.returned (.bool z)) ?_
    simp only [beq_iff_eq, beq_eq_false_iff_ne] at *
    rw [Bool.eq_iff_iff]
    simp [agn]
    omega

set_option maxHeartbeats 400000 in
theorem ragainst_any (k p : Int) (fl : Bool) (mv : Value) (oa aa ob ab : Int) (w : World) :
    Calls Try.prog 15 #[.agg #[.int .i64 k, .int .i64 p, .bool fl, mv], .int .i64 oa, .int .i64 aa, .int .i64 ob, .int .i64 ab] w
      fun e w' => e = .returned (.bool (agn k oa aa ob ab)) ∧ Below w.heap.size w w' := by
  go_enter Try.func15, Try.ntmps15
  go_wp2
  all_goals
    go_ret
    refine ⟨?_, (Below.refl _ _).alloc (Nat.le_refl _) _⟩
    refine congrArg (fun z => Ending.returned (.bool z)) ?_
    simp only [beq_iff_eq, beq_eq_false_iff_ne] at *
    rw [Bool.eq_iff_iff]
    simp [agn]
    omega

/-- An event's numbers. -/
structure Ev where
  o : Int
  s : Int
  l : Int
  t : Int
  a : Int
  f : Int
  op : Int
  arg : Int
  key : Int
/-- An event by value: its ten cells. -/
abbrev Ev.val (e : Ev) (d : Value) : Value :=
  .agg #[.int .i64 e.o, .int .i64 e.s, .int .i64 e.l, d, .int .i64 e.t, .int .i64 e.a, .int .i64 e.f, .int .i64 e.op, .int .i64 e.arg, .int .i64 e.key]

/-- Did the one whose Deps are xs know number s of origin o? -/
def bef (s o : Int) (xs : List Int) : Bool := decide (s ≤ getV xs o)
/-- Apart. -/
def apt (e e' : Ev) (xs xs' : List Int) : Bool := !(e.o == e'.o && e.s == e'.s) && !(bef e.s e.o xs') && !(bef e'.s e'.o xs)

set_option maxHeartbeats 400000 in
theorem before_any (e e' : Ev) (d d' : Value) (B : Nat) (xs' : List Int) (w : World) (hs : Sl .i64 w B d' xs') (hB : B ≤ w.heap.size) :
    Calls Try.prog 36 #[e.val d, e'.val d'] w
      fun r w' => r = .returned (.bool (bef e.s e.o xs')) ∧ Below w.heap.size w w' := by
  have hsl : ∀ o1 o2 n, Sl .i64 (((w.alloc o1).alloc o2).drewN n) B d' xs' := fun o1 o2 n => Sl.drewN (hs.below (((Below.refl _ _).alloc hB _).alloc (by simp; omega) _)) n
  unfold Ev.val
  go_enter Try.func36, Try.ntmps36
  go_wp2
  go_quiet ((go_at_call 29; exact Calls.quiet_of_same ((get_any xs' d' B e.o _ (hsl _ _ _)).mono fun _ _ ⟨h1, h2⟩ => ⟨h1, h2.symm⟩)))
  go_wp2
  go_ret
  exact ⟨rfl, Bel.drewN (Bel.grew (Bel.grew (Below.refl _ _) _) _) _⟩

set_option maxHeartbeats 400000 in
theorem rbefore_any (e e' : Ev) (d d' : Value) (B : Nat) (xs' : List Int) (w : World) (hs : Sl .i64 w B d' xs') (hB : B ≤ w.heap.size) :
    Calls Try.prog 39 #[e.val d, e'.val d'] w
      fun r w' => r = .returned (.bool (bef e.s e.o xs')) ∧ Below w.heap.size w w' := by
  have hsl : ∀ o1 o2 n, Sl .i64 (((w.alloc o1).alloc o2).drewN n) B d' xs' := fun o1 o2 n => Sl.drewN (hs.below (((Below.refl _ _).alloc hB _).alloc (by simp; omega) _)) n
  unfold Ev.val
  go_enter Try.func39, Try.ntmps39
  go_wp2
  go_quiet ((go_at_call 30; exact Calls.quiet_of_same ((rget_any xs' d' B e.o _ (hsl _ _ _)).mono fun _ _ ⟨h1, h2⟩ => ⟨h1, h2.symm⟩)))
  go_wp2
  go_ret
  exact ⟨rfl, Bel.drewN (Bel.grew (Bel.grew (Below.refl _ _) _) _) _⟩
end Go.Proofs.Ytbfnlaemlflmpaa
