/- The walk of ConflictVoids: it returns true. -/
import Derived.Test.YtbfnlaemlflmpaaConf7
set_option linter.unusedVariables false
set_option linter.unusedSimpArgs false
namespace Go.Proofs.Ytbfnlaemlflmpaa
open Go.RowKit Go.BigFrame

theorem voids_is {k p : Int} {fl : Bool} {mv : Value} {e e' : Ev} {d d' : Value} {B : Nat} {xs xs' : List Int} {b : Bool} (h : vd k p e e' xs xs' = b) (w : World) (hs : Sl .i64 w B d xs) (hs' : Sl .i64 w B d' xs') (hB : B ≤ w.heap.size) :
    Calls Try.prog 16 #[fdV k p fl mv, e.val d, e'.val d'] w
      fun r w' => r = .returned (.bool b) ∧ Below w.heap.size w w' := h ▸ voids_any k p fl mv e e' d d' B xs xs' w hs hs' hB
theorem apart_is {e e' : Ev} {d d' : Value} {B : Nat} {xs xs' : List Int} {b : Bool} (h : apt e e' xs xs' = b) (w : World) (hs : Sl .i64 w B d xs) (hs' : Sl .i64 w B d' xs') (hB : B ≤ w.heap.size) :
    Calls Try.prog 18 #[e.val d, e'.val d'] w
      fun r w' => r = .returned (.bool b) ∧ Below w.heap.size w w' := h ▸ apart_any e e' d d' B xs xs' w hs hs' hB

theorem apt_swap (e e' : Ev) (xs xs' : List Int) : apt e' e xs' xs = apt e e' xs xs' := by
  unfold apt
  have h1 : (e'.o == e.o && e'.s == e.s) = (e.o == e'.o && e.s == e'.s) := by rw [Bool.eq_iff_iff]; simp; omega
  rw [h1]
  cases (e.o == e'.o && e.s == e'.s) <;> cases bef e.s e.o xs' <;> cases bef e'.s e'.o xs <;> rfl

/-- What the answers of Voids have to do with one another. -/
structure VoidsSay (k : Int) (e e' : Ev) (xs xs' : List Int) (g p l m : Bool) : Prop where
  ap : apt e e' xs xs' = p
  ag : agn k e.op e.arg e'.op e'.arg = g
  last : vd k 1 e e' xs xs' = false
  one : vd k 2 e e' xs xs' = (p && g)
  two : vd k 2 e' e xs' xs = (p && g)
  x : vd k 3 e e' xs xs' = (p && g && m)
  y : vd k 3 e' e xs' xs = (p && g && l)
  reg : k = 2 → (p && g) = true → (l || m) = true

theorem voids_say (k : Int) (e e' : Ev) (xs xs' : List Int) : VoidsSay k e e' xs xs' (agn k e.op e.arg e'.op e'.arg) (apt e e' xs xs') (decide (e.arg < e'.arg)) (decide (e'.arg < e.arg)) where
  ap := rfl
  ag := rfl
  last := by simp [vd]
  one := by simp [vd, Bool.and_comm]
  two := by simp [vd, agn_swap, apt_swap, Bool.and_comm]
  x := by simp [vd]; cases decide (e'.arg < e.arg) <;> simp [Bool.and_comm]
  y := by simp [vd, agn_swap, apt_swap]; cases decide (e.arg < e'.arg) <;> simp [Bool.and_comm]
  reg := by
    intro hk h
    subst hk
    simp [agn] at h
    simp
    omega

set_option maxHeartbeats 4000000 in
/-- Where they are not both so. -/
theorem conflictVoids_of (k : Int) (e e' : Ev) (d d' : Value) (xs xs' : List Int) (g p l m : Bool) (w : World) (hs : Sl .i64 w w.heap.size d xs) (hs' : Sl .i64 w w.heap.size d' xs') (H : VoidsSay k e e' xs xs' g p l m)
    (hl1 : xs.length ≤ 100) (hl2 : xs'.length ≤ 100)
    (hF : (g = false ∧ p = false) ∨ (g = false ∧ p = true) ∨ (g = true ∧ p = false) ∨ (g = true ∧ p = true ∧ m = true ∧ l = false ∧ e'.arg < e.arg) ∨
      (g = true ∧ p = true ∧ m = false ∧ l = true ∧ e.arg ≤ e'.arg) ∨ (g = true ∧ p = true ∧ m = false ∧ l = false ∧ e.arg ≤ e'.arg ∧ (k < 2 ∨ 2 < k))) :
    Calls Try.prog 5 #[.int .i64 k, e.val d, e'.val d'] w
      fun r w' => r = .returned (.bool true) ∧ Below w.heap.size w w' := by
  obtain ⟨A, c, rfl⟩ := hs.shape
  obtain ⟨A', c', rfl⟩ := hs'.shape
  have HS := Lib.hid hs
  have HS' := Lib.hid hs'
  clear hs hs'
  have b2 : ∀ o1 o2, Below w.heap.size w ((w.alloc o1).alloc o2) := fun o1 o2 => Bel.grew (Bel.grew (Below.refl _ _) _) _
  have b3 : ∀ (W : World) o1 o2 o3, Below w.heap.size w W → Below w.heap.size w (((W.alloc o1).alloc o2).alloc o3) := fun W o1 o2 o3 h => Bel.grew (Bel.grew (Bel.grew h _) _) _
  have H1 := Lib.hid H
  clear H
  rcases hF with ⟨rfl, rfl⟩ | ⟨rfl, rfl⟩ | ⟨rfl, rfl⟩ | ⟨rfl, rfl, rfl, rfl, hF⟩ | ⟨rfl, rfl, rfl, rfl, hF⟩ | ⟨rfl, rfl, rfl, rfl, hF, hk | hk⟩
  all_goals
    go_enter Try.func5, Try.ntmps5
    go_wp2_with fail
    refine (apart_is H1.out.ap _ (HS.out.below (b2 _ _)) (HS'.out.below (b2 _ _)) (by simp; omega)).mono ?_
    rintro r w1 ⟨rfl, hb1⟩
    have c1 := (b2 _ _).trans (hb1.mono (by simp; omega))
    have S1 := (((Hass.nil_ w).new _ _).new _ _).later hb1
    simp only [World.size_alloc] at S1
    clear hb1
    have S1' := Lib.hid S1
    obtain ⟨⟨n0, a0⟩, ⟨n1, a1⟩, _⟩ := S1
    dsimp only at n0 a0 n1 a1
    go_wp2_with fail
    refine (against_is H1.out.ag _).mono ?_
    rintro r w2 ⟨rfl, hb2⟩
    have c2 := Bel.then c1 hb2
    have S2 := S1'.out.later hb2
    clear hb2 a0 a1 n0 n1 S1' c1
    have S2' := Lib.hid S2
    obtain ⟨⟨n0, a0⟩, ⟨n1, a1⟩, _⟩ := S2
    dsimp only at n0 a0 n1 a1
    have p0 : w.heap.size < w2.heap.size + 1 := by omega
    have p1 : w.heap.size < w2.heap.size + 1 + 1 := by omega
    have p2 : w.heap.size + 1 < w2.heap.size + 1 := by omega
    have p3 : w.heap.size + 1 < w2.heap.size + 1 + 1 := by omega
    have p4 : w.heap.size ≤ w2.heap.size := by omega
    have p5 : w.heap.size ≤ w2.heap.size + 1 := by omega
    go_wp2_with fail
    clear p0 p1 p2 p3 p4 p5
    refine (voids_is H1.out.last _ (HS.out.below (b3 _ _ _ _ c2)) (HS'.out.below (b3 _ _ _ _ c2)) (b3 _ _ _ _ c2).size).mono ?_
    rintro r w3 ⟨rfl, hb3⟩
    have c3 := Bel.then (b3 _ _ _ _ c2) hb3
    have S3 := (((S2'.out.new _ _).new _ _).new _ _).later hb3
    simp only [World.size_alloc] at S3
    clear hb3 a0 a1 n0 n1 S2' c2
    have S3' := Lib.hid S3
    obtain ⟨⟨n2, a2⟩, ⟨n3, a3⟩, ⟨n4, a4⟩, ⟨n0, a0⟩, ⟨n1, a1⟩, _⟩ := S3
    dsimp only at n0 a0 n1 a1 n2 a2 n3 a3 n4 a4
    go_wp2_with fail
    refine (voids_is H1.out.one _ (HS.out.below c3) (HS'.out.below c3) c3.size).mono ?_
    rintro r w4 ⟨rfl, hb4⟩
    have c4 := Bel.then c3 hb4
    have S4 := S3'.out.later hb4
    clear hb4 a0 a1 a2 a3 a4 n0 n1 n2 n3 n4 S3' c3
    have S4' := Lib.hid S4
    obtain ⟨⟨n2, a2⟩, ⟨n3, a3⟩, ⟨n4, a4⟩, ⟨n0, a0⟩, ⟨n1, a1⟩, _⟩ := S4
    dsimp only at n0 a0 n1 a1 n2 a2 n3 a3 n4 a4
    go_wp2_with fail
    refine (voids_is H1.out.two _ (HS'.out.below c4) (HS.out.below c4) c4.size).mono ?_
    rintro r w5 ⟨rfl, hb5⟩
    have c5 := Bel.then c4 hb5
    have S5 := S4'.out.later hb5
    clear hb5 a0 a1 a2 a3 a4 n0 n1 n2 n3 n4 S4' c4
    have S5' := Lib.hid S5
    obtain ⟨⟨n2, a2⟩, ⟨n3, a3⟩, ⟨n4, a4⟩, ⟨n0, a0⟩, ⟨n1, a1⟩, _⟩ := S5
    dsimp only at n0 a0 n1 a1 n2 a2 n3 a3 n4 a4
    go_wp2_with fail
    refine (voids_is H1.out.x _ (HS.out.below c5) (HS'.out.below c5) c5.size).mono ?_
    rintro r w6 ⟨rfl, hb6⟩
    have c6 := Bel.then c5 hb6
    have S6 := S5'.out.later hb6
    clear hb6 a0 a1 a2 a3 a4 n0 n1 n2 n3 n4 S5' c5
    have S6' := Lib.hid S6
    obtain ⟨⟨n2, a2⟩, ⟨n3, a3⟩, ⟨n4, a4⟩, ⟨n0, a0⟩, ⟨n1, a1⟩, _⟩ := S6
    dsimp only at n0 a0 n1 a1 n2 a2 n3 a3 n4 a4
    go_wp2_with fail
    refine (voids_is H1.out.y _ (HS'.out.below c6) (HS.out.below c6) c6.size).mono ?_
    rintro r w7 ⟨rfl, hb7⟩
    have c7 := Bel.then c6 hb7
    have S7 := S6'.out.later hb7
    clear hb7 a0 a1 a2 a3 a4 n0 n1 n2 n3 n4 S6' c6
    obtain ⟨⟨n2, a2⟩, ⟨n3, a3⟩, ⟨n4, a4⟩, ⟨n0, a0⟩, ⟨n1, a1⟩, _⟩ := S7
    dsimp only at n0 a0 n1 a1 n2 a2 n3 a3 n4 a4
    go_wp2_with fail
    all_goals
      refine (works12_any _).mono ?_
      rintro r w8 ⟨rfl, hb8⟩
      go_wp2_with fail
      go_ret
      refine ⟨?_, Bel.then c7 hb8⟩
      first | rfl | (refine congrArg (fun z => Ending.returned (.bool z)) ?_; simp; omega)

set_option maxHeartbeats 400000 in
theorem conflictVoids_any (k : Int) (e e' : Ev) (d d' : Value) (xs xs' : List Int) (w : World) (hs : Sl .i64 w w.heap.size d xs) (hs' : Sl .i64 w w.heap.size d' xs') :
    Calls Try.prog 5 #[.int .i64 k, e.val d, e'.val d'] w
      fun r w' => r = .returned (.bool true) ∧ Below w.heap.size w w' := by
  by_cases hl : 100 < xs.length ∨ 100 < xs'.length
  · obtain ⟨A, c, rfl⟩ := hs.shape
    obtain ⟨A', c', rfl⟩ := hs'.shape
    clear hs hs'
    go_enter Try.func5, Try.ntmps5
    go_wp2_with (go_at_call 13; refine (works12_any _).mono ?_; rintro r w1 ⟨rfl, hb1⟩)
    all_goals
      first
        | (go_ret; exact ⟨rfl, Bel.then (Bel.grew (Bel.grew (Below.refl _ _) _) _) hb1⟩)
        | (exfalso; omega)
  · refine conflictVoids_of k e e' d d' xs xs' _ _ _ _ w hs hs' (voids_say k e e' xs xs') (by omega) (by omega) ?_
    have hreg := (voids_say k e e' xs xs').reg
    generalize agn k e.op e.arg e'.op e'.arg = g at *
    generalize apt e e' xs xs' = p at *
    cases g <;> cases p <;> simp at hreg ⊢
    by_cases h1 : e'.arg < e.arg
    · exact .inl ⟨h1, by omega, h1⟩
    · by_cases h2 : e.arg < e'.arg
      · exact .inr (.inl ⟨by omega, h2, by omega⟩)
      · exact .inr (.inr ⟨by omega, by omega, by omega, by rcases Int.lt_trichotomy k 2 with h | h | h <;> first | omega | (have := hreg h; omega)⟩)
end Go.Proofs.Ytbfnlaemlflmpaa
