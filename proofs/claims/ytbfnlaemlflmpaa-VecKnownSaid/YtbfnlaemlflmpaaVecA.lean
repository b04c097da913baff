/- The walk of VecTells: it returns true. -/
import Derived.Test.YtbfnlaemlflmpaaVec6
set_option linter.unusedVariables false
set_option linter.unusedSimpArgs false
namespace Go.Proofs.Ytbfnlaemlflmpaa
open Go.RowKit Go.BigFrame

theorem Own.later {w w' : World} {B : Nat} {v : Value} {xs : List Int} (h : Own w B v xs) (hb : Below w.heap.size w w') : Own w' B v xs := by
  refine ⟨h.1, ?_⟩
  rcases h.2 with h2 | ⟨g, cap, cur, hv, hg, hh, r⟩
  · exact .inl h2
  · have hlt : g < w.heap.size := by
      rcases Nat.lt_or_ge g w.heap.size with hlt | hge
      · exact hlt
      · rw [Array.getElem?_eq_none hge] at hh; cases hh
    exact .inr ⟨g, cap, cur, hv, hg, (hb.block g hlt).trans hh, r⟩
theorem rjoin_is {xs ys : List Int} {v u : Value} {w : World} (hx : Sl .i64 w w.heap.size v xs) (hy : Sl .i64 w w.heap.size u ys) (hl : xs.length ≤ 1099511627776) (hl' : ys.length ≤ 1099511627776) :
    Calls Try.prog 26 #[v, u] w fun e w' => ∃ r, e = .returned r ∧ Own w' w.heap.size r (joinV xs ys) ∧ Below w.heap.size w w' := rjoin_any xs ys v u _ w hx hy (Nat.le_refl _) hl hl'
theorem rcmp_is {xs ys : List Int} {v u : Value} {w : World} {c : Int} (hx : Sl .i64 w w.heap.size v xs) (hy : Sl .i64 w w.heap.size u ys) (hc : cmpV xs ys = c) (hl : xs.length ≤ 1099511627776) (hl' : ys.length ≤ 1099511627776) :
    Calls Try.prog 28 #[v, u] w fun e w' => e = .returned (.int .i64 c) ∧ w = w' := hc ▸ rcmp_any xs ys v u _ w hx hy hl hl'
theorem rget_is {xs : List Int} {v : Value} {w : World} {o x : Int} (hs : Sl .i64 w w.heap.size v xs) (hx : getV xs o = x) :
    Calls Try.prog 30 #[v, .int .i64 o] w fun e w' => e = .returned (.int .i64 x) ∧ w = w' := hx ▸ rget_any xs v _ o w hs
theorem rsum_is {xs : List Int} {v : Value} {w : World} {s : Int} {o : Bool} (hx : Sl .i64 w w.heap.size v xs) (hs : sumV xs = s) (ho : sumOk xs = o) (hl : xs.length ≤ 1099511627776) (hr : ∀ x ∈ xs, x ≤ 9223372036854775807) :
    Calls Try.prog 24 #[v] w fun e w' => e = .returned (.tuple #[.int .i64 s, .bool o]) ∧ w = w' := hs ▸ ho ▸ rsum_any xs v _ w hx hl hr
theorem Own.lent {w : World} {B : Nat} {v : Value} {xs : List Int} (h : Own w B v (xs ++ marksI)) : ∃ g cap, v = .slice (some ⟨g, 0, none⟩) (xs.length + 5) cap ∧ xs.length + 5 ≤ cap := by
  have hl : (xs ++ marksI).length = xs.length + 5 := by simp [marksI]
  rcases h.2 with ⟨_, h2⟩ | ⟨g, cap, cur, hv, hg, hh, hc, _⟩
  · rw [hl] at h2; omega
  · rw [hl] at hv hc
    exact ⟨g, cap, hv, hc⟩

set_option maxRecDepth 100000 in
set_option maxHeartbeats 4000000 in
theorem vecTells_of (a b : List Int) (at_ s c e : Int) (o : Bool) (va vb : Value) (w : World) (ha : Sl .i64 w w.heap.size va a) (hb : Sl .i64 w w.heap.size vb b) (la : a.length ≤ 200) (lb : b.length ≤ 200) (ra : ∀ n ∈ a, n ≤ 9223372036854775807)
    (hs : sumV a = s) (ho : sumOk a = o) (hc : cmpV a b = c) (he : getV a at_ = e) :
    Calls Try.prog 7 #[va, vb, .int .i64 at_] w fun r w' => r = .returned (.bool true) ∧ Below w.heap.size w w' := by
  obtain ⟨A, ca, rfl⟩ := ha.shape
  obtain ⟨B, cb, rfl⟩ := hb.shape
  have HA := Lib.hid ha
  have HB := Lib.hid hb
  have RA := Lib.hid ra
  have HS := Lib.hid hs
  have HO := Lib.hid ho
  have HC := Lib.hid hc
  have HE := Lib.hid he
  clear ha hb ra hs ho hc he
  go_enter Try.func7, Try.ntmps7
  go_wp2_with fail
  refine (lentInts_any a _ _ _ HA.out (Nat.le_refl _) (by omega)).mono ?_
  rintro r w1 ⟨vx, rfl, ox, hb1⟩
  have HA1 := Lib.hid (HA.out.later hb1)
  have HB1 := Lib.hid (HB.out.later hb1)
  obtain ⟨gx, cx, rfl, hcx⟩ := ox.lent
  have OX := Lib.hid ox
  have G1 := Lib.hid hb1
  clear ox hb1
  go_wp2_with fail
  refine (lentInts_any b _ _ _ HB1.out (Nat.le_refl _) (by omega)).mono ?_
  rintro r w2 ⟨vy, rfl, oy, hb2⟩
  have HA2 := Lib.hid (HA1.out.later hb2)
  have HB2 := Lib.hid (HB1.out.later hb2)
  have SX := Lib.hid (OX.out.sl.later hb2)
  obtain ⟨gy, cy, rfl, hcy⟩ := oy.lent
  have SY := Lib.hid oy.sl
  have G2 := Lib.hid (Bel.then G1.out hb2)
  have lx : (a ++ marksI).length = a.length + 5 := by simp [marksI]
  have ly : (b ++ marksI).length = b.length + 5 := by simp [marksI]
  have SXA : Hid (Sl .i64 w2 w2.heap.size (.slice (some ⟨gx, 0, none⟩) a.length cx) a) := by
    have h := SX.out.cut (m := a.length) (by omega)
    rwa [List.take_left] at h
  have SYB : Hid (Sl .i64 w2 w2.heap.size (.slice (some ⟨gy, 0, none⟩) b.length cy) b) := by
    have h := SY.out.cut (m := b.length) (by omega)
    rwa [List.take_left] at h
  have i1 : (a.length : Int) ≤ (cx : Int) := by omega
  have i2 : (b.length : Int) ≤ (cy : Int) := by omega
  clear oy hb2 HA1 HB1 OX G1 lx ly
  go_wp2_with fail
  go_region_with (go_at_call 22; refine (join_is (SXA.out.later (Below.drew (Below.refl _ _))) (SYB.out.later (Below.drew (Below.refl _ _))) rfl (by omega) (by omega)).mono ?_; rintro r w3 ⟨j, rfl, oj, hb3⟩)
  have hb3' : Below w2.heap.size w2 w3 := Bel.then (Below.drew (Below.refl _ _)) hb3
  have HA3 := Lib.hid (HA2.out.later hb3')
  have HB3 := Lib.hid (HB2.out.later hb3')
  have SX3 := Lib.hid (SX.out.later hb3')
  have SY3 := Lib.hid (SY.out.later hb3')
  have SXA3 := Lib.hid (SXA.out.later hb3')
  have SYB3 := Lib.hid (SYB.out.later hb3')
  have OJ : Hid (Own w3 w2.heap.size j (joinV a b)) := oj
  have B3 := Lib.hid hb3'
  clear oj hb3 hb3' HA2 HB2
  go_wp2_with fail
  refine (sum_is SXA3.out HS.out HO.out (by omega) RA.out).mono ?_
  rintro r w' ⟨rfl, rfl⟩
  go_wp2_with fail
  refine (rsum_is HA3.out HS.out HO.out (by omega) RA.out).mono ?_
  rintro r w' ⟨rfl, rfl⟩
  go_wp2_with fail
  have d3 : Below w3.heap.size w3 w3.drew := Below.drew (Below.refl _ _)
  have D3 := Lib.hid d3
  have hlj : (joinV a b).length ≤ 1099511627776 := by rw [joinV_length]; omega
  clear d3
  go_region_held3 (fun _ => True) (trivial) (first
    | (go_at_call 26; refine (rjoin_is (HA3.out.later D3.out) (HB3.out.later D3.out) (by omega) (by omega)).mono ?_; rintro r w4 ⟨j', rfl, oj', hb4⟩; have OJ' := Lib.hid oj'.sl; have G4 := Lib.hid (Bel.then D3.out hb4); clear oj' hb4)
    | (go_at_call 25; refine (same_is (OJ.out.sl.later G4.out) OJ'.out (decide_eq_true rfl) hlj).mono ?_; rintro r w5 ⟨rfl, hb5⟩; have G5 := Lib.hid (Bel.then G4.out hb5); clear hb5)
    | (go_at_call 27; refine (cmp_is (SXA3.out.later G5.out) (SYB3.out.later G5.out) HC.out (by omega) (by omega)).mono ?_; rintro r w' ⟨rfl, rfl⟩)
    | (go_at_call 28; refine (rcmp_is (HA3.out.later G5.out) (HB3.out.later G5.out) HC.out (by omega) (by omega)).mono ?_; rintro r w' ⟨rfl, rfl⟩)
    | (go_at_call 29; refine (get_is (HA3.out.later G5.out) HE.out).mono ?_; rintro r w' ⟨rfl, rfl⟩)
    | (go_at_call 30; refine (rget_is (HA3.out.later G5.out) HE.out).mono ?_; rintro r w' ⟨rfl, rfl⟩))
  go_wp2_with fail
  refine (spoilInts_any (joinV a b) j w2.heap.size _ (OJ.out.later G5.out) hlj).mono ?_
  rintro r w6 ⟨rfl, hb6⟩
  have c6 : Below w2.heap.size w2 w6 := (B3.out.trans (G5.out.mono B3.out.size)).trans hb6
  have C6 := Lib.hid c6
  have HA6 := Lib.hid ((HA.out.later (G2.out)).below c6)
  have HB6 := Lib.hid ((HB.out.later (G2.out)).below c6)
  have SX6 := Lib.hid (SX.out.below c6)
  have SY6 := Lib.hid (SY.out.below c6)
  have hB6 := c6.size
  clear hb6 c6
  go_wp2_with fail
  refine (keptInts_any a _ _ _ _ SX6.out HA6.out hB6 (by omega)).mono ?_
  rintro r w7 ⟨rfl, hb7⟩
  have SY7 := Lib.hid (SY6.out.below (hb7.mono hB6))
  have HB7 := Lib.hid (HB6.out.below (hb7.mono hB6))
  have hB7 : w2.heap.size ≤ w7.heap.size := Nat.le_trans hB6 hb7.size
  have G7 := Lib.hid (Bel.then (Bel.then G2.out C6.out) hb7)
  clear hb7
  go_wp2_with fail
  refine (keptInts_any b _ _ _ _ SY7.out HB7.out hB7 (by omega)).mono ?_
  rintro r w8 ⟨rfl, hb8⟩
  go_wp2_with fail
  refine (works04_any _).mono ?_
  rintro r w9 ⟨rfl, hb9⟩
  go_wp2_with fail
  go_ret
  exact ⟨rfl, Bel.then (Bel.then G7.out hb8) hb9⟩

theorem vecTells_any (a b : List Int) (at_ : Int) (va vb : Value) (w : World) (ha : Sl .i64 w w.heap.size va a) (hb : Sl .i64 w w.heap.size vb b) (ra : ∀ n ∈ a, n ≤ 9223372036854775807) :
    Calls Try.prog 7 #[va, vb, .int .i64 at_] w fun r w' => r = .returned (.bool true) ∧ Below w.heap.size w w' := by
  by_cases hl : a.length ≤ 200 ∧ b.length ≤ 200
  · exact vecTells_of a b at_ _ _ _ _ va vb w ha hb hl.1 hl.2 ra rfl rfl rfl rfl
  · obtain ⟨A, ca, rfl⟩ := ha.shape
    obtain ⟨B, cb, rfl⟩ := hb.shape
    have hl' : 200 < a.length ∨ (a.length ≤ 200 ∧ 200 < b.length) := by omega
    clear ha hb hl
    rcases hl' with h1 | ⟨h1, h2⟩
    all_goals
      go_enter Try.func7, Try.ntmps7
      go_wp2_with fail
      refine (works04_any _).mono ?_
      rintro r w9 ⟨rfl, hb9⟩
      go_wp2_with fail
      go_ret
      exact ⟨rfl, hb9⟩
end Go.Proofs.Ytbfnlaemlflmpaa
