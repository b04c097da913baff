/- CommandKnown: the walk. -/
import Derived.Test.YtjjccjannandlaaDoorMzShop
import Derived.Test.YtjjccjannandlaaDoorMzSChkLaw
import Derived.Test.YtjjccjannandlaaDoorMzCBack
import Derived.Test.YtjjccjannandlaaDoorMzCNext3
import Derived.Test.YtjjccjannandlaaDoorMzCReads
import Derived.StillTailTactics
set_option maxRecDepth 100000
set_option maxRecDepth 100000
set_option maxRecDepth 100000
set_option linter.unusedVariables false
set_option linter.unusedSimpArgs false
namespace Go.Proofs.YtjjccjannandlaaDoor
open Go.RowKit Go.BigFrame

def nL : List Int := [-9223372036854775808, -2, -1, 0, 1, 2, 3, 5, 6, 63, 64, 1099511627776, 9223372036854775807]
abbrev nC : Array Value := #[.int .i64 (-9223372036854775808), .int .i64 (-2), .int .i64 (-1), .int .i64 0, .int .i64 1, .int .i64 2, .int .i64 3, .int .i64 5, .int .i64 6, .int .i64 63, .int .i64 64, .int .i64 1099511627776, .int .i64 9223372036854775807]
theorem nL_at {k : Nat} (h : k < 13) : ∃ x, nC[k]? = some (.int .i64 x) ∧ -9223372036854775808 ≤ x ∧ x ≤ 9223372036854775807 := by
  rcases (show k = 0 ∨ k = 1 ∨ k = 2 ∨ k = 3 ∨ k = 4 ∨ k = 5 ∨ k = 6 ∨ k = 7 ∨ k = 8 ∨ k = 9 ∨ k = 10 ∨ k = 11 ∨ k = 12 from by omega) with rfl | rfl | rfl | rfl | rfl | rfl | rfl | rfl | rfl | rfl | rfl | rfl | rfl
  all_goals exact ⟨_, rfl, by decide, by decide⟩
/-- The command that is asked: one field of it is x. -/
def knB : Nat → Int
  | 2 => 3
  | 3 => 5
  | 4 => 1
  | 5 => -1
  | _ => 0
def knV (q : Nat) (x : Int) (o : Nat) : Int := if o = q then x else knB o
abbrev ptr7 (b : Nat) : Array Value := #[.pointer (some ⟨b, 0, none⟩), .pointer (some ⟨b, 1, none⟩), .pointer (some ⟨b, 2, none⟩), .pointer (some ⟨b, 3, none⟩), .pointer (some ⟨b, 4, none⟩), .pointer (some ⟨b, 5, none⟩), .pointer (some ⟨b, 6, none⟩)]
theorem ptr7_at {b q : Nat} (h : q < 7) : (ptr7 b)[q]? = some (.pointer (some ⟨b, q, none⟩)) := by
  rcases (show q = 0 ∨ q = 1 ∨ q = 2 ∨ q = 3 ∨ q = 4 ∨ q = 5 ∨ q = 6 from by omega) with rfl | rfl | rfl | rfl | rfl | rfl | rfl <;> rfl
theorem Has.set {w : World} {b : Nat} {cs : Array Value} (h : Has w b cs) {o : Nat} (ho : o < cs.size) (v : Value) : Has (w.setCell ⟨b, o, none⟩ v) b (cs.setIfInBounds o v) := by
  refine ⟨by have := h.1; simpa [World.setCell] using this, fun i => ?_⟩
  by_cases he : i = o
  · subst he
    rw [World.cell?_setCell_same w _ _ ((h.2 i).trans (Array.getElem?_eq_getElem ho))]
    simp [ho]
  · rw [World.cell?_setCell_other w ⟨b, o, none⟩ ⟨b, i, none⟩ _ (by simp [he]), h.2 i]
    simp [Array.getElem?_setIfInBounds, Ne.symm he]
theorem knV_set {w : World} {b q : Nat} {x : Int} (hq : q < 7) (h : Has w b (cells7 knB)) : Has (w.setCell ⟨b, q, none⟩ (.int .i64 x)) b (cells7 (knV q x)) := by
  have := Has.set h (o := q) hq (.int .i64 x)
  rcases (show q = 0 ∨ q = 1 ∨ q = 2 ∨ q = 3 ∨ q = 4 ∨ q = 5 ∨ q = 6 from by omega) with rfl | rfl | rfl | rfl | rfl | rfl | rfl <;> exact this
theorem knV_64 {q : Nat} {x : Int} (h0 : -9223372036854775808 ≤ x) (h1 : x ≤ 9223372036854775807) : V64 (knV q x) := by
  intro i hi
  unfold knV
  split
  · exact ⟨h0, h1⟩
  · rcases (show i = 0 ∨ i = 1 ∨ i = 2 ∨ i = 3 ∨ i = 4 ∨ i = 5 ∨ i = 6 from by omega) with rfl | rfl | rfl | rfl | rfl | rfl | rfl <;> exact ⟨by decide, by decide⟩
theorem kn_checks (D : Dc) (tv pv : Value) (h1 : D.tv = tv) (h2 : D.pv = pv) (v : Nat → Int) (o lam : Int) (xs : List Int) (x : Value) (w : World) (hD : D.In w w.heap.size) (hT : Tab w) (hx : Sl .i64 w w.heap.size x xs) (hr : ∀ n ∈ xs, n ≤ 9223372036854775807) (hlm : lam ≤ 9223372036854775807) :
    Calls Tryd.prog 3 #[.agg #[tv, pv], cmdV v, .int .i64 o, x, .int .i64 lam] w fun r w' => r = .returned (.bool true) ∧ Below w.heap.size w w' := by
  subst h1 h2
  exact commandChecks_any D v o lam xs x w hD hT hx hr hlm
theorem kn_fits (D : Dc) (tv pv : Value) (h1 : D.tv = tv) (h2 : D.pv = pv) (v : Nat → Int) (a k e : Int) (w : World) (hD : D.In w w.heap.size) (hT : Tab w) :
    Calls Tryd.prog 4 #[.agg #[tv, pv], cmdV v, .int .i64 a, .int .i64 k, .int .i64 e] w fun r w' => r = .returned (.bool true) ∧ Below w.heap.size w w' := by
  subst h1 h2
  exact commandFits_any D v a k e w hD hT
/-- A command's bytes, and their beginning. -/
def PutQ (q : Nat) (w : World) (e : Ending) (w' : World) : Prop := ∃ (A : Option Addr) (n c : Nat) (A5 : Option Addr) (c5 : Nat) (PL : List Int), e = .returned (.slice A n c) ∧
  (∀ W, (Instr.sliceAt 51 (.slice A n c) none (some (.int .i64 (q : Int))) none).run Tryd.prog W = .ok (.slice A5 q c5) W) ∧ Sl .u8 w' w'.heap.size (.slice A n c) PL ∧ Sl .u8 w' w'.heap.size (.slice A5 q c5) (PL.take q) ∧ Bytes PL ∧ Below w.heap.size w w'
theorem kn_put (v : Nat → Int) (h64 : V64 v) {q : Nat} (hq : q < 7) (w : World) : Calls Tryd.prog 20 #[cmdV v] w fun e w' => PutQ q w e w' :=
  (cPut_any v w h64).mono fun e w' ⟨r, he, ho, hb⟩ => by
    have hpl7 : 7 ≤ (encs (firstN v 7)).length := by have := encs_pos (l := firstN v 7); rw [firstN_length] at this; omega
    have hsl := ho.sl
    obtain ⟨A, c, hr⟩ := hsl.shape
    subst hr
    obtain ⟨A5, c5, he5⟩ := sliced_shape A 0 q c
    rw [Nat.sub_zero] at he5
    have hcap := hsl.cap'
    have hcut := fun W => run_upto A (encs (firstN v 7)).length c q (by omega) W
    rw [he5] at hcut
    have h5 := hsl.upto_ (a := q) (by omega)
    rw [he5] at h5
    exact ⟨A, _, c, A5, c5, encs (firstN v 7), he, hcut, hsl, h5, encs_byte (firstN_64 h64 (Nat.le_refl 7)), hb⟩
/-- What stays through the rounds. -/
def KnSt (w : World) (nb db : Nat) (D : Dc) : Prop := Has w nb nC ∧ Has w db #[D.tv, D.pv] ∧ D.In w w.heap.size ∧ Tab w
theorem KnSt.later {w w' : World} {nb db : Nat} {D : Dc} (h : KnSt w nb db D) (hb : Below w.heap.size w w') : KnSt w' nb db D := ⟨h.1.later hb, h.2.1.later hb, h.2.2.1.later hb, h.2.2.2.later hb⟩

set_option maxHeartbeats 16000000 in
theorem commandKnown_any (w : World) (hT : Tab w) : Calls Tryd.prog 5 #[] w fun r w' => r = .returned (.bool true) ∧ Below w.heap.size w w' := by
  have hgr : Below w.heap.size w (w.alloc (.cells nC 3)) := Bel.grew (Below.refl _ _) _
  have HN0 := Lib.hid (Has.new w nC 3)
  have HT0 := Lib.hid (hT.later hgr)
  have HB0 := Lib.hid hgr
  clear hgr hT
  go_enter Tryd.func5, Tryd.ntmps5
  go_wp2_with fail
  refine (shop_any _).mono ?_
  rintro e1 w1 ⟨tv, pv, fv, mv, rfl, hD, hb⟩
  obtain ⟨A, c, h1⟩ := hD.1.shapeL
  obtain ⟨A', c', h2⟩ := hD.2.2.shapeL
  have h1' : tv = .slice A 1 c := h1
  have h2' : pv = .slice A' 3 c' := h2
  clear h1 h2
  subst h1' h2'
  obtain ⟨D, hDe⟩ : ∃ D, D = shopD (.slice A 1 c) (.slice A' 3 c') fv mv := ⟨_, rfl⟩
  obtain ⟨W, hW⟩ : ∃ W, W = w1.alloc (.cells #[.slice A 1 c, .slice A' 3 c'] 25) := ⟨_, rfl⟩
  have hgr : Below w1.heap.size w1 W := by rw [hW]; exact Bel.grew (Below.refl _ _) _
  have hDn := Has.new w1 #[.slice A 1 c, .slice A' 3 c'] 25
  rw [← hW] at hDn
  have HS : Hid (KnSt W w.heap.size w1.heap.size D) := by
    subst hDe
    exact Lib.hid ⟨(HN0.out.later hb).later hgr, hDn, hD.later hgr, (HT0.out.later hb).later hgr⟩
  have HDV : Hid (D.tv = .slice A 1 c ∧ D.pv = .slice A' 3 c') := by subst hDe; exact Lib.hid ⟨rfl, rfl⟩
  have HBW := Lib.hid (Bel.then (Bel.then HB0.out hb) hgr)
  have HW := Lib.hid hW
  clear hD hb hDe hW hgr hDn HT0 HN0 HB0
  dsimp only [shopD]
  go_wp2_with fail
  rw [← HW.out]
  clear HW
  go_loopw [3] (fun i wr => ∃ k : Nat, k ≤ 13 ∧ i = .int .i64 k ∧ Below W.heap.size W wr) (fun i _ => 13 - (intOf i).toNat)
  case atStart => exact ⟨0, Nat.zero_le _, rfl, Below.refl _ _⟩
  case round =>
    obtain ⟨k, hk, rfl, hb⟩ := hrel
    have HBk := Lib.hid hb
    clear hb
    by_cases hkl : k < 13
    · obtain ⟨W1, rfl⟩ : ∃ W1, W1 = wr := ⟨_, rfl⟩
      have hkI : (k : Int) < 13 := by omega
      go_wp2_with fail
      go_loopw [4] (fun i wr => ∃ q : Nat, q ≤ 7 ∧ i = .int .i64 q ∧ Below W1.heap.size W1 wr) (fun i _ => 7 - (intOf i).toNat)
      case atStart => exact ⟨0, Nat.zero_le _, rfl, Below.refl _ _⟩
      case round =>
        obtain ⟨q, hq, rfl, hb⟩ := hrel
        have HBq := Lib.hid (Bel.then HBk.out hb)
        have HB1 := Lib.hid hb
        clear hb
        by_cases hql : q < 7
        · have hqI : (q : Int) < 7 := by omega
          obtain ⟨x, hx, hx0, hx1⟩ := nL_at hkl
          obtain ⟨W3, hW3⟩ : ∃ W3, W3 = (wr.alloc (.cells #[.int .i64 0, .int .i64 0, .int .i64 3, .int .i64 5, .int .i64 1, .int .i64 (-1), .int .i64 0] 27)).alloc (.cells (ptr7 wr.heap.size) 48) := ⟨_, rfl⟩
          have hb3 : Below wr.heap.size wr W3 := by rw [hW3]; exact Bel.grew (Bel.grew (Below.refl _ _) _) _
          have hc3 : Has W3 wr.heap.size (cells7 knB) := by rw [hW3]; exact (Has.new wr (cells7 knB) _).grow _
          have hp3 : Has W3 (wr.heap.size + 1) (ptr7 wr.heap.size) := by rw [hW3]; exact Has.new1 _ _ _ (by simp)
          have hf3 : ∀ o, W3.frozen? ⟨wr.heap.size, o, none⟩ = false := by intro o; rw [hW3]; simp [go_sem]
          have HC3 := Lib.hid hc3
          have HF3 := Lib.hid hf3
          have HS3 := Lib.hid (HS.out.later (Bel.then HBq.out hb3))
          have HB3 := Lib.hid hb3
          have hpq : W3.cell? ⟨wr.heap.size + 1, q, none⟩ = some (.pointer (some ⟨wr.heap.size, q, none⟩)) := (hp3.2 q).trans (ptr7_at hql)
          have hnk : W3.cell? ⟨w.heap.size, k, none⟩ = some (.int .i64 x) := (HS3.out.1.2 k).trans hx
          have HX := Lib.hid hx
          have HX0 := Lib.hid hx0
          have HX1 := Lib.hid hx1
          have HW3 := Lib.hid hW3
          clear hb3 hc3 hp3 hf3 hW3 hx hx0 hx1
          go_wp2_with fail
          rw [← HW3.out]
          clear HW3
          go_still_tail 9, (by kernel_rfl)
          change wpList _ _ _ _ _ W3.drew
          obtain ⟨W4, h4⟩ : ∃ W4, W4 = W3.drew := ⟨_, rfl⟩
          rw [← h4]
          have hb34 : Below W3.heap.size W3 W4 := by rw [h4]; exact Below.drew (Below.refl _ _)
          have hc4 := HC3.out.later hb34
          have hcq : W4.cell? ⟨wr.heap.size, q, none⟩ = some (.int .i64 (knB q)) := by
            rw [hc4.2 q]
            rcases (show q = 0 ∨ q = 1 ∨ q = 2 ∨ q = 3 ∨ q = 4 ∨ q = 5 ∨ q = 6 from by omega) with rfl | rfl | rfl | rfl | rfl | rfl | rfl <;> rfl
          have hf4 : W4.frozen? ⟨wr.heap.size, q, none⟩ = false := by rw [h4]; exact HF3.out q
          have HC4 := Lib.hid hc4
          have HB34 := Lib.hid hb34
          have HS4 := Lib.hid (HS3.out.later hb34)
          have hnk4 : W4.cell? ⟨w.heap.size, k, none⟩ = some (.int .i64 x) := (HS4.out.1.2 k).trans HX.out
          have hne : w.heap.size ≠ wr.heap.size := by
            have h1 := HS.out.1.1
            have h2 := HBq.out.size
            omega
          have hne' : wr.heap.size ≠ w.heap.size := Ne.symm hne
          clear h4 hb34 hc4 hpq hnk
          go_upto_region 12 with fail
          obtain ⟨W5, hW5⟩ : ∃ W5, W5 = W4.setCell ⟨wr.heap.size, q, none⟩ (.int .i64 x) := ⟨_, rfl⟩
          have hb5 : Below wr.heap.size W4 W5 := by rw [hW5]; exact Below.setCell (p := ⟨wr.heap.size, q, none⟩) (Below.refl _ _) (Nat.le_refl _) _
          have hc5 : Has W5 wr.heap.size (cells7 (knV q x)) := by rw [hW5]; exact knV_set hql HC4.out
          rw [← hW5]
          have hsub : Below wr.heap.size wr W5 := ((HB3.out.trans (HB34.out.mono HB3.out.size)).trans hb5)
          have HS5 := Lib.hid (HS.out.later (Bel.then HBq.out hsub))
          have HB5 := Lib.hid (Bel.then HB1.out hsub)
          have HBW5 := Lib.hid (Bel.then HBq.out hsub)
          clear hW5 hb5 hsub hcq hf4 hnk4 hne hne'
          obtain ⟨m, hm⟩ : ∃ m, m = (k + q) % 13 := ⟨_, rfl⟩
          have hmI : ((k : Int) + (q : Int)).tmod 13 = (m : Int) := by rw [hm, Int.tmod_eq_emod_of_nonneg (by omega)]; omega
          have hml : m < 13 := by omega
          have hmL : (m : Int) < 13 := by omega
          have hqL : (q : Int) < 13 := by omega
          have hqL' : (0 : Int) ≤ (q : Int) := by omega
          have hmL' : (0 : Int) ≤ (m : Int) := by omega
          have hkL' : (0 : Int) ≤ (k : Int) := by omega
          have hwk : IntKind.i64.wrap ((k : Int) + (q : Int)) = (k : Int) + (q : Int) := IntWalk.i64_in _ (by omega)
          have hwq : IntKind.i64.wrap ((q : Int) - 2) = (q : Int) - 2 := IntWalk.i64_in _ (by omega)
          obtain ⟨z, hz, hz0, hz1⟩ := nL_at hml
          obtain ⟨y, hy, hy0, hy1⟩ := nL_at (show q < 13 by omega)
          have HY := Lib.hid hy
          have HZ := Lib.hid hz
          have HM := Lib.hid hm
          have HC5 := Lib.hid hc5
          have hnk : W5.cell? ⟨w.heap.size, k, none⟩ = some (.int .i64 x) := (HS5.out.1.2 k).trans HX.out
          have hnm : W5.cell? ⟨w.heap.size, m, none⟩ = some (.int .i64 z) := (HS5.out.1.2 m).trans hz
          have hnl := HS5.out.1.1
          have hd : ∀ o, W5.cell? ⟨w1.heap.size, o, none⟩ = #[Value.slice A 1 c, .slice A' 3 c'][o]? := fun o => by rw [HS5.out.2.1.2 o, HDV.out.1, HDV.out.2]
          have hdl := HS5.out.2.1.1
          have hcc := hc5.2
          have hcl := hc5.1
          clear hc5 hy hz hm hy0 hy1 hz0
          go_wp2_with fail
          obtain ⟨W6, hW6⟩ : ∃ W6, W6 = W5.alloc (.cells #[.int .i64 4, .int .i64 x, .int .i64 7] 3) := ⟨_, rfl⟩
          rw [← hW6]
          have hb6 : Below W5.heap.size W5 W6 := by rw [hW6]; exact Bel.grew (Below.refl _ _) _
          have HV6 : Hid (Sl .i64 W6 W6.heap.size (.slice (some ⟨W5.heap.size, 0, none⟩) 3 3) [4, x, 7]) := by rw [hW6]; exact Lib.hid (Sl.built W5 _ 3 [4, x, 7] 3 _ rfl rfl rfl)
          have HS6 := Lib.hid (HS5.out.later hb6)
          have HB6 := Lib.hid (Bel.then HB5.out hb6)
          have HC6 := Lib.hid (HC5.out.later hb6)
          have HZ1 := Lib.hid hz1
          have HV64 := Lib.hid (knV_64 (q := q) HX0.out HX1.out)
          have HVR : Hid (∀ n ∈ [4, x, 7], n ≤ 9223372036854775807) := Lib.hid fun n hn => by
            simp only [List.mem_cons, List.not_mem_nil, or_false] at hn
            rcases hn with rfl | rfl | rfl
            · decide
            · exact HX1.out
            · decide
          clear hnk hnm hnl hd hdl hcc hcl hW6 hb6 hz1
          have hnk : W6.cell? ⟨w.heap.size, k, none⟩ = some (.int .i64 x) := (HS6.out.1.2 k).trans HX.out
          have hnm : W6.cell? ⟨w.heap.size, m, none⟩ = some (.int .i64 z) := (HS6.out.1.2 m).trans HZ.out
          have hnq : W6.cell? ⟨w.heap.size, q, none⟩ = some (.int .i64 y) := (HS6.out.1.2 q).trans HY.out
          have hnl := HS6.out.1.1
          have hd0 : W6.cell? ⟨w1.heap.size, 0, none⟩ = some (.slice A 1 c) := by rw [HS6.out.2.1.2 0, HDV.out.1]; rfl
          have hd1 : W6.cell? ⟨w1.heap.size, 1, none⟩ = some (.slice A' 3 c') := by rw [HS6.out.2.1.2 1, HDV.out.2]; rfl
          have hdl := HS6.out.2.1.1
          have hc0 : W6.cell? ⟨wr.heap.size, 0, none⟩ = some (.int .i64 (knV q x 0)) := HC6.out.2 0
          have hc1 : W6.cell? ⟨wr.heap.size, 1, none⟩ = some (.int .i64 (knV q x 1)) := HC6.out.2 1
          have hc2 : W6.cell? ⟨wr.heap.size, 2, none⟩ = some (.int .i64 (knV q x 2)) := HC6.out.2 2
          have hc3 : W6.cell? ⟨wr.heap.size, 3, none⟩ = some (.int .i64 (knV q x 3)) := HC6.out.2 3
          have hc4 : W6.cell? ⟨wr.heap.size, 4, none⟩ = some (.int .i64 (knV q x 4)) := HC6.out.2 4
          have hc5 : W6.cell? ⟨wr.heap.size, 5, none⟩ = some (.int .i64 (knV q x 5)) := HC6.out.2 5
          have hc6 : W6.cell? ⟨wr.heap.size, 6, none⟩ = some (.int .i64 (knV q x 6)) := HC6.out.2 6
          have hcl := HC6.out.1
          dsimp only [List.append]
          go_region_held3 (fun w' => w'.cell? ⟨w.heap.size, k, none⟩ = some (.int .i64 x) ∧ w'.cell? ⟨w.heap.size, q, none⟩ = some (.int .i64 y) ∧ w'.cell? ⟨w.heap.size, m, none⟩ = some (.int .i64 z) ∧ w'.cell? ⟨w1.heap.size, 0, none⟩ = some (.slice A 1 c) ∧ w'.cell? ⟨w1.heap.size, 1, none⟩ = some (.slice A' 3 c') ∧ w'.cell? ⟨wr.heap.size, 0, none⟩ = some (.int .i64 (knV q x 0)) ∧ w'.cell? ⟨wr.heap.size, 1, none⟩ = some (.int .i64 (knV q x 1)) ∧ w'.cell? ⟨wr.heap.size, 2, none⟩ = some (.int .i64 (knV q x 2)) ∧ w'.cell? ⟨wr.heap.size, 3, none⟩ = some (.int .i64 (knV q x 3)) ∧ w'.cell? ⟨wr.heap.size, 4, none⟩ = some (.int .i64 (knV q x 4)) ∧ w'.cell? ⟨wr.heap.size, 5, none⟩ = some (.int .i64 (knV q x 5)) ∧ w'.cell? ⟨wr.heap.size, 6, none⟩ = some (.int .i64 (knV q x 6))) (go_keep) (first
            | (go_at_call 3; refine (kn_checks D _ _ HDV.out.1 HDV.out.2 (knV q x) _ _ [4, x, 7] _ _ (HS6.out.later (Below.drew (Below.refl _ _) : Below W6.heap.size W6 _)).2.2.1 (HS6.out.later (Below.drew (Below.refl _ _) : Below W6.heap.size W6 _)).2.2.2 (HV6.out.later (Below.drew (Below.refl _ _) : Below W6.heap.size W6 _)) HVR.out HZ1.out).mono ?_; rintro e wA ⟨rfl, bA⟩; have knA := fun o => bA.cell (p := ⟨w.heap.size, o, none⟩) hnl; have kdA := fun o => bA.cell (p := ⟨w1.heap.size, o, none⟩) hdl; have kcA := fun o => bA.cell (p := ⟨wr.heap.size, o, none⟩) hcl; have hnlA : w.heap.size < wA.heap.size := Nat.lt_of_lt_of_le hnl bA.size; have hdlA : w1.heap.size < wA.heap.size := Nat.lt_of_lt_of_le hdl bA.size; have hclA : wr.heap.size < wA.heap.size := Nat.lt_of_lt_of_le hcl bA.size; have HBA := Lib.hid (Bel.then (Below.drew (Below.refl _ _) : Below W6.heap.size W6 _) bA); clear bA)
            | (go_at_call 20; refine (kn_put (knV q x) HV64.out hql _).mono ?_; rintro e wF ⟨A_F, n_F, c_F, A5_F, c5_F, PL_F, rfl, hcutF, hslF, _, hbyF, bF⟩; have HSLF := Lib.hid hslF; have HBYF := Lib.hid hbyF; clear hslF hbyF; have knF := fun o => bF.cell (p := ⟨w.heap.size, o, none⟩) hnlE; have kdF := fun o => bF.cell (p := ⟨w1.heap.size, o, none⟩) hdlE; have kcF := fun o => bF.cell (p := ⟨wr.heap.size, o, none⟩) hclE; have hnlF : w.heap.size < wF.heap.size := Nat.lt_of_lt_of_le hnlE bF.size; have hdlF : w1.heap.size < wF.heap.size := Nat.lt_of_lt_of_le hdlE bF.size; have hclF : wr.heap.size < wF.heap.size := Nat.lt_of_lt_of_le hclE bF.size; have HBF := Lib.hid (Bel.then (HBE.out) bF); clear bF)
            | (go_at_call 20; refine (kn_put (knV q x) HV64.out hql _).mono ?_; rintro e wP ⟨A_P, n_P, c_P, A5_P, c5_P, PL_P, rfl, hcutP, _, hslP, hbyP, bP⟩; have HSLP := Lib.hid hslP; have HBYP := Lib.hid hbyP; clear hslP hbyP; have knP := fun o => bP.cell (p := ⟨w.heap.size, o, none⟩) hnlA; have kdP := fun o => bP.cell (p := ⟨w1.heap.size, o, none⟩) hdlA; have kcP := fun o => bP.cell (p := ⟨wr.heap.size, o, none⟩) hclA; have hnlP : w.heap.size < wP.heap.size := Nat.lt_of_lt_of_le hnlA bP.size; have hdlP : w1.heap.size < wP.heap.size := Nat.lt_of_lt_of_le hdlA bP.size; have hclP : wr.heap.size < wP.heap.size := Nat.lt_of_lt_of_le hclA bP.size; have HBP := Lib.hid (Bel.then (HBA.out) bP); clear bP)
            | (go_at_call 19; refine (commandBack_any (knV q x) (PL_P.take q) (q : Int) _ _ HV64.out HSLP.out (fun n hn => HBYP.out n (List.mem_of_mem_take hn)) (by omega) (by omega)).mono ?_; rintro e wC ⟨rfl, bC⟩; have knC := fun o => bC.cell (p := ⟨w.heap.size, o, none⟩) hnlP; have kdC := fun o => bC.cell (p := ⟨w1.heap.size, o, none⟩) hdlP; have kcC := fun o => bC.cell (p := ⟨wr.heap.size, o, none⟩) hclP; have hnlC : w.heap.size < wC.heap.size := Nat.lt_of_lt_of_le hnlP bC.size; have hdlC : w1.heap.size < wC.heap.size := Nat.lt_of_lt_of_le hdlP bC.size; have hclC : wr.heap.size < wC.heap.size := Nat.lt_of_lt_of_le hclP bC.size; have HBC := Lib.hid (Bel.then (HBP.out) bC); clear bC)
            | (go_at_call 21; refine (commandNext_any (knV q x) _ _ [4, x, 7] _ _ (HV6.out.later (HBC.out)) HVR.out HX1.out).mono ?_; rintro e wD ⟨rfl, bD⟩; have knD := fun o => bD.cell (p := ⟨w.heap.size, o, none⟩) hnlC; have kdD := fun o => bD.cell (p := ⟨w1.heap.size, o, none⟩) hdlC; have kcD := fun o => bD.cell (p := ⟨wr.heap.size, o, none⟩) hclC; have hnlD : w.heap.size < wD.heap.size := Nat.lt_of_lt_of_le hnlC bD.size; have hdlD : w1.heap.size < wD.heap.size := Nat.lt_of_lt_of_le hdlC bD.size; have hclD : wr.heap.size < wD.heap.size := Nat.lt_of_lt_of_le hclC bD.size; have HBD := Lib.hid (Bel.then (HBC.out) bD); clear bD)
            | (go_at_call 4; refine (kn_fits D _ _ HDV.out.1 HDV.out.2 (knV q x) _ _ _ _ (HS6.out.later (HBD.out)).2.2.1 (HS6.out.later (HBD.out)).2.2.2).mono ?_; rintro e wE ⟨rfl, bE⟩; have knE := fun o => bE.cell (p := ⟨w.heap.size, o, none⟩) hnlD; have kdE := fun o => bE.cell (p := ⟨w1.heap.size, o, none⟩) hdlD; have kcE := fun o => bE.cell (p := ⟨wr.heap.size, o, none⟩) hclD; have hnlE : w.heap.size < wE.heap.size := Nat.lt_of_lt_of_le hnlD bE.size; have hdlE : w1.heap.size < wE.heap.size := Nat.lt_of_lt_of_le hdlD bE.size; have hclE : wr.heap.size < wE.heap.size := Nat.lt_of_lt_of_le hclD bE.size; have HBE := Lib.hid (Bel.then (HBD.out) bE); clear bE)
            | (go_at_call 22; refine (commandReads_any (knV q x) PL_F _ _ HV64.out HSLF.out HBYF.out).mono ?_; rintro e wG ⟨rfl, bG⟩; have knG := fun o => bG.cell (p := ⟨w.heap.size, o, none⟩) hnlF; have kdG := fun o => bG.cell (p := ⟨w1.heap.size, o, none⟩) hdlF; have kcG := fun o => bG.cell (p := ⟨wr.heap.size, o, none⟩) hclF; have hnlG : w.heap.size < wG.heap.size := Nat.lt_of_lt_of_le hnlF bG.size; have hdlG : w1.heap.size < wG.heap.size := Nat.lt_of_lt_of_le hdlF bG.size; have hclG : wr.heap.size < wG.heap.size := Nat.lt_of_lt_of_le hclF bG.size; have HBG := Lib.hid (Bel.then (HBF.out) bG); clear bG))
          all_goals
            go_wp2_with fail
            go_roundw
            case rel => exact ⟨q + 1, by omega, by go_num, Bel.then HB6.out HBG.out⟩
            case measure => simp [intOf]; omega
        · have hq7 : q = 7 := by omega
          subst hq7
          go_wp2_with fail
          go_roundw
          case rel => exact ⟨k + 1, by omega, by go_num, HBq.out⟩
          case measure => simp [intOf]; omega
    · have hk13 : k = 13 := by omega
      subst hk13
      have hb := HBk.out
      go_wp2_with fail
      refine (works08_any _).mono ?_
      rintro e2 w2 ⟨rfl, hb2⟩
      have HBZ := Lib.hid (Bel.then (Bel.then HBW.out HBk.out) hb2)
      clear hb hb2
      go_wp2_with fail
      go_ret
      exact ⟨rfl, HBZ.out⟩
end Go.Proofs.YtjjccjannandlaaDoor
