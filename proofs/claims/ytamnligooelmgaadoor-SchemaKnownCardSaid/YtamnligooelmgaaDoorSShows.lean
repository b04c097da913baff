/- schema.shows. -/
import Derived.Test.YtamnligooelmgaaDoorSCmd
set_option maxRecDepth 100000
set_option linter.unusedVariables false
set_option linter.unusedSimpArgs false
namespace Go.Proofs.YtamnligooelmgaaDoor
open Go.RowKit Go.BigFrame

theorem is_yes {t : Ty} {i kind : Int} {w : World} (ht : t.In w w.heap.size) (hl : t.fs.length ≤ 1099511627776) (h : IsK t i kind) :
    Calls Tryd.prog 31 #[tyV t, .int .i64 i, .int .i64 kind] w fun e w' => e = .returned (.bool true) ∧ Below w.heap.size w w' :=
  (is_any t i kind w ht hl).mono fun e w' ⟨b, he, hb, hB⟩ => by have := hb.2 h; subst this; exact ⟨he, hB⟩
theorem is_no {t : Ty} {i kind : Int} {w : World} (ht : t.In w w.heap.size) (hl : t.fs.length ≤ 1099511627776) (h : ¬ IsK t i kind) :
    Calls Tryd.prog 31 #[tyV t, .int .i64 i, .int .i64 kind] w fun e w' => e = .returned (.bool false) ∧ Below w.heap.size w w' :=
  (is_any t i kind w ht hl).mono fun e w' ⟨b, he, hb, hB⟩ => by
    cases b
    · exact ⟨he, hB⟩
    · exact absurd (hb.1 rfl) h
/-- A number is not from lo to hi (a word of its own: the walk leaves it alone). -/
def NotIn (n lo hi : Int) : Prop := ¬ (lo ≤ n ∧ n ≤ hi)
theorem within_no' (n lo hi : Int) (w : World) (h : NotIn n lo hi) : Calls Tryd.prog 24 #[.int .i64 n, .int .i64 lo, .int .i64 hi] w fun e w' => e = .returned (.bool false) ∧ w = w' := within_no n lo hi w h
def GrpBad (D : Dc) (p : Pj) : Prop := (p.g = 3 ∧ ¬ ∃ t, D.ts[p.t.toNat]? = some t ∧ IsK t p.b 2) ∨ (p.g ≠ 3 ∧ p.b ≠ 0)
def KndBad (p : Pj) : Prop := ¬ (1 ≤ p.g ∧ p.g ≤ 3) ∨ ¬ (1 ≤ p.m ∧ p.m ≤ 5)
def ShowsRel (D : Dc) (p : Pj) (c : Int) : Prop := ((¬ ∃ f, FldAt D p.t p.f f) ∧ c = 8) ∨ ((∃ f, FldAt D p.t p.f f) ∧ ((GrpBad D p ∧ c = 8) ∨ (¬ GrpBad D p ∧ KndBad p ∧ c = 2) ∨ (¬ GrpBad D p ∧ ¬ KndBad p ∧ c = 0)))
set_option maxRecDepth 100000 in
set_option maxHeartbeats 16000000 in
theorem shows_some (D : Dc) (p : Pj) (r : Int) (t : Ty) (n : Nat) (w : World) (hD : D.In w w.heap.size) (hL : LenD D) (hf : ∃ f, FldAt D p.t p.f f) (hn : p.t = (n : Int)) (ht : D.ts[n]? = some t)
    (h : (p.g = 3 ∧ ¬ IsK t p.b 2 ∧ r = 8) ∨ ((p.g == 3) = false ∧ (p.b != 0) = true ∧ r = 8) ∨ (p.g = 3 ∧ IsK t p.b 2 ∧ NotIn p.m 1 5 ∧ r = 2) ∨ (p.g = 3 ∧ IsK t p.b 2 ∧ (1 ≤ p.m ∧ p.m ≤ 5) ∧ r = 0) ∨
      ((p.g == 3) = false ∧ p.b = 0 ∧ NotIn p.g 1 3 ∧ r = 2) ∨ ((p.g == 3) = false ∧ p.b = 0 ∧ (1 ≤ p.g ∧ p.g ≤ 3) ∧ NotIn p.m 1 5 ∧ r = 2) ∨ ((p.g == 3) = false ∧ p.b = 0 ∧ (1 ≤ p.g ∧ p.g ≤ 3) ∧ (1 ≤ p.m ∧ p.m ≤ 5) ∧ r = 0)) :
    Calls Tryd.prog 23 #[declV D, pjV p] w fun e w' => e = .returned (.int .i64 r) ∧ Below w.heap.size w w' := by
  obtain ⟨ts, ps, tv, pv⟩ := D
  obtain ⟨A, c, h1⟩ := hD.1.shapeL
  obtain ⟨A', c', h2⟩ := hD.2.2.shapeL
  dsimp only at h1 h2 ht
  subst h1 h2
  obtain ⟨pt, pf, pg, pb, pm⟩ := p
  dsimp only at hf hn h
  subst hn
  obtain ⟨W, hW⟩ : ∃ W, W = (w.alloc (.cells #[.slice A ts.length c, .slice A' ps.length c'] 25)).alloc (.cells #[.int .i64 (n : Int), .int .i64 pf, .int .i64 pg, .int .i64 pb, .int .i64 pm] 47) := ⟨_, rfl⟩
  have hB : Below w.heap.size w W := by rw [hW]; exact Bel.grew (Bel.grew (Below.refl _ _) _) _
  have hC : Has W w.heap.size #[.slice A ts.length c, .slice A' ps.length c'] := by rw [hW]; exact (Has.new w _ _).grow _
  have hP : Has W (w.heap.size + 1) #[.int .i64 (n : Int), .int .i64 pf, .int .i64 pg, .int .i64 pb, .int .i64 pm] := by rw [hW]; exact Has.new1 _ _ _ (by simp)
  have HD := Lib.hid (hD.later hB)
  have HB := Lib.hid hB
  have HW := Lib.hid hW
  have HL := Lib.hid hL
  have HF := Lib.hid hf
  have H := Lib.hid h
  have HTE := Lib.hid ht
  have HC := Lib.hid hC
  have HP := Lib.hid hP
  have hc := hC.2
  have hp := hP.2
  clear hD hB hC hP hW hL hf h ht
  go_enter Tryd.func23, Tryd.ntmps23
  go_wp2_with fail
  rw [← HW.out]
  clear HW
  refine (field_any ⟨ts, ps, .slice A ts.length c, .slice A' ps.length c'⟩ (n : Int) pf W HD.out HL.out).mono ?_
  rintro e w2 (⟨t', f', v', q0, q1, q2, q3, rfl, hown, hb⟩ | ⟨hno, rfl, hb⟩)
  rotate_left
  · obtain ⟨f, t, h⟩ := HF.out
    exact absurd ⟨t, f, h⟩ hno
  obtain ⟨A4, c4, h4⟩ := SlR.shapeL hown.sl
  subst h4
  have hgr : Below w2.heap.size w2 (w2.alloc (.cells #[.int .i64 f'.k, .int .i64 f'.p, .bool f'.fl, .slice A4 f'.ms.length c4] 33)) := Bel.grew (Below.refl _ _) _
  obtain ⟨W3, hW3⟩ : ∃ W3, W3 = w2.alloc (.cells #[.int .i64 f'.k, .int .i64 f'.p, .bool f'.fl, .slice A4 f'.ms.length c4] 33) := ⟨_, rfl⟩
  rw [← hW3] at hgr
  have hB3 := Bel.then hb hgr
  have HB3 := Lib.hid (Bel.then HB.out hB3)
  have HC3 := Lib.hid (HC.out.later hB3)
  have HP3 := Lib.hid (HP.out.later hB3)
  have hD3 := HD.out.later hB3
  obtain ⟨b, off, rfl, hbb, hcap, hcx⟩ := hD3.1.at HTE.out
  have hti := hD3.2.1 t (List.mem_of_getElem? HTE.out)
  have htl := (HL.out.2 t (List.mem_of_getElem? HTE.out)).1
  have hct := hcx 0 _ rfl
  rw [Nat.mul_one, Nat.add_zero] at hct
  have hnI : (n : Int) < (ts.length : Int) := by
    obtain ⟨hlt, _⟩ := List.getElem?_eq_some_iff.1 HTE.out
    omega
  have HTI := Lib.hid hti
  have HW3 := Lib.hid hW3
  have hc3 := HC3.out.2
  have hp3 := HP3.out.2
  have hcl := HC3.out.1
  have hpl := HP3.out.1
  clear hown hb q0 q1 q2 q3 HB HD hc hp hgr hW3 hB3 hD3 hcx hti HC HP
  obtain ⟨fs, tv2⟩ := t
  dsimp only at hct htl
  rcases H.out with ⟨rfl, hk, rfl⟩ | ⟨hg, hk, rfl⟩ | ⟨rfl, hk, hm, rfl⟩ | ⟨rfl, hk, hm, rfl⟩ | ⟨hg, rfl, hm, rfl⟩ | ⟨hg, rfl, hq, hm, rfl⟩ | ⟨hg, rfl, hq, hm, rfl⟩
  all_goals
    clear H
    try have hg2 : (pg != 3) = true := by simpa using hg
    go_wp2_with fail
    rw [← HW3.out]
    clear HW3
    refine wp_region_later (by kernel_rfl) (by kernel_rfl) ?_
    repeat (any_goals (first | go_big_quiet_step ((go_at_call 31; first | (have hC := is_no (HTI.out.later (Later.h ‹Later W3›)) htl hk; with_reducible exact Later.call hC) | (have hC := is_yes (HTI.out.later (Later.h ‹Later W3›)) htl hk; with_reducible exact Later.call hC)))))
    refine wpQuiet_nil ?_
    intro x
    obtain ⟨w4, hb4⟩ := x
    have HB4 := Lib.hid (Bel.then HB3.out hb4)
    have HP4 := Lib.hid (HP3.out.later hb4)
    dsimp only
    clear hb4 hc3 hp3 hcl hpl hct
    have hp4 := HP4.out.2
    have hpl := HP4.out.1
    go_wp2_with fail
    first
      | (go_ret; exact ⟨rfl, HB4.out⟩)
      | (with_reducible refine (within_no' _ 1 3 _ hm).mono ?_; rintro e w5 ⟨rfl, rfl⟩; go_wp2_with fail; go_ret; exact ⟨rfl, HB4.out⟩)
      | (with_reducible refine (within_yes 3 1 3 _ (by decide)).mono ?_; rintro e w5 ⟨rfl, rfl⟩; go_wp2_with fail; with_reducible refine (within_yes _ 1 5 _ hm).mono ?_; rintro e w5 ⟨rfl, rfl⟩; go_wp2_with fail; go_ret; exact ⟨rfl, HB4.out⟩)
      | (with_reducible refine (within_yes 3 1 3 _ (by decide)).mono ?_; rintro e w5 ⟨rfl, rfl⟩; go_wp2_with fail; with_reducible refine (within_no' _ 1 5 _ hm).mono ?_; rintro e w5 ⟨rfl, rfl⟩; go_wp2_with fail; go_ret; exact ⟨rfl, HB4.out⟩)
      | (with_reducible refine (within_yes _ 1 3 _ hq).mono ?_; rintro e w5 ⟨rfl, rfl⟩; go_wp2_with fail; with_reducible refine (within_yes _ 1 5 _ hm).mono ?_; rintro e w5 ⟨rfl, rfl⟩; go_wp2_with fail; go_ret; exact ⟨rfl, HB4.out⟩)
      | (with_reducible refine (within_yes _ 1 3 _ hq).mono ?_; rintro e w5 ⟨rfl, rfl⟩; go_wp2_with fail; with_reducible refine (within_no' _ 1 5 _ hm).mono ?_; rintro e w5 ⟨rfl, rfl⟩; go_wp2_with fail; go_ret; exact ⟨rfl, HB4.out⟩)
end Go.Proofs.YtamnligooelmgaaDoor
