/- Layer 6's works. -/
import Derived.Test.YtamnligooelmgaaDoorMut
import Derived.Test.YtamnligooelmgaaDoorCopyF
import Derived.Deep.Cut
set_option maxRecDepth 100000
set_option maxRecDepth 100000
set_option linter.unusedVariables false
set_option linter.unusedSimpArgs false
namespace Go.Proofs.YtamnligooelmgaaDoor
open Go.RowKit Go.BigFrame

theorem check_is (D : Dc) (c : Int) (hc : chkP D.pl = c) (w : World) (hD : D.In w w.heap.size) (hT : Tab w) (hL : LenD D) :
    Calls Tryd.prog 10 #[declV D] w fun e w' => e = .returned (.int .i64 c) ∧ Below w.heap.size w w' :=
  (check_any D w hD hT hL).mono fun e w' ⟨x, he, hr, hb⟩ => ⟨by rw [he, hr.val, hc], hb⟩
theorem fits_is (D : Dc) (ti fi op arg c : Int) (hc : fitsP D.pl ti fi op arg = c) (w : World) (hD : D.In w w.heap.size) (hT : Tab w) (hL : LenD D) :
    Calls Tryd.prog 15 #[declV D, .int .i64 ti, .int .i64 fi, .int .i64 op, .int .i64 arg] w fun e w' => e = .returned (.int .i64 c) ∧ Below w.heap.size w w' :=
  (fits_any D ti fi op arg w hD hT hL).mono fun e w' ⟨x, he, hr, hb⟩ => ⟨by rw [he, hr.val, hc], hb⟩
/-- Given with two slices (as a walk has them). -/
theorem check_is' (D : Dc) (c : Int) (hc : chkP D.pl = c) (tv pv : Value) (h1 : D.tv = tv) (h2 : D.pv = pv) (w : World) (hD : D.In w w.heap.size) (hT : Tab w) (hL : LenD D) :
    Calls Tryd.prog 10 #[.agg #[tv, pv]] w fun e w' => e = .returned (.int .i64 c) ∧ Below w.heap.size w w' := by
  subst h1 h2; exact check_is D c hc w hD hT hL
theorem fits_is' (D : Dc) (ti fi op arg c : Int) (hc : fitsP D.pl ti fi op arg = c) (tv pv : Value) (h1 : D.tv = tv) (h2 : D.pv = pv) (w : World) (hD : D.In w w.heap.size) (hT : Tab w) (hL : LenD D) :
    Calls Tryd.prog 15 #[.agg #[tv, pv], .int .i64 ti, .int .i64 fi, .int .i64 op, .int .i64 arg] w fun e w' => e = .returned (.int .i64 c) ∧ Below w.heap.size w w' := by
  subst h1 h2; exact fits_is D ti fi op arg c hc w hD hT hL
abbrev shF (b : Nat) : List Fd := shopFs (.slice (some ⟨b + 1, 0, none⟩) 3 3)
/-- The first field's policy is another one; a move needs another field. -/
def badFs (b : Nat) : List Fd := [⟨1, 2, true, [], .slice none 0 0⟩, ⟨2, 3, false, [], .slice none 0 0⟩, ⟨3, 2, false, [], .slice none 0 0⟩, ⟨4, 2, false, shopMs, .slice (some ⟨b + 1, 0, none⟩) 3 3⟩, ⟨2, 2, false, [], .slice none 0 0⟩, ⟨1, 1, false, [], .slice none 0 0⟩]
def lostMs : List Mv := [⟨0, 1, 1, 2⟩, ⟨1, 0, -1, 0⟩, ⟨0, 2, -1, 0⟩]
def lostFs (b : Nat) : List Fd := [⟨1, 1, true, [], .slice none 0 0⟩, ⟨2, 3, false, [], .slice none 0 0⟩, ⟨3, 2, false, [], .slice none 0 0⟩, ⟨4, 2, false, lostMs, .slice (some ⟨b + 1, 0, none⟩) 3 3⟩, ⟨2, 2, false, [], .slice none 0 0⟩, ⟨1, 1, false, [], .slice none 0 0⟩]
theorem lenX (b : Nat) (fs : List Fd) (ps : List Pj) (hf : fs.length ≤ 1099511627776) (hm : ∀ f ∈ fs, f.ms.length ≤ 1099511627776) : LenD (shopX b fs ps) := ⟨by simp, fun t ht => by
  have : t = ⟨fs, .slice (some ⟨b + 1 + 1, 0, none⟩) 6 6⟩ := by simpa using ht
  subst this
  exact ⟨hf, hm⟩⟩
theorem len_sh (b : Nat) : LenD (shopX b (shF b) shopPs) := lenX _ _ _ (show 6 ≤ 1099511627776 by decide) (by intro f hf; simp only [shopFs, List.mem_cons, List.not_mem_nil, or_false] at hf; rcases hf with rfl | rfl | rfl | rfl | rfl | rfl <;> first | exact Nat.zero_le _ | exact (show 3 ≤ 1099511627776 by decide))
theorem len_bad (b : Nat) : LenD (shopX b (badFs b) shopPs) := lenX _ _ _ (show 6 ≤ 1099511627776 by decide) (by intro f hf; simp only [badFs, List.mem_cons, List.not_mem_nil, or_false] at hf; rcases hf with rfl | rfl | rfl | rfl | rfl | rfl <;> first | exact Nat.zero_le _ | exact (show 3 ≤ 1099511627776 by decide))
theorem len_lost (b : Nat) : LenD (shopX b (lostFs b) shopPs) := lenX _ _ _ (show 6 ≤ 1099511627776 by decide) (by intro f hf; simp only [lostFs, List.mem_cons, List.not_mem_nil, or_false] at hf; rcases hf with rfl | rfl | rfl | rfl | rfl | rfl <;> first | exact Nat.zero_le _ | exact (show 3 ≤ 1099511627776 by decide))
def emptyD : Dc := ⟨[], [], .slice none 0 0, .slice none 0 0⟩
theorem shopW_size (w : World) : (shopW w).heap.size = w.heap.size + 5 := by unfold shopW; simp
/-- The shops and their like lie there through the walk. -/
def ShopIn (w : World) (b : Nat) (fs : List Fd) (ms : List Mv) : Prop := ShopAt w b fs ms shopPs
theorem ShopAt.bad {w : World} {b : Nat} (h : ShopAt w b (shF b) shopMs shopPs) : ShopAt (w.setCell ⟨b + 1 + 1, 1, none⟩ (.int .i64 2)) b (badFs b) shopMs shopPs :=
  h.setF (by decide) rfl rfl (by intro f hf; simp only [badFs, List.mem_cons, List.not_mem_nil, or_false] at hf; rcases hf with rfl | rfl | rfl | rfl | rfl | rfl <;> first | exact .inl ⟨rfl, rfl⟩ | exact .inr ⟨rfl, rfl⟩)
theorem ShopAt.lost {w : World} {b : Nat} (h : ShopAt w b (shF b) shopMs shopPs) : ShopAt (w.setCell ⟨b + 1, 2, none⟩ (.int .i64 1)) b (lostFs b) lostMs shopPs :=
  h.setM (by decide) rfl rfl (by intro f hf; simp only [lostFs, List.mem_cons, List.not_mem_nil, or_false] at hf; rcases hf with rfl | rfl | rfl | rfl | rfl | rfl <;> first | exact .inl ⟨rfl, rfl⟩ | exact .inr ⟨rfl, rfl⟩)
theorem shopW_fr (w : World) (b o : Nat) (h : w.heap.size ≤ b) : (shopW w).frozen? ⟨b, o, none⟩ = false := by
  unfold shopW
  rw [frozen?_alloc_cells, frozen?_alloc_cells, frozen?_alloc_cells, frozen?_alloc_cells, frozen?_alloc_cells]
  simp [World.frozen?, Array.getElem?_eq_none h]
abbrev dC (b : Nat) : Array Value := #[.slice (some ⟨b + 1 + 1 + 1 + 1, 0, none⟩) 1 1, .slice (some ⟨b + 1 + 1 + 1, 0, none⟩) 3 3]
structure WkSt (w : World) (b1 d1 f1 b2 d2 b3 d3 : Nat) (fc : Array Value) : Prop where
  a1 : ShopAt w b1 (shF b1) shopMs shopPs
  h1 : Has w d1 (dC b1)
  hf : Has w f1 fc
  a2 : ShopAt w b2 (badFs b2) shopMs shopPs
  h2 : Has w d2 (dC b2)
  a3 : ShopAt w b3 (lostFs b3) lostMs shopPs
  h3 : Has w d3 (dC b3)
  ta : Tab w
theorem WkSt.later {w w' : World} {b1 d1 f1 b2 d2 b3 d3 : Nat} {fc : Array Value} (h : WkSt w b1 d1 f1 b2 d2 b3 d3 fc) (hb : Below w.heap.size w w') : WkSt w' b1 d1 f1 b2 d2 b3 d3 fc :=
  ⟨h.a1.later hb, h.h1.later hb, h.hf.later hb, h.a2.later hb, h.h2.later hb, h.a3.later hb, h.h3.later hb, h.ta.later hb⟩
set_option maxHeartbeats 16000000 in
theorem works06_any (w : World) (hT : Tab w) : Calls Tryd.prog 8 #[] w fun e w' => e = .returned (.bool true) ∧ Below w.heap.size w w' := by
  have HT := Lib.hid hT
  clear hT
  go_enter Tryd.func8, Tryd.ntmps8
  go_wp2_with fail
  refine (shop_is _).mono ?_
  rintro e1 w1 ⟨rfl, hw1⟩
  have hat1 := shopW_at w
  have hb1 := (shopW_in w).2.2
  rw [← hw1] at hat1 hb1
  have HA1 := Lib.hid hat1
  have HB1 := Lib.hid hb1
  clear hat1 hb1 hw1
  dsimp only [shopV, shopD, declV]
  obtain ⟨W2, hW2⟩ : ∃ W2, W2 = w1.alloc (.cells #[.slice (some ⟨w.heap.size + 1 + 1 + 1 + 1, 0, none⟩) 1 1, .slice (some ⟨w.heap.size + 1 + 1 + 1, 0, none⟩) 3 3] 25) := ⟨_, rfl⟩
  have hgr2 : Below w1.heap.size w1 W2 := by rw [hW2]; exact Bel.grew (Below.refl _ _) _
  have hd2 : Has W2 w1.heap.size #[.slice (some ⟨w.heap.size + 1 + 1 + 1 + 1, 0, none⟩) 1 1, .slice (some ⟨w.heap.size + 1 + 1 + 1, 0, none⟩) 3 3] := by rw [hW2]; exact Has.new _ _ _
  have HA2 := Lib.hid (HA1.out.later hgr2)
  have HB2 := Lib.hid (Bel.then HB1.out hgr2)
  have HD2 := Lib.hid hd2
  have HW2 := Lib.hid hW2
  clear hgr2 hd2 hW2
  go_wp2_with fail
  rw [← HW2.out]
  clear HW2
  refine (field_any (shopX w.heap.size (shF w.heap.size) shopPs) 0 3 W2 HA2.out.inn (len_sh _)).mono ?_
  rintro e3 w3 (⟨t, f, v', q0, q1, q2, q3, rfl, hown, hb3⟩ | ⟨hno, _, _⟩)
  rotate_left
  · exact absurd ⟨_, _, by decide, rfl, by decide, rfl⟩ hno
  have ht : t = ⟨shF w.heap.size, .slice (some ⟨w.heap.size + 1 + 1, 0, none⟩) 6 6⟩ := by simpa using q1.symm
  subst ht
  have hf : f = ⟨4, 2, false, shopMs, .slice (some ⟨w.heap.size + 1, 0, none⟩) 3 3⟩ := by
    have : (shF w.heap.size)[3]? = some f := q3
    simpa [shopFs] using this.symm
  subst hf
  obtain ⟨A4, c4, h4⟩ := SlR.shapeL hown.sl
  have h4' : v' = .slice A4 3 c4 := h4
  clear h4
  subst h4'
  have HA3 := Lib.hid (HA2.out.later hb3)
  have HD3 := Lib.hid (HD2.out.later hb3)
  have HB3 := Lib.hid (Bel.then HB2.out hb3)
  clear hown hb3 q0 q1 q2 q3
  dsimp only
  obtain ⟨W4, hW4⟩ : ∃ W4, W4 = w3.alloc (.cells #[.int .i64 4, .int .i64 2, .bool false, .slice A4 3 c4] 33) := ⟨_, rfl⟩
  have hgr4 : Below w3.heap.size w3 W4 := by rw [hW4]; exact Bel.grew (Below.refl _ _) _
  have hf4 : Has W4 w3.heap.size #[.int .i64 4, .int .i64 2, .bool false, .slice A4 3 c4] := by rw [hW4]; exact Has.new _ _ _
  have HF4 := Lib.hid hf4
  have HA4 := Lib.hid (HA3.out.later hgr4)
  have HD4 := Lib.hid (HD3.out.later hgr4)
  have HB4 := Lib.hid (Bel.then HB3.out hgr4)
  have HW4 := Lib.hid hW4
  clear hgr4 hf4 hW4
  go_wp2_with fail
  rw [← HW4.out]
  clear HW4
  refine (shop_is W4).mono ?_
  rintro e5 w5 ⟨rfl, hw5⟩
  have hat5 := shopW_at W4
  have hb5 := (shopW_in W4).2.2
  have hfr5 := shopW_fr W4
  rw [← hw5] at hat5 hb5 hfr5
  have HA5 := Lib.hid hat5
  have HB5 := Lib.hid hb5
  have HFR5 := Lib.hid hfr5
  have HS5e : Hid (w5 = shopW W4) := Lib.hid hw5
  clear hat5 hb5 hw5 hfr5
  dsimp only [shopV, shopD, declV]
  obtain ⟨W6, hW6⟩ : ∃ W6, W6 = w5.alloc (.cells #[.slice (some ⟨W4.heap.size + 1 + 1 + 1 + 1, 0, none⟩) 1 1, .slice (some ⟨W4.heap.size + 1 + 1 + 1, 0, none⟩) 3 3] 25) := ⟨_, rfl⟩
  have hgr6 : Below w5.heap.size w5 W6 := by rw [hW6]; exact Bel.grew (Below.refl _ _) _
  have hd6 : Has W6 w5.heap.size #[.slice (some ⟨W4.heap.size + 1 + 1 + 1 + 1, 0, none⟩) 1 1, .slice (some ⟨W4.heap.size + 1 + 1 + 1, 0, none⟩) 3 3] := by rw [hW6]; exact Has.new _ _ _
  have hat6 := HA5.out.later hgr6
  have hfr6 : W6.frozen? ⟨W4.heap.size + 1 + 1, 1, none⟩ = false := by
    rw [hW6, frozen?_alloc_cells]; exact HFR5.out _ _ (by omega)
  have ht6 : ∀ o, W6.cell? ⟨W4.heap.size + 1 + 1 + 1 + 1, o, none⟩ = #[Value.slice (some ⟨W4.heap.size + 1 + 1, 0, none⟩) 6 6][o]? := hat6.t.2
  have ht6l := hat6.t.1
  have hx6 : W6.cell? ⟨W4.heap.size + 1 + 1, 1, none⟩ = some (.int .i64 1) := hat6.f.2 1
  have hx6l := hat6.f.1
  have HA6 := Lib.hid hat6
  have HD6 := Lib.hid hd6
  have HB46 := Lib.hid (Bel.then HB5.out hgr6)
  have HW6 := Lib.hid hW6
  have hd6c := hd6.2
  have hd6l := hd6.1
  clear hgr6 hd6 hW6 hat6
  go_upto_region 4 with fail
  rw [← HW6.out]
  clear HW6
  go_wp2_with fail
  obtain ⟨W7, hW7⟩ : ∃ W7, W7 = W6.setCell ⟨W4.heap.size + 1 + 1, 1, none⟩ (.int .i64 2) := ⟨_, rfl⟩
  rw [← hW7]
  have s5 : w5.heap.size = W4.heap.size + 5 := by rw [HS5e.out]; exact shopW_size W4
  have hb47 : Below W4.heap.size W4 W7 := by rw [hW7]; exact Below.setCell (p := ⟨W4.heap.size + 1 + 1, 1, none⟩) HB46.out (by show W4.heap.size ≤ W4.heap.size + 1 + 1; omega) _
  have hat7 : ShopAt W7 W4.heap.size (badFs W4.heap.size) shopMs shopPs := by rw [hW7]; exact HA6.out.bad
  have hd7 : Has W7 w5.heap.size (dC W4.heap.size) := by rw [hW7]; exact HD6.out.setOther_ (by omega) _ _
  have HA7 := Lib.hid hat7
  have HD7 := Lib.hid hd7
  have HB47 := Lib.hid hb47
  clear hW7 hat7 hd7 hb47 s5 hd6c hd6l ht6 ht6l hx6 hx6l hfr6
  refine (shop_is W7).mono ?_
  rintro e8 w8 ⟨rfl, hw8⟩
  have hat8 := shopW_at W7
  have hb8 := (shopW_in W7).2.2
  have hfr8 := shopW_fr W7
  rw [← hw8] at hat8 hb8 hfr8
  have s8 : w8.heap.size = W7.heap.size + 5 := by rw [hw8]; exact shopW_size W7
  have HS8 := Lib.hid s8
  have HA8 := Lib.hid hat8
  have HB8 := Lib.hid hb8
  have HFR8 := Lib.hid hfr8
  clear hat8 hb8 hw8 hfr8 s8
  dsimp only [shopV, shopD, declV]
  obtain ⟨W9, hW9⟩ : ∃ W9, W9 = w8.alloc (.cells #[.slice (some ⟨W7.heap.size + 1 + 1 + 1 + 1, 0, none⟩) 1 1, .slice (some ⟨W7.heap.size + 1 + 1 + 1, 0, none⟩) 3 3] 25) := ⟨_, rfl⟩
  have hgr9 : Below w8.heap.size w8 W9 := by rw [hW9]; exact Bel.grew (Below.refl _ _) _
  have hd9 : Has W9 w8.heap.size #[.slice (some ⟨W7.heap.size + 1 + 1 + 1 + 1, 0, none⟩) 1 1, .slice (some ⟨W7.heap.size + 1 + 1 + 1, 0, none⟩) 3 3] := by rw [hW9]; exact Has.new _ _ _
  have hat9 := HA8.out.later hgr9
  have hfr9 : W9.frozen? ⟨W7.heap.size + 1, 2, none⟩ = false := by
    rw [hW9, frozen?_alloc_cells]; exact HFR8.out _ _ (by omega)
  have ht9 : ∀ o, W9.cell? ⟨W7.heap.size + 1 + 1 + 1 + 1, o, none⟩ = #[Value.slice (some ⟨W7.heap.size + 1 + 1, 0, none⟩) 6 6][o]? := hat9.t.2
  have ht9l := hat9.t.1
  have hy9 : W9.cell? ⟨W7.heap.size + 1 + 1, 15, none⟩ = some (.slice (some ⟨W7.heap.size + 1, 0, none⟩) 3 3) := hat9.f.2 15
  have hy9l := hat9.f.1
  have hx9 : W9.cell? ⟨W7.heap.size + 1, 2, none⟩ = some (.int .i64 0) := hat9.m.2 2
  have hx9l := hat9.m.1
  have HA9 := Lib.hid hat9
  have HD9 := Lib.hid hd9
  have HB79 := Lib.hid (Bel.then HB8.out hgr9)
  have HW9 := Lib.hid hW9
  have hd9c := hd9.2
  have hd9l := hd9.1
  clear hgr9 hd9 hW9 hat9
  go_upto_region 6 with fail
  rw [← HW9.out]
  clear HW9
  go_upto_region 7 with fail
  obtain ⟨W10, hW10⟩ : ∃ W10, W10 = W9.setCell ⟨W7.heap.size + 1, 2, none⟩ (.int .i64 1) := ⟨_, rfl⟩
  rw [← hW10]
  have hb710 : Below W7.heap.size W7 W10 := by rw [hW10]; exact Below.setCell (p := ⟨W7.heap.size + 1, 2, none⟩) HB79.out (by show W7.heap.size ≤ W7.heap.size + 1; omega) _
  have hb410 := Bel.then HB47.out hb710
  have HS10 : Hid (WkSt W10 w.heap.size w1.heap.size w3.heap.size W4.heap.size w5.heap.size W7.heap.size w8.heap.size #[.int .i64 4, .int .i64 2, .bool false, .slice A4 3 c4]) := by
    refine Lib.hid ⟨HA4.out.later hb410, HD4.out.later hb410, HF4.out.later hb410, HA7.out.later hb710, HD7.out.later hb710, ?_, ?_, HT.out.later (Bel.then HB4.out hb410)⟩
    · rw [hW10]; exact HA9.out.lost
    · rw [hW10]; exact HD9.out.setOther_ (by have := HS8.out; omega) _ _
  have HB10 := Lib.hid (Bel.then HB4.out hb410)
  clear hW10 hb710 hb410 hd9c hd9l ht9 ht9l hy9 hy9l hx9 hx9l hfr9
  have c1 := HS10.out.h1.2
  have l1 := HS10.out.h1.1
  have c2 := HS10.out.h2.2
  have l2 := HS10.out.h2.1
  have c3 := HS10.out.h3.2
  have l3 := HS10.out.h3.1
  have cf := HS10.out.hf.2
  have lf := HS10.out.hf.1
  go_wp2_with fail
  refine (check_is' (shopX w.heap.size (shF w.heap.size) shopPs) 0 rfl _ _ rfl rfl _ (HS10.out.a1.inn) (HS10.out.ta) (len_sh _)).mono ?_
  rintro ex0 wx0 ⟨rfl, hbx0⟩
  have HSx0 := Lib.hid (HS10.out.later hbx0)
  have HBx0 := Lib.hid (Bel.then HB10.out hbx0)
  clear hbx0 c1 l1 c2 l2 c3 l3 cf lf
  have c1 := HSx0.out.h1.2
  have l1 := HSx0.out.h1.1
  have c2 := HSx0.out.h2.2
  have l2 := HSx0.out.h2.1
  have c3 := HSx0.out.h3.2
  have l3 := HSx0.out.h3.1
  have cf := HSx0.out.hf.2
  have lf := HSx0.out.hf.1
  go_wp2_with fail
  refine (check_is' emptyD 3 rfl _ _ rfl rfl _ ⟨SlR.none_, (by intro t ht; simp [emptyD] at ht), SlR.none_⟩ (HSx0.out.ta) ⟨by simp [emptyD], by simp [emptyD]⟩).mono ?_
  rintro ex1 wx1 ⟨rfl, hbx1⟩
  have HSx1 := Lib.hid (HSx0.out.later hbx1)
  have HBx1 := Lib.hid (Bel.then HBx0.out hbx1)
  clear hbx1 c1 l1 c2 l2 c3 l3 cf lf
  have c1 := HSx1.out.h1.2
  have l1 := HSx1.out.h1.1
  have c2 := HSx1.out.h2.2
  have l2 := HSx1.out.h2.1
  have c3 := HSx1.out.h3.2
  have l3 := HSx1.out.h3.1
  have cf := HSx1.out.hf.2
  have lf := HSx1.out.hf.1
  go_wp2_with fail
  refine (check_is' (shopX W4.heap.size (badFs W4.heap.size) shopPs) 1 rfl _ _ rfl rfl _ (HSx1.out.a2.inn) (HSx1.out.ta) (len_bad _)).mono ?_
  rintro ex2 wx2 ⟨rfl, hbx2⟩
  have HSx2 := Lib.hid (HSx1.out.later hbx2)
  have HBx2 := Lib.hid (Bel.then HBx1.out hbx2)
  clear hbx2 c1 l1 c2 l2 c3 l3 cf lf
  have c1 := HSx2.out.h1.2
  have l1 := HSx2.out.h1.1
  have c2 := HSx2.out.h2.2
  have l2 := HSx2.out.h2.1
  have c3 := HSx2.out.h3.2
  have l3 := HSx2.out.h3.1
  have cf := HSx2.out.hf.2
  have lf := HSx2.out.hf.1
  go_wp2_with fail
  refine (check_is' (shopX W7.heap.size (lostFs W7.heap.size) shopPs) 8 rfl _ _ rfl rfl _ (HSx2.out.a3.inn) (HSx2.out.ta) (len_lost _)).mono ?_
  rintro ex3 wx3 ⟨rfl, hbx3⟩
  have HSx3 := Lib.hid (HSx2.out.later hbx3)
  have HBx3 := Lib.hid (Bel.then HBx2.out hbx3)
  clear hbx3 c1 l1 c2 l2 c3 l3 cf lf
  have c1 := HSx3.out.h1.2
  have l1 := HSx3.out.h1.1
  have c2 := HSx3.out.h2.2
  have l2 := HSx3.out.h2.1
  have c3 := HSx3.out.h3.2
  have l3 := HSx3.out.h3.1
  have cf := HSx3.out.hf.2
  have lf := HSx3.out.hf.1
  go_wp2_with fail
  refine (fits_is' (shopX w.heap.size (shF w.heap.size) shopPs) 0 0 1 0 1 rfl _ _ rfl rfl _ (HSx3.out.a1.inn) (HSx3.out.ta) (len_sh _)).mono ?_
  rintro ex4 wx4 ⟨rfl, hbx4⟩
  have HSx4 := Lib.hid (HSx3.out.later hbx4)
  have HBx4 := Lib.hid (Bel.then HBx3.out hbx4)
  clear hbx4 c1 l1 c2 l2 c3 l3 cf lf
  have c1 := HSx4.out.h1.2
  have l1 := HSx4.out.h1.1
  have c2 := HSx4.out.h2.2
  have l2 := HSx4.out.h2.1
  have c3 := HSx4.out.h3.2
  have l3 := HSx4.out.h3.1
  have cf := HSx4.out.hf.2
  have lf := HSx4.out.hf.1
  go_wp2_with fail
  refine (fits_is' (shopX w.heap.size (shF w.heap.size) shopPs) 0 0 2 1 2 rfl _ _ rfl rfl _ (HSx4.out.a1.inn) (HSx4.out.ta) (len_sh _)).mono ?_
  rintro ex5 wx5 ⟨rfl, hbx5⟩
  have HSx5 := Lib.hid (HSx4.out.later hbx5)
  have HBx5 := Lib.hid (Bel.then HBx4.out hbx5)
  clear hbx5 c1 l1 c2 l2 c3 l3 cf lf
  have c1 := HSx5.out.h1.2
  have l1 := HSx5.out.h1.1
  have c2 := HSx5.out.h2.2
  have l2 := HSx5.out.h2.1
  have c3 := HSx5.out.h3.2
  have l3 := HSx5.out.h3.1
  have cf := HSx5.out.hf.2
  have lf := HSx5.out.hf.1
  go_wp2_with fail
  go_ret
  exact ⟨rfl, HBx5.out⟩
end Go.Proofs.YtamnligooelmgaaDoor
