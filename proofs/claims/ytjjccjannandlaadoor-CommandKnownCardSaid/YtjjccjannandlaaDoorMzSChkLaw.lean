/- CommandChecks: the walk. -/
import Derived.Test.YtjjccjannandlaaDoorMzRSFits
import Derived.Test.YtjjccjannandlaaDoorMzREvent
import Derived.Test.YtjjccjannandlaaDoorMzLentI
import Derived.Test.YtjjccjannandlaaDoorMzSameEv
import Derived.Test.YtjjccjannandlaaDoorMzSCheck
import Derived.Test.YtjjccjannandlaaDoorMzDLong
import Derived.Test.YtjjccjannandlaaDoorMzWorks08
import Derived.Test.YtjjccjannandlaaDoorMzSFitsLaw
set_option maxRecDepth 100000
set_option maxRecDepth 100000
set_option maxRecDepth 100000
set_option linter.unusedVariables false
set_option linter.unusedSimpArgs false
namespace Go.Proofs.YtjjccjannandlaaDoor
open Go.RowKit Go.BigFrame

/-- An event's cells. -/
abbrev evC (e : Nat → Int) (dv : Value) : Array Value := #[.int .i64 (e 0), .int .i64 (e 1), .int .i64 (e 2), dv, .int .i64 (e 3), .int .i64 (e 4), .int .i64 (e 5), .int .i64 (e 6), .int .i64 (e 7), .int .i64 (e 8)]
def evG (e : Nat → Int) (dv : Value) : Nat → Value
  | 0 => .int .i64 (e 0)
  | 1 => .int .i64 (e 1)
  | 2 => .int .i64 (e 2)
  | 3 => dv
  | 4 => .int .i64 (e 3)
  | 5 => .int .i64 (e 4)
  | 6 => .int .i64 (e 5)
  | 7 => .int .i64 (e 6)
  | 8 => .int .i64 (e 7)
  | _ => .int .i64 (e 8)
theorem Has.store10 {w : World} {q : Nat} {cs : Array Value} {f : Nat → Value} (h : Has w q cs) (hs : cs.size = 10) (hc : Cells10 w q f) (e : Nat → Int) (dv : Value) : Has (store10 w q (evG e dv)) q (evC e dv) := by
  refine ⟨by have := h.1; simpa [World.setCell] using this, fun o => ?_⟩
  by_cases ho : o < 10
  · rw [(hc.store (evG e dv) o ho).1]
    rcases (show o = 0 ∨ o = 1 ∨ o = 2 ∨ o = 3 ∨ o = 4 ∨ o = 5 ∨ o = 6 ∨ o = 7 ∨ o = 8 ∨ o = 9 from by omega) with rfl | rfl | rfl | rfl | rfl | rfl | rfl | rfl | rfl | rfl
    all_goals rfl
  · have ne : ∀ (W : World) (i : Nat) (v : Value), i < 10 → (W.setCell ⟨q, i, none⟩ v).cell? ⟨q, o, none⟩ = W.cell? ⟨q, o, none⟩ := fun W i v hi => World.cell?_setCell_other W ⟨q, i, none⟩ ⟨q, o, none⟩ _ (by first | (simp; done) | (simp; omega))
    refine (show _ = w.cell? ⟨q, o, none⟩ from ((ne _ 9 _ (by decide)).trans ((ne _ 8 _ (by decide)).trans ((ne _ 7 _ (by decide)).trans ((ne _ 6 _ (by decide)).trans ((ne _ 5 _ (by decide)).trans ((ne _ 4 _ (by decide)).trans ((ne _ 3 _ (by decide)).trans ((ne _ 2 _ (by decide)).trans ((ne _ 1 _ (by decide)).trans (ne _ 0 _ (by decide)))))))))))).trans ?_
    rw [h.2 o, Array.getElem?_eq_none (show cs.size ≤ o by omega), Array.getElem?_eq_none (show 10 ≤ o by omega)]
/-- What stands behind the event's making. -/
def EvSt (W : World) (e : Nat → Int) (ys : List Int) (k : Int) (s t : Value) (wx : World) : Prop := ∃ (q : Nat) (A : Option Addr) (c : Nat), s = .pointer (some ⟨q, 0, none⟩) ∧ t = .int .i64 k ∧ Has wx q (evC e (.slice A ys.length c)) ∧
  OwnInts wx W.heap.size (.slice A ys.length c) ys ∧ Below W.heap.size W wx
theorem evst_one {W w2 W4 : World} {e : Nat → Int} {ys : List Int} {k : Int} {A : Option Addr} {c : Nat} (hb : Below W.drew.heap.size W.drew w2) (ho : OwnInts w2 W.drew.heap.size (.slice A ys.length c) ys) (hW4 : W4 = w2.alloc (.cells (evC e (.slice A ys.length c)) 37)) :
    EvSt W e ys k (.pointer (some ⟨w2.heap.size, 0, none⟩)) (.int .i64 k) W4 := by
  have hb1 : Below W.heap.size W w2 := (Below.drew (Below.refl _ _)).trans hb
  have ho' : OwnK .i64 3 w2 W.heap.size (.slice A ys.length c) ys := ho
  have hb4 : Below w2.heap.size w2 W4 := by rw [hW4]; exact (Below.refl _ _).alloc (Nat.le_refl _) _
  exact ⟨w2.heap.size, A, c, rfl, rfl, by rw [hW4]; exact Has.new _ _ _, ho'.later hb4, Bel.then hb1 hb4⟩
theorem evst_two {W w2 W4 : World} {e : Nat → Int} {ys : List Int} {k : Int} {A : Option Addr} {c : Nat} {ZO : Obj} (hZ : ZO = .cells #[.int .i64 0, .int .i64 0, .int .i64 0, .slice none 0 0, .int .i64 0, .int .i64 0, .int .i64 0, .int .i64 0, .int .i64 0, .int .i64 0] 37)
    (hb : Below (W.alloc ZO).drew.heap.size (W.alloc ZO).drew w2) (ho : OwnInts w2 (W.alloc ZO).drew.heap.size (.slice A ys.length c) ys) (hW4 : W4 = store10 w2 W.heap.size (evG e (.slice A ys.length c))) :
    EvSt W e ys k (.pointer (some ⟨W.heap.size, 0, none⟩)) (.int .i64 k) W4 := by
  have hsz : (W.alloc ZO).drew.heap.size = W.heap.size + 1 := by show (W.alloc ZO).heap.size = _; simp
  rw [hsz] at hb ho
  have hb0 : Below W.heap.size W (W.alloc ZO).drew := Below.drew ((Below.refl _ _).alloc (Nat.le_refl _) _)
  have hb1 : Below W.heap.size W w2 := hb0.trans (hb.mono (by omega))
  have ho' : OwnK .i64 3 w2 (W.heap.size + 1) (.slice A ys.length c) ys := ho
  have hz : Has (W.alloc ZO).drew W.heap.size #[.int .i64 0, .int .i64 0, .int .i64 0, .slice none 0 0, .int .i64 0, .int .i64 0, .int .i64 0, .int .i64 0, .int .i64 0, .int .i64 0] := by
    rw [hZ]
    exact Has.new W _ _
  have hz2 : Has w2 W.heap.size _ := ⟨by have := hb.size; rw [hsz] at this; omega, fun o => (hb.cell (p := ⟨W.heap.size, o, none⟩) (Nat.lt_succ_self _)).trans (hz.2 o)⟩
  have hzc : Cells10 (W.alloc ZO).drew W.heap.size (evF 0 0 0 (.slice none 0 0) (fun _ => 0)) := zero10 fun o u hu => by rw [hZ]; simp [go_sem, hu]
  refine ⟨W.heap.size, A, c, rfl, rfl, by rw [hW4]; exact Has.store10 hz2 rfl (hzc.below (Nat.lt_succ_self _) hb) e _, by rw [hW4]; exact (ho'.store10 (fun b hb => by have := own_base ho'.row b hb; omega) _).down (by omega), by rw [hW4]; exact Below.store10 hb1 (Nat.le_refl _) _⟩

theorem CmdRel.one {D : Dc} {v : Nat → Int} {a b : Int} (h : CmdRel D v a) (k : CmdRel D v b) : a = b := by
  rcases h with ⟨h1, h2⟩ | ⟨h1, h2⟩
  · rcases k with ⟨_, k2⟩ | ⟨k1, _⟩
    · rw [h2, k2]
    · omega
  · rcases k with ⟨k1, _⟩ | ⟨_, k2⟩
    · omega
    · exact h2.one k2
theorem FitsRel.some_ (D : Dc) (ti fi op arg : Int) : ∃ c, FitsRel D ti fi op arg c := by
  by_cases h : ∃ f, FldAt D ti fi f
  · obtain ⟨f, hf⟩ := h
    by_cases h1 : OpK f op
    · by_cases h2 : ArgBad f op arg
      · exact ⟨1, .inr ⟨f, hf, .inr (.inl ⟨h1, h2, rfl⟩)⟩⟩
      · exact ⟨0, .inr ⟨f, hf, .inr (.inr ⟨h1, h2, rfl⟩)⟩⟩
    · exact ⟨2, .inr ⟨f, hf, .inl ⟨h1, rfl⟩⟩⟩
  · exact ⟨8, .inl ⟨h, rfl⟩⟩
theorem CmdRel.some_ (D : Dc) (v : Nat → Int) : ∃ c, CmdRel D v c := by
  by_cases h : v 1 < 0 ∨ v 6 < 0 ∨ v 5 < -1
  · exact ⟨1, .inl ⟨h, rfl⟩⟩
  · obtain ⟨c, hc⟩ := FitsRel.some_ D (v 0) (v 2) (v 3) (v 4)
    exact ⟨c, .inr ⟨by omega, hc⟩⟩
theorem cCheck_is (D : Dc) (v : Nat → Int) (c : Int) (hc : CmdRel D v c) (w : World) (hD : D.In w w.heap.size) (hT : Tab w) (hL : LenD D) :
    Calls Tryd.prog 13 #[declV D, cmdV v] w fun e w' => e = .returned (.int .i64 c) ∧ Below w.heap.size w w' :=
  (cCheck_any D v w hD hT hL).mono fun e w' ⟨c', he, hr, hb⟩ => ⟨by rw [he, hr.one hc], hb⟩
theorem rcCheck_is (D : Dc) (v : Nat → Int) (c : Int) (hc : CmdRel D v c) (w : World) (hD : D.In w w.heap.size) (hL : LenD D) :
    Calls Tryd.prog 14 #[declV D, cmdV v] w fun e w' => e = .returned (.int .i64 c) ∧ Below w.heap.size w w' :=
  (rcCheck_any D v w hD hL).mono fun e w' ⟨c', he, hr, hb⟩ => ⟨by rw [he, hr.one hc], hb⟩

set_option maxHeartbeats 16000000 in
theorem checks_with (D : Dc) (v : Nat → Int) (o lam k : Int) (xs ys : List Int) (e : Nat → Int) (x : Value) (w : World) (hD : D.In w w.heap.size) (hT : Tab w) (hx : Sl .i64 w w.heap.size x xs) (hys : ys.length ≤ 1099511627776)
    (hev : xs.length ≤ 200 → ∀ (W : World) (x : Value), Sl .i64 W W.heap.size x xs → Calls Tryd.prog 10 #[cmdV v, .int .i64 o, x, .int .i64 lam] W fun r w' => ∃ dv, r = .returned (.tuple #[evV e dv, .int .i64 k]) ∧ OwnInts w' W.heap.size dv ys ∧ Below W.heap.size W w')
    (hrev : xs.length ≤ 200 → ∀ (W : World) (x : Value), Sl .i64 W W.heap.size x xs → Calls Tryd.prog 11 #[cmdV v, .int .i64 o, x, .int .i64 lam] W fun r w' => ∃ dv, r = .returned (.tuple #[evV e dv, .int .i64 k]) ∧ OwnInts w' W.heap.size dv ys ∧ Below W.heap.size W w') :
    Calls Tryd.prog 3 #[declV D, cmdV v, .int .i64 o, x, .int .i64 lam] w fun r w' => r = .returned (.bool true) ∧ Below w.heap.size w w' := by
  obtain ⟨ts, ps, tv, pv⟩ := D
  obtain ⟨A, c, h1⟩ := hD.1.shapeL
  obtain ⟨A', c', h2⟩ := hD.2.2.shapeL
  dsimp only at h1 h2
  subst h1 h2
  obtain ⟨AX, cX, rfl⟩ := hx.shape
  obtain ⟨W, hW⟩ : ∃ W, W = (w.alloc (.cells #[.slice A ts.length c, .slice A' ps.length c'] 25)).alloc (.cells #[.int .i64 (v 0), .int .i64 (v 1), .int .i64 (v 2), .int .i64 (v 3), .int .i64 (v 4), .int .i64 (v 5), .int .i64 (v 6)] 27) := ⟨_, rfl⟩
  have hB : Below w.heap.size w W := by rw [hW]; exact Bel.grew (Bel.grew (Below.refl _ _) _) _
  have hC : Has W w.heap.size #[.slice A ts.length c, .slice A' ps.length c'] := by rw [hW]; exact (Has.new w _ _).grow _
  have hP : Has W (w.heap.size + 1) #[.int .i64 (v 0), .int .i64 (v 1), .int .i64 (v 2), .int .i64 (v 3), .int .i64 (v 4), .int .i64 (v 5), .int .i64 (v 6)] := by rw [hW]; exact Has.new1 _ _ _ (by simp)
  have HD := Lib.hid (hD.later hB)
  have HT := Lib.hid (hT.later hB)
  have HB := Lib.hid hB
  have HW := Lib.hid hW
  have HC := Lib.hid hC
  have HP := Lib.hid hP
  have HDw := Lib.hid hD
  have HTw := Lib.hid hT
  have HX := Lib.hid hx
  have HEV := Lib.hid hev
  have HREV := Lib.hid hrev
  clear hD hT hB hW hC hP hx hev hrev
  go_enter Tryd.func3, Tryd.ntmps3
  go_wp2_with fail
  rw [← HW.out]
  clear HW
  refine (long06_any ⟨ts, ps, .slice A ts.length c, .slice A' ps.length c'⟩ W HD.out).mono ?_
  rintro e1 w2 ⟨bl, rfl, hsh, hb⟩
  have HB2 := Lib.hid (Bel.then HB.out hb)
  have HC2 := Lib.hid (HC.out.later hb)
  have HP2 := Lib.hid (HP.out.later hb)
  have HD2 := Lib.hid (HD.out.later hb)
  have HT2 := Lib.hid (HT.out.later hb)
  clear hb HB HC HP HD HT
  cases bl
  rotate_left
  · clear hsh
    go_wp2_with fail
    refine (works08_any _).mono ?_
    rintro e2 w3 ⟨rfl, hb⟩
    have HB3 := Lib.hid (Bel.then HB2.out hb)
    clear hb
    go_wp2_with fail
    go_ret
    exact ⟨rfl, HB3.out⟩
  have hL := (hsh rfl).len
  have HL := Lib.hid hL
  clear hsh hL
  have hc := HC2.out.2
  have hcl := HC2.out.1
  go_wp2_with fail
  refine (check_any ⟨ts, ps, .slice A ts.length c, .slice A' ps.length c'⟩ _ HD2.out HT2.out HL.out).mono ?_
  rintro e2 w3 ⟨ck, rfl, _, hb⟩
  have HB3 := Lib.hid (Bel.then HB2.out hb)
  have HC3 := Lib.hid (HC2.out.later hb)
  have HP3 := Lib.hid (HP2.out.later hb)
  clear hb HB2 HC2 HP2 HD2 HT2 hc hcl
  by_cases hk0 : ck = 0
  rotate_left
  · have hkb : (ck != 0) = true := by simp [hk0]
    clear hk0
    go_wp2_with fail
    refine (works08_any _).mono ?_
    rintro e2 w4 ⟨rfl, hb⟩
    have HB4 := Lib.hid (Bel.then HB3.out hb)
    clear hb
    go_wp2_with fail
    go_ret
    exact ⟨rfl, HB4.out⟩
  subst hk0
  by_cases h200 : 200 < (xs.length : Int)
  · go_wp2_with fail
    refine (works08_any _).mono ?_
    rintro e2 w4 ⟨rfl, hb⟩
    have HB4 := Lib.hid (Bel.then HB3.out hb)
    clear hb
    go_wp2_with fail
    go_ret
    exact ⟨rfl, HB4.out⟩
  have hxl : xs.length ≤ 200 := by omega
  replace HEV := Lib.hid (HEV.out hxl)
  replace HREV := Lib.hid (HREV.out hxl)
  go_wp2_with fail
  refine (lentInts_any xs _ w3.heap.size _ (HX.out.later HB3.out) (Nat.le_refl _) (by omega)).mono ?_
  rintro e2 w4 ⟨r2, rfl, hown, hb⟩
  have HL2 := Lib.hid hown.sl
  have hlen : (xs ++ marksI).length = xs.length + 5 := by simp [marksI]
  obtain ⟨A2, c2, h2⟩ := hown.sl.shape
  rw [hlen] at h2
  subst h2
  have HB4 := Lib.hid (Bel.then HB3.out hb)
  have HC4 := Lib.hid (HC3.out.later hb)
  have HP4 := Lib.hid (HP3.out.later hb)
  obtain ⟨A5, c5, he5⟩ := sliced_shape A2 0 xs.length c2
  rw [Nat.sub_zero] at he5
  have hcap : xs.length ≤ c2 := by
    obtain ⟨b, off, _, _, h, _⟩ := HL2.out.elem (i := 0) (by omega)
    omega
  have hcut := fun W => run_uptoI A2 (xs.length + 5) c2 xs.length hcap W
  rw [he5] at hcut
  have HS4 : Hid (Sl .i64 w4 w4.heap.size (.slice A5 xs.length c5) xs) := by
    have := HL2.out.upto_ (a := xs.length) (by omega)
    rw [he5, List.take_left] at this
    exact this
  clear hown hb he5 hlen HC3 HP3 HB3
  have hpl := HP4.out.1
  have c0 : w4.cell? ⟨w.heap.size + 1, 0, none⟩ = some (.int .i64 (v 0)) := HP4.out.2 0
  have c1 : w4.cell? ⟨w.heap.size + 1, 1, none⟩ = some (.int .i64 (v 1)) := HP4.out.2 1
  have c2 : w4.cell? ⟨w.heap.size + 1, 2, none⟩ = some (.int .i64 (v 2)) := HP4.out.2 2
  have c3 : w4.cell? ⟨w.heap.size + 1, 3, none⟩ = some (.int .i64 (v 3)) := HP4.out.2 3
  have c4 : w4.cell? ⟨w.heap.size + 1, 4, none⟩ = some (.int .i64 (v 4)) := HP4.out.2 4
  have c5 : w4.cell? ⟨w.heap.size + 1, 5, none⟩ = some (.int .i64 (v 5)) := HP4.out.2 5
  have c6 : w4.cell? ⟨w.heap.size + 1, 6, none⟩ = some (.int .i64 (v 6)) := HP4.out.2 6
  have hneW : w.heap.size + 1 ≠ w4.heap.size := by omega
  have hneW' : w4.heap.size ≠ w.heap.size + 1 := by omega
  go_wp2_with fail
  go_cut [12, 13] from 31 to 41 (fun s12 s13 wx => EvSt w4 e ys k s12 s13 wx)
  case first =>
    go_region_held3 (fun w' => w'.cell? ⟨w.heap.size + 1, 0, none⟩ = some (.int .i64 (v 0)) ∧ w'.cell? ⟨w.heap.size + 1, 1, none⟩ = some (.int .i64 (v 1)) ∧ w'.cell? ⟨w.heap.size + 1, 2, none⟩ = some (.int .i64 (v 2)) ∧ w'.cell? ⟨w.heap.size + 1, 3, none⟩ = some (.int .i64 (v 3)) ∧ w'.cell? ⟨w.heap.size + 1, 4, none⟩ = some (.int .i64 (v 4)) ∧ w'.cell? ⟨w.heap.size + 1, 5, none⟩ = some (.int .i64 (v 5)) ∧ w'.cell? ⟨w.heap.size + 1, 6, none⟩ = some (.int .i64 (v 6))) (go_keep) (first
      | (go_at_call 10; refine (HEV.out _ _ (by first | exact HS4.out.later ((Below.drew (Below.refl _ _)).alloc (Nat.le_refl _) _) | exact HS4.out.later (Below.drew ((Below.refl _ _).alloc (Nat.le_refl _) _)))).mono ?_; rintro e2 w5 ⟨dv, rfl, hown, hb⟩; have k0 := hb.cell (p := ⟨w.heap.size + 1, 0, none⟩) (by simp [go_sem]; omega); have k1 := hb.cell (p := ⟨w.heap.size + 1, 1, none⟩) (by simp [go_sem]; omega); have k2 := hb.cell (p := ⟨w.heap.size + 1, 2, none⟩) (by simp [go_sem]; omega); have k3 := hb.cell (p := ⟨w.heap.size + 1, 3, none⟩) (by simp [go_sem]; omega); have k4 := hb.cell (p := ⟨w.heap.size + 1, 4, none⟩) (by simp [go_sem]; omega); have k5 := hb.cell (p := ⟨w.heap.size + 1, 5, none⟩) (by simp [go_sem]; omega); have k6 := hb.cell (p := ⟨w.heap.size + 1, 6, none⟩) (by simp [go_sem]; omega); have q0 : w5.cell? ⟨w4.heap.size, 0, none⟩ = some (.int .i64 0) := (hb.cell (p := ⟨w4.heap.size, 0, none⟩) (by simp [go_sem])).trans (by simp [go_sem]); have qf0 : w5.frozen? ⟨w4.heap.size, 0, none⟩ = false := (hb.frozen (p := ⟨w4.heap.size, 0, none⟩) (by simp [go_sem])).trans (by simp [go_sem]); have q1 : w5.cell? ⟨w4.heap.size, 1, none⟩ = some (.int .i64 0) := (hb.cell (p := ⟨w4.heap.size, 1, none⟩) (by simp [go_sem])).trans (by simp [go_sem]); have qf1 : w5.frozen? ⟨w4.heap.size, 1, none⟩ = false := (hb.frozen (p := ⟨w4.heap.size, 1, none⟩) (by simp [go_sem])).trans (by simp [go_sem]); have q2 : w5.cell? ⟨w4.heap.size, 2, none⟩ = some (.int .i64 0) := (hb.cell (p := ⟨w4.heap.size, 2, none⟩) (by simp [go_sem])).trans (by simp [go_sem]); have qf2 : w5.frozen? ⟨w4.heap.size, 2, none⟩ = false := (hb.frozen (p := ⟨w4.heap.size, 2, none⟩) (by simp [go_sem])).trans (by simp [go_sem]); have q3 : w5.cell? ⟨w4.heap.size, 3, none⟩ = some (.slice none 0 0) := (hb.cell (p := ⟨w4.heap.size, 3, none⟩) (by simp [go_sem])).trans (by simp [go_sem]); have qf3 : w5.frozen? ⟨w4.heap.size, 3, none⟩ = false := (hb.frozen (p := ⟨w4.heap.size, 3, none⟩) (by simp [go_sem])).trans (by simp [go_sem]); have q4 : w5.cell? ⟨w4.heap.size, 4, none⟩ = some (.int .i64 0) := (hb.cell (p := ⟨w4.heap.size, 4, none⟩) (by simp [go_sem])).trans (by simp [go_sem]); have qf4 : w5.frozen? ⟨w4.heap.size, 4, none⟩ = false := (hb.frozen (p := ⟨w4.heap.size, 4, none⟩) (by simp [go_sem])).trans (by simp [go_sem]); have q5 : w5.cell? ⟨w4.heap.size, 5, none⟩ = some (.int .i64 0) := (hb.cell (p := ⟨w4.heap.size, 5, none⟩) (by simp [go_sem])).trans (by simp [go_sem]); have qf5 : w5.frozen? ⟨w4.heap.size, 5, none⟩ = false := (hb.frozen (p := ⟨w4.heap.size, 5, none⟩) (by simp [go_sem])).trans (by simp [go_sem]); have q6 : w5.cell? ⟨w4.heap.size, 6, none⟩ = some (.int .i64 0) := (hb.cell (p := ⟨w4.heap.size, 6, none⟩) (by simp [go_sem])).trans (by simp [go_sem]); have qf6 : w5.frozen? ⟨w4.heap.size, 6, none⟩ = false := (hb.frozen (p := ⟨w4.heap.size, 6, none⟩) (by simp [go_sem])).trans (by simp [go_sem]); have q7 : w5.cell? ⟨w4.heap.size, 7, none⟩ = some (.int .i64 0) := (hb.cell (p := ⟨w4.heap.size, 7, none⟩) (by simp [go_sem])).trans (by simp [go_sem]); have qf7 : w5.frozen? ⟨w4.heap.size, 7, none⟩ = false := (hb.frozen (p := ⟨w4.heap.size, 7, none⟩) (by simp [go_sem])).trans (by simp [go_sem]); have q8 : w5.cell? ⟨w4.heap.size, 8, none⟩ = some (.int .i64 0) := (hb.cell (p := ⟨w4.heap.size, 8, none⟩) (by simp [go_sem])).trans (by simp [go_sem]); have qf8 : w5.frozen? ⟨w4.heap.size, 8, none⟩ = false := (hb.frozen (p := ⟨w4.heap.size, 8, none⟩) (by simp [go_sem])).trans (by simp [go_sem]); have q9 : w5.cell? ⟨w4.heap.size, 9, none⟩ = some (.int .i64 0) := (hb.cell (p := ⟨w4.heap.size, 9, none⟩) (by simp [go_sem])).trans (by simp [go_sem]); have qf9 : w5.frozen? ⟨w4.heap.size, 9, none⟩ = false := (hb.frozen (p := ⟨w4.heap.size, 9, none⟩) (by simp [go_sem])).trans (by simp [go_sem]); have hlt2 : w.heap.size + 1 < w5.heap.size := Nat.lt_of_lt_of_le (by simp [go_sem]; omega) hb.size; have hn2 := Nat.ne_of_lt hlt2; have hn2' := Nat.ne_of_gt hlt2; have HOWN := Lib.hid hown; have HB5 := Lib.hid hb; obtain ⟨A3, c3, rfl⟩ := hown.sl.shape; clear hown hb)
      | (go_at_call 10; refine (HEV.out _ _ (HS4.out.later (Below.drew (Below.refl _ _)))).mono ?_; rintro e2 w5 ⟨dv, rfl, hown, hb⟩; have k0 := hb.cell (p := ⟨w.heap.size + 1, 0, none⟩) (by simp [go_sem]; omega); have k1 := hb.cell (p := ⟨w.heap.size + 1, 1, none⟩) (by simp [go_sem]; omega); have k2 := hb.cell (p := ⟨w.heap.size + 1, 2, none⟩) (by simp [go_sem]; omega); have k3 := hb.cell (p := ⟨w.heap.size + 1, 3, none⟩) (by simp [go_sem]; omega); have k4 := hb.cell (p := ⟨w.heap.size + 1, 4, none⟩) (by simp [go_sem]; omega); have k5 := hb.cell (p := ⟨w.heap.size + 1, 5, none⟩) (by simp [go_sem]; omega); have k6 := hb.cell (p := ⟨w.heap.size + 1, 6, none⟩) (by simp [go_sem]; omega); have hlt2 : w.heap.size + 1 < w5.heap.size := Nat.lt_of_lt_of_le (by simp [go_sem]; omega) hb.size; have hn2 := Nat.ne_of_lt hlt2; have hn2' := Nat.ne_of_gt hlt2; have HOWN := Lib.hid hown; have HB5 := Lib.hid hb; obtain ⟨A3, c3, rfl⟩ := hown.sl.shape; clear hown hb))
    all_goals
      go_wp2_with fail
      go_meet
      first
        | exact evst_one HB5.out HOWN.out rfl
        | exact evst_two rfl HB5.out HOWN.out rfl
  case rest =>
    obtain ⟨q, A9, c9, rfl, rfl, hE, hO, hBE⟩ := hcut
    clear c0 c1 c2 c3 c4 c5 c6 hcut
    have HBE := Lib.hid hBE
    have HOE := Lib.hid hO
    have HE := Lib.hid hE
    have hp := (HP4.out.later hBE).2
    have hpl := (HP4.out.later hBE).1
    clear hE hO hBE
    go_wp2_with fail
    refine (HREV.out _ _ (HX.out.later (Bel.then HB4.out HBE.out))).mono ?_
    rintro e3 w6 ⟨dv2, rfl, hown2, hb6⟩
    obtain ⟨A7, c7, rfl⟩ := hown2.sl.shape
    obtain ⟨W7, hW7⟩ : ∃ W7, W7 = w6.alloc (.cells (evC e (.slice A7 ys.length c7)) 37) := ⟨_, rfl⟩
    have hgr : Below w6.heap.size w6 W7 := by rw [hW7]; exact Bel.grew (Below.refl _ _) _
    have hF := Has.new w6 (evC e (.slice A7 ys.length c7)) 37
    rw [← hW7] at hF
    have hb67 := Bel.then hb6 hgr
    have HB7 := Lib.hid (Bel.then (Bel.then HB4.out HBE.out) hb67)
    have HB47 := Lib.hid (Bel.then HBE.out hb67)
    have HO7 := Lib.hid (HOE.out.later hb67)
    have HO72 := Lib.hid ((hown2.later hgr).sl)
    have hE7 := (HE.out.later hb67).2
    have hE7l := (HE.out.later hb67).1
    have HE7 := Lib.hid (HE.out.later hb67)
    have hF7 := hF.2
    have hF7l := hF.1
    have hP7 := ((HP4.out.later HBE.out).later hb67).2
    have hP7l := ((HP4.out.later HBE.out).later hb67).1
    have hC7 := ((HC4.out.later HBE.out).later hb67).2
    have hC7l := ((HC4.out.later HBE.out).later hb67).1
    obtain ⟨r, hr⟩ := CmdRel.some_ ⟨ts, ps, .slice A ts.length c, .slice A' ps.length c'⟩ v
    have HR := Lib.hid hr
    have HW7 := Lib.hid hW7
    clear hown2 hb6 hgr hF hb67 hr hW7 hp hpl
    go_wp2_with fail
    rw [← HW7.out]
    clear HW7
    refine wp_region_later (by kernel_rfl) (by kernel_rfl) ?_
    repeat (any_goals (first | go_big_quiet_step (first
      | (go_at_call 12; have hC := sameEv_eq e (.slice A9 ys.length c9) (.slice A7 ys.length c7) ys (Later.w ‹_›) (HO7.out.sl.later (Later.h ‹_›)) (HO72.out.later (Later.h ‹_›)) hys; with_reducible exact Later.call hC)
      | (go_at_call 13; have hC := cCheck_is ⟨ts, ps, .slice A ts.length c, .slice A' ps.length c'⟩ v r HR.out (Later.w ‹_›) (HDw.out.later (Bel.then HB7.out (Later.h ‹_›))) (HTw.out.later (Bel.then HB7.out (Later.h ‹_›))) HL.out; with_reducible exact Later.call hC)
      | (go_at_call 14; have hC := rcCheck_is ⟨ts, ps, .slice A ts.length c, .slice A' ps.length c'⟩ v r HR.out (Later.w ‹_›) (HDw.out.later (Bel.then HB7.out (Later.h ‹_›))) HL.out; with_reducible exact Later.call hC))))
    refine wpQuiet_nil ?_
    intro x
    obtain ⟨w8, hb8⟩ := x
    dsimp only
    have HB8 := Lib.hid (Bel.then HB7.out hb8)
    have HB48 := Lib.hid (Bel.then HB47.out hb8)
    have HO8 := Lib.hid (HO7.out.later hb8)
    have hE8 := (HE7.out.later hb8).2
    have hE8l := (HE7.out.later hb8).1
    clear hb8 hE7 hE7l hF7 hF7l hP7 hP7l hC7 hC7l
    go_wp2_with fail
    refine (spoilInts_any ys _ w4.heap.size _ HO8.out hys).mono ?_
    rintro e4 w9 ⟨rfl, hb9⟩
    have HB49 := Lib.hid (HB48.out.trans hb9)
    clear hb9 hE8 hE8l
    go_wp2_with fail
    refine (keptInts_any xs _ _ w4.heap.size _ (HL2.out.below HB49.out) ((HX.out.later HB4.out).below HB49.out) HB49.out.size (by omega)).mono ?_
    rintro e5 w10 ⟨rfl, hb10⟩
    have HB10 := Lib.hid (Bel.then (Bel.then HB4.out HB49.out) hb10)
    clear hb10
    go_wp2_with fail
    refine (works08_any _).mono ?_
    rintro e6 w11 ⟨rfl, hb11⟩
    have HB11 := Lib.hid (Bel.then HB10.out hb11)
    clear hb11
    go_wp2_with fail
    go_ret
    exact ⟨rfl, HB11.out⟩
def evE (o g lam : Int) (v : Nat → Int) : Nat → Int
  | 0 => o
  | 1 => g
  | 2 => lam
  | 3 => v 0
  | 4 => v 1
  | 5 => v 2
  | 6 => v 3
  | 7 => v 4
  | _ => v 6
theorem commandChecks_any (D : Dc) (v : Nat → Int) (o lam : Int) (xs : List Int) (x : Value) (w : World) (hD : D.In w w.heap.size) (hT : Tab w) (hx : Sl .i64 w w.heap.size x xs) (hr : ∀ n ∈ xs, n ≤ 9223372036854775807) (hlm : lam ≤ 9223372036854775807) :
    Calls Tryd.prog 3 #[declV D, cmdV v, .int .i64 o, x, .int .i64 lam] w fun r w' => r = .returned (.bool true) ∧ Below w.heap.size w w' := by
  by_cases hbad : o < 0 ∨ (xs.length : Int) ≤ o ∨ lam < 0
  · exact checks_with D v o lam 1 xs [] (fun _ => 0) x w hD hT hx (by decide)
      (fun _ W x h => (ev_bad v o lam xs x W h hbad).mono fun r w' ⟨he, hb⟩ => ⟨_, he, OwnK.nil_ _ _, hb⟩)
      (fun _ W x h => (rev_bad v o lam xs x W h hbad).mono fun r w' ⟨he, hb⟩ => ⟨_, he, OwnK.nil_ _ _, hb⟩)
  · have h0 : 0 ≤ o := by omega
    have h1 : o < (xs.length : Int) := by omega
    have h2 : 0 ≤ lam := by omega
    by_cases hfull : getV xs o = 9223372036854775807 ∨ lam = 9223372036854775807
    · exact checks_with D v o lam 13 xs [] (fun _ => 0) x w hD hT hx (by decide)
        (fun _ W x h => (ev_full v o lam _ xs x W h h0 h1 h2 rfl hfull).mono fun r w' ⟨he, hb⟩ => ⟨_, he, OwnK.nil_ _ _, hb⟩)
        (fun _ W x h => (rev_full v o lam _ xs x W h h0 h1 h2 rfl hfull).mono fun r w' ⟨he, hb⟩ => ⟨_, he, OwnK.nil_ _ _, hb⟩)
    · have h3 := getV_le hr o
      have h4 := getV_nonneg xs o
      by_cases hl : xs.length ≤ 200
      · exact checks_with D v o lam 0 xs (joinV xs []) (evE o (getV xs o + 1) (lam + 1) v) x w hD hT hx (by rw [joinV_length]; simp; omega)
          (fun hl W x h => (ev_ok v o lam _ xs x W h (by omega) h0 h1 h2 rfl h4 (by omega) (by omega)).mono fun r w' ⟨dv, he, ho, hb⟩ => ⟨dv, he, ho, hb⟩)
          (fun hl W x h => (rev_ok v o lam _ xs x W h (by omega) h0 h1 h2 rfl h4 (by omega) (by omega)).mono fun r w' ⟨dv, he, ho, hb⟩ => ⟨dv, he, ho, hb⟩)
      · exact checks_with D v o lam 0 xs [] (fun _ => 0) x w hD hT hx (by decide) (fun h => absurd h hl) (fun h => absurd h hl)
end Go.Proofs.YtjjccjannandlaaDoor
