/- CommandFits: the walk. -/
import Derived.Test.YtjjccjannandlaaDoorMzSCCheck
import Derived.Test.YtjjccjannandlaaDoorMzSCheck
import Derived.Test.YtjjccjannandlaaDoorMzDLong
import Derived.Test.YtjjccjannandlaaDoorMzWorks08
set_option maxRecDepth 100000
set_option maxRecDepth 100000
set_option maxRecDepth 100000
set_option linter.unusedVariables false
set_option linter.unusedSimpArgs false
namespace Go.Proofs.YtjjccjannandlaaDoor
open Go.RowKit Go.BigFrame

theorem ShortD.len {D : Dc} {m : Nat} (h : ShortD D m) : LenD D := ⟨by have := h.1; omega, fun t ht => ⟨by have := (h.2.2 t ht).1; omega, fun f hf => by have := (h.2.2 t ht).2 f hf; omega⟩⟩
def fitX (v : Nat → Int) (a k e : Int) : Nat → Int
  | 1 => a
  | 5 => e
  | 6 => k
  | i => v i
theorem fitX_bad {D : Dc} {v : Nat → Int} {a k e r : Int} (h : CmdRel D (fitX v a k e) r) (hb : a < 0 ∨ k < 0 ∨ e < -1) : r = 1 := by
  rcases h with ⟨_, h⟩ | ⟨⟨h1, h2, h3⟩, _⟩
  · exact h
  · have h1' : 0 ≤ a := h1
    have h2' : 0 ≤ k := h2
    have h3' : -1 ≤ e := h3
    omega
theorem fitX_ok {D : Dc} {v : Nat → Int} {a k e r : Int} (h : CmdRel D (fitX v a k e) r) (h1 : 0 ≤ a) (h2 : 0 ≤ k) (h3 : -1 ≤ e) : FitsRel D (v 0) (v 2) (v 3) (v 4) r := by
  rcases h with ⟨h, _⟩ | ⟨_, h⟩
  · have h' : a < 0 ∨ k < 0 ∨ e < -1 := h
    omega
  · exact h
theorem below3 {B q : Nat} {u w W : World} {a k e : Value} (hW : W = ((w.setCell ⟨q, 1, none⟩ a).setCell ⟨q, 6, none⟩ k).setCell ⟨q, 5, none⟩ e) (h : Below B u w) (hq : B ≤ q) : Below B u W := by
  rw [hW]
  exact ((h.setCell hq _).setCell hq _).setCell hq _
theorem size3 {q : Nat} {w W : World} {a k e : Value} (hW : W = ((w.setCell ⟨q, 1, none⟩ a).setCell ⟨q, 6, none⟩ k).setCell ⟨q, 5, none⟩ e) : W.heap.size = w.heap.size := by
  rw [hW]; simp [World.setCell]
theorem fitX_stores {w W : World} {q : Nat} {v : Nat → Int} {a k e : Int} (h : ∀ o, o < 7 → w.cell? ⟨q, o, none⟩ = some (.int .i64 (v o)))
    (hW : W = ((w.setCell ⟨q, 1, none⟩ (.int .i64 a)).setCell ⟨q, 6, none⟩ (.int .i64 k)).setCell ⟨q, 5, none⟩ (.int .i64 e)) : ∀ o, o < 7 → W.cell? ⟨q, o, none⟩ = some (.int .i64 (fitX v a k e o)) := by
  have ne : ∀ (W : World) (i j : Nat) (u : Value), i ≠ j → (W.setCell ⟨q, i, none⟩ u).cell? ⟨q, j, none⟩ = W.cell? ⟨q, j, none⟩ := fun W i j u h => World.cell?_setCell_other W ⟨q, i, none⟩ ⟨q, j, none⟩ _ (by simp [Ne.symm h])
  intro o ho
  rw [hW]
  rcases (show o = 0 ∨ o = 1 ∨ o = 2 ∨ o = 3 ∨ o = 4 ∨ o = 5 ∨ o = 6 from by omega) with rfl | rfl | rfl | rfl | rfl | rfl | rfl
  · rw [ne _ 5 0 _ (by decide), ne _ 6 0 _ (by decide), ne _ 1 0 _ (by decide)]; exact h 0 (by decide)
  · rw [ne _ 5 1 _ (by decide), ne _ 6 1 _ (by decide)]; exact World.cell?_setCell_same _ _ _ (h 1 (by decide))
  · rw [ne _ 5 2 _ (by decide), ne _ 6 2 _ (by decide), ne _ 1 2 _ (by decide)]; exact h 2 (by decide)
  · rw [ne _ 5 3 _ (by decide), ne _ 6 3 _ (by decide), ne _ 1 3 _ (by decide)]; exact h 3 (by decide)
  · rw [ne _ 5 4 _ (by decide), ne _ 6 4 _ (by decide), ne _ 1 4 _ (by decide)]; exact h 4 (by decide)
  · exact World.cell?_setCell_same _ _ _ ((ne _ 6 5 _ (by decide)).trans ((ne _ 1 5 _ (by decide)).trans (h 5 (by decide))))
  · rw [ne _ 5 6 _ (by decide)]; exact World.cell?_setCell_same _ _ _ ((ne _ 1 6 _ (by decide)).trans (h 6 (by decide)))
theorem seven_cells {w : World} {q : Nat} {v : Nat → Int} (h : ∀ o, w.cell? ⟨q, o, none⟩ = #[.int .i64 (v 0), .int .i64 (v 1), .int .i64 (v 2), .int .i64 (v 3), .int .i64 (v 4), .int .i64 (v 5), .int .i64 (v 6)][o]?) : ∀ o, o < 7 → w.cell? ⟨q, o, none⟩ = some (.int .i64 (v o)) := by
  intro o ho
  rcases (show o = 0 ∨ o = 1 ∨ o = 2 ∨ o = 3 ∨ o = 4 ∨ o = 5 ∨ o = 6 from by omega) with rfl | rfl | rfl | rfl | rfl | rfl | rfl <;> exact h _
set_option maxHeartbeats 16000000 in
theorem commandFits_any (D : Dc) (v : Nat → Int) (a k e : Int) (w : World) (hD : D.In w w.heap.size) (hT : Tab w) :
    Calls Tryd.prog 4 #[declV D, cmdV v, .int .i64 a, .int .i64 k, .int .i64 e] w fun r w' => r = .returned (.bool true) ∧ Below w.heap.size w w' := by
  obtain ⟨ts, ps, tv, pv⟩ := D
  obtain ⟨A, c, h1⟩ := hD.1.shapeL
  obtain ⟨A', c', h2⟩ := hD.2.2.shapeL
  dsimp only at h1 h2
  subst h1 h2
  obtain ⟨W, hW⟩ : ∃ W, W = (w.alloc (.cells #[.slice A ts.length c, .slice A' ps.length c'] 25)).alloc (.cells #[.int .i64 (v 0), .int .i64 (v 1), .int .i64 (v 2), .int .i64 (v 3), .int .i64 (v 4), .int .i64 (v 5), .int .i64 (v 6)] 27) := ⟨_, rfl⟩
  have hB : Below w.heap.size w W := by rw [hW]; exact Bel.grew (Bel.grew (Below.refl _ _) _) _
  have hC : Has W w.heap.size #[.slice A ts.length c, .slice A' ps.length c'] := by rw [hW]; exact (Has.new w _ _).grow _
  have hP : Has W (w.heap.size + 1) #[.int .i64 (v 0), .int .i64 (v 1), .int .i64 (v 2), .int .i64 (v 3), .int .i64 (v 4), .int .i64 (v 5), .int .i64 (v 6)] := by rw [hW]; exact Has.new1 _ _ _ (by simp)
  have HD := Lib.hid (hD.later hB)
  have HT := Lib.hid (hT.later hB)
  have HB := Lib.hid hB
  have HW := Lib.hid hW
  have HC := Lib.hid hC
  have HP := Lib.hid hP
  have HFZ : Hid (∀ o, W.frozen? ⟨w.heap.size + 1, o, none⟩ = false) := Lib.hid (by intro o; rw [hW]; simp [go_sem])
  have HDw := Lib.hid hD
  have HTw := Lib.hid hT
  clear hD hT hB hW hC hP
  go_enter Tryd.func4, Tryd.ntmps4
  go_wp2_with fail
  rw [← HW.out]
  clear HW
  refine (long06_any ⟨ts, ps, .slice A ts.length c, .slice A' ps.length c'⟩ W HD.out).mono ?_
  rintro e1 w2 ⟨bl, rfl, hsh, hb⟩
  have HB2 := Lib.hid (Bel.then HB.out hb)
  have HF2 : Hid (∀ o, w2.frozen? ⟨w.heap.size + 1, o, none⟩ = false) := Lib.hid fun o => (hb.frozen (p := ⟨w.heap.size + 1, o, none⟩) HP.out.1).trans (HFZ.out o)
  have HC2 := Lib.hid (HC.out.later hb)
  have HP2 := Lib.hid (HP.out.later hb)
  have HD2 := Lib.hid (HD.out.later hb)
  have HT2 := Lib.hid (HT.out.later hb)
  clear hb HB HC HP HD HT
  cases bl
  rotate_left
  · clear hsh
    go_wp2_with fail
    refine (works08_any _).mono ?_
    rintro e2 w3 ⟨rfl, hb⟩
    have HB3 := Lib.hid (Bel.then HB2.out hb)
    clear hb
    go_wp2_with fail
    go_ret
    exact ⟨rfl, HB3.out⟩
  have hL := (hsh rfl).len
  have HL := Lib.hid hL
  clear hsh hL
  have hc := HC2.out.2
  have hcl := HC2.out.1
  go_wp2_with fail
  refine (check_any ⟨ts, ps, .slice A ts.length c, .slice A' ps.length c'⟩ _ HD2.out HT2.out HL.out).mono ?_
  rintro e2 w3 ⟨ck, rfl, _, hb⟩
  have HB3 := Lib.hid (Bel.then HB2.out hb)
  have hfz : ∀ o, w3.frozen? ⟨w.heap.size + 1, o, none⟩ = false := fun o => (hb.frozen (p := ⟨w.heap.size + 1, o, none⟩) HP2.out.1).trans (HF2.out o)
  have HC3 := Lib.hid (HC2.out.later hb)
  have HP3 := Lib.hid (HP2.out.later hb)
  have HD3 := Lib.hid (HD2.out.later hb)
  have HT3 := Lib.hid (HT2.out.later hb)
  clear hb HB2 HC2 HP2 HD2 HT2 hc hcl
  by_cases hk0 : ck = 0
  rotate_left
  · have hkb : (ck != 0) = true := by simp [hk0]
    clear hk0
    go_wp2_with fail
    refine (works08_any _).mono ?_
    rintro e2 w4 ⟨rfl, hb⟩
    have HB4 := Lib.hid (Bel.then HB3.out hb)
    clear hb
    go_wp2_with fail
    go_ret
    exact ⟨rfl, HB4.out⟩
  subst hk0
  have hp := HP3.out.2
  have hpl := HP3.out.1
  have hc := HC3.out.2
  have hcl := HC3.out.1
  go_wp2_with fail
  obtain ⟨W4, hW4⟩ : ∃ W4, W4 = ((w3.setCell ⟨w.heap.size + 1, 1, none⟩ (.int .i64 (max (v 1) 0))).setCell ⟨w.heap.size + 1, 6, none⟩ (.int .i64 (max (v 6) 0))).setCell ⟨w.heap.size + 1, 5, none⟩ (.int .i64 (max (v 5) (-1))) := ⟨_, rfl⟩
  have hB4 := below3 hW4 HB3.out (Nat.le_succ _)
  have hL4 := below3 hW4 (Below.refl (w.heap.size + 1) w3) (Nat.le_refl _)
  have hs4 := size3 hW4
  have HC4 : Hid (Has W4 w.heap.size #[.slice A ts.length c, .slice A' ps.length c']) := Lib.hid ⟨by rw [hs4]; exact HC3.out.1, fun o => (hL4.cell (p := ⟨w.heap.size, o, none⟩) (Nat.lt_succ_self _)).trans (HC3.out.2 o)⟩
  have hQ := fitX_stores (seven_cells hp) hW4
  have HQ := Lib.hid hQ
  have HQL : Hid (w.heap.size + 1 < W4.heap.size) := Lib.hid (by rw [hs4]; exact hpl)
  have hgr : Below W4.heap.size W4 (W4.alloc (.cells #[.int .i64 (v 0), .int .i64 a, .int .i64 (v 2), .int .i64 (v 3), .int .i64 (v 4), .int .i64 e, .int .i64 k] 27)) := Bel.grew (Below.refl _ _) _
  have HB4 := Lib.hid hB4
  with_reducible rw [← hW4]
  clear hW4 hB4 hL4 hs4 hQ hp hpl hc hcl hfz
  have hcc : ∀ W : World, (⟨ts, ps, .slice A ts.length c, .slice A' ps.length c'⟩ : Dc).In W W.heap.size → Tab W → Calls Tryd.prog 13 #[declV ⟨ts, ps, .slice A ts.length c, .slice A' ps.length c'⟩, .agg #[.int .i64 (v 0), .int .i64 a, .int .i64 (v 2), .int .i64 (v 3), .int .i64 (v 4), .int .i64 e, .int .i64 k]] W fun r w' => CRet (CmdRel ⟨ts, ps, .slice A ts.length c, .slice A' ps.length c'⟩ (fitX v a k e)) W r w' := fun W h1 h2 => cCheck_any _ (fitX v a k e) W h1 h2 HL.out
  with_reducible refine (hcc _ (HDw.out.later (Bel.then HB4.out hgr)) (HTw.out.later (Bel.then HB4.out hgr))).mono ?_
  rintro e2 w6 ⟨r1, rfl, hr1, hb⟩
  have HB46 := Lib.hid (Bel.then hgr hb)
  have HB6 := Lib.hid (Bel.then HB4.out HB46.out)
  clear hb hgr
  by_cases hbad : a < 0 ∨ k < 0 ∨ e < -1
  · have := fitX_bad hr1 hbad
    subst this
    clear hr1
    rcases (show a < 0 ∨ (0 ≤ a ∧ k < 0) ∨ (0 ≤ a ∧ 0 ≤ k ∧ e < -1) from by omega) with h | ⟨h, h'⟩ | ⟨h, h', h''⟩
    all_goals
      clear hbad
      go_wp2_with fail
      refine (works08_any _).mono ?_
      rintro e3 w7 ⟨rfl, hb⟩
      have HB7 := Lib.hid (Bel.then HB6.out hb)
      clear hb
      go_wp2_with fail
      go_ret
      exact ⟨rfl, HB7.out⟩
  have h1 : 0 ≤ a := by omega
  have h2 : 0 ≤ k := by omega
  have h3 : -1 ≤ e := by omega
  have HR1 := Lib.hid (fitX_ok hr1 h1 h2 h3)
  have hc6 := (HC4.out.later HB46.out).2
  have hc6l := (HC4.out.later HB46.out).1
  have hq : ∀ o, o < 7 → w6.cell? ⟨w.heap.size + 1, o, none⟩ = some (.int .i64 (fitX v (max (v 1) 0) (max (v 6) 0) (max (v 5) (-1)) o)) := fun o ho => (HB46.out.cell (p := ⟨w.heap.size + 1, o, none⟩) HQL.out).trans (HQ.out o ho)
  have q0 := hq 0 (by decide)
  have q1 := hq 1 (by decide)
  have q2 := hq 2 (by decide)
  have q3 := hq 3 (by decide)
  have q4 := hq 4 (by decide)
  have q5 := hq 5 (by decide)
  have q6 := hq 6 (by decide)
  dsimp only [fitX] at q0 q1 q2 q3 q4 q5 q6
  clear hbad hr1 hq
  go_wp2_with fail
  have hcc : ∀ W : World, (⟨ts, ps, .slice A ts.length c, .slice A' ps.length c'⟩ : Dc).In W W.heap.size → Tab W → Calls Tryd.prog 13 #[declV ⟨ts, ps, .slice A ts.length c, .slice A' ps.length c'⟩, .agg #[.int .i64 (v 0), .int .i64 (max (v 1) 0), .int .i64 (v 2), .int .i64 (v 3), .int .i64 (v 4), .int .i64 (max (v 5) (-1)), .int .i64 (max (v 6) 0)]] W fun r w' => CRet (CmdRel ⟨ts, ps, .slice A ts.length c, .slice A' ps.length c'⟩ (fitX v (max (v 1) 0) (max (v 6) 0) (max (v 5) (-1)))) W r w' := fun W h1 h2 => cCheck_any _ (fitX v (max (v 1) 0) (max (v 6) 0) (max (v 5) (-1))) W h1 h2 HL.out
  with_reducible refine (hcc _ (HDw.out.later HB6.out) (HTw.out.later HB6.out)).mono ?_
  rintro e3 w7 ⟨r2, rfl, hr2, hb⟩
  have hr2' := fitX_ok hr2 (by omega) (by omega) (by omega)
  have hee := hr2'.one HR1.out
  subst hee
  have HB47 := Lib.hid (Bel.then HB46.out hb)
  have HB7 := Lib.hid (Bel.then HB4.out HB47.out)
  clear hr2 hr2' hb hc6 hc6l q0 q1 q2 q3 q4 q5 q6
  have hc6 := (HC4.out.later HB47.out).2
  have hc6l := (HC4.out.later HB47.out).1
  have hq : ∀ o, o < 7 → w7.cell? ⟨w.heap.size + 1, o, none⟩ = some (.int .i64 (fitX v (max (v 1) 0) (max (v 6) 0) (max (v 5) (-1)) o)) := fun o ho => (HB47.out.cell (p := ⟨w.heap.size + 1, o, none⟩) HQL.out).trans (HQ.out o ho)
  have q0 := hq 0 (by decide)
  have q2 := hq 2 (by decide)
  have q3 := hq 3 (by decide)
  have q4 := hq 4 (by decide)
  dsimp only [fitX] at q0 q2 q3 q4
  clear hq
  go_wp2_with fail
  with_reducible refine (fits_any ⟨ts, ps, .slice A ts.length c, .slice A' ps.length c'⟩ (v 0) (v 2) (v 3) (v 4) _ (HDw.out.later HB7.out) (HTw.out.later HB7.out) HL.out).mono ?_
  rintro e4 w8 ⟨r3, rfl, hr3, hb⟩
  have hee := hr3.one HR1.out
  subst hee
  have HB8 := Lib.hid (Bel.then HB7.out hb)
  clear hr3 hb hc6 hc6l q0 q2 q3 q4
  go_wp2_with fail
  refine (works08_any _).mono ?_
  rintro e5 w9 ⟨rfl, hb⟩
  have HB9 := Lib.hid (Bel.then HB8.out hb)
  clear hb
  go_wp2_with fail
  go_ret
  exact ⟨rfl, HB9.out⟩
end Go.Proofs.YtjjccjannandlaaDoor
