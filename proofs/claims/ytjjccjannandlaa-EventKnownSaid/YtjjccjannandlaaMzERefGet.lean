/- The document's reader: Count; Read and Get of an event. -/
import Derived.Test.YtjjccjannandlaaMzERefPut
import Derived.Test.YtjjccjannandlaaMzEGet
set_option maxRecDepth 100000
set_option linter.unusedVariables false
set_option linter.unusedSimpArgs false
namespace Go.Proofs.Ytjjccjannandlaa
open Go.RowKit Go.BigFrame

theorem rcounted_any {xs : List Int} {S : Value} {p a : Nat} {w : World} (hR : Rd w p xs S a 0) (hl : xs.length ≤ 1099511627776) (hb : Bytes xs) (n k e n' k' e' : Int) (hr : rnumR (xs.drop a) = (n, k, e))
    (hc : (e = 0 ∧ n < 0 ∧ n' = 0 ∧ k' = 0 ∧ e' = 3) ∨ (e = 0 ∧ 0 ≤ n ∧ 64 < n ∧ n' = 0 ∧ k' = 0 ∧ e' = 3) ∨ (e = 0 ∧ 0 ≤ n ∧ n ≤ 64 ∧ n' = n ∧ k' = k ∧ e' = e) ∨ ((e == 0) = false ∧ n' = n ∧ k' = k ∧ e' = e)) :
    Calls Try.prog 66 #[.pointer (some ⟨p, 0, none⟩), .int .i64 64] w fun r w' => r = .returned (.tuple #[.int .i64 n', .int .i64 k', .int .i64 e']) ∧ w = w' := by
  have HN := Lib.hid (rnumber_any hR hl hb n k e hr)
  have hc1 := hR.c1
  have hplt := hR.lt
  clear hR hb hr
  rcases hc with ⟨rfl, h1, rfl, rfl, rfl⟩ | ⟨rfl, h1, h2, rfl, rfl, rfl⟩ | ⟨rfl, h1, h2, rfl, rfl, rfl⟩ | ⟨h1, rfl, rfl, rfl⟩
  all_goals
    go_enter Try.func66, Try.ntmps66
    go_wp2_with fail
    refine HN.out.mono ?_
    rintro r w1 ⟨rfl, rfl⟩
    go_wp2_with fail
    simp [bodyPost, results, Try.results66, go_sem]

theorem rCount_next {xs : List Int} {S : Value} {p : Nat} {st : Nat × Int} {w : World} (hR : Rd w p xs S (st.1 : Int) st.2) (hl : xs.length ≤ 1099511627776) (ha : st.1 ≤ xs.length) (hb : Bytes xs) (r : Int × Nat × Int) (hr : nextC xs 64 st = r) :
    Calls Try.prog 62 #[.pointer (some ⟨p, 0, none⟩), .int .i64 64] w fun e w' => e = .returned (.int .i64 r.1) ∧ But p w w' ∧ Rd w' p xs S (r.2.1 : Int) r.2.2 := by
  obtain ⟨a, why⟩ := st
  dsimp only at hR ha
  have hc1 := hR.c1
  have hc2 := hR.c2
  have hf1 := hR.fz 1
  have hf2 := hR.fz 2
  have hplt := hR.lt
  by_cases hw : why = 0
  · subst hw
    obtain ⟨⟨n, k, e⟩, hnke⟩ : ∃ z, rnumR (xs.drop a) = z := ⟨_, rfl⟩
    obtain ⟨h1, h2, h3, h4⟩ := next_rnum hnke
    rw [nextC_next, h1] at hr
    dsimp only at hr
    obtain ⟨n', k', e', hc, hk0, hk1, hE⟩ : ∃ n' k' e' : Int, ((e = 0 ∧ n < 0 ∧ n' = 0 ∧ k' = 0 ∧ e' = 3) ∨ (e = 0 ∧ 0 ≤ n ∧ 64 < n ∧ n' = 0 ∧ k' = 0 ∧ e' = 3) ∨ (e = 0 ∧ 0 ≤ n ∧ n ≤ 64 ∧ n' = n ∧ k' = k ∧ e' = e) ∨ ((e == 0) = false ∧ n' = n ∧ k' = k ∧ e' = e)) ∧ 0 ≤ k' ∧ k' ≤ xs.length ∧ r = (n', a + k'.toNat, e') := by
      by_cases he : e = 0
      · by_cases hn : 0 ≤ n ∧ n ≤ 64
        · exact ⟨n, k, e, .inr (.inr (.inl ⟨he, hn.1, hn.2, rfl, rfl, rfl⟩)), h3, h4, by rw [← hr, if_neg (fun h => h.2 hn)]⟩
        · refine ⟨0, 0, 3, ?_, by omega, by omega, by rw [← hr, if_pos ⟨he, hn⟩]; rfl⟩
          by_cases h0 : n < 0
          · exact .inl ⟨he, h0, rfl, rfl, rfl⟩
          · exact .inr (.inl ⟨he, by omega, by omega, rfl, rfl, rfl⟩)
      · exact ⟨n, k, e, .inr (.inr (.inr ⟨by simp [he], rfl, rfl, rfl⟩)), h3, h4, by rw [← hr, if_neg (fun h => he h.1)]⟩
    subst hE
    have HN := Lib.hid (rcounted_any hR hl hb n k e n' k' e' hnke hc)
    have hak : IntKind.i64.wrap ((a : Int) + k') = (a : Int) + k' := IntWalk.i64_in _ (by omega)
    have HR := Lib.hid hR
    have H2 : Hid ((a : Int) + k' = ((a + k'.toNat : Nat) : Int)) := Lib.hid (by omega)
    clear hR hnke h1 h2 hb hr hc
    go_enter Try.func62, Try.ntmps62
    go_wp2_with fail
    refine HN.out.mono ?_
    rintro r w1 ⟨rfl, rfl⟩
    go_wp2_with fail
    go_ret
    refine ⟨rfl, ((But.refl _ _).store 1 _).store 2 _, ?_⟩
    have := (HR.out.setAt ((a : Int) + k')).setWhy e'
    rw [H2.out] at this ⊢
    exact this
  · have e1 : nextC xs 64 (a, why) = (0, a, why) := by unfold nextC; rw [if_neg hw]
    rw [e1] at hr
    subst hr
    have hwb : (why != 0) = true := by simp [hw]
    have HR := Lib.hid hR
    clear hR e1
    go_enter Try.func62, Try.ntmps62
    go_wp2_with fail
    go_ret
    exact ⟨rfl, But.refl _ _, HR.out⟩

theorem But.storeNew {p : Nat} {a b : World} (h : But p a b) {q : Nat} (hq : a.heap.size ≤ q) (o : Nat) (v : Value) : But p a (b.setCell ⟨q, o, none⟩ v) :=
  ⟨h.os, h.tape, h.output, by simpa [World.setCell] using h.size, fun k hk hp => (Below.heap_setCell _ _ _ _ (by intro e; simp at e; omega)).trans (h.block k hk hp)⟩
theorem But.far {p B : Nat} {a b c : World} (h : But p a b) (hB : a.heap.size ≤ B) (hb : Below B b c) : But p a c :=
  ⟨hb.os.trans h.os, hb.tape.trans h.tape, hb.output.trans h.output, Nat.le_trans h.size hb.size, fun k hk hp => (hb.block k (by omega)).trans (h.block k hk hp)⟩

/-- The state of the document's reading: the reader lies below, the result, the event. -/
structure RS (w : World) (p : Nat) (xs : List Int) (S : Value) (wr : World) (st : Nat × Int) (f : Nat → Int) (dv : Value) : Prop where
  but : But p w wr
  lo : p < w.heap.size
  lt : w.heap.size + 1 < wr.heap.size
  rd : Rd wr p xs S (st.1 : Int) st.2
  res : Cells10 wr w.heap.size (evC (fun _ => 0) (.slice none 0 0))
  ev : Cells10 wr (w.heap.size + 1) (evC f dv)
section
variable {w wr w' : World} {p : Nat} {xs : List Int} {S : Value} {st st' : Nat × Int} {f f' : Nat → Int} {dv dv' : Value}
theorem RS.call (h : RS w p xs S wr st f dv) (hb : But p wr w') (hR : Rd w' p xs S (st'.1 : Int) st'.2) : RS w p xs S w' st' f dv := by
  have h1 := h.lo; have h3 := h.lt; have h5 := hb.size
  exact ⟨h.but.trans hb, h1, by omega, hR, h.res.but (by omega) (by omega) hb, h.ev.but (by omega) (by omega) hb⟩
theorem RS.far (h : RS w p xs S wr st f dv) (hb : Below (w.heap.size + 2) wr w') : RS w p xs S w' st f dv := by
  have h1 := h.lo; have h3 := h.lt; have h5 := hb.size
  exact ⟨h.but.far (by omega) hb, h1, by omega, h.rd.far (by omega) hb, h.res.below (by omega) hb, h.ev.below (by omega) hb⟩
theorem RS.later (h : RS w p xs S wr st f dv) (hb : Below wr.heap.size wr w') : RS w p xs S w' st f dv := h.far (hb.mono h.lt)
theorem RS.set (h : RS w p xs S wr st f dv) {k : Nat} {v : Value} (hk : k < 10) (hg : ∀ o, o < 10 → evC f' dv' o = if o = k then v else evC f dv o) : RS w p xs S (wr.setCell ⟨w.heap.size + 1, k, none⟩ v) st f' dv' := by
  have h1 := h.lo; have h3 := h.lt
  exact ⟨h.but.storeNew (by omega) _ _, h1, by simpa [World.setCell] using h3, h.rd.other (by omega) k v, h.res.setOther (by omega) _, h.ev.set' hk hg⟩
/-- The next number. -/
theorem RS.num {i : Nat} {g : Nat → Int} (h : RS w p xs S wr st (fun j => if j < i then g j else 0) dv) (hi : i < 9) {k : Nat} (hk : k = offE i) : RS w p xs S (wr.setCell ⟨w.heap.size + 1, k, none⟩ (.int .i64 (g i))) st (fun j => if j < i + 1 then g j else 0) dv := by
  subst hk
  refine h.set (by unfold offE; split <;> omega) fun o ho => ?_
  rw [← evC_num _ _ _ hi ho]
  congr 1
  funext j
  by_cases hj : j = i
  · subst hj; rw [if_pos (by omega), if_pos rfl]
  · by_cases hj2 : j < i
    · rw [if_pos (by omega), if_neg hj, if_pos hj2]
    · rw [if_neg (by omega), if_neg hj, if_neg hj2]
end

set_option maxHeartbeats 8000000 in
theorem erRead_any (xs : List Int) (S : Value) (p : Nat) (w : World) (hR : Rd w p xs S 0 0) (hl : xs.length ≤ 1099511627776) (hb : Bytes xs) (g : Nat → Int) (gs : List Int) (sE : Nat × Int) (hg : eF xs = g) (hgs : eD xs = gs) (hsE : rdN xs (eS xs) 6 = sE) :
    Calls Try.prog 51 #[.pointer (some ⟨p, 0, none⟩)] w fun e w' => ∃ dv, e = .returned (evV g dv) ∧ OwnInts w' w.heap.size dv gs ∧ But p w w' ∧ Rd w' p xs S (sE.1 : Int) sE.2 := by
  have HBY := Lib.hid hb
  obtain ⟨s0, hs0⟩ : ∃ s : Nat × Int, s = (0, 0) := ⟨_, rfl⟩
  obtain ⟨⟨v0, s1⟩, hn0⟩ : ∃ r, nextI xs s0 = r := ⟨_, rfl⟩
  obtain ⟨⟨v1, s2⟩, hn1⟩ : ∃ r, nextI xs s1 = r := ⟨_, rfl⟩
  obtain ⟨⟨v2, s3⟩, hn2⟩ : ∃ r, nextI xs s2 = r := ⟨_, rfl⟩
  obtain ⟨⟨cn, s4⟩, hnc⟩ : ∃ r, nextC xs 64 s3 = r := ⟨_, rfl⟩
  have r1 : rdN xs (0, 0) 1 = s1 := by rw [rdN_succ, ← hs0]; show (nextI xs s0).2 = s1; rw [hn0]
  have r2 : rdN xs (0, 0) 2 = s2 := by rw [rdN_succ, r1, hn1]
  have r3 : rdN xs (0, 0) 3 = s3 := by rw [rdN_succ, r2, hn2]
  have hC : eC xs = (cn, s4) := by unfold eC; rw [r3, hnc]
  have hc64 := nextC_bound xs s3
  rw [hnc] at hc64
  obtain ⟨n, hn⟩ : ∃ n, eN xs = n := ⟨_, rfl⟩
  have hcn : cn = (n : Int) := by rw [← hn]; unfold eN; rw [hC]; show cn = ((cn.toNat : Nat) : Int); have := hc64.1; omega
  have hn64 : n ≤ 64 := by rw [← hn]; exact eN_le xs
  obtain ⟨t0, ht0⟩ : ∃ t, eS xs = t := ⟨_, rfl⟩
  have hS : rdN xs s4 n = t0 := by rw [← ht0, ← hn]; unfold eS; rw [hC]
  have hD : firstN (valN xs s4) n = gs := by rw [← hgs, ← hn]; unfold eD; rw [hC]
  obtain ⟨⟨u0, t1⟩, hm0⟩ : ∃ r, nextI xs t0 = r := ⟨_, rfl⟩
  obtain ⟨⟨u1, t2⟩, hm1⟩ : ∃ r, nextI xs t1 = r := ⟨_, rfl⟩
  obtain ⟨⟨u2, t3⟩, hm2⟩ : ∃ r, nextI xs t2 = r := ⟨_, rfl⟩
  obtain ⟨⟨u3, t4⟩, hm3⟩ : ∃ r, nextI xs t3 = r := ⟨_, rfl⟩
  obtain ⟨⟨u4, t5⟩, hm4⟩ : ∃ r, nextI xs t4 = r := ⟨_, rfl⟩
  obtain ⟨⟨u5, t6⟩, hm5⟩ : ∃ r, nextI xs t5 = r := ⟨_, rfl⟩
  have q0 : rdN xs t0 0 = t0 := rfl
  have q1 : rdN xs t0 1 = t1 := by rw [rdN_succ, q0, hm0]
  have q2 : rdN xs t0 2 = t2 := by rw [rdN_succ, q1, hm1]
  have q3 : rdN xs t0 3 = t3 := by rw [rdN_succ, q2, hm2]
  have q4 : rdN xs t0 4 = t4 := by rw [rdN_succ, q3, hm3]
  have q5 : rdN xs t0 5 = t5 := by rw [rdN_succ, q4, hm4]
  have q6 : rdN xs t0 6 = t6 := by rw [rdN_succ, q5, hm5]
  have hE : t6 = sE := by rw [← hsE, ht0, q6]
  have g0 : v0 = g 0 := by rw [← hg]; unfold eF; rw [if_pos (by decide)]; unfold valN; show v0 = (nextI xs (0, 0)).1; rw [← hs0, hn0]
  have g1 : v1 = g 1 := by rw [← hg]; unfold eF; rw [if_pos (by decide)]; unfold valN; rw [r1, hn1]
  have g2 : v2 = g 2 := by rw [← hg]; unfold eF; rw [if_pos (by decide)]; unfold valN; rw [r2, hn2]
  have g3 : u0 = g 3 := by rw [← hg]; unfold eF; rw [if_neg (by decide), ht0]; unfold valN; show u0 = (nextI xs (rdN xs t0 0)).1; rw [q0, hm0]
  have g4 : u1 = g 4 := by rw [← hg]; unfold eF; rw [if_neg (by decide), ht0]; unfold valN; show u1 = (nextI xs (rdN xs t0 1)).1; rw [q1, hm1]
  have g5 : u2 = g 5 := by rw [← hg]; unfold eF; rw [if_neg (by decide), ht0]; unfold valN; show u2 = (nextI xs (rdN xs t0 2)).1; rw [q2, hm2]
  have g6 : u3 = g 6 := by rw [← hg]; unfold eF; rw [if_neg (by decide), ht0]; unfold valN; show u3 = (nextI xs (rdN xs t0 3)).1; rw [q3, hm3]
  have g7 : u4 = g 7 := by rw [← hg]; unfold eF; rw [if_neg (by decide), ht0]; unfold valN; show u4 = (nextI xs (rdN xs t0 4)).1; rw [q4, hm4]
  have g8 : u5 = g 8 := by rw [← hg]; unfold eF; rw [if_neg (by decide), ht0]; unfold valN; show u5 = (nextI xs (rdN xs t0 5)).1; rw [q5, hm5]
  have l0 : s0.1 ≤ xs.length := by rw [hs0]; exact Nat.zero_le _
  have l1 : s1.1 ≤ xs.length := by have := nextI_le l0; rw [hn0] at this; exact this
  have l2 : s2.1 ≤ xs.length := by have := nextI_le l1; rw [hn1] at this; exact this
  have l3 : s3.1 ≤ xs.length := by have := nextI_le l2; rw [hn2] at this; exact this
  have l4 : s4.1 ≤ xs.length := by have := nextC_le l3; rw [hnc] at this; exact this
  have m0 : t0.1 ≤ xs.length := by rw [← hS]; exact rdN_le l4 n
  have m1 : t1.1 ≤ xs.length := by have := nextI_le m0; rw [hm0] at this; exact this
  have m2 : t2.1 ≤ xs.length := by have := nextI_le m1; rw [hm1] at this; exact this
  have m3 : t3.1 ≤ xs.length := by have := nextI_le m2; rw [hm2] at this; exact this
  have m4 : t4.1 ≤ xs.length := by have := nextI_le m3; rw [hm3] at this; exact this
  have m5 : t5.1 ≤ xs.length := by have := nextI_le m4; rw [hm4] at this; exact this
  have m6 : t6.1 ≤ xs.length := by have := nextI_le m5; rw [hm5] at this; exact this
  subst g0 g1 g2 g3 g4 g5 g6 g7 g8 hE hcn
  have N0 := Lib.hid hn0
  have N1 := Lib.hid hn1
  have N2 := Lib.hid hn2
  have M0 := Lib.hid hm0
  have M1 := Lib.hid hm1
  have M2 := Lib.hid hm2
  have M3 := Lib.hid hm3
  have M4 := Lib.hid hm4
  have M5 := Lib.hid hm5
  have NC := Lib.hid hnc
  have HS := Lib.hid hS
  have HD := Lib.hid hD
  have HL : Hid (s0.1 ≤ xs.length ∧ s1.1 ≤ xs.length ∧ s2.1 ≤ xs.length ∧ s3.1 ≤ xs.length ∧ s4.1 ≤ xs.length) := Lib.hid ⟨l0, l1, l2, l3, l4⟩
  have HM : Hid (t0.1 ≤ xs.length ∧ t1.1 ≤ xs.length ∧ t2.1 ≤ xs.length ∧ t3.1 ≤ xs.length ∧ t4.1 ≤ xs.length ∧ t5.1 ≤ xs.length) := Lib.hid ⟨m0, m1, m2, m3, m4, m5⟩
  obtain ⟨W, hW⟩ : ∃ W, W = (w.alloc (.cells #[.int .i64 0, .int .i64 0, .int .i64 0, .slice none 0 0, .int .i64 0, .int .i64 0, .int .i64 0, .int .i64 0, .int .i64 0, .int .i64 0] 39)).alloc (.cells #[.int .i64 0, .int .i64 0, .int .i64 0, .slice none 0 0, .int .i64 0, .int .i64 0, .int .i64 0, .int .i64 0, .int .i64 0, .int .i64 0] 39) := ⟨_, rfl⟩
  have HG0 : Hid (RS w p xs S W s0 (fun j => if j < 0 then g j else 0) (.slice none 0 0)) := by
    have hgr : Below w.heap.size w W := by rw [hW]; exact Bel.grew (Bel.grew (Below.refl _ _) _) _
    refine Lib.hid ⟨But.of hgr, hR.lt, by rw [hW]; simp, by rw [hs0]; exact hR.below hgr, fun o ho => ?_, fun o ho => ?_⟩
    all_goals
      rw [hW]
      rcases (show o = 0 ∨ o = 1 ∨ o = 2 ∨ o = 3 ∨ o = 4 ∨ o = 5 ∨ o = 6 ∨ o = 7 ∨ o = 8 ∨ o = 9 from by omega) with rfl | rfl | rfl | rfl | rfl | rfl | rfl | rfl | rfl | rfl
      all_goals simp [go_sem, evC]
  have HW := Lib.hid hW
  clear hW hb hR hg hgs hsE hs0 hn0 hn1 hn2 hnc r1 r2 r3 hC hc64 hn ht0 hS hD hm0 hm1 hm2 hm3 hm4 hm5 q0 q1 q2 q3 q4 q5 q6 l0 l1 l2 l3 l4 m0 m1 m2 m3 m4 m5 m6
  go_enter Try.func51, Try.ntmps51
  go_wp2_with fail
  rw [← HW.out]
  clear HW
  refine (rInt_next HG0.out.rd hl HL.out.1 HBY.out _ N0.out).mono ?_
  rintro e a0 ⟨rfl, hb, hR⟩
  have HC0 := Lib.hid (HG0.out.call hb hR)
  have HG1 : Hid (RS w p xs S (a0.setCell ⟨w.heap.size + 1, 0, none⟩ (.int .i64 (g 0))) s1 (fun j => if j < 1 then g j else 0) (.slice none 0 0)) := HC0.out.num (i := 0) (by decide) rfl
  obtain ⟨ov, hce, hfe⟩ : ∃ ov, a0.cell? ⟨w.heap.size + 1, 0, none⟩ = some ov ∧ a0.frozen? ⟨w.heap.size + 1, 0, none⟩ = false := ⟨_, HC0.out.ev 0 (by decide)⟩
  dsimp only
  clear hb hR HG0 HC0
  go_wp2_with fail
  clear hce hfe
  refine (rInt_next HG1.out.rd hl HL.out.2.1 HBY.out _ N1.out).mono ?_
  rintro e a1 ⟨rfl, hb, hR⟩
  have HC1 := Lib.hid (HG1.out.call hb hR)
  have HG2 : Hid (RS w p xs S (a1.setCell ⟨w.heap.size + 1, 1, none⟩ (.int .i64 (g 1))) s2 (fun j => if j < 2 then g j else 0) (.slice none 0 0)) := HC1.out.num (i := 1) (by decide) rfl
  obtain ⟨ov, hce, hfe⟩ : ∃ ov, a1.cell? ⟨w.heap.size + 1, 1, none⟩ = some ov ∧ a1.frozen? ⟨w.heap.size + 1, 1, none⟩ = false := ⟨_, HC1.out.ev 1 (by decide)⟩
  dsimp only
  clear hb hR HG1 HC1
  go_wp2_with fail
  clear hce hfe
  refine (rInt_next HG2.out.rd hl HL.out.2.2.1 HBY.out _ N2.out).mono ?_
  rintro e a2 ⟨rfl, hb, hR⟩
  have HC2 := Lib.hid (HG2.out.call hb hR)
  have HG3 : Hid (RS w p xs S (a2.setCell ⟨w.heap.size + 1, 2, none⟩ (.int .i64 (g 2))) s3 (fun j => if j < 3 then g j else 0) (.slice none 0 0)) := HC2.out.num (i := 2) (by decide) rfl
  obtain ⟨ov, hce, hfe⟩ : ∃ ov, a2.cell? ⟨w.heap.size + 1, 2, none⟩ = some ov ∧ a2.frozen? ⟨w.heap.size + 1, 2, none⟩ = false := ⟨_, HC2.out.ev 2 (by decide)⟩
  dsimp only
  clear hb hR HG2 HC2
  go_wp2_with fail
  clear hce hfe
  refine (rCount_next HG3.out.rd hl HL.out.2.2.2.1 HBY.out _ NC.out).mono ?_
  rintro e wc ⟨rfl, hb, hR⟩
  have HGC := Lib.hid (HG3.out.call hb hR)
  dsimp only
  clear hb hR HG3
  go_wp2_with fail
  obtain ⟨F, hF⟩ : ∃ F : Nat → Int, F = fun j => if j < 3 then g j else 0 := ⟨_, rfl⟩
  rw [← hF] at HGC
  have HF := Lib.hid hF
  clear hF N0 N1 N2 NC
  go_loopw [5] (fun i wr => ∃ k : Nat, k ≤ n ∧ i = .int .i64 k ∧ Hid (∃ dv, RS w p xs S wr (rdN xs s4 k) F dv ∧ OwnInts wr (w.heap.size + 2) dv (firstN (valN xs s4) k))) (fun i _ => n - (intOf i).toNat)
  case atStart => exact ⟨0, by omega, rfl, Lib.hid ⟨_, HGC.out, OwnK.nil_ _ _⟩⟩
  case round =>
    obtain ⟨k, hk, rfl, HGO⟩ := hrel
    obtain ⟨dv, hG, hO⟩ := HGO.out
    have hlt := hG.lt
    have hlo := hG.lo
    have hle := rdN_le (xs := xs) HL.out.2.2.2.2 k
    obtain ⟨st2, hst⟩ : ∃ st2, rdN xs s4 k = st2 := ⟨_, rfl⟩
    rw [hst] at hG hle
    by_cases hkn : k < n
    · have hkI : (k : Int) < (n : Int) := by omega
      obtain ⟨r2, hr⟩ : ∃ r2, nextI xs st2 = r2 := ⟨_, rfl⟩
      have HV : Hid (firstN (valN xs s4) (k + 1) = firstN (valN xs s4) k ++ [r2.1]) := by rw [firstN_succ]; unfold valN; rw [hst, hr]; exact Lib.hid rfl
      have HN : Hid (rdN xs s4 (k + 1) = r2.2) := by rw [rdN_succ, hst, hr]; exact Lib.hid rfl
      have HNR := Lib.hid hr
      have hlen : (firstN (valN xs s4) k).length = k := by simp
      obtain ⟨ds, hds⟩ : ∃ ds, ds = firstN (valN xs s4) k := ⟨_, rfl⟩
      rw [← hds] at HV hO hlen
      obtain ⟨A2, c2, rfl⟩ := hO.sl.shape
      have hGd := hG.later (Below.drew (Below.refl _ _))
      have HG := Lib.hid hGd
      have HO : Hid (OwnInts wr.drew (w.heap.size + 2) (.slice A2 ds.length c2) ds) := hO.later (Below.drew (Below.refl _ _))
      obtain ⟨hc3, hf3⟩ := hGd.ev 3 (by omega)
      have hltd : w.heap.size + 1 < wr.drew.heap.size := hlt
      dsimp only [evC] at hc3
      have HLN : Hid (ds.length + [r2.1].length ≤ 4398046511104) := by rw [List.length_cons, List.length_nil]; exact Lib.hid (by omega)
      have hqp : w.heap.size + 1 ≠ p := by omega
      obtain ⟨nx, hnx⟩ : ∃ nx, nx = ds ++ [r2.1] := ⟨_, rfl⟩
      have HNX := Lib.hid hnx
      have HQP := Lib.hid hlo
      clear HGC HGO hst hr hlen hds hnx hG hGd hO hlo
      go_wp2_with fail
      go_region_law (first
        | (go_simp; go_at_call 41; refine (rInt_next HG.out.rd hl hle HBY.out r2 HNR.out).mono ?_; rintro e w7 ⟨rfl, hb7, hR7⟩; have hc7 := (hb7.cell (o := 3) hltd hqp).trans hc3; have hf7 := (hb7.frozen (o := 3) hltd hqp).trans hf3; have hlt7 := Nat.lt_of_lt_of_le hltd hb7.size; have HG7 := Lib.hid (HG.out.call hb7 hR7); have HO7 := Lib.hid (HO.out.but (by have := HQP.out; omega) hb7); clear hb7 hR7; try dsimp only)
        | (refine step_append_sl rfl _ _ 35 rfl Try.underlying35 infoInts (by decide) rfl rfl (HO7.out.grow _) (Sl.one _ _ _ _ rfl) HLN.out (by rw [World.size_alloc]; have := HG7.out.lt; omega) ?_; intro v' w8 hown hb8; have hc8 := (hb8.cell (p := ⟨w.heap.size + 1, 3, none⟩) (Nat.lt_succ_self _)).trans ((World.cell?_alloc_past _ _ _ hlt7).trans hc7); have hf8 := (hb8.frozen (p := ⟨w.heap.size + 1, 3, none⟩) (Nat.lt_succ_self _)).trans ((World.frozen?_alloc_past _ _ _ hlt7).trans hf7); rw [← HNX.out] at hown; have HOWN := Lib.hid hown; have HB8 := Lib.hid hb8; obtain ⟨A8, c8, rfl⟩ := hown.sl.shape; clear hown hb8))
      all_goals
        go_wp2_with fail
        go_roundw
        case rel =>
          refine ⟨k + 1, by omega, by go_num, Lib.hid (Exists.intro (Value.slice A8 nx.length c8) (And.intro ?_ ?_))⟩
          · rw [HN.out]
            exact ((HG7.out.later ((Below.refl _ _).alloc (Nat.le_refl _) _)).far HB8.out).set (by omega) (fun o ho => evC_deps F _ _ ho)
          · rw [HV.out, ← HNX.out]
            exact HOWN.out.set (Nat.lt_succ_self _) 3 _
        case measure => simp [intOf]; omega
    · have hk4 : k = n := by omega
      subst hk4
      rw [HD.out] at hO
      rw [HS.out] at hst
      subst hst
      obtain ⟨A2, c2, rfl⟩ := hO.sl.shape
      rw [HF.out] at hG
      have HG3 := Lib.hid hG
      have HO3 := Lib.hid hO
      clear HGC HGO hG hO HS HD hkn hlt hle HF
      go_wp2_with fail
      refine (rInt_next HG3.out.rd hl HM.out.1 HBY.out _ M0.out).mono ?_
      rintro e a3 ⟨rfl, hb, hR⟩
      have HC3 := Lib.hid (HG3.out.call hb hR)
      have HG4 : Hid (RS w p xs S (a3.setCell ⟨w.heap.size + 1, 4, none⟩ (.int .i64 (g 3))) t1 (fun j => if j < 4 then g j else 0) (.slice A2 gs.length c2)) := HC3.out.num (i := 3) (by decide) rfl
      obtain ⟨ov, hce, hfe⟩ : ∃ ov, a3.cell? ⟨w.heap.size + 1, 4, none⟩ = some ov ∧ a3.frozen? ⟨w.heap.size + 1, 4, none⟩ = false := ⟨_, HC3.out.ev 4 (by decide)⟩
      have HO4 : Hid (OwnInts (a3.setCell ⟨w.heap.size + 1, 4, none⟩ (.int .i64 (g 3))) (w.heap.size + 2) (.slice A2 gs.length c2) gs) := (HO3.out.but (by omega) hb).set (Nat.lt_succ_self _) _ _
      dsimp only
      clear hb hR HO3 HG3 HC3
      go_wp2_with fail
      clear hce hfe
      refine (rInt_next HG4.out.rd hl HM.out.2.1 HBY.out _ M1.out).mono ?_
      rintro e a4 ⟨rfl, hb, hR⟩
      have HC4 := Lib.hid (HG4.out.call hb hR)
      have HG5 : Hid (RS w p xs S (a4.setCell ⟨w.heap.size + 1, 5, none⟩ (.int .i64 (g 4))) t2 (fun j => if j < 5 then g j else 0) (.slice A2 gs.length c2)) := HC4.out.num (i := 4) (by decide) rfl
      obtain ⟨ov, hce, hfe⟩ : ∃ ov, a4.cell? ⟨w.heap.size + 1, 5, none⟩ = some ov ∧ a4.frozen? ⟨w.heap.size + 1, 5, none⟩ = false := ⟨_, HC4.out.ev 5 (by decide)⟩
      have HO5 : Hid (OwnInts (a4.setCell ⟨w.heap.size + 1, 5, none⟩ (.int .i64 (g 4))) (w.heap.size + 2) (.slice A2 gs.length c2) gs) := (HO4.out.but (by omega) hb).set (Nat.lt_succ_self _) _ _
      dsimp only
      clear hb hR HO4 HG4 HC4
      go_wp2_with fail
      clear hce hfe
      refine (rInt_next HG5.out.rd hl HM.out.2.2.1 HBY.out _ M2.out).mono ?_
      rintro e a5 ⟨rfl, hb, hR⟩
      have HC5 := Lib.hid (HG5.out.call hb hR)
      have HG6 : Hid (RS w p xs S (a5.setCell ⟨w.heap.size + 1, 6, none⟩ (.int .i64 (g 5))) t3 (fun j => if j < 6 then g j else 0) (.slice A2 gs.length c2)) := HC5.out.num (i := 5) (by decide) rfl
      obtain ⟨ov, hce, hfe⟩ : ∃ ov, a5.cell? ⟨w.heap.size + 1, 6, none⟩ = some ov ∧ a5.frozen? ⟨w.heap.size + 1, 6, none⟩ = false := ⟨_, HC5.out.ev 6 (by decide)⟩
      have HO6 : Hid (OwnInts (a5.setCell ⟨w.heap.size + 1, 6, none⟩ (.int .i64 (g 5))) (w.heap.size + 2) (.slice A2 gs.length c2) gs) := (HO5.out.but (by omega) hb).set (Nat.lt_succ_self _) _ _
      dsimp only
      clear hb hR HO5 HG5 HC5
      go_wp2_with fail
      clear hce hfe
      refine (rInt_next HG6.out.rd hl HM.out.2.2.2.1 HBY.out _ M3.out).mono ?_
      rintro e a6 ⟨rfl, hb, hR⟩
      have HC6 := Lib.hid (HG6.out.call hb hR)
      have HG7 : Hid (RS w p xs S (a6.setCell ⟨w.heap.size + 1, 7, none⟩ (.int .i64 (g 6))) t4 (fun j => if j < 7 then g j else 0) (.slice A2 gs.length c2)) := HC6.out.num (i := 6) (by decide) rfl
      obtain ⟨ov, hce, hfe⟩ : ∃ ov, a6.cell? ⟨w.heap.size + 1, 7, none⟩ = some ov ∧ a6.frozen? ⟨w.heap.size + 1, 7, none⟩ = false := ⟨_, HC6.out.ev 7 (by decide)⟩
      have HO7 : Hid (OwnInts (a6.setCell ⟨w.heap.size + 1, 7, none⟩ (.int .i64 (g 6))) (w.heap.size + 2) (.slice A2 gs.length c2) gs) := (HO6.out.but (by omega) hb).set (Nat.lt_succ_self _) _ _
      dsimp only
      clear hb hR HO6 HG6 HC6
      go_wp2_with fail
      clear hce hfe
      refine (rInt_next HG7.out.rd hl HM.out.2.2.2.2.1 HBY.out _ M4.out).mono ?_
      rintro e a7 ⟨rfl, hb, hR⟩
      have HC7 := Lib.hid (HG7.out.call hb hR)
      have HG8 : Hid (RS w p xs S (a7.setCell ⟨w.heap.size + 1, 8, none⟩ (.int .i64 (g 7))) t5 (fun j => if j < 8 then g j else 0) (.slice A2 gs.length c2)) := HC7.out.num (i := 7) (by decide) rfl
      obtain ⟨ov, hce, hfe⟩ : ∃ ov, a7.cell? ⟨w.heap.size + 1, 8, none⟩ = some ov ∧ a7.frozen? ⟨w.heap.size + 1, 8, none⟩ = false := ⟨_, HC7.out.ev 8 (by decide)⟩
      have HO8 : Hid (OwnInts (a7.setCell ⟨w.heap.size + 1, 8, none⟩ (.int .i64 (g 7))) (w.heap.size + 2) (.slice A2 gs.length c2) gs) := (HO7.out.but (by omega) hb).set (Nat.lt_succ_self _) _ _
      dsimp only
      clear hb hR HO7 HG7 HC7
      go_wp2_with fail
      clear hce hfe
      refine (rInt_next HG8.out.rd hl HM.out.2.2.2.2.2 HBY.out _ M5.out).mono ?_
      rintro e a8 ⟨rfl, hb, hR⟩
      have HC8 := Lib.hid (HG8.out.call hb hR)
      have HG9 : Hid (RS w p xs S (a8.setCell ⟨w.heap.size + 1, 9, none⟩ (.int .i64 (g 8))) t6 (fun j => if j < 9 then g j else 0) (.slice A2 gs.length c2)) := HC8.out.num (i := 8) (by decide) rfl
      obtain ⟨ov, hce, hfe⟩ : ∃ ov, a8.cell? ⟨w.heap.size + 1, 9, none⟩ = some ov ∧ a8.frozen? ⟨w.heap.size + 1, 9, none⟩ = false := ⟨_, HC8.out.ev 9 (by decide)⟩
      have HO9 : Hid (OwnInts (a8.setCell ⟨w.heap.size + 1, 9, none⟩ (.int .i64 (g 8))) (w.heap.size + 2) (.slice A2 gs.length c2) gs) := (HO8.out.but (by omega) hb).set (Nat.lt_succ_self _) _ _
      dsimp only
      clear hb hR
      have hRES := HC8.out.res
      have b0 : a8.cell? ⟨w.heap.size + 1, 0, none⟩ = some (.int .i64 (g 0)) := (HC8.out.ev 0 (by decide)).1
      have b1 : a8.cell? ⟨w.heap.size + 1, 1, none⟩ = some (.int .i64 (g 1)) := (HC8.out.ev 1 (by decide)).1
      have b2 : a8.cell? ⟨w.heap.size + 1, 2, none⟩ = some (.int .i64 (g 2)) := (HC8.out.ev 2 (by decide)).1
      have b3 : a8.cell? ⟨w.heap.size + 1, 3, none⟩ = some (.slice A2 gs.length c2) := (HC8.out.ev 3 (by decide)).1
      have b4 : a8.cell? ⟨w.heap.size + 1, 4, none⟩ = some (.int .i64 (g 3)) := (HC8.out.ev 4 (by decide)).1
      have b5 : a8.cell? ⟨w.heap.size + 1, 5, none⟩ = some (.int .i64 (g 4)) := (HC8.out.ev 5 (by decide)).1
      have b6 : a8.cell? ⟨w.heap.size + 1, 6, none⟩ = some (.int .i64 (g 5)) := (HC8.out.ev 6 (by decide)).1
      have b7 : a8.cell? ⟨w.heap.size + 1, 7, none⟩ = some (.int .i64 (g 6)) := (HC8.out.ev 7 (by decide)).1
      have b8 : a8.cell? ⟨w.heap.size + 1, 8, none⟩ = some (.int .i64 (g 7)) := (HC8.out.ev 8 (by decide)).1
      obtain ⟨⟨r0, f0⟩, ⟨r1, f1⟩, ⟨r2, f2⟩, ⟨r3, f3⟩, ⟨r4, f4⟩, ⟨r5, f5⟩, ⟨r6, f6⟩, ⟨r7, f7⟩, ⟨r8, f8⟩, ⟨r9, f9⟩⟩ := And.intro (hRES 0 (by decide)) (And.intro (hRES 1 (by decide)) (And.intro (hRES 2 (by decide)) (And.intro (hRES 3 (by decide)) (And.intro (hRES 4 (by decide)) (And.intro (hRES 5 (by decide)) (And.intro (hRES 6 (by decide)) (And.intro (hRES 7 (by decide)) (And.intro (hRES 8 (by decide)) (hRES 9 (by decide))))))))))
      dsimp only [evC] at r0 r1 r2 r3 r4 r5 r6 r7 r8 r9
      have HCf := Lib.hid (HG9.out.res.store (evC g (.slice A2 gs.length c2)))
      have HOf := Lib.hid (((HO9.out : OwnK .i64 3 _ _ _ _).store10 (q := w.heap.size) (fun b hb => by have := own_base HO9.out.row b hb; omega) (evC g (.slice A2 gs.length c2))).down (B' := w.heap.size) (by omega))
      have HBf : Hid (But p w (store10 (a8.setCell ⟨w.heap.size + 1, 9, none⟩ (.int .i64 (g 8))) w.heap.size (evC g (.slice A2 gs.length c2)))) := Lib.hid ((((((((((HG9.out.but.storeNew (Nat.le_refl _) 0 _).storeNew (Nat.le_refl _) 1 _).storeNew (Nat.le_refl _) 2 _).storeNew (Nat.le_refl _) 3 _).storeNew (Nat.le_refl _) 4 _).storeNew (Nat.le_refl _) 5 _).storeNew (Nat.le_refl _) 6 _).storeNew (Nat.le_refl _) 7 _).storeNew (Nat.le_refl _) 8 _).storeNew (Nat.le_refl _) 9 _)
      have HRf : Hid (Rd (store10 (a8.setCell ⟨w.heap.size + 1, 9, none⟩ (.int .i64 (g 8))) w.heap.size (evC g (.slice A2 gs.length c2))) p xs S (t6.1 : Int) t6.2) := by
        have := HG9.out.lo
        exact Lib.hid ((((((((((HG9.out.rd.other (by omega) 0 _).other (by omega) 1 _).other (by omega) 2 _).other (by omega) 3 _).other (by omega) 4 _).other (by omega) 5 _).other (by omega) 6 _).other (by omega) 7 _).other (by omega) 8 _).other (by omega) 9 _)
      clear hRES HC8 HG8 HG9 HO8 HO9 HM HBY
      go_wp2_with fail
      change bodyPost _ _ _ _ _ (store10 (a8.setCell ⟨w.heap.size + 1, 9, none⟩ (.int .i64 (g 8))) w.heap.size (evC g (.slice A2 gs.length c2)))
      obtain ⟨wf, hwf⟩ : ∃ wf, wf = store10 (a8.setCell ⟨w.heap.size + 1, 9, none⟩ (.int .i64 (g 8))) w.heap.size (evC g (.slice A2 gs.length c2)) := ⟨_, rfl⟩
      rw [← hwf] at HCf HBf HOf HRf ⊢
      clear hwf r0 r1 r2 r3 r4 r5 r6 r7 r8 r9
      obtain ⟨c0, c1, c2', c3, c4, c5, c6, c7, c8, c9⟩ := And.intro (HCf.out 0 (by decide)).1 (And.intro (HCf.out 1 (by decide)).1 (And.intro (HCf.out 2 (by decide)).1 (And.intro (HCf.out 3 (by decide)).1 (And.intro (HCf.out 4 (by decide)).1 (And.intro (HCf.out 5 (by decide)).1 (And.intro (HCf.out 6 (by decide)).1 (And.intro (HCf.out 7 (by decide)).1 (And.intro (HCf.out 8 (by decide)).1 (HCf.out 9 (by decide)).1))))))))
      dsimp only [evC] at c0 c1 c2' c3 c4 c5 c6 c7 c8 c9
      have hBf := HBf.out
      have hRf := HRf.out
      have hOf := HOf.out
      simp [bodyPost, results, Try.results51, go_sem, c0, c1, c2', c3, c4, c5, c6, c7, c8, c9]
      exact ⟨hOf, hBf, hRf⟩
end Go.Proofs.Ytjjccjannandlaa
