/- command.Get. -/
import Derived.Test.YtjjccjannandlaaDoorMzInts
set_option maxRecDepth 100000
set_option maxRecDepth 100000
set_option linter.unusedVariables false
set_option linter.unusedSimpArgs false
namespace Go.Proofs.YtjjccjannandlaaDoor
open Go.RowKit Go.BigFrame

/-- The code of what is read as a command. -/
def getE (xs : List Int) : Int := doneN xs (rdN xs (0, 0) 7)
/-- Its numbers. -/
def getC (xs : List Int) (i : Nat) : Int := if getE xs = 0 then valN xs (0, 0) i else 0
/-- Seven cells. -/
def Cells7 (w : World) (q : Nat) (f : Nat → Int) : Prop := ∀ o, o < 7 → w.cell? ⟨q, o, none⟩ = some (.int .i64 (f o)) ∧ w.frozen? ⟨q, o, none⟩ = false

theorem Cells7.below {w w' : World} {q B : Nat} {f : Nat → Int} (h : Cells7 w q f) (hq : q < B) (hb : Below B w w') : Cells7 w' q f := fun o ho => ⟨(hb.cell (p := ⟨q, o, none⟩) hq).trans (h o ho).1, (hb.frozen (p := ⟨q, o, none⟩) hq).trans (h o ho).2⟩
theorem Cells7.but {w w' : World} {p q : Nat} {f : Nat → Int} (h : Cells7 w q f) (hq : q < w.heap.size) (hp : q ≠ p) (hb : But p w w') : Cells7 w' q f := fun o ho => ⟨(hb.cell hq hp).trans (h o ho).1, (hb.frozen hq hp).trans (h o ho).2⟩
theorem Cells7.set {w : World} {q k : Nat} {f g : Nat → Int} {x : Int} (h : Cells7 w q f) (hk : k < 7) (hg : ∀ o, g o = if o = k then x else f o) : Cells7 (w.setCell ⟨q, k, none⟩ (.int .i64 x)) q g := by
  intro o ho
  rw [World.frozen?_setCell, hg o]
  refine ⟨?_, (h o ho).2⟩
  by_cases he : o = k
  · subst he
    rw [if_pos rfl]
    exact World.cell?_setCell_same w _ _ (h o ho).1
  · rw [if_neg he]
    exact (World.cell?_setCell_other w ⟨q, k, none⟩ ⟨q, o, none⟩ _ (by simp [he])).trans (h o ho).1
theorem Cells7.setOther {w : World} {q b k : Nat} {f : Nat → Int} (h : Cells7 w q f) (hb : b ≠ q) (v : Value) : Cells7 (w.setCell ⟨b, k, none⟩ v) q f := by
  intro o ho
  rw [World.frozen?_setCell]
  exact ⟨(World.cell?_setCell_other w ⟨b, k, none⟩ ⟨q, o, none⟩ _ (by simp [Ne.symm hb])).trans (h o ho).1, (h o ho).2⟩

/-- Seven cells written. -/
abbrev store7 (w : World) (q : Nat) (g : Nat → Int) : World := (((((((w.setCell ⟨q, 0, none⟩ (.int .i64 (g 0))).setCell ⟨q, 1, none⟩ (.int .i64 (g 1))).setCell ⟨q, 2, none⟩ (.int .i64 (g 2))).setCell ⟨q, 3, none⟩ (.int .i64 (g 3))).setCell ⟨q, 4, none⟩ (.int .i64 (g 4))).setCell ⟨q, 5, none⟩ (.int .i64 (g 5))).setCell ⟨q, 6, none⟩ (.int .i64 (g 6)))
theorem Cells7.store7 {w : World} {q : Nat} {f : Nat → Int} (h : Cells7 w q f) (g : Nat → Int) : Cells7 (store7 w q g) q g := by
  have step : ∀ (w : World) (k : Nat), k < 7 → Cells7 w q (fun o => if o < k then g o else f o) → Cells7 (w.setCell ⟨q, k, none⟩ (.int .i64 (g k))) q (fun o => if o < k + 1 then g o else f o) := fun w k hk hc => hc.set hk (fun o => by
    by_cases ho : o = k
    · subst ho; rw [if_pos (by omega), if_pos rfl]
    · by_cases ho2 : o < k
      · rw [if_pos (by omega), if_neg ho, if_pos ho2]
      · rw [if_neg (by omega), if_neg ho, if_neg ho2])
  have h7 := step _ 6 (by decide) (step _ 5 (by decide) (step _ 4 (by decide) (step _ 3 (by decide) (step _ 2 (by decide) (step _ 1 (by decide) (step w 0 (by decide) (by simpa using h)))))))
  intro o ho
  have := h7 o ho
  dsimp only at this
  rw [if_pos (by omega)] at this
  exact this
theorem Below.store7 {B : Nat} {a w : World} {q : Nat} (h : Below B a w) (hq : B ≤ q) (g : Nat → Int) : Below B a (store7 w q g) := ((((((h.setCell hq _).setCell hq _).setCell hq _).setCell hq _).setCell hq _).setCell hq _).setCell hq _

set_option maxHeartbeats 4000000 in
theorem cGet_any (xs : List Int) (v : Value) (w : World) (hx : Sl .u8 w w.heap.size v xs) (hl : xs.length ≤ 1099511627776) (hb : Bytes xs) (g : Nat → Int) (d : Int) (hg : getC xs = g) (hd : getE xs = d) :
    Calls Tryd.prog 26 #[v] w fun e w' => e = .returned (.tuple #[cmdV g, .int .i64 d]) ∧ Below w.heap.size w w' := by
  obtain ⟨A, c, rfl⟩ := hx.shape
  have HX := Lib.hid hx
  have HBY := Lib.hid hb
  have HG := Lib.hid hg
  have HD := Lib.hid hd
  clear hx hb hg hd
  obtain ⟨w2, hw2⟩ : ∃ w2, w2 = (w.alloc (.cells #[.int .i64 0, .int .i64 0, .int .i64 0, .int .i64 0, .int .i64 0, .int .i64 0, .int .i64 0] 27)).alloc (.cells #[.int .i64 0, .int .i64 0, .int .i64 0, .int .i64 0, .int .i64 0, .int .i64 0, .int .i64 0] 27) := ⟨_, rfl⟩
  have hB2 : Below w.heap.size w w2 := by rw [hw2]; exact ((Below.refl _ _).alloc (Nat.le_refl _) _).alloc (by simp) _
  have hs2 : w2.heap.size = w.heap.size + 2 := by rw [hw2]; simp
  have h7 : ∀ q, q = w.heap.size ∨ q = w.heap.size + 1 → Cells7 w2 q (fun _ => 0) := by
    intro q hq o ho
    rw [hw2]
    rcases hq with rfl | rfl
    all_goals
      rcases (show o = 0 ∨ o = 1 ∨ o = 2 ∨ o = 3 ∨ o = 4 ∨ o = 5 ∨ o = 6 from by omega) with rfl | rfl | rfl | rfl | rfl | rfl | rfl
    all_goals simp [go_sem]
  have HW2 := Lib.hid hw2
  have HB2 := Lib.hid hB2
  have HS2 := Lib.hid hs2
  have HC2 := Lib.hid (h7 (w.heap.size + 1) (.inr rfl))
  have HR2 := Lib.hid (h7 w.heap.size (.inl rfl))
  clear hw2 hB2 hs2 h7
  go_enter Tryd.func26, Tryd.ntmps26
  go_wp2_with fail
  rw [← HW2.out]
  refine (From_new xs _ w2 (HX.out.later HB2.out) hl).mono ?_
  rintro e w3 ⟨p, S, rfl, hp, hb3, hR, hS⟩
  have hp' : w.heap.size + 2 ≤ p := by have := HS2.out; omega
  have HB3 : Hid (Below w.heap.size w w3) := HB2.out.trans (hb3.mono (by have := HS2.out; omega))
  have HR3 := Lib.hid (HR2.out.below (by have := HS2.out; omega) hb3)
  have HC3 := Lib.hid (HC2.out.below (by have := HS2.out; omega) hb3)
  have HRd := Lib.hid hR
  have HSS : Hid (∀ b o n c, S = .slice (some ⟨b, o, none⟩) n c → b ≠ w.heap.size + 1) := fun b o n c h => by have := hS b o n c h; have := HS2.out; omega
  clear hp hb3 hR hS HW2 HB2 HS2 HC2 HR2
  go_wp2_with fail
  refine (fields_any (w.heap.size + 1) w3).mono ?_
  rintro e w4 ⟨rfl, hb4⟩
  have hs3 := HRd.out.lt
  have HB4 : Hid (Below w.heap.size w w4) := HB3.out.trans (hb4.mono HB3.out.size)
  have HR4 := Lib.hid (HR3.out.below (by omega) hb4)
  have HC4 := Lib.hid (HC3.out.below (by omega) hb4)
  have HRd4 := Lib.hid (HRd.out.below hb4)
  clear hb4 hs3 HRd HB3 HR3 HC3
  go_wp2_with fail
  go_loopw [12] (fun i wr => ∃ k : Nat, k ≤ 7 ∧ i = .int .i64 k ∧ Below w.heap.size w wr ∧ Rd wr p xs S ((rdN xs (0, 0) k).1 : Int) (rdN xs (0, 0) k).2 ∧ Cells7 wr w.heap.size (fun _ => 0) ∧ Hid (Cells7 wr (w.heap.size + 1) (fun o => if o < k then valN xs (0, 0) o else 0))) (fun i _ => 7 - (intOf i).toNat)
  case atStart => exact ⟨0, by omega, rfl, HB4.out, HRd4.out, HR4.out, Lib.hid (by simpa using HC4.out)⟩
  case round =>
    obtain ⟨k, hk, rfl, hb, hR, hRes, HC⟩ := hrel
    have HB := Lib.hid hb
    have HR := Lib.hid hR
    have HRes := Lib.hid hRes
    clear hb hR hRes HB4 HRd4 HR4 HC4
    have hplt := HR.out.lt
    have hle := rdN_le (xs := xs) (st := (0, 0)) (Nat.zero_le _) k
    obtain ⟨st, hst⟩ : ∃ st, rdN xs (0, 0) k = st := ⟨_, rfl⟩
    rw [hst] at HR hle
    by_cases hk7 : k < 7
    · have hix := run_index7 (w.heap.size + 1) k hk7
      have hkI : (k : Int) < 7 := by omega
      obtain ⟨r, hr⟩ : ∃ r, nextI xs st = r := ⟨_, rfl⟩
      have HV : Hid (valN xs (0, 0) k = r.1) := by unfold valN; rw [hst, hr]; exact Lib.hid rfl
      have HN : Hid (rdN xs (0, 0) (k + 1) = r.2) := by rw [rdN_succ, hst, hr]; exact Lib.hid rfl
      have HNR := Lib.hid hr
      clear hst hr
      go_wp2_with fail
      refine (Int_next HR.out hl hle HBY.out r HNR.out).mono ?_
      rintro e w5 ⟨rfl, hb5, hR5⟩
      have HC5 := Lib.hid (HC.out.but (by omega) (by omega) hb5)
      have HRes5 := Lib.hid (HRes.out.but (by omega) (by omega) hb5)
      have HB5 := Lib.hid (HB.out.trans (hb5.below (by omega) HB.out.size))
      have HR5 := Lib.hid hR5
      obtain ⟨hck, hfk⟩ := HC5.out k hk7
      dsimp only at hck
      rw [if_neg (Nat.lt_irrefl k)] at hck
      clear hb5 hR5 HC HRes HB HR
      go_wp2_with fail
      go_roundw
      case rel =>
        refine ⟨k + 1, by omega, by go_num, ?_, ?_, HRes5.out.setOther (by omega) _, Lib.hid ?_⟩
        · exact HB5.out.setCell (by simp) _
        · rw [HN.out]
          exact HR5.out.apart (by omega) HSS.out _ _
        · refine HC5.out.set hk7 (fun o => ?_)
          by_cases ho : o = k
          · subst ho; rw [if_pos (by omega), if_pos rfl]; exact HV.out
          · rw [if_neg ho]
            by_cases ho2 : o < k
            · rw [if_pos (by omega), if_pos ho2]
            · rw [if_neg (by omega), if_neg ho2]
      case measure => simp [intOf]; omega
    · have hk4 : k = 7 := by omega
      subst hk4
      have HDD : Hid (doneR xs (st.1 : Int) st.2 = d) := by
        rw [← HD.out]; unfold getE doneN; rw [hst]; exact Lib.hid rfl
      go_wp2_with fail
      refine (Done_any HR.out).mono ?_
      rw [HDD.out]
      rintro e w5 ⟨rfl, hb5⟩
      have HB5 := Lib.hid (Bel.then HB.out hb5)
      have HC5 := Lib.hid (HC.out.below (by omega) hb5)
      have HRes5 := Lib.hid (HRes.out.below (by omega) hb5)
      have hs5 := hb5.size
      clear hb5 HC HRes HB HR
      obtain ⟨⟨r0, f0⟩, ⟨r1, f1⟩, ⟨r2, f2⟩, ⟨r3, f3⟩, ⟨r4, f4⟩, ⟨r5, f5⟩, ⟨r6, f6⟩⟩ := And.intro (HRes5.out 0 (by decide)) (And.intro (HRes5.out 1 (by decide)) (And.intro (HRes5.out 2 (by decide)) (And.intro (HRes5.out 3 (by decide)) (And.intro (HRes5.out 4 (by decide)) (And.intro (HRes5.out 5 (by decide)) (HRes5.out 6 (by decide)))))))
      by_cases hd0 : d = 0
      · have hdb : (d != 0) = false := by simp [hd0]
        have HCg : Cells7 w5 (w.heap.size + 1) g := by
          intro o ho
          have h := HC5.out o ho
          dsimp only at h
          rw [if_pos ho] at h
          have e : g o = valN xs (0, 0) o := by rw [← HG.out]; unfold getC; rw [if_pos (by rw [HD.out]; exact hd0)]
          rw [e]; exact h
        obtain ⟨c0, c1, c2, c3, c4, c5, c6⟩ := And.intro (HCg 0 (by decide)).1 (And.intro (HCg 1 (by decide)).1 (And.intro (HCg 2 (by decide)).1 (And.intro (HCg 3 (by decide)).1 (And.intro (HCg 4 (by decide)).1 (And.intro (HCg 5 (by decide)).1 (HCg 6 (by decide)).1)))))
        have hC7 := HRes5.out.store7 g
        have hB7 := Below.store7 HB5.out (Nat.le_refl _) g
        have HC7 := Lib.hid hC7
        have HB7 := Lib.hid hB7
        clear HC5 HCg HRes5 HX HBY HSS hC7 hB7
        subst hd0
        go_wp2_with fail
        change bodyPost _ _ _ _ _ (store7 w5 w.heap.size g)
        obtain ⟨wf, hwf⟩ : ∃ wf, wf = store7 w5 w.heap.size g := ⟨_, rfl⟩
        rw [← hwf] at HC7 HB7 ⊢
        obtain ⟨c0, c1, c2, c3, c4, c5, c6⟩ := And.intro (HC7.out 0 (by decide)).1 (And.intro (HC7.out 1 (by decide)).1 (And.intro (HC7.out 2 (by decide)).1 (And.intro (HC7.out 3 (by decide)).1 (And.intro (HC7.out 4 (by decide)).1 (And.intro (HC7.out 5 (by decide)).1 (HC7.out 6 (by decide)).1)))))
        have hBf := HB7.out
        clear hwf
        simp [bodyPost, results, Tryd.results26, go_sem, c0, c1, c2, c3, c4, c5, c6, hBf]
      · have hdb : (d != 0) = true := by simp [hd0]
        have hg0 : g = fun _ => 0 := funext fun o => by rw [← HG.out]; unfold getC; rw [if_neg (by rw [HD.out]; exact hd0)]
        have hC7 := HRes5.out.store7 (fun _ => 0)
        have hB7 := Below.store7 HB5.out (Nat.le_refl _) (fun _ => 0)
        have HC7 := Lib.hid hC7
        have HB7 := Lib.hid hB7
        clear HC5 HRes5 HX HBY HSS hC7 hB7 HG
        subst hg0
        go_wp2_with fail
        change bodyPost _ _ _ _ _ (store7 w5 w.heap.size (fun _ => 0))
        obtain ⟨wf, hwf⟩ : ∃ wf, wf = store7 w5 w.heap.size (fun _ => 0) := ⟨_, rfl⟩
        rw [← hwf] at HC7 HB7 ⊢
        obtain ⟨c0, c1, c2, c3, c4, c5, c6⟩ := And.intro (HC7.out 0 (by decide)).1 (And.intro (HC7.out 1 (by decide)).1 (And.intro (HC7.out 2 (by decide)).1 (And.intro (HC7.out 3 (by decide)).1 (And.intro (HC7.out 4 (by decide)).1 (And.intro (HC7.out 5 (by decide)).1 (HC7.out 6 (by decide)).1)))))
        have hBf := HB7.out
        clear hwf
        dsimp only at c0 c1 c2 c3 c4 c5 c6
        simp [bodyPost, results, Tryd.results26, go_sem, c0, c1, c2, c3, c4, c5, c6, hBf]
end Go.Proofs.YtjjccjannandlaaDoor
