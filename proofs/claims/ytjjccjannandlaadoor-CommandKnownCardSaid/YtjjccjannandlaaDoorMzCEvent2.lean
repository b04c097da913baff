/- command.Event: the event that is asked for. -/
import Derived.Test.YtjjccjannandlaaDoorMzCells10
import Derived.Deep.CutRange
set_option maxRecDepth 100000
set_option maxRecDepth 100000
set_option linter.unusedVariables false
set_option linter.unusedSimpArgs false
namespace Go.Proofs.YtjjccjannandlaaDoor
open Go.RowKit Go.BigFrame

/-- An event's cells. -/
def evF (a b c : Int) (dv : Value) (v : Nat → Int) : Nat → Value
  | 0 => .int .i64 a
  | 1 => .int .i64 b
  | 2 => .int .i64 c
  | 3 => dv
  | 4 => .int .i64 (v 0)
  | 5 => .int .i64 (v 1)
  | 6 => .int .i64 (v 2)
  | 7 => .int .i64 (v 3)
  | 8 => .int .i64 (v 4)
  | _ => .int .i64 (v 6)
theorem zero10 {w : World} {q : Nat} (h : ∀ (o : Nat) (u : Value), (#[.int .i64 0, .int .i64 0, .int .i64 0, .slice none 0 0, .int .i64 0, .int .i64 0, .int .i64 0, .int .i64 0, .int .i64 0, .int .i64 0] : Array Value)[o]? = some u → w.cell? ⟨q, o, none⟩ = some u ∧ w.frozen? ⟨q, o, none⟩ = false) : Cells10 w q (evF 0 0 0 (.slice none 0 0) (fun _ => 0)) := by
  intro o ho
  rcases (show o = 0 ∨ o = 1 ∨ o = 2 ∨ o = 3 ∨ o = 4 ∨ o = 5 ∨ o = 6 ∨ o = 7 ∨ o = 8 ∨ o = 9 from by omega) with rfl | rfl | rfl | rfl | rfl | rfl | rfl | rfl | rfl | rfl
  all_goals exact h _ _ rfl

/-- What stands behind the event's making. -/
def EvRel (w : World) (xs : List Int) (c : Int) (v : Nat → Int) (s : Value) (wx : World) : Prop := ∃ (q : Nat) (A : Option Addr) (k : Nat), s = .pointer (some ⟨q, 0, none⟩) ∧ Cells10 wx q (evF 0 0 c (.slice A (joinV xs []).length k) v) ∧ Cells10 wx (w.heap.size + 1) (evF 0 0 0 (.slice none 0 0) (fun _ => 0)) ∧
  OwnInts wx w.heap.size (.slice A (joinV xs []).length k) (joinV xs []) ∧ Below w.heap.size w wx ∧ w.heap.size + 2 ≤ q ∧ q < wx.heap.size ∧ ∀ b, (Value.slice A (joinV xs []).length k).ownBlock = some b → b ≠ q ∧ b ≠ w.heap.size + 1
theorem ev_one {w W w2 W4 : World} {xs : List Int} {c : Int} {v : Nat → Int} {A3 : Option Addr} {c3 : Nat} (hs : W.heap.size = w.heap.size + 2) (hW : Below w.heap.size w W) (hR : Cells10 W (w.heap.size + 1) (evF 0 0 0 (.slice none 0 0) (fun _ => 0)))
    (hb : Below W.drew.heap.size W.drew w2) (ho : Own w2 W.drew.heap.size (.slice A3 (joinV xs []).length c3) (joinV xs [])) (hW4 : W4 = w2.alloc (.cells #[.int .i64 0, .int .i64 0, .int .i64 c, .slice A3 (joinV xs []).length c3, .int .i64 (v 0), .int .i64 (v 1), .int .i64 (v 2), .int .i64 (v 3), .int .i64 (v 4), .int .i64 (v 6)] 37)) :
    EvRel w xs c v (.pointer (some ⟨w2.heap.size, 0, none⟩)) W4 := by
  have hb1 : Below W.heap.size W w2 := (Below.drew (Below.refl _ _)).trans hb
  have ho' : OwnK .i64 3 w2 W.heap.size (.slice A3 (joinV xs []).length c3) (joinV xs []) := ho
  have hb4 : Below w2.heap.size w2 W4 := by rw [hW4]; exact (Below.refl _ _).alloc (Nat.le_refl _) _
  have hs2 := hb1.size
  refine ⟨w2.heap.size, A3, c3, rfl, ?_, (hR.below (by omega) hb1).below (B := w2.heap.size) (by omega) hb4, (ho'.later hb4).down (by omega), (hW.trans (hb1.mono (by omega))).trans (hb4.mono (by omega)), by omega, by rw [hW4]; simp, ?_⟩
  · intro o ho
    rw [hW4]
    rcases (show o = 0 ∨ o = 1 ∨ o = 2 ∨ o = 3 ∨ o = 4 ∨ o = 5 ∨ o = 6 ∨ o = 7 ∨ o = 8 ∨ o = 9 from by omega) with rfl | rfl | rfl | rfl | rfl | rfl | rfl | rfl | rfl | rfl
    all_goals simp [go_sem, evF]
  · intro b hb
    have h1 := own_base ho'.row b hb
    rcases ho'.shape with ⟨h2, _⟩ | ⟨b', cap, h2, _, h3, _⟩
    · rw [h2] at hb; simp [Value.ownBlock] at hb
    · rw [h2] at hb
      have : b' = b := by simpa [Value.ownBlock] using hb
      omega
theorem ev_two {w W w2 W4 : World} {xs : List Int} {c : Int} {v : Nat → Int} {A3 : Option Addr} {c3 : Nat} {ZO : Obj} (hZ : ZO = .cells #[.int .i64 0, .int .i64 0, .int .i64 0, .slice none 0 0, .int .i64 0, .int .i64 0, .int .i64 0, .int .i64 0, .int .i64 0, .int .i64 0] 37) (hs : W.heap.size = w.heap.size + 2) (hW : Below w.heap.size w W) (hR : Cells10 W (w.heap.size + 1) (evF 0 0 0 (.slice none 0 0) (fun _ => 0)))
    (hb : Below (W.alloc ZO).drew.heap.size (W.alloc ZO).drew w2) (ho : Own w2 (W.alloc ZO).drew.heap.size (.slice A3 (joinV xs []).length c3) (joinV xs [])) (hW4 : W4 = store10 w2 W.heap.size (evF 0 0 c (.slice A3 (joinV xs []).length c3) v)) :
    EvRel w xs c v (.pointer (some ⟨W.heap.size, 0, none⟩)) W4 := by
  have hsz : (W.alloc ZO).drew.heap.size = W.heap.size + 1 := by show (W.alloc ZO).heap.size = _; simp
  rw [hsz] at hb ho
  have hb0 : Below W.heap.size W (W.alloc ZO).drew := Below.drew ((Below.refl _ _).alloc (Nat.le_refl _) _)
  have hb1 : Below W.heap.size W w2 := hb0.trans (hb.mono (by omega))
  have ho' : OwnK .i64 3 w2 (W.heap.size + 1) (.slice A3 (joinV xs []).length c3) (joinV xs []) := ho
  have hz : Cells10 (W.alloc ZO).drew W.heap.size (evF 0 0 0 (.slice none 0 0) (fun _ => 0)) := zero10 fun o u hu => by rw [hZ]; simp [go_sem, hu]
  have hz2 := hz.below (by omega) hb
  have hs2 := hb.size
  rw [hsz] at hs2
  have hne : ∀ b, (Value.slice A3 (joinV xs []).length c3).ownBlock = some b → b ≠ W.heap.size ∧ b ≠ w.heap.size + 1 := by
    intro b hb
    have h1 := own_base ho'.row b hb
    omega
  subst hW4
  refine ⟨W.heap.size, A3, c3, rfl, hz2.store _, (hR.below (by omega) hb1).storeOther (by omega) _, (ho'.store10 (fun b hb => (hne b hb).1) _).down (by omega), Below.store10 (hW.trans (hb1.mono (by omega))) (by omega) _, by omega, by simp [World.setCell]; omega, hne⟩

set_option maxHeartbeats 4000000 in
/-- The event that is asked for. -/
theorem ev_ok (v : Nat → Int) (o lam g : Int) (xs : List Int) (x : Value) (w : World) (hx : Sl .i64 w w.heap.size x xs) (hl : xs.length ≤ 1099511627776) (h0 : 0 ≤ o) (h1 : o < (xs.length : Int)) (h2 : 0 ≤ lam) (hg : getV xs o = g) (hg0 : 0 ≤ g) (hg1 : g < 9223372036854775807) (hl1 : lam < 9223372036854775807) :
    Calls Tryd.prog 10 #[cmdV v, .int .i64 o, x, .int .i64 lam] w fun e w' => ∃ dv, e = .returned (.tuple #[.agg #[.int .i64 o, .int .i64 (g + 1), .int .i64 (lam + 1), dv, .int .i64 (v 0), .int .i64 (v 1), .int .i64 (v 2), .int .i64 (v 3), .int .i64 (v 4), .int .i64 (v 6)], .int .i64 0]) ∧ OwnInts w' w.heap.size dv (joinV xs []) ∧ Below w.heap.size w w' := by
  obtain ⟨A, c, rfl⟩ := hx.shape
  have HX := Lib.hid hx
  have HG := Lib.hid hg
  clear hx hg
  have hBB : ∀ o1 o2, Below w.heap.size w ((w.alloc o1).alloc o2) := fun o1 o2 => ((Below.refl w.heap.size w).alloc (Nat.le_refl _) o1).alloc (by simp) o2
  have hgb : (g == 9223372036854775807) = false := by simp; omega
  have hlb : (lam == 9223372036854775807) = false := by simp; omega
  go_enter Tryd.func10, Tryd.ntmps10
  go_wp2_with fail
  refine (get_any xs _ _ o _ (HX.out.below (hBB _ _))).mono ?_
  rw [HG.out]
  rintro e w1 ⟨rfl, rfl⟩
  go_wp2_with fail
  obtain ⟨W, hW⟩ : ∃ W, W = (w.alloc (.cells #[.int .i64 (v 0), .int .i64 (v 1), .int .i64 (v 2), .int .i64 (v 3), .int .i64 (v 4), .int .i64 (v 5), .int .i64 (v 6)] 27)).alloc (.cells #[.int .i64 0, .int .i64 0, .int .i64 0, .slice none 0 0, .int .i64 0, .int .i64 0, .int .i64 0, .int .i64 0, .int .i64 0, .int .i64 0] 37) := ⟨_, rfl⟩
  have hWB : Below w.heap.size w W := by rw [hW]; exact hBB _ _
  have hWs : W.heap.size = w.heap.size + 2 := by rw [hW]; simp
  obtain ⟨c0, c1, c2, c3, c4, c6⟩ : W.cell? ⟨w.heap.size, 0, none⟩ = some (.int .i64 (v 0)) ∧ W.cell? ⟨w.heap.size, 1, none⟩ = some (.int .i64 (v 1)) ∧ W.cell? ⟨w.heap.size, 2, none⟩ = some (.int .i64 (v 2)) ∧ W.cell? ⟨w.heap.size, 3, none⟩ = some (.int .i64 (v 3)) ∧ W.cell? ⟨w.heap.size, 4, none⟩ = some (.int .i64 (v 4)) ∧ W.cell? ⟨w.heap.size, 6, none⟩ = some (.int .i64 (v 6)) := by
    rw [hW]; simp [go_sem]
  have HRES : Hid (Cells10 W (w.heap.size + 1) (evF 0 0 0 (.slice none 0 0) (fun _ => 0))) := zero10 fun o u hu => by rw [hW]; simp [go_sem, hu]
  rw [← hW]
  have hWH := Lib.hid hW
  have hlt : w.heap.size < W.heap.size := by omega
  have HWB := Lib.hid hWB
  have HWS := Lib.hid hWs
  have hneW : w.heap.size ≠ W.heap.size := by omega
  have hneW' : W.heap.size ≠ w.heap.size := by omega
  have hle2 : w.heap.size ≤ W.heap.size := by omega
  have hwl : IntKind.i64.wrap (lam + 1) = lam + 1 := IntWalk.i64_in _ (by omega)
  have hwg : IntKind.i64.wrap (g + 1) = g + 1 := IntWalk.i64_in _ (by omega)
  clear hW hWB hBB hWs
  have HEV := Lib.hid (And.intro HWB.out HRES.out)
  go_cut [11] from 35 to 51 (fun s11 wx => EvRel w xs (lam + 1) v s11 wx)
  case first =>
    go_region_held3 (fun w' => w'.cell? ⟨w.heap.size, 0, none⟩ = some (.int .i64 (v 0)) ∧ w'.cell? ⟨w.heap.size, 1, none⟩ = some (.int .i64 (v 1)) ∧ w'.cell? ⟨w.heap.size, 2, none⟩ = some (.int .i64 (v 2)) ∧ w'.cell? ⟨w.heap.size, 3, none⟩ = some (.int .i64 (v 3)) ∧ w'.cell? ⟨w.heap.size, 4, none⟩ = some (.int .i64 (v 4)) ∧ w'.cell? ⟨w.heap.size, 6, none⟩ = some (.int .i64 (v 6))) (go_keep) (first
      | (go_at_call 31; refine (join_any xs [] _ _ w.heap.size _ (HX.out.below (HWB.out.trans ((Below.drew (Below.refl _ _)).alloc (by show w.heap.size ≤ W.heap.size; exact hle2) _))) Sl.nil_ (by simp [go_sem]; omega) hl (by decide)).mono ?_; rintro e w2 ⟨dv, rfl, hown, hb⟩; have k0 := hb.cell (p := ⟨w.heap.size, 0, none⟩) (by simp [go_sem]; omega); have k1 := hb.cell (p := ⟨w.heap.size, 1, none⟩) (by simp [go_sem]; omega); have k2 := hb.cell (p := ⟨w.heap.size, 2, none⟩) (by simp [go_sem]; omega); have k3 := hb.cell (p := ⟨w.heap.size, 3, none⟩) (by simp [go_sem]; omega); have k4 := hb.cell (p := ⟨w.heap.size, 4, none⟩) (by simp [go_sem]; omega); have k6 := hb.cell (p := ⟨w.heap.size, 6, none⟩) (by simp [go_sem]; omega); have q0 : w2.cell? ⟨W.heap.size, 0, none⟩ = some (.int .i64 0) := (hb.cell (p := ⟨W.heap.size, 0, none⟩) (by simp [go_sem])).trans (by simp [go_sem]); have qf0 : w2.frozen? ⟨W.heap.size, 0, none⟩ = false := (hb.frozen (p := ⟨W.heap.size, 0, none⟩) (by simp [go_sem])).trans (by simp [go_sem]); have q1 : w2.cell? ⟨W.heap.size, 1, none⟩ = some (.int .i64 0) := (hb.cell (p := ⟨W.heap.size, 1, none⟩) (by simp [go_sem])).trans (by simp [go_sem]); have qf1 : w2.frozen? ⟨W.heap.size, 1, none⟩ = false := (hb.frozen (p := ⟨W.heap.size, 1, none⟩) (by simp [go_sem])).trans (by simp [go_sem]); have q2 : w2.cell? ⟨W.heap.size, 2, none⟩ = some (.int .i64 0) := (hb.cell (p := ⟨W.heap.size, 2, none⟩) (by simp [go_sem])).trans (by simp [go_sem]); have qf2 : w2.frozen? ⟨W.heap.size, 2, none⟩ = false := (hb.frozen (p := ⟨W.heap.size, 2, none⟩) (by simp [go_sem])).trans (by simp [go_sem]); have q3 : w2.cell? ⟨W.heap.size, 3, none⟩ = some (.slice none 0 0) := (hb.cell (p := ⟨W.heap.size, 3, none⟩) (by simp [go_sem])).trans (by simp [go_sem]); have qf3 : w2.frozen? ⟨W.heap.size, 3, none⟩ = false := (hb.frozen (p := ⟨W.heap.size, 3, none⟩) (by simp [go_sem])).trans (by simp [go_sem]); have q4 : w2.cell? ⟨W.heap.size, 4, none⟩ = some (.int .i64 0) := (hb.cell (p := ⟨W.heap.size, 4, none⟩) (by simp [go_sem])).trans (by simp [go_sem]); have qf4 : w2.frozen? ⟨W.heap.size, 4, none⟩ = false := (hb.frozen (p := ⟨W.heap.size, 4, none⟩) (by simp [go_sem])).trans (by simp [go_sem]); have q5 : w2.cell? ⟨W.heap.size, 5, none⟩ = some (.int .i64 0) := (hb.cell (p := ⟨W.heap.size, 5, none⟩) (by simp [go_sem])).trans (by simp [go_sem]); have qf5 : w2.frozen? ⟨W.heap.size, 5, none⟩ = false := (hb.frozen (p := ⟨W.heap.size, 5, none⟩) (by simp [go_sem])).trans (by simp [go_sem]); have q6 : w2.cell? ⟨W.heap.size, 6, none⟩ = some (.int .i64 0) := (hb.cell (p := ⟨W.heap.size, 6, none⟩) (by simp [go_sem])).trans (by simp [go_sem]); have qf6 : w2.frozen? ⟨W.heap.size, 6, none⟩ = false := (hb.frozen (p := ⟨W.heap.size, 6, none⟩) (by simp [go_sem])).trans (by simp [go_sem]); have q7 : w2.cell? ⟨W.heap.size, 7, none⟩ = some (.int .i64 0) := (hb.cell (p := ⟨W.heap.size, 7, none⟩) (by simp [go_sem])).trans (by simp [go_sem]); have qf7 : w2.frozen? ⟨W.heap.size, 7, none⟩ = false := (hb.frozen (p := ⟨W.heap.size, 7, none⟩) (by simp [go_sem])).trans (by simp [go_sem]); have q8 : w2.cell? ⟨W.heap.size, 8, none⟩ = some (.int .i64 0) := (hb.cell (p := ⟨W.heap.size, 8, none⟩) (by simp [go_sem])).trans (by simp [go_sem]); have qf8 : w2.frozen? ⟨W.heap.size, 8, none⟩ = false := (hb.frozen (p := ⟨W.heap.size, 8, none⟩) (by simp [go_sem])).trans (by simp [go_sem]); have q9 : w2.cell? ⟨W.heap.size, 9, none⟩ = some (.int .i64 0) := (hb.cell (p := ⟨W.heap.size, 9, none⟩) (by simp [go_sem])).trans (by simp [go_sem]); have qf9 : w2.frozen? ⟨W.heap.size, 9, none⟩ = false := (hb.frozen (p := ⟨W.heap.size, 9, none⟩) (by simp [go_sem])).trans (by simp [go_sem]); have hlt2 : w.heap.size < w2.heap.size := Nat.lt_of_lt_of_le (by simp [go_sem]; omega) hb.size; have hn2 := Nat.ne_of_lt hlt2; have hn2' := Nat.ne_of_gt hlt2; have HOWN := Lib.hid hown; have HB := Lib.hid hb; obtain ⟨A3, c3, rfl⟩ := hown.sl.shape; clear hown hb)
      | (go_at_call 31; refine (join_any xs [] _ _ w.heap.size _ (HX.out.below (HWB.out.trans (Below.drew (Below.refl _ _)))) Sl.nil_ (by simp [go_sem]; omega) hl (by decide)).mono ?_; rintro e w2 ⟨dv, rfl, hown, hb⟩; have k0 := hb.cell (p := ⟨w.heap.size, 0, none⟩) (by simp [go_sem]; omega); have k1 := hb.cell (p := ⟨w.heap.size, 1, none⟩) (by simp [go_sem]; omega); have k2 := hb.cell (p := ⟨w.heap.size, 2, none⟩) (by simp [go_sem]; omega); have k3 := hb.cell (p := ⟨w.heap.size, 3, none⟩) (by simp [go_sem]; omega); have k4 := hb.cell (p := ⟨w.heap.size, 4, none⟩) (by simp [go_sem]; omega); have k6 := hb.cell (p := ⟨w.heap.size, 6, none⟩) (by simp [go_sem]; omega); have hlt2 : w.heap.size < w2.heap.size := Nat.lt_of_lt_of_le (by simp [go_sem]; omega) hb.size; have hn2 := Nat.ne_of_lt hlt2; have hn2' := Nat.ne_of_gt hlt2; have HOWN := Lib.hid hown; have HB := Lib.hid hb; obtain ⟨A3, c3, rfl⟩ := hown.sl.shape; clear hown hb))
    · go_wp2_with fail
      go_meet
      exact ev_one HWS.out HWB.out HRES.out HB.out HOWN.out rfl
    · go_wp2_with fail
      go_meet
      exact ev_two rfl HWS.out HWB.out HRES.out HB.out HOWN.out rfl
  case rest =>
    obtain ⟨q, A9, k9, rfl, hQ, hRq, hO, hB, hq, hqs, hne⟩ := hcut
    obtain ⟨⟨q0, f0⟩, ⟨q1, f1⟩, ⟨q2, _⟩, ⟨q3, _⟩, ⟨q4, _⟩, ⟨q5, _⟩, ⟨q6, _⟩, ⟨q7, _⟩, ⟨q8, _⟩, ⟨q9, _⟩⟩ := And.intro (hQ 0 (by decide)) (And.intro (hQ 1 (by decide)) (And.intro (hQ 2 (by decide)) (And.intro (hQ 3 (by decide)) (And.intro (hQ 4 (by decide)) (And.intro (hQ 5 (by decide)) (And.intro (hQ 6 (by decide)) (And.intro (hQ 7 (by decide)) (And.intro (hQ 8 (by decide)) (hQ 9 (by decide))))))))))
    obtain ⟨⟨r0, g0⟩, ⟨r1, g1⟩, ⟨r2, g2⟩, ⟨r3, g3⟩, ⟨r4, g4⟩, ⟨r5, g5⟩, ⟨r6, g6⟩, ⟨r7, g7⟩, ⟨r8, g8⟩, ⟨r9, g9⟩⟩ := And.intro (hRq 0 (by decide)) (And.intro (hRq 1 (by decide)) (And.intro (hRq 2 (by decide)) (And.intro (hRq 3 (by decide)) (And.intro (hRq 4 (by decide)) (And.intro (hRq 5 (by decide)) (And.intro (hRq 6 (by decide)) (And.intro (hRq 7 (by decide)) (And.intro (hRq 8 (by decide)) (hRq 9 (by decide))))))))))
    dsimp only [evF] at q0 q1 q2 q3 q4 q5 q6 q7 q8 q9 r0 r1 r2 r3 r4 r5 r6 r7 r8 r9
    have HB := Lib.hid hB
    have HO := Lib.hid hO
    have HRq := Lib.hid hRq
    have HNE := Lib.hid hne
    have HQQ := Lib.hid hq
    have hn1 : q ≠ w.heap.size + 1 := by omega
    have hn2 : w.heap.size + 1 ≠ q := by omega
    clear hQ hRq hO hB hq hqs hne HEV HRES HX HWB HWS hWH c0 c1 c2 c3 c4 c6 hlt hneW hneW' hle2
    have hCf := ((HRq.out.setOther hn1 (k := 0) (.int .i64 o)).setOther hn1 (k := 1) (.int .i64 (g + 1))).store (evF o (g + 1) (lam + 1) (.slice A9 (joinV xs []).length k9) v)
    have hBf := Below.store10 (q := w.heap.size + 1) ((HB.out.setCell (p := ⟨q, 0, none⟩) (by show w.heap.size ≤ q; have := HQQ.out; omega) (.int .i64 o)).setCell (p := ⟨q, 1, none⟩) (by show w.heap.size ≤ q; have := HQQ.out; omega) (.int .i64 (g + 1))) (by omega) (evF o (g + 1) (lam + 1) (.slice A9 (joinV xs []).length k9) v)
    have hOf := (((HO.out : OwnK .i64 3 _ _ _ _).setOther (fun b hb => (HNE.out b hb).1) 0 (.int .i64 o)).setOther (fun b hb => (HNE.out b hb).1) 1 (.int .i64 (g + 1))).store10 (fun b hb => (HNE.out b hb).2) (evF o (g + 1) (lam + 1) (.slice A9 (joinV xs []).length k9) v)
    have HCf := Lib.hid hCf
    have HBf := Lib.hid hBf
    have HOf := Lib.hid hOf
    clear hCf hBf hOf HRq HB HO HNE HQQ
    go_wp2_with fail
    change bodyPost _ _ _ _ _ (store10 ((wc.setCell ⟨q, 0, none⟩ (.int .i64 o)).setCell ⟨q, 1, none⟩ (.int .i64 (g + 1))) (w.heap.size + 1) (evF o (g + 1) (lam + 1) (.slice A9 (joinV xs []).length k9) v))
    obtain ⟨wf, hwf⟩ : ∃ wf, wf = store10 ((wc.setCell ⟨q, 0, none⟩ (.int .i64 o)).setCell ⟨q, 1, none⟩ (.int .i64 (g + 1))) (w.heap.size + 1) (evF o (g + 1) (lam + 1) (.slice A9 (joinV xs []).length k9) v) := ⟨_, rfl⟩
    rw [← hwf] at HCf HBf HOf ⊢
    clear hwf q0 q1 q2 q3 q4 q5 q6 q7 q8 q9 r0 r1 r2 r3 r4 r5 r6 r7 r8 r9
    obtain ⟨c0, c1, c2, c3, c4, c5, c6, c7, c8, c9⟩ := And.intro (HCf.out 0 (by decide)).1 (And.intro (HCf.out 1 (by decide)).1 (And.intro (HCf.out 2 (by decide)).1 (And.intro (HCf.out 3 (by decide)).1 (And.intro (HCf.out 4 (by decide)).1 (And.intro (HCf.out 5 (by decide)).1 (And.intro (HCf.out 6 (by decide)).1 (And.intro (HCf.out 7 (by decide)).1 (And.intro (HCf.out 8 (by decide)).1 (HCf.out 9 (by decide)).1))))))))
    dsimp only [evF] at c0 c1 c2 c3 c4 c5 c6 c7 c8 c9
    have hBf := HBf.out
    have hOf := HOf.out
    simp [bodyPost, results, Tryd.results10, go_sem, c0, c1, c2, c3, c4, c5, c6, c7, c8, c9, hBf]
    exact hOf
end Go.Proofs.YtjjccjannandlaaDoor
