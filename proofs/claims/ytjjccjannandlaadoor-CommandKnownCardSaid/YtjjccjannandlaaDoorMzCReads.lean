/- CommandReads: the walk. -/
import Derived.Test.YtjjccjannandlaaDoorMzWorks08
import Derived.Test.YtjjccjannandlaaDoorCells7
import Derived.Test.YtjjccjannandlaaDoorMg4
import Derived.Test.YtjjccjannandlaaDoorMzLent
import Derived.Deep.RegionHeld3
set_option maxRecDepth 100000
set_option maxRecDepth 100000
set_option linter.unusedVariables false
set_option linter.unusedSimpArgs false
namespace Go.Proofs.YtjjccjannandlaaDoor
open Go.RowKit Go.BigFrame


set_option maxRecDepth 100000 in
set_option maxHeartbeats 8000000 in
theorem commandReads_any (v : Nat → Int) (xs : List Int) (x : Value) (w : World) (h64 : V64 v) (hx : Sl .u8 w w.heap.size x xs) (hb : Bytes xs) :
    Calls Tryd.prog 22 #[x, cmdV v] w fun e w' => e = .returned (.bool true) ∧ Below w.heap.size w w' := by
  obtain ⟨A, c, rfl⟩ := hx.shape
  have HX := Lib.hid hx
  have HBY := Lib.hid hb
  have H64 := Lib.hid h64
  clear hx hb h64
  have hb1 : Below w.heap.size w (w.alloc (.cells (cells7 v) 27)) := Bel.grew (Below.refl _ _) _
  by_cases hbig : 4096 < (xs.length : Int)
  · have HB1 := Lib.hid hb1
    clear hb1
    go_enter Tryd.func22, Tryd.ntmps22
    go_wp2_with fail
    refine (works08_any _).mono ?_
    rintro e w1 ⟨rfl, hb⟩
    have HB := Lib.hid (Bel.then HB1.out hb)
    clear hb
    go_wp2_with fail
    go_ret
    exact ⟨rfl, HB.out⟩
  · have hlx : xs.length ≤ 4096 := by omega
    have HC1 := Lib.hid (Has.new w (cells7 v) 27)
    have HB1 := Lib.hid hb1
    clear hb1
    go_enter Tryd.func22, Tryd.ntmps22
    go_wp2_with fail
    refine (lentBytes_any xs _ _ _ (HX.out.later HB1.out) (Nat.le_refl _) (by omega)).mono ?_
    rintro e w2 ⟨r2, rfl, hown, hb⟩
    have HL2 := Lib.hid hown.sl
    have hlen : (xs ++ marksB).length = xs.length + 5 := by simp [marksB]
    obtain ⟨A2, c2, h2⟩ := hown.sl.shape
    rw [hlen] at h2
    subst h2
    have HB2 := Lib.hid (Bel.then HB1.out hb)
    have HC2 := Lib.hid (HC1.out.later hb)
    obtain ⟨A5, c5, he5⟩ := sliced_shape A2 0 xs.length c2
    rw [Nat.sub_zero] at he5
    have hcut := fun W => run_upto A2 (xs.length + 5) c2 xs.length (by have := HL2.out.cap'; rw [hlen] at this; omega) W
    rw [he5] at hcut
    have HS2 : Hid (Sl .u8 w2 w2.heap.size (.slice A5 xs.length c5) xs) := by
      have := HL2.out.upto_ (a := xs.length) (by omega)
      rw [he5, List.take_left] at this
      exact this
    clear hown hb HC1 HB1 he5 hlen
    go_wp2_with fail
    obtain ⟨d, hd⟩ : ∃ d, getE xs = d := ⟨_, rfl⟩
    obtain ⟨g, hg⟩ : ∃ g, getC xs = g := ⟨_, rfl⟩
    have HG := Lib.hid hg
    have HD := Lib.hid hd
    clear hg hd
    refine (cGet_any xs _ _ HS2.out (by omega) HBY.out g d HG.out HD.out).mono ?_
    rintro e w3 ⟨rfl, hb⟩
    have HB3 := Lib.hid (Bel.then HB2.out hb)
    have HC3 := Lib.hid (HC2.out.later hb)
    have HL3 := Lib.hid (HL2.out.later hb)
    clear hb HB2 HC2 HL2 HS2 hcut
    go_wp2_with fail
    have hgrow : Below w3.heap.size w3 (w3.alloc (.cells (cells7 g) 27)) := Bel.grew (Below.refl _ _) _
    refine (rGet_any xs _ _ (HX.out.later (Bel.then HB3.out hgrow)) (by omega) HBY.out g d HG.out HD.out).mono ?_
    rintro e w4 ⟨rfl, hb⟩
    have HB4 := Lib.hid (Bel.then (Bel.then HB3.out hgrow) hb)
    have HC4 := Lib.hid ((HC3.out.later hgrow).later hb)
    have HL4 := Lib.hid ((HL3.out.later hgrow).later hb)
    have HE4 := Lib.hid ((Has.new w3 (cells7 g) 27).later hb)
    clear hb HB3 HC3 HL3 hgrow
    go_wp2_with fail
    obtain ⟨W, hW⟩ : ∃ W, W = w4.alloc (.cells (cells7 g) 27) := ⟨_, rfl⟩
    have hgr : Below w4.heap.size w4 W := by rw [hW]; exact Bel.grew (Below.refl _ _) _
    have hF := Has.new w4 (cells7 g) 27
    rw [← hW] at hF
    have hE := HE4.out.later hgr
    have hC := HC4.out.later hgr
    have HWB := Lib.hid (Bel.then HB4.out hgr)
    have HLW := Lib.hid (HL4.out.later hgr)
    have HXW := Lib.hid (HX.out.later HWB.out)
    have HEL : Hid ((encs (firstN v 7)).length ≤ 1099511627776) := by
      have := encs_le (firstN_64 H64.out (Nat.le_refl 7)); rw [firstN_length] at this; exact Lib.hid (by omega)
    have hl1 := hC.1
    have hl2 := hE.1
    have hl3 := hF.1
    replace hC := hC.2
    replace hE := hE.2
    replace hF := hF.2
    change Code.wp _ _ _ _ (w4.alloc (.cells (cells7 g) 27))
    rw [← hW]
    clear hW hgr HB4 HC4 HL4 HE4
    go_region_held3 (fun w' => w'.cell? ⟨w3.heap.size, 0, none⟩ = some (.int .i64 (g 0)) ∧ w'.cell? ⟨w3.heap.size, 1, none⟩ = some (.int .i64 (g 1)) ∧ w'.cell? ⟨w3.heap.size, 2, none⟩ = some (.int .i64 (g 2)) ∧ w'.cell? ⟨w3.heap.size, 3, none⟩ = some (.int .i64 (g 3)) ∧ w'.cell? ⟨w3.heap.size, 4, none⟩ = some (.int .i64 (g 4)) ∧ w'.cell? ⟨w3.heap.size, 5, none⟩ = some (.int .i64 (g 5)) ∧ w'.cell? ⟨w3.heap.size, 6, none⟩ = some (.int .i64 (g 6)) ∧ w'.cell? ⟨w4.heap.size, 0, none⟩ = some (.int .i64 (g 0)) ∧ w'.cell? ⟨w4.heap.size, 1, none⟩ = some (.int .i64 (g 1)) ∧ w'.cell? ⟨w4.heap.size, 2, none⟩ = some (.int .i64 (g 2)) ∧ w'.cell? ⟨w4.heap.size, 3, none⟩ = some (.int .i64 (g 3)) ∧ w'.cell? ⟨w4.heap.size, 4, none⟩ = some (.int .i64 (g 4)) ∧ w'.cell? ⟨w4.heap.size, 5, none⟩ = some (.int .i64 (g 5)) ∧ w'.cell? ⟨w4.heap.size, 6, none⟩ = some (.int .i64 (g 6)) ∧ w'.cell? ⟨w.heap.size, 0, none⟩ = some (.int .i64 (v 0)) ∧ w'.cell? ⟨w.heap.size, 1, none⟩ = some (.int .i64 (v 1)) ∧ w'.cell? ⟨w.heap.size, 2, none⟩ = some (.int .i64 (v 2)) ∧ w'.cell? ⟨w.heap.size, 3, none⟩ = some (.int .i64 (v 3)) ∧ w'.cell? ⟨w.heap.size, 4, none⟩ = some (.int .i64 (v 4)) ∧ w'.cell? ⟨w.heap.size, 5, none⟩ = some (.int .i64 (v 5)) ∧ w'.cell? ⟨w.heap.size, 6, none⟩ = some (.int .i64 (v 6))) (go_keep) (first
      | (go_at_call 20; refine (cPut_any v _ H64.out).mono ?_; rintro e wP ⟨rP, rfl, hownP, bP⟩; have HP := Lib.hid (OwnK.sl hownP); have kP1 := fun o => bP.cell (p := ⟨w.heap.size, o, none⟩) (by first | exact hl1 | exact hl1P | exact hl1Q); have kP2 := fun o => bP.cell (p := ⟨w3.heap.size, o, none⟩) (by first | exact hl2 | exact hl2P | exact hl2Q); have kP3 := fun o => bP.cell (p := ⟨w4.heap.size, o, none⟩) (by first | exact hl3 | exact hl3P | exact hl3Q); have hl1P : w.heap.size < wP.heap.size := Nat.lt_of_lt_of_le (by first | exact hl1 | exact hl1P | exact hl1Q) bP.size; have hl2P : w3.heap.size < wP.heap.size := Nat.lt_of_lt_of_le (by first | exact hl2 | exact hl2P | exact hl2Q) bP.size; have hl3P : w4.heap.size < wP.heap.size := Nat.lt_of_lt_of_le (by first | exact hl3 | exact hl3P | exact hl3Q) bP.size; have HBP := Lib.hid (Bel.then (by first | exact Below.drew (Below.refl _ _) | exact HBQ.out : Below W.heap.size W _) bP); have BBP := Lib.hid bP; clear hownP bP)
      | (go_at_call 44; refine (rPut_any v _ H64.out).mono ?_; rintro e wQ ⟨rQ, rfl, hownQ, bQ⟩; have HQ := Lib.hid (OwnK.sl hownQ); have kQ1 := fun o => bQ.cell (p := ⟨w.heap.size, o, none⟩) (by first | exact hl1 | exact hl1P | exact hl1Q); have kQ2 := fun o => bQ.cell (p := ⟨w3.heap.size, o, none⟩) (by first | exact hl2 | exact hl2P | exact hl2Q); have kQ3 := fun o => bQ.cell (p := ⟨w4.heap.size, o, none⟩) (by first | exact hl3 | exact hl3P | exact hl3Q); have hl1Q : w.heap.size < wQ.heap.size := Nat.lt_of_lt_of_le (by first | exact hl1 | exact hl1P | exact hl1Q) bQ.size; have hl2Q : w3.heap.size < wQ.heap.size := Nat.lt_of_lt_of_le (by first | exact hl2 | exact hl2P | exact hl2Q) bQ.size; have hl3Q : w4.heap.size < wQ.heap.size := Nat.lt_of_lt_of_le (by first | exact hl3 | exact hl3P | exact hl3Q) bQ.size; have HBQ := Lib.hid (Bel.then (by first | exact Below.drew (Below.refl _ _) | exact HBP.out : Below W.heap.size W _) bQ); have BBQ := Lib.hid bQ; clear hownQ bQ)
      | (go_at_call 38; refine (sameBytes_is (xs := encs (firstN v 7)) (ys := encs (firstN v 7)) (b := true) (by first | exact HP.out | exact HP.out.later BBQ.out) (by first | exact HQ.out | exact HQ.out.later BBP.out) (decide_eq_true rfl) HEL.out).mono ?_; rintro e wS ⟨rfl, bS⟩; have kS1 := fun o => bS.cell (p := ⟨w.heap.size, o, none⟩) (by first | exact hl1P | exact hl1Q); have kS2 := fun o => bS.cell (p := ⟨w3.heap.size, o, none⟩) (by first | exact hl2P | exact hl2Q); have kS3 := fun o => bS.cell (p := ⟨w4.heap.size, o, none⟩) (by first | exact hl3P | exact hl3Q); have hl1S : w.heap.size < wS.heap.size := Nat.lt_of_lt_of_le (by first | exact hl1P | exact hl1Q) bS.size; have hl2S : w3.heap.size < wS.heap.size := Nat.lt_of_lt_of_le (by first | exact hl2P | exact hl2Q) bS.size; have hl3S : w4.heap.size < wS.heap.size := Nat.lt_of_lt_of_le (by first | exact hl3P | exact hl3Q) bS.size; have HBS := Lib.hid (Bel.then (by first | exact HBP.out | exact HBQ.out : Below W.heap.size W _) bS); clear bS)
      | (go_at_call 45; refine (keptBytes_any xs _ _ W.heap.size _ (HLW.out.below HBS.out) (HXW.out.below HBS.out) HBS.out.size (by omega)).mono ?_; rintro e wT ⟨rfl, bT⟩; have kT1 := fun o => bT.cell (p := ⟨w.heap.size, o, none⟩) (by first | exact hl1S); have kT2 := fun o => bT.cell (p := ⟨w3.heap.size, o, none⟩) (by first | exact hl2S); have kT3 := fun o => bT.cell (p := ⟨w4.heap.size, o, none⟩) (by first | exact hl3S); have hl1T : w.heap.size < wT.heap.size := Nat.lt_of_lt_of_le (by first | exact hl1S) bT.size; have hl2T : w3.heap.size < wT.heap.size := Nat.lt_of_lt_of_le (by first | exact hl2S) bT.size; have hl3T : w4.heap.size < wT.heap.size := Nat.lt_of_lt_of_le (by first | exact hl3S) bT.size; have HBT := Lib.hid (Bel.then HBS.out bT); clear bT)
      | (go_at_call 8; refine (works08_any _).mono ?_; rintro e wU ⟨rfl, bU⟩; have kU1 := fun o => bU.cell (p := ⟨w.heap.size, o, none⟩) (by first | exact hl1T); have kU2 := fun o => bU.cell (p := ⟨w3.heap.size, o, none⟩) (by first | exact hl2T); have kU3 := fun o => bU.cell (p := ⟨w4.heap.size, o, none⟩) (by first | exact hl3T); have hl1U : w.heap.size < wU.heap.size := Nat.lt_of_lt_of_le (by first | exact hl1T) bU.size; have hl2U : w3.heap.size < wU.heap.size := Nat.lt_of_lt_of_le (by first | exact hl2T) bU.size; have hl3U : w4.heap.size < wU.heap.size := Nat.lt_of_lt_of_le (by first | exact hl3T) bU.size; have HBU := Lib.hid (Bel.then HBT.out bU); clear bU))
    all_goals
      go_wp2_with fail
      go_ret
      exact ⟨rfl, Bel.then HWB.out HBU.out⟩
end Go.Proofs.YtjjccjannandlaaDoor
