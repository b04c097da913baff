/- is(): is the next thing that is read this one? -/
import Derived.Test.YtamnligooelmgaaPackL
import Derived.Test.YtamnligooelmgaaShown
set_option linter.unusedVariables false
set_option linter.unusedSimpArgs false
namespace Go.Proofs.Ytamnligooelmgaa
open Go.RowKit Go.BigFrame

set_option maxHeartbeats 4000000 in
theorem is_row {xs bs : List Int} {S v : Value} {p a B : Nat} {n a' : Int} {w : World} (hR : Rd w p xs S a 0) (hl : xs.length ≤ 1099511627776) (ha : a ≤ xs.length) (hb : Bytes xs) (hs : stepB (blobR (xs.drop a)) a 0 = (bs, a', 0))
    (hB : B ≤ p) (hv : Sl .u8 w B v bs) (hlb : bs.length ≤ 1099511627776) :
    Calls Try.prog 19 #[.pointer (some ⟨p, 0, none⟩), .agg #[.bool true, .int .i64 n, v]] w fun e w' => e = .returned (.bool true) ∧ But p w w' ∧ Rd w' p xs S a' 0 := by
  obtain ⟨A, c, rfl⟩ := hv.shape
  have hplt := hR.lt
  have HR := Lib.hid hR
  have HV := Lib.hid hv
  obtain ⟨w1, hw1⟩ : ∃ w1, w1 = (w.alloc (.cells #[.bool true, .int .i64 n, .slice A bs.length c] 39)).drew := ⟨_, rfl⟩
  have hB1 : Below w.heap.size w w1 := by rw [hw1]; exact Below.drew ((Below.refl _ _).alloc (Nat.le_refl _) _)
  have hc2 : w1.cell? ⟨w.heap.size, 2, none⟩ = some (.slice A bs.length c) := by rw [hw1]; simp [go_sem]
  have hs1 : w.heap.size < w1.heap.size := by rw [hw1]; simp [go_sem]
  have HN := Lib.hid (Blob_any (hR.below hB1) hl ha hb _ hs)
  have HB1 := Lib.hid hB1
  have hne : w.heap.size ≠ p := by omega
  rw [hw1] at hc2 hs1
  have HW1 := Lib.hid hw1
  clear hR hv hb hs hB1 HR hw1
  go_enter Try.func19, Try.ntmps19
  go_wp2_with fail
  go_region_law (first
    | (go_simp; go_at_call 23; rw [← HW1.out]; refine HN.out.mono ?_; rintro e w2 ⟨r, rfl, hB2, hR2, hown⟩; have hc2' := (hB2.cell (o := 2) (HW1.out ▸ hs1) hne).trans (HW1.out ▸ hc2); have HR2 := Lib.hid hR2; have HO2 := Lib.hid hown; have HB2 := Lib.hid hB2; clear hR2 hown; try dsimp only)
    | (go_simp; go_at_call 12; refine (sameBytes_is HO2.out.sl (((HV.out.below (HB1.out.mono (by omega))).below (HB2.out.below hB (by have := HB1.out.size; omega))).more (by have := HB2.out.size; have := HB1.out.size; omega)) (b := true) (by simp) (by simpa using hlb)).mono ?_; rintro e w3 ⟨rfl, hB3⟩; have HB3 := Lib.hid hB3; clear hB3; try dsimp only))
  all_goals
    go_wp2_with fail
    go_ret
    exact ⟨rfl, ((But.of HB1.out).trans HB2.out).trans (But.of HB3.out), HR2.out.below HB3.out⟩

set_option maxHeartbeats 4000000 in
theorem is_num {xs bs : List Int} {S v : Value} {p a : Nat} {n a' : Int} {w : World} (hR : Rd w p xs S a 0) (hl : xs.length ≤ 1099511627776) (ha : a ≤ xs.length) (hb : Bytes xs) (hs : stepR (numR (xs.drop a)) a 0 = (n, a', 0))
    (B : Nat) (hv : Sl .u8 w B v bs) :
    Calls Try.prog 19 #[.pointer (some ⟨p, 0, none⟩), .agg #[.bool false, .int .i64 n, v]] w fun e w' => e = .returned (.bool true) ∧ But p w w' ∧ Rd w' p xs S a' 0 := by
  obtain ⟨A, c, rfl⟩ := hv.shape
  have hplt := hR.lt
  obtain ⟨w1, hw1⟩ : ∃ w1, w1 = (w.alloc (.cells #[.bool false, .int .i64 n, .slice A bs.length c] 39)).drew := ⟨_, rfl⟩
  have hB1 : Below w.heap.size w w1 := by rw [hw1]; exact Below.drew ((Below.refl _ _).alloc (Nat.le_refl _) _)
  have hc1 : w1.cell? ⟨w.heap.size, 1, none⟩ = some (.int .i64 n) := by rw [hw1]; simp [go_sem]
  have hs1 : w.heap.size < w1.heap.size := by rw [hw1]; simp [go_sem]
  have HN := Lib.hid (Int_any (hR.below hB1) hl ha hb _ hs)
  have HB1 := Lib.hid hB1
  have hne : w.heap.size ≠ p := by omega
  rw [hw1] at hc1 hs1
  have HW1 := Lib.hid hw1
  clear hR hv hb hs hB1 hw1
  go_enter Try.func19, Try.ntmps19
  go_wp2_with fail
  go_region_law (go_simp; go_at_call 21; rw [← HW1.out]; refine HN.out.mono ?_; rintro e w2 ⟨rfl, hB2, hR2⟩; have hc1' := (hB2.cell (o := 1) (HW1.out ▸ hs1) hne).trans (HW1.out ▸ hc1); have HR2 := Lib.hid hR2; have HB2 := Lib.hid hB2; clear hR2; try dsimp only)
  all_goals
    go_wp2_with fail
    go_ret
    exact ⟨rfl, (But.of HB1.out).trans HB2.out, HR2.out⟩
end Go.Proofs.Ytamnligooelmgaa
