/- shown(): -1 and a row, there and back. -/
import Derived.Test.YtamnligooelmgaaReadD
set_option linter.unusedVariables false
set_option linter.unusedSimpArgs false
namespace Go.Proofs.Ytamnligooelmgaa
open Go.RowKit Go.BigFrame

theorem enc_m1 : [7] ++ encI (-1) = [7, 17, 1] := by decide +kernel
theorem enc_56 : [7, 17, 1] ++ encB [5, 6] = [7, 17, 1, 1, 2, 5, 6] := by decide +kernel
theorem step_m1 : stepR (numR (([17, 1, 1, 2, 5, 6] : List Int).drop 0)) 0 0 = (-1, 2, 0) := by decide +kernel
theorem step_56 : stepB (blobR (([17, 1, 1, 2, 5, 6] : List Int).drop 2)) 2 0 = ([5, 6], 6, 0) := by decide +kernel
theorem done_56 : doneR [17, 1, 1, 2, 5, 6] 6 0 = 0 := by decide +kernel
theorem bytes_56 : Bytes [17, 1, 1, 2, 5, 6] := by decide

theorem run_from (A : Option Addr) (L c a : Nat) (h : a ≤ L) (W : World) :
    (Instr.sliceAt 22 (.slice A L c) (some (.int .i64 (a : Int))) none none).run Try.prog W = .ok (sliced A a L c 1) W := by
  obtain ⟨i0, hi, hz0, hz1, hz2⟩ := info_parts infoBytes
  have hu : Try.prog.underlying 22 = some (.slice (Try.prog.elem 22)) := by kernel_rfl
  have he : Try.prog.elem 22 = 5 := by kernel_rfl
  rw [run_sliceAt_slice (h := hu), run_slice_l (ht := hu) (h0 := by omega) (h1 := by omega), he]
  rw [show ((a : Int)).toNat = a from by omega]
  simp [sizeOf, typeInfo, hi, hz1, Result.andThen]
theorem run_upto (A : Option Addr) (L c a : Nat) (h : a ≤ c) (W : World) :
    (Instr.sliceAt 22 (.slice A L c) none (some (.int .i64 (a : Int))) none).run Try.prog W = .ok (sliced A 0 a c 1) W := by
  obtain ⟨i0, hi, hz0, hz1, hz2⟩ := info_parts infoBytes
  have hu : Try.prog.underlying 22 = some (.slice (Try.prog.elem 22)) := by kernel_rfl
  have he : Try.prog.elem 22 = 5 := by kernel_rfl
  rw [run_sliceAt_slice (h := hu), run_slice_h (ht := hu) (h0 := by omega) (h2 := by omega), he]
  rw [show ((a : Int)).toNat = a from by omega]
  simp [sizeOf, typeInfo, hi, hz1, Result.andThen]
/-- Cut behind. -/
theorem Sl.from_ {k : IntKind} {w : World} {B L c a : Nat} {A : Option Addr} {xs : List Int} (h : Sl k w B (.slice A L c) xs) (hL : L = xs.length) (hn : a ≤ xs.length) : Sl k w B (sliced A a L c 1) (xs.drop a) := by
  have := h.piece (a := a) (n := L - a) (by omega)
  rw [List.take_of_length_le (by simp; omega), show a + (L - a) = L from by omega] at this
  exact this
theorem Sl.upto_ {k : IntKind} {w : World} {B L c a : Nat} {A : Option Addr} {xs : List Int} (h : Sl k w B (.slice A L c) xs) (hn : a ≤ xs.length) : Sl k w B (sliced A 0 a c 1) (xs.take a) := by
  have := h.piece (a := 0) (n := a) (by omega)
  simpa using this

theorem sliced_shape (A : Option Addr) (a b c : Nat) : ∃ A' c', sliced A a b c 1 = .slice A' (b - a) c' := ⟨_, _, rfl⟩

set_option maxHeartbeats 2000000 in
theorem shown_any (w : World) : Calls Try.prog 8 #[] w fun e w' => e = .returned (.bool true) ∧ Below w.heap.size w w' := by
  go_enter Try.func8, Try.ntmps8
  go_wp2_with fail
  refine (pint_any [7] (-1) _ _ _ (Sl.one w _ 7 _ rfl) (Nat.le_refl _) (by decide) (by decide) (by decide)).mono ?_
  rintro e w1 ⟨r, rfl, hown, hb1⟩
  rw [enc_m1] at hown
  have hs1 := hb1.size
  rw [World.size_alloc] at hs1 hown
  have HB1 : Hid (Below w.heap.size w w1) := ((Below.refl w.heap.size w).alloc (Nat.le_refl _) _).trans (hb1.mono (by simp))
  have HO1 := Lib.hid hown
  obtain ⟨A1, c1, rfl⟩ := hown.sl.shape
  clear hown hb1
  go_wp2_with fail
  refine (pblob_any [7, 17, 1] [5, 6] _ _ _ ((HO1.out.grow _).sl) (Sl.built w1 _ _ [5, 6] 2 _ rfl rfl rfl) (by decide) (by decide)).mono ?_
  rintro e w2 ⟨r, rfl, hown, hb2⟩
  rw [enc_56] at hown
  have HB2 : Hid (Below w.heap.size w w2) := HB1.out.trans (((Below.refl w.heap.size w1).alloc (Nat.le_trans (Nat.le_succ _) hs1) _).trans (hb2.mono (by simp; omega)))
  have HO2 : Hid (OwnBytes w2 w.heap.size r [7, 17, 1, 1, 2, 5, 6]) := hown.down (by rw [World.size_alloc]; omega)
  clear HO1 HB1 hown hb2 hs1
  obtain ⟨A2, c2, rfl⟩ := HO2.out.sl.shape
  go_wp2_with fail
  refine (sameBytes_is ((HO2.out.grow _).sl) (Sl.built w2 _ _ [7, 17, 1, 1, 2, 5, 6] 7 _ rfl rfl rfl) (b := true) (by decide) (by decide)).mono ?_
  rintro e w3 ⟨rfl, hb3⟩
  have hcut : ∀ W : World, (Instr.sliceAt 22 (.slice A2 7 c2) (some (.int .i64 1)) none none).run Try.prog W = .ok (sliced A2 1 7 c2 1) W := run_from A2 7 c2 1 (by decide)
  have HB3 : Hid (Below w.heap.size w w3) := HB2.out.trans (((Below.refl w.heap.size w2).alloc HB2.out.size _).trans (hb3.mono (by have := HB2.out.size; simp; omega)))
  have HS3 : Hid (Sl .u8 w3 w3.heap.size (sliced A2 1 7 c2 1) [17, 1, 1, 2, 5, 6]) := ((HO2.out.grow _).sl.later hb3).from_ (a := 1) rfl (by decide)
  obtain ⟨A3, c3, he3⟩ := sliced_shape A2 1 7 c2
  rw [he3] at hcut HS3
  clear HO2 HB2 hb3 he3
  go_wp2_with fail
  refine (From_any [17, 1, 1, 2, 5, 6] _ _ HS3.out (by decide)).mono ?_
  rintro e w4 ⟨p, S, rfl, hp, hb4, hR⟩
  have HR4 := Lib.hid hR
  have hs3 := HB3.out.size
  have hwp : w.heap.size ≤ p := Nat.le_trans hs3 hp
  have HB4 : Hid (Below w.heap.size w w4) := HB3.out.trans (hb4.mono hs3)
  clear hcut HS3 HB3 hb4 hp hR hs3
  go_wp2_with fail
  refine (Int_any (a := 0) HR4.out (by decide) (by decide) bytes_56 _ step_m1).mono ?_
  rintro e w5 ⟨rfl, hb5, hR⟩
  have HR5 := Lib.hid hR
  have HB5 : Hid (Below w.heap.size w w5) := HB4.out.trans (hb5.below hwp HB4.out.size)
  clear hb5 hR HB4 HR4
  dsimp only
  go_wp2_with fail
  refine (Blob_any (a := 2) HR5.out (by decide) (by decide) bytes_56 _ step_56).mono ?_
  rintro e w6 ⟨v, rfl, hb6, hR, hown⟩
  have HR6 := Lib.hid hR
  have HO6 := Lib.hid hown
  have HB6 : Hid (Below w.heap.size w w6) := HB5.out.trans (hb6.below hwp HB5.out.size)
  obtain ⟨A6, c6, rfl⟩ := hown.sl.shape
  clear hb6 hR HB5 HR5 hown
  dsimp only [List.length_cons, List.length_nil]
  go_wp2_with fail
  refine (sameBytes_is ((HO6.out.grow _).sl) (Sl.built w6 _ _ [5, 6] 2 _ rfl rfl rfl) (b := true) (by decide) (by decide)).mono ?_
  rintro e w7 ⟨rfl, hb7⟩
  have HR7 := Lib.hid ((HR6.out.below ((Below.refl _ _).alloc (Nat.le_refl _) _)).below hb7)
  have HB7 : Hid (Below w.heap.size w w7) := HB6.out.trans (((Below.refl w.heap.size w6).alloc HB6.out.size _).trans (hb7.mono (by have := HB6.out.size; simp; omega)))
  clear hb7 HB6 HR6 HO6
  go_wp2_with fail
  refine (Done_any HR7.out).mono ?_
  rw [done_56]
  rintro e w8 ⟨rfl, hb8⟩
  have HB8 : Hid (Below w.heap.size w w8) := HB7.out.trans (hb8.mono HB7.out.size)
  clear hb8 HB7 HR7
  go_wp2_with fail
  go_ret
  exact ⟨rfl, HB8.out⟩
end Go.Proofs.Ytamnligooelmgaa
