/- shown(): -1 and a row, there and back. -/
import Derived.Test.YtjcocahhpjgbhaaMg2
set_option maxRecDepth 100000
set_option maxRecDepth 100000
set_option linter.unusedVariables false
set_option linter.unusedSimpArgs false
namespace Go.Proofs.Ytjcocahhpjgbhaa
open Go.RowKit Go.BigFrame

theorem enc_m1 : [7] ++ encI (-1) = [7, 17, 1] := by decide +kernel
theorem enc_56 : [7, 17, 1] ++ encB [5, 6] = [7, 17, 1, 1, 2, 5, 6] := by decide +kernel
theorem step_m1 : stepR (numR (([17, 1, 1, 2, 5, 6] : List Int).drop 0)) 0 0 = (-1, 2, 0) := by decide +kernel
theorem step_56 : stepB (blobR (([17, 1, 1, 2, 5, 6] : List Int).drop 2)) 2 0 = ([5, 6], 6, 0) := by decide +kernel
theorem done_56 : doneR [17, 1, 1, 2, 5, 6] 6 0 = 0 := by decide +kernel
theorem bytes_56 : Bytes [17, 1, 1, 2, 5, 6] := by decide

theorem run_from (A : Option Addr) (L c a : Nat) (h : a ≤ L) (W : World) :
    (Instr.sliceAt 26 (.slice A L c) (some (.int .i64 (a : Int))) none none).run Try.prog W = .ok (sliced A a L c 1) W := by
  obtain ⟨i0, hi, hz0, hz1, hz2⟩ := info_parts infoBytes
  have hu : Try.prog.underlying 26 = some (.slice (Try.prog.elem 26)) := by kernel_rfl
  have he : Try.prog.elem 26 = 5 := by kernel_rfl
  rw [run_sliceAt_slice (h := hu), run_slice_l (ht := hu) (h0 := by omega) (h1 := by omega), he]
  rw [show ((a : Int)).toNat = a from by omega]
  simp [sizeOf, typeInfo, hi, hz1, Result.andThen]
theorem run_upto (A : Option Addr) (L c a : Nat) (h : a ≤ c) (W : World) :
    (Instr.sliceAt 26 (.slice A L c) none (some (.int .i64 (a : Int))) none).run Try.prog W = .ok (sliced A 0 a c 1) W := by
  obtain ⟨i0, hi, hz0, hz1, hz2⟩ := info_parts infoBytes
  have hu : Try.prog.underlying 26 = some (.slice (Try.prog.elem 26)) := by kernel_rfl
  have he : Try.prog.elem 26 = 5 := by kernel_rfl
  rw [run_sliceAt_slice (h := hu), run_slice_h (ht := hu) (h0 := by omega) (h2 := by omega), he]
  rw [show ((a : Int)).toNat = a from by omega]
  simp [sizeOf, typeInfo, hi, hz1, Result.andThen]
/-- Cut behind. -/
theorem Sl.from_ {k : IntKind} {w : World} {B L c a : Nat} {A : Option Addr} {xs : List Int} (h : Sl k w B (.slice A L c) xs) (hL : L = xs.length) (hn : a ≤ xs.length) : Sl k w B (sliced A a L c 1) (xs.drop a) := by
  have := h.piece (a := a) (n := L - a) (by omega)
  rw [List.take_of_length_le (by simp; omega), show a + (L - a) = L from by omega] at this
  exact this
theorem Sl.upto_ {k : IntKind} {w : World} {B L c a : Nat} {A : Option Addr} {xs : List Int} (h : Sl k w B (.slice A L c) xs) (hn : a ≤ xs.length) : Sl k w B (sliced A 0 a c 1) (xs.take a) := by
  have := h.piece (a := 0) (n := a) (by omega)
  simpa using this

theorem sliced_shape (A : Option Addr) (a b c : Nat) : ∃ A' c', sliced A a b c 1 = .slice A' (b - a) c' := ⟨_, _, rfl⟩

end Go.Proofs.Ytjcocahhpjgbhaa
