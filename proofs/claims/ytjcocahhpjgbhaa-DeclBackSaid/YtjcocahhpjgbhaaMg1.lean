/- PackP, Shelf, Pack, KitBytes, Pack2, KitD, Pack3, Read, ReadP. -/
import Derived.Test.YtjcocahhpjgbhaaKitC
import Derived.Lib.ItoaNum
import Derived.Lib.BitFns
import Derived.Shelf.Strconv.Itoa0
import Derived.Test.YtjcocahhpjgbhaaBase
import Derived.Laws.MakeOwn
import Derived.Laws.CopyOwn
import Derived.Laws.Shifts
import Derived.Laws.OwnMore
import Derived.Laws.AppendOwnNone
import Derived.Defers
import Derived.Recover
import Derived.RegionCalls
import Derived.RegionDies
import Derived.Laws.BitsLemmas
import Derived.Laws.BitsAllLaws
set_option maxRecDepth 100000
/- Numbers laid as bytes: plain facts. -/
set_option maxRecDepth 100000
set_option linter.unusedVariables false
set_option linter.unusedSimpArgs false
namespace Go.Proofs.Ytjcocahhpjgbhaa
open Go.RowKit

/-- How many bytes a magnitude has. -/
def nb (u : Nat) : Nat := (Lib.bitLen u + 7) / 8
theorem pow256 (k : Nat) : 256 ^ k = 2 ^ (8 * k) := by
  rw [Nat.pow_mul]
theorem nb_iff {u k : Nat} (hu : u < 18446744073709551616) : k < nb u ↔ 256 ^ k ≤ u := by
  have hu' : u < 2 ^ 64 := hu
  rw [pow256]
  unfold nb
  by_cases h0 : u = 0
  · subst h0
    have : Lib.bitLen 0 = 0 := Lib.bitLenAux_zero 64
    rw [this]
    have := Nat.two_pow_pos (8 * k)
    omega
  · obtain ⟨h1, h2, h3⟩ := Lib.bitLenAux_bounds 64 u hu' h0
    have e : Lib.bitLen u = Lib.bitLenAux 64 u := rfl
    rw [e]
    generalize Lib.bitLenAux 64 u = L at *
    constructor
    · intro h
      have : 8 * k ≤ L - 1 := by omega
      exact Nat.le_trans (Nat.pow_le_pow_right (by omega) this) h2
    · intro h
      have : 8 * k < L := by
        rcases Nat.lt_or_ge (8 * k) L with h' | h'
        · exact h'
        · have := Nat.pow_le_pow_right (n := 2) (by omega) h'
          omega
      omega
theorem nb_le {u : Nat} (hu : u < 18446744073709551616) : nb u ≤ 8 := by
  have h : ¬ 8 < nb u := fun h => by
    have := (nb_iff hu).1 h
    have e : (256 : Nat) ^ 8 = 18446744073709551616 := by decide
    omega
  omega
theorem lt_nb {u : Nat} (hu : u < 18446744073709551616) : u < 256 ^ nb u := by
  have := (nb_iff (k := nb u) hu)
  omega

/-- The last k bytes, the highest first. -/
def beD (u : Nat) : Nat → List Int
  | 0 => []
  | k + 1 => ((u / 256 ^ k % 256 : Nat) : Int) :: beD u k
theorem beD_length (u k : Nat) : (beD u k).length = k := by induction k with
  | zero => rfl
  | succ k ih => simp [beD, ih]
theorem beD_byte (u k : Nat) : ∀ x ∈ beD u k, 0 ≤ x ∧ x ≤ 255 := by
  induction k with
  | zero => intro x h; cases h
  | succ k ih =>
    intro x h
    simp only [beD, List.mem_cons] at h
    rcases h with rfl | h
    · omega
    · exact ih x h
/-- How far from 0. -/
def mag (n : Int) : Nat := n.natAbs
/-- The head's byte. -/
def headI (n : Int) : Int := (nb (mag n) : Int) + (if n < 0 then 16 else 0)
/-- A number's bytes. -/
def encI (n : Int) : List Int := headI n :: beD (mag n) (nb (mag n))
/-- A row's bytes. -/
def encB (xs : List Int) : List Int := encI xs.length ++ xs
theorem encI_length (n : Int) : (encI n).length = nb (mag n) + 1 := by simp [encI, beD_length]
theorem mag_lt {n : Int} (h0 : -9223372036854775808 ≤ n) (h1 : n ≤ 9223372036854775807) : mag n ≤ 9223372036854775808 := by unfold mag; omega
end Go.Proofs.Ytjcocahhpjgbhaa

/- math/bits.Len64 by the library's contract, at this translation (what lay-plain wrote, by name). -/
set_option maxRecDepth 100000
set_option linter.unusedVariables false
namespace Go.Proofs.Ytjcocahhpjgbhaa
open Go.Shelf
def lays129_ren : Go.Shelf.Ren := ⟨fun | 129 => 59 | n => n, fun | 53 => 81 | 3 => 3 | 4 => 4 | 46 => 104 | 5 => 5 | 9 => 9 | n => n, fun | n => n⟩
theorem lays129 : Go.Proofs.Lays.n129 Try.prog lays129_ren := {
  mixed := by kernel_rfl
  f129 := Try.func59.trans (congrArg some (by kernel_rfl))
  t3 := Try.underlying3
  a3 := Try.isAgg3
  z3 := Try.sizeOf3
  v3 := Try.zeroValue3
  t4 := Try.underlying4
  a4 := Try.isAgg4
  z4 := Try.sizeOf4
  v4 := Try.zeroValue4
  t5 := Try.underlying5
  a5 := Try.isAgg5
  z5 := Try.sizeOf5
  v5 := Try.zeroValue5
  t9 := Try.underlying9
  a9 := Try.isAgg9
  z9 := Try.sizeOf9
  v9 := Try.zeroValue9
  t46 := Try.underlying104
  a46 := Try.isAgg104
  z46 := Try.sizeOf104
  v46 := Try.zeroValue104
  t53 := Try.underlying81
  a53 := Try.isAgg81
  z53 := Try.sizeOf81
  v53 := Try.zeroValue81 }
/-- bits.Len64. -/
theorem len64_any (x : Int) (w : World) (h0 : 0 ≤ x) (h1 : x ≤ 18446744073709551615) :
    Calls Try.prog 59 #[.int .u64 x] w fun e w' => e = .returned (.int .i64 (Lib.bitLen x.toNat)) ∧ w' = w := Any.bits_Len64 lays129 x w h0 h1
end Go.Proofs.Ytjcocahhpjgbhaa

/- Walks of package pack's size and of its reference. -/
set_option maxRecDepth 100000
set_option linter.unusedVariables false
set_option linter.unusedSimpArgs false
namespace Go.Proofs.Ytjcocahhpjgbhaa
open Go.RowKit

theorem u64_neg {n : Int} (h0 : -9223372036854775808 ≤ n) (hn : n < 0) : ∃ x : Int, IntKind.u64.wrap n = x ∧ IntKind.u64.wrap (-x) = (mag n : Int) := by
  refine ⟨_, rfl, ?_⟩
  rw [IntKind.wrap_u64, IntKind.wrap_u64]
  unfold mag
  omega
theorem u64_pos {n : Int} (h0 : n ≤ 9223372036854775807) (hn : 0 ≤ n) : IntKind.u64.wrap n = (mag n : Int) := by
  rw [IntKind.wrap_u64]
  unfold mag
  omega

set_option maxHeartbeats 400000 in
theorem size_any (n : Int) (w : World) (h0 : -9223372036854775808 ≤ n) (h1 : n ≤ 9223372036854775807) :
    Calls Try.prog 58 #[.int .i64 n] w fun e w' => e = .returned (.tuple #[.int .u64 (mag n), .int .u8 (if n < 0 then 16 else 0)]) ∧ w = w' := by
  by_cases hn : n < 0
  · obtain ⟨x, c1, c2⟩ := u64_neg h0 hn
    rw [if_pos hn]
    clear h0 h1
    go_enter Try.func58, Try.ntmps58
    go_wp2
    go_ret2
    exact ⟨rfl, rfl⟩
  · have c1 := u64_pos h1 (by omega)
    rw [if_neg hn]
    have hn' : 0 ≤ n := by omega
    clear h0 h1 hn
    go_enter Try.func58, Try.ntmps58
    go_wp2
    go_ret2
    exact ⟨rfl, rfl⟩

set_option maxHeartbeats 400000 in
theorem rsize_any (n : Int) (w : World) (h0 : -9223372036854775808 ≤ n) (h1 : n ≤ 9223372036854775807) :
    Calls Try.prog 41 #[.int .i64 n] w fun e w' => e = .returned (.int .u64 (mag n)) ∧ w = w' := by
  by_cases hn : n < 0
  · obtain ⟨x, c1, c2⟩ := u64_neg h0 hn
    clear h0 h1
    go_enter Try.func41, Try.ntmps41
    go_wp2
    go_ret
    exact ⟨rfl, rfl⟩
  · have c1 := u64_pos h1 (by omega)
    have hn' : 0 ≤ n := by omega
    clear h0 h1 hn
    go_enter Try.func41, Try.ntmps41
    go_wp2
    go_ret
    exact ⟨rfl, rfl⟩
end Go.Proofs.Ytjcocahhpjgbhaa

/- Walks of the statements' own helpers on lists: SameBytes, CopyBytes, SpoilBytes. -/
set_option maxRecDepth 100000
set_option linter.unusedVariables false
set_option linter.unusedSimpArgs false
namespace Go.Proofs.Ytjcocahhpjgbhaa
open Go.RowKit Go.BigFrame

theorem infoBytes : (Try.prog.info? 5).map (fun i => (i.zero, i.size, i.bytes)) = some (some (.int .u8 0), 1, 1) := by kernel_rfl
/-- A row that the call owns. -/
abbrev OwnBytes (w : World) (B : Nat) (v : Value) (xs : List Int) : Prop := OwnK .u8 5 w B v xs

set_option maxHeartbeats 1000000 in
theorem sameBytes_any (xs ys : List Int) (v u : Value) (B : Nat) (w : World) (hx : Sl .u8 w B v xs) (hy : Sl .u8 w B u ys) (hl : xs.length ≤ 1099511627776) :
    Calls Try.prog 12 #[v, u] w fun e w' => e = .returned (.bool (decide (xs = ys))) ∧ ∃ n, w' = w.drewN n := by
  obtain ⟨A, c, rfl⟩ := hx.shape
  obtain ⟨A', c', rfl⟩ := hy.shape
  have HX := Lib.hid hx
  have HY := Lib.hid hy
  clear hx hy
  rcases Nat.lt_trichotomy xs.length ys.length with hlen | hlen | hlen
  rotate_left 1
  · have HL := Lib.hid hlen
    have HD : Hid (∀ k : Nat, xs[k]?.getD 0 ≠ ys[k]?.getD 0 → decide (xs = ys) = false) := fun k h => decide_eq_false (same_not h)
    have HE : Hid (xs.take xs.length = ys.take ys.length → decide (xs = ys) = true) := fun h => decide_eq_true (by simpa using h)
    rw [← HL.out]
    rw [← HL.out] at HY
    rw [← HL.out] at HE
    clear hlen
    go_enter Try.func12, Try.ntmps12
    go_wp2
    go_loopw [5] (fun i wr => ∃ k : Nat, k ≤ xs.length ∧ i = .int .i64 k ∧ Hid (xs.take k = ys.take k) ∧ ∃ n, wr = w.drewN n) (fun i _ => xs.length - (intOf i).toNat)
    case atStart => exact ⟨0, Nat.zero_le _, rfl, Lib.hid rfl, 0, rfl⟩
    case round =>
      obtain ⟨k, hk, rfl, HT, n, rfl⟩ := hrel
      by_cases hlt : k < xs.length
      · obtain ⟨b, off, rfl, hbB, hcap, hcx⟩ := HX.out.elem hlt
        obtain ⟨b', off', rfl, hbB', hcap', hcy⟩ := HY.out.elem (i := k) (by rw [← HL.out]; exact hlt)
        obtain ⟨x, hxv⟩ : ∃ x, x = xs[k]?.getD 0 := ⟨_, rfl⟩
        obtain ⟨y, hyv⟩ : ∃ y, y = ys[k]?.getD 0 := ⟨_, rfl⟩
        rw [← hxv] at hcx
        rw [← hyv] at hcy
        have HXV := Lib.hid hxv
        have HYV := Lib.hid hyv
        clear hxv hyv
        have hi0 : (0 : Int) ≤ (k : Int) := by omega
        have hi1 : (k : Int) < (xs.length : Int) := by omega
        rcases Int.lt_trichotomy x y with h1 | h1 | h1
        rotate_left 1
        · subst h1
          go_wp2
          go_quiet (fail)
          go_wp2
          go_roundw
          case rel => exact ⟨k + 1, by omega, by go_num, Lib.hid (same_step HL.out hlt (by rw [← HXV.out, ← HYV.out]) HT.out), _, rfl⟩
          case measure => simp [intOf]; omega
        all_goals
          go_wp2
          go_quiet (fail)
          go_wp2
          go_ret
          exact ⟨congrArg (fun z => Ending.returned (.bool z)) (HD.out k (by rw [← HXV.out, ← HYV.out]; omega)).symm, _, World.drewN_drewN _ _ _⟩
      · have hk' : k = xs.length := by omega
        subst hk'
        go_wp2
        go_ret
        exact ⟨congrArg (fun z => Ending.returned (.bool z)) (HE.out HT.out).symm, n, rfl⟩
  all_goals
    have HD : Hid (decide (xs = ys) = false) := decide_eq_false (fun e => by rw [e] at hlen; omega)
    go_enter Try.func12, Try.ntmps12
    go_wp2
    go_ret
    exact ⟨congrArg (fun z => Ending.returned (.bool z)) HD.out.symm, 0, rfl⟩
theorem sameBytes_is {xs ys : List Int} {v u : Value} {w : World} {b : Bool} (hx : Sl .u8 w w.heap.size v xs) (hy : Sl .u8 w w.heap.size u ys) (hb : decide (xs = ys) = b) (hl : xs.length ≤ 1099511627776) :
    Calls Try.prog 12 #[v, u] w fun e w' => e = .returned (.bool b) ∧ Below w.heap.size w w' :=
  hb ▸ (sameBytes_any xs ys v u _ w hx hy hl).mono fun e w' ⟨h, n, hw⟩ => ⟨h, hw ▸ Bel.drewN (Below.refl _ _) n⟩

end Go.Proofs.Ytjcocahhpjgbhaa

/- Walk of pack.Int. -/
set_option maxRecDepth 100000
set_option linter.unusedVariables false
set_option linter.unusedSimpArgs false
namespace Go.Proofs.Ytjcocahhpjgbhaa
open Go.RowKit Go.BigFrame

theorem or_head : ∀ k : Fin 9, bits .or .u8 16 ((k : Nat) : Int) = 16 + ((k : Nat) : Int) ∧ bits .or .u8 0 ((k : Nat) : Int) = ((k : Nat) : Int) := by decide
theorem or_hd {n : Int} {K : Nat} (hK : K ≤ 8) : bits .or .u8 (if n < 0 then 16 else 0) (K : Int) = (K : Int) + (if n < 0 then 16 else 0) := by
  obtain ⟨h1, h2⟩ := or_head ⟨K, by omega⟩
  split
  · rw [show ((K : Nat) : Int) = (((⟨K, by omega⟩ : Fin 9) : Nat) : Int) from rfl, h1]; simp; omega
  · rw [show ((K : Nat) : Int) = (((⟨K, by omega⟩ : Fin 9) : Nat) : Int) from rfl, h2]; simp

theorem run_make_bytes (n c : Nat) (hnc : n ≤ c) (hc : c ≤ 2199023255552) (w : World) :
    (Instr.makeSlice 26 (.int .i64 (n : Int)) (.int .i64 (c : Int))).run Try.prog w = .ok (.slice (some ⟨w.heap.size, 0, none⟩) n c) (w.alloc (.cells (madeCells #[.int .u8 0] c) 5)) := by
  obtain ⟨i0, hi, hz0, hz1, hz2⟩ := info_parts infoBytes
  have hr := run_make (P := Try.prog) w 26 5 i0 (.int .u8 0) Try.underlying26 hi hz0 .i64 .i64 n c (by omega) (by omega) (by rw [hz2]; omega) (by omega)
  simp only [Int.toNat_natCast, hz1, Nat.mul_one] at hr
  exact hr

theorem beD_succ (u k : Nat) : beD u (k + 1) = ((u / 256 ^ k % 256 : Nat) : Int) :: beD u k := rfl

theorem beD_get {u K m k : Nat} (h : K = m + 1 + k) : (beD u K)[k]? = some ((u / 256 ^ m % 256 : Nat) : Int) := by
  subst h
  induction k with
  | zero => rfl
  | succ k ih => rw [show m + 1 + (k + 1) = (m + 1 + k) + 1 from by omega, beD_succ]; exact ih
theorem beD_take {u K m k : Nat} (h : K = m + 1 + k) : (beD u K).take (k + 1) = (beD u K).take k ++ [((u / 256 ^ m % 256 : Nat) : Int)] := by
  rw [List.take_add_one, beD_get h]; rfl
theorem shr_byte (u m : Nat) : (u : Int) / 2 ^ (8 * m) % 256 = ((u / 256 ^ m % 256 : Nat) : Int) := by
  rw [pow256, Int.natCast_emod, Int.natCast_ediv, Int.natCast_pow]; rfl

set_option maxHeartbeats 2000000 in
theorem pint_any (xs : List Int) (n : Int) (v : Value) (B : Nat) (w : World) (hx : Sl .u8 w B v xs) (hB : B ≤ w.heap.size) (hl : xs.length ≤ 1099511627776) (h0 : -9223372036854775808 ≤ n) (h1 : n ≤ 9223372036854775807) :
    Calls Try.prog 48 #[v, .int .i64 n] w fun e w' => ∃ r, e = .returned r ∧ OwnBytes w' w.heap.size r (xs ++ encI n) ∧ Below w.heap.size w w' := by
  obtain ⟨A, c, rfl⟩ := hx.shape
  obtain ⟨i0, hi, hz0, hz1, hz2⟩ := info_parts infoBytes
  have hu := mag_lt h0 h1
  have henc : encI n = ((nb (mag n) : Int) + (if n < 0 then 16 else 0)) :: beD (mag n) (nb (mag n)) := rfl
  have HSZ := Lib.hid (size_any n w h0 h1)
  have hL64 : Lib.bitLen (mag n) ≤ 64 := by
    have := nb_le (u := mag n) (by omega)
    unfold nb at this; omega
  have hKL : (Lib.bitLen (mag n) + 7) / 8 = nb (mag n) := rfl
  obtain ⟨hd, hhd⟩ : ∃ hd : Int, hd = if n < 0 then 16 else 0 := ⟨_, rfl⟩
  have hd0 : hd = 16 ∨ hd = 0 := by subst hhd; split <;> simp
  have hK8 := nb_le (u := mag n) (by omega)
  have hor := or_hd (n := n) hK8
  rw [← hhd] at hor henc
  have HS2 : Hid (Calls Try.prog 58 #[.int .i64 n] w fun e w' => e = .returned (.tuple #[.int .u64 (mag n), .int .u8 hd]) ∧ w = w') := by rw [hhd]; exact HSZ.out
  have HENC := Lib.hid henc
  clear henc HSZ hhd
  obtain ⟨u, hue⟩ : ∃ u, u = mag n := ⟨_, rfl⟩
  rw [← hue] at hu HENC HS2 hL64 hKL hK8 hor
  obtain ⟨L, hLe⟩ : ∃ L, L = Lib.bitLen u := ⟨_, rfl⟩
  have HLE := Lib.hid hLe
  rw [← hLe] at hL64 hKL
  obtain ⟨K, hKe⟩ : ∃ K, K = nb u := ⟨_, rfl⟩
  rw [← hKe] at HENC hKL hK8 hor
  clear hLe hue hKe
  have hq : ((L : Int) + 7) / 8 = (K : Int) := by omega
  have hKL' := Lib.hid hKL
  clear hKL
  have HX := Lib.hid hx
  have HOR := hor
  obtain ⟨Z, hZ⟩ : ∃ Z : List Value, Z = (madeCells #[.int .u8 0] (xs.length + 1 + K)).toList := ⟨_, rfl⟩
  have hZl : Z.length = xs.length + 1 + K := by rw [hZ]; simp [size_madeCells]
  have hmk : ∀ W, (Instr.makeSlice 26 (.int .i64 (xs.length : Int)) (.int .i64 ((xs.length : Int) + 1 + (K : Int)))).run Try.prog W = .ok (.slice (some ⟨W.heap.size, 0, none⟩) xs.length (xs.length + 1 + K)) (W.alloc (.cells Z.toArray 5)) := fun W => by
    rw [show ((xs.length : Int) + 1 + (K : Int)) = ((xs.length + 1 + K : Nat) : Int) from by omega, hZ, Array.toArray_toList]
    exact run_make_bytes xs.length (xs.length + 1 + K) (by omega) (by omega) W
  obtain ⟨X1, hX1⟩ : ∃ X1, X1 = xs.map (Value.int .u8) := ⟨_, rfl⟩
  have HX1 := Lib.hid hX1
  have HZL := Lib.hid hZl
  have HCL : Hid (X1.length = Nat.min xs.length xs.length) := by
    show X1.length = Nat.min xs.length xs.length
    rw [hX1, List.length_map]; exact (Nat.min_self _).symm
  have HCV : Hid (∀ v ∈ X1, v.oneCell' = true) := by
    show ∀ v ∈ X1, v.oneCell' = true
    rw [hX1]; intro v hv; simp at hv; obtain ⟨x, _, rfl⟩ := hv; rfl
  have HCF : Hid (0 + X1.length ≤ Z.length) := by
    show 0 + X1.length ≤ Z.length
    rw [hX1, hZl, List.length_map]; omega
  have HSRC : Hid (0 < X1.length → ∃ ad, A = some ad ∧ ∀ W, Below w.heap.size w W → ∀ j v, X1[j]? = some v → W.cell? (ad.add j) = some v) := by
    intro hp
    rw [hX1, List.length_map] at hp
    obtain ⟨b, off, rfl, _, _, _⟩ := hx.elem hp
    refine ⟨_, rfl, fun W hW j v hv => ?_⟩
    rw [hX1] at hv
    exact (hx.below (hW.mono hB)).cells j v hv
  have HROW : Hid (∀ W : World, W.heap[w.heap.size]? = some (.cells (splice Z 0 X1).toArray 5 (0, 0)) → OwnBytes W w.heap.size (.slice (some ⟨w.heap.size, 0, none⟩) xs.length (xs.length + 1 + K)) xs) := by
    intro W hW
    refine ⟨by simp, .inr ⟨w.heap.size, _, _, rfl, Nat.le_refl _, hW, by omega, by unfold maxLen; omega, ?_, ?_⟩⟩
    · have := length_splice Z 0 X1 (by rw [hX1, hZl, List.length_map]; omega)
      simp [this, hZl]
    · simp [splice, hX1]
  clear hX1 hZ hZl hx hor
  go_enter Try.func48, Try.ntmps48
  go_wp2_with fail
  refine HS2.out.mono ?_
  rintro e w1 ⟨rfl, rfl⟩
  go_wp2_with fail
  refine (len64_any (u : Int) _ (by omega) (by omega)).mono ?_
  rw [Int.toNat_natCast, ← HLE.out]
  rintro e w1 ⟨rfl, rfl⟩
  go_wp2_with (first
    | (with_reducible refine wpList_copy_splice (o := ⟨some 29, _, _, _, _, _⟩) rfl (.tmp 27) (.tmp 28) 26 26 rfl 5 Try.underlying26 (by kernel_rfl) _ _ _ _ _ _ rfl rfl w1.heap.size 0 Z 5 (heap_alloc_new w1 _) X1 HCL.out (fun hp => ⟨rfl, (HSRC.out hp).imp fun ad h => ⟨h.1, h.2 _ ((Below.refl _ _).alloc (Nat.le_refl _) _)⟩⟩) HCF.out HCV.out w1.heap.size w1 ((Below.refl _ _).alloc (Nat.le_refl _) _) (Nat.le_refl _) ?_; intro w2 HG2 hB2; have hown := HROW.out w2 HG2.out; have hw2 := hB2.size; clear HG2 HROW HSRC HCF HCV HCL HX hmk)
    | (at_builtin; refine wpList_append_own _ rfl _ _ 26 rfl w1.heap.size 5 i0 (.int .u8 0) 1 1 Try.underlying26 hi hz0 hz1 hz2 rfl (by decide) _ _ _ rfl (hown.row.alloc _) ⟨w2.heap.size, 0, none⟩ 1 1 [.int .u8 (K + hd)] rfl rfl (cell_one_new _ _ _) (by intro u hu; simp at hu; subst hu; rfl) (by unfold maxLen; omega) (by omega) (by simp; omega) ?_; intro v' w3 hown' hgrow _))
  have hb3 : Below w1.heap.size w1 w3 := (hB2.alloc hB2.size _).grown hgrow (by simp; omega) (own_base hown.row)
  have hK1 : IntKind.i64.wrap ((K : Int) - 1) = (K : Int) - 1 := IntWalk.i64_in _ (by omega)
  have ho1 : w3.ownsRow w1.heap.size 5 1 v' (xs.length + 1 + (K - K)) ((xs ++ ((K : Int) + hd) :: (beD u K).take (K - K)).map (Value.int .u8)) := by simpa using hown'
  clear hown hown' hgrow hB2 hw2
  go_loopw [8, 9] (fun t i wr => ∃ j : Nat, j ≤ K ∧ i = .int .i64 ((j : Int) - 1) ∧ wr.ownsRow w1.heap.size 5 1 t (xs.length + 1 + (K - j)) ((xs ++ ((K : Int) + hd) :: (beD u K).take (K - j)).map (Value.int .u8)) ∧ Below w1.heap.size w1 wr) (fun _ i _ => (intOf i + 1).toNat)
  case atStart => exact ⟨K, Nat.le_refl _, rfl, ho1, hb3⟩
  case round =>
    obtain ⟨j, hj, rfl, hown, hb⟩ := hrel
    clear ho1 hb3 hK1
    cases j with
    | zero =>
      go_wp2
      go_ret
      refine ⟨_, rfl, OwnK.of hown ?_ ?_, hb⟩
      · rw [HENC.out]; simp [beD_length]; omega
      · rw [HENC.out]; simp [beD_length]; rw [List.take_of_length_le (by simp [beD_length])]
    | succ m =>
      rw [show (((m + 1 : Nat) : Int) - 1) = (m : Int) from by omega]
      have hby := shr_byte u m
      have htk := beD_take (u := u) (K := K) (m := m) (k := K - (m + 1)) (by omega)
      have hKm : K - (m + 1) + 1 = K - m := by omega
      rw [hKm] at htk
      have HTK := Lib.hid htk
      clear htk
      obtain ⟨x, hx⟩ : ∃ x : Int, x = ((u / 256 ^ m % 256 : Nat) : Int) := ⟨_, rfl⟩
      rw [← hx] at hby HTK
      clear hx
      go_wp2_with (at_builtin; refine wpList_append_own _ rfl _ _ 26 rfl w1.heap.size 5 i0 (.int .u8 0) 1 1 Try.underlying26 hi hz0 hz1 hz2 rfl (by decide) _ _ _ rfl (hown.alloc _) ⟨wr.heap.size, 0, none⟩ 1 1 [.int .u8 x] rfl rfl (cell_one_new _ _ _) (by intro u hu; simp at hu; subst hu; rfl) (by unfold maxLen; omega) (by omega) (by have := hb.size; simp; omega) ?_; intro v' w3 hown' hgrow _)
      go_roundw
      case rel =>
        refine ⟨m, by omega, rfl, ?_, (hb.alloc hb.size _).grown hgrow (by have := hb.size; simp; omega) (own_base hown)⟩
        rw [HTK.out, show xs.length + 1 + (K - m) = xs.length + 1 + (K - (m + 1)) + 1 from by omega]
        simpa using hown'
      case measure => simp [intOf]
end Go.Proofs.Ytjcocahhpjgbhaa

/- Laws for the walk: append to a row of the call's own, of whatever slice of integers. -/
set_option maxRecDepth 100000
set_option linter.unusedVariables false
set_option linter.unusedSimpArgs false
namespace Go.Proofs.Ytjcocahhpjgbhaa
open Go.RowKit

theorem run_append_nothing {P : Program} {w : World} (base : Nat) (t ty e : TypeId) (i : TypeInfo) (size c : Nat) (ht : P.underlying t = some (.slice e)) (hi : P.info? e = some i)
    (v : Value) (n : Nat) (xs : List Value) (hown : w.ownsRow base e size v n xs) :
    (Builtin.append_ #[t, t] ty #[v, .slice none 0 c]).run P w = .ok v w := by
  rcases hown.2 with ⟨rfl, rfl⟩ | ⟨g, cap, cur, rfl, _, _, hnc, _⟩
  · simp [Builtin.append_, run_underlying ht, sizeOf, typeInfo, hi, Builtin.lenOf, Builtin.firstCells]
  · simp [Builtin.append_, run_underlying ht, sizeOf, typeInfo, hi, Builtin.lenOf, Builtin.firstCells, hnc, storeCells]

/-- append(v, u...): v the call's own, u whatever slice of integers. -/
theorem wpList_append_sl {P : Program} {w : World} {ops : Array Oper} {rest : List Oper} {o : Oper} {a : Act} {Q : Exit → Act → World → Prop} (hgd : o.guard = none) (s x : Operand) (t : TypeId)
    (ho : o.op = .call { callee := .builtin .append, args := #[s, x], argTypes := #[t, t] })
    {k : IntKind} {e : TypeId} {bytes : Nat} (hu : P.underlying t = some (.slice e)) (hinfo : (P.info? e).map (fun i => (i.zero, i.size, i.bytes)) = some (some (.int k 0), 1, bytes)) (hby : bytes ≤ 8)
    {B : Nat} {v u : Value} {xs ys : List Int} (hs : a.eval s = v) (hx : a.eval x = u) (hown : OwnK k e w B v xs) (hsrc : Sl k w w.heap.size u ys) (hl : xs.length + ys.length ≤ 4398046511104) (hB : B ≤ w.heap.size)
    (h : ∀ v' w', OwnK k e w' B v' (xs ++ ys) → Below B w w' → wpList P ops Q rest (a.put o.dst v') w') : wpList P ops Q (o :: rest) a w := by
  obtain ⟨i0, hi, hz0, hz1, hz2⟩ := info_parts hinfo
  obtain ⟨A, c, rfl⟩ := hsrc.shape
  cases A with
  | none =>
    have hy : ys = [] := by
      rcases hsrc with ⟨A', c', hv, rfl⟩ | ⟨b, off, c', hv, _⟩
      · rfl
      · cases hv
    subst hy
    refine wpList_plain hgd fun K hK => ?_
    have hrun := run_append_nothing (P := P) (w := w) B t o.type e i0 1 c hu hi v _ _ hown.row
    unfold Oper.wp
    simp [execOp, ho, resolve, invoke, builtin, hs, hx, hrun, Result.andThen]
    exact hK _ _ (h v w (by simpa using hown) (Below.refl _ _))
  | some ad =>
    refine wpList_append_own _ hgd s x t ho B e i0 (.int k 0) 1 bytes hu hi hz0 hz1 hz2 rfl (by decide) v xs.length _ hs hown.row ad ys.length c (ys.map (Value.int k)) hx (by simp) hsrc.cells ?_ ?_ ?_ hB ?_
    · intro u hu; simp at hu; obtain ⟨x, _, rfl⟩ := hu; rfl
    · unfold maxLen; omega
    · exact Nat.le_trans (Nat.mul_le_mul (Nat.le_refl _) hby) (by omega)
    · intro v' w' ho' hg hn
      exact h v' w' (OwnK.of ho' (by simp) (by simp)) ((Below.refl _ _).grown hg hB (own_base hown.row))
theorem OwnK.nil_ {k : IntKind} {e : TypeId} (w : World) (B : Nat) : OwnK k e w B (.slice none 0 0) [] := World.ownsRow_nil _ _ _ _
/-- A literal of one element. -/
theorem Sl.one {k : IntKind} (w : World) (t : TypeId) (x : Int) (b : Nat) (hb : b = w.heap.size) : Sl k (w.alloc (.cells #[.int k x] t)) (w.alloc (.cells #[.int k x] t)).heap.size (.slice (some ⟨b, 0, none⟩) 1 1) [x] := Sl.built w _ t [x] 1 b rfl rfl hb
theorem OwnK.grow {k : IntKind} {e : TypeId} {w : World} {B : Nat} {v : Value} {xs : List Int} (h : OwnK k e w B v xs) (o : Obj) : OwnK k e (w.alloc o) B v xs := h.row.alloc o
theorem OwnK.down {k : IntKind} {e : TypeId} {w : World} {B B' : Nat} {v : Value} {xs : List Int} (h : OwnK k e w B v xs) (hb : B' ≤ B) : OwnK k e w B' v xs := by
  refine ⟨h.1, ?_⟩
  rcases h.2 with h2 | ⟨g, cap, cur, hv, hg, r⟩
  · exact .inl h2
  · exact .inr ⟨g, cap, cur, hv, by omega, r⟩
end Go.Proofs.Ytjcocahhpjgbhaa

/- Walks of pack.Blob, and of the reference's Int and Blob. -/
set_option maxRecDepth 100000
set_option linter.unusedVariables false
set_option linter.unusedSimpArgs false
namespace Go.Proofs.Ytjcocahhpjgbhaa
open Go.RowKit Go.BigFrame

/-- The digits, the lowest first. -/
def loD (u : Nat) : Nat → List Int
  | 0 => []
  | k + 1 => loD u k ++ [((u / 256 ^ k % 256 : Nat) : Int)]
theorem loD_length (u k : Nat) : (loD u k).length = k := by induction k with
  | zero => rfl
  | succ k ih => simp [loD, ih]
theorem loD_get {u K m : Nat} (h : m < K) : (loD u K)[m]?.getD 0 = ((u / 256 ^ m % 256 : Nat) : Int) := by
  induction K with
  | zero => omega
  | succ k ih =>
    by_cases hm : m = k
    · subst hm; simp [loD, List.getElem?_append_right, loD_length]
    · simp only [loD]
      rw [List.getElem?_append_left (by rw [loD_length]; omega)]
      exact ih (by omega)

theorem enc_take {n H : Int} {u K m : Nat} (h : encI n = H :: beD u K) (hm : m < K) : (encI n).take (1 + (K - m)) = (encI n).take (1 + (K - (m + 1))) ++ [((u / 256 ^ m % 256 : Nat) : Int)] := by
  rw [h, show 1 + (K - m) = (K - (m + 1)) + 1 + 1 from by omega, show 1 + (K - (m + 1)) = (K - (m + 1)) + 1 from by omega, List.take_succ_cons, List.take_succ_cons, beD_take (m := m) (by omega)]
  rfl

set_option maxHeartbeats 2000000 in
theorem rint_any (xs : List Int) (n : Int) (v : Value) (B : Nat) (w : World) (hx : Sl .u8 w B v xs) (hB : B ≤ w.heap.size) (hl : xs.length ≤ 1099511627776) (h0 : -9223372036854775808 ≤ n) (h1 : n ≤ 9223372036854775807) :
    Calls Try.prog 24 #[v, .int .i64 n] w fun e w' => ∃ r, e = .returned r ∧ OwnBytes w' w.heap.size r (xs ++ encI n) ∧ Below w.heap.size w w' := by
  obtain ⟨A, c, rfl⟩ := hx.shape
  have hu := mag_lt h0 h1
  obtain ⟨hd, hhd⟩ : ∃ hd : Int, hd = if n < 0 then 16 else 0 := ⟨_, rfl⟩
  have henc : encI n = ((nb (mag n) : Int) + (if n < 0 then 16 else 0)) :: beD (mag n) (nb (mag n)) := rfl
  rw [← hhd] at henc
  have HSZ := Lib.hid (rsize_any n w h0 h1)
  have hK8 := nb_le (u := mag n) (by omega)
  have hiff : ∀ k, k < nb (mag n) ↔ 256 ^ k ≤ mag n := fun k => nb_iff (by omega)
  obtain ⟨u, hue⟩ : ∃ u, u = mag n := ⟨_, rfl⟩
  rw [← hue] at hu henc hK8 HSZ hiff
  obtain ⟨K, hKe⟩ : ∃ K, K = nb u := ⟨_, rfl⟩
  rw [← hKe] at henc hK8 hiff
  have HENC := Lib.hid henc
  have HIFF := Lib.hid hiff
  have HX := Lib.hid hx
  have HHD := Lib.hid hhd
  clear hx hue hKe henc hiff hhd
  go_enter Try.func24, Try.ntmps24
  go_wp2_with fail
  refine HSZ.out.mono ?_
  rintro e w1 ⟨rfl, rfl⟩
  go_wp2_with fail
  clear HSZ
  have hst : (u : Int) = ((u / 256 ^ 0 : Nat) : Int) := by simp
  have HST := Lib.hid hst
  clear hst
  go_loopw [5, 6] (fun t i wr => ∃ k : Nat, k ≤ K ∧ i = .int .u64 ((u / 256 ^ k : Nat) : Int) ∧ OwnBytes wr w.heap.size t (loD u k) ∧ Below w.heap.size w wr) (fun _ i _ => (intOf i).toNat)
  case atStart => exact ⟨0, Nat.zero_le _, by rw [← HST.out], OwnK.nil_ _ _, Below.refl _ _⟩
  case round =>
    obtain ⟨k, hk, rfl, hown, hb⟩ := hrel
    have hs1 := hb.size
    obtain ⟨q, hq⟩ : ∃ q, q = u / 256 ^ k := ⟨_, rfl⟩
    have hqu : q ≤ u := by rw [hq]; exact Nat.div_le_self _ _
    have hq1 : q / 256 = u / 256 ^ (k + 1) := by rw [hq, Nat.div_div_eq_div_mul, Nat.pow_succ]
    have hlo : loD u (k + 1) = loD u k ++ [((q % 256 : Nat) : Int)] := by rw [hq]; rfl
    have hzero : 0 < q ↔ k < K := by
      rw [hq, HIFF.out k]
      exact Nat.div_pos_iff.trans ⟨fun h => h.2, fun h => ⟨Nat.pow_pos (by decide), h⟩⟩
    rw [← hq]
    have HQ1 := Lib.hid hq1
    have HLO := Lib.hid hlo
    clear hq hq1 hlo
    by_cases hlt : k < K
    · have hqp := hzero.2 hlt
      have hqI : (0 : Int) < (q : Int) := by omega
      clear hzero
      obtain ⟨x, hx⟩ : ∃ x : Int, x = ((q % 256 : Nat) : Int) := ⟨_, rfl⟩
      rw [← hx] at HLO
      have hx' : (q : Int) % 256 = x := by omega
      clear hx
      go_wp2_with (at_builtin; refine wpList_append_sl rfl _ _ 26 rfl Try.underlying26 infoBytes (by decide) rfl rfl (hown.grow _) (Sl.one _ _ x _ rfl) (by rw [loD_length]; simp; omega) (by simp; omega) ?_; intro v' w2 hown' hb')
      go_roundw
      case rel =>
        refine ⟨k + 1, by omega, ?_, ?_, (hb.alloc hs1 _).trans hb'⟩
        · rw [← HQ1.out]; rfl
        · rw [HLO.out]; exact hown'
      case measure => simp [intOf]; omega
    · have hq0 : q = 0 := by omega
      subst hq0
      have hkK : k = K := by omega
      subst hkK
      clear hzero HQ1 HLO hlt
      obtain ⟨A2, c2, h2⟩ := hown.sl.shape
      rw [loD_length] at h2
      subst h2
      have hlow := hown.sl
      have hxs := (HX.out.below (hb.mono hB)).more (Nat.le_trans hB hs1)
      have HL1 : Hid ((beD u k).take (k - k) = []) := by simp [Hid]
      have HLo := Lib.hid (loD_length u k)
      clear hown
      have hhd : (n < 0 ∧ hd = 16) ∨ (0 ≤ n ∧ hd = 0) := by
        have := HHD.out
        by_cases hn : n < 0
        · exact .inl ⟨hn, by rw [this, if_pos hn]⟩
        · exact .inr ⟨by omega, by rw [this, if_neg hn]⟩
      rcases hhd with ⟨hn, rfl⟩ | ⟨hn, rfl⟩
      all_goals
        go_wp2_with (first
          | (at_builtin; refine wpList_append_sl (o := ⟨some 30, _, _, _, _, _⟩) rfl _ _ 26 rfl Try.underlying26 infoBytes (by decide) rfl rfl (OwnK.nil_ wr wr.heap.size) hxs (by simp; omega) (Nat.le_refl _) ?_; intro v1 w1 hown1 hb1; rw [List.nil_append] at hown1; have hs2 := hb1.size)
          | (at_builtin; refine wpList_append_sl (o := ⟨some 35, _, _, _, _, _⟩) rfl _ _ 26 rfl Try.underlying26 infoBytes (by decide) rfl rfl (hown1.grow _) (Sl.one _ _ ((k : Int) + 16) _ rfl) (by rw [List.length_cons, List.length_nil]; omega) (by rw [World.size_alloc]; omega) ?_; intro v2 w2 hown2 hb2)
          | (at_builtin; refine wpList_append_sl (o := ⟨some 35, _, _, _, _, _⟩) rfl _ _ 26 rfl Try.underlying26 infoBytes (by decide) rfl rfl (hown1.grow _) (Sl.one _ _ ((k : Int)) _ rfl) (by rw [List.length_cons, List.length_nil]; omega) (by rw [World.size_alloc]; omega) ?_; intro v2 w2 hown2 hb2))
        have hb3 : Below wr.heap.size wr w2 := (hb1.alloc hs2 _).trans hb2
        have ho3 : OwnBytes w2 wr.heap.size v2 (xs ++ (encI n).take (1 + (k - k))) := by rw [HENC.out]; simpa using hown2
        have hlen := congrArg List.length HENC.out
        rw [List.length_cons, beD_length] at hlen
        have HLEN := Lib.hid hlen
        have HTK : Hid (∀ m, m < k → (encI n).take (1 + (k - m)) = (encI n).take (1 + (k - (m + 1))) ++ [((u / 256 ^ m % 256 : Nat) : Int)]) := fun m hm => enc_take HENC.out hm
        have HGET : Hid (∀ m, m < k → (loD u k)[m]?.getD 0 = ((u / 256 ^ m % 256 : Nat) : Int)) := fun m hm => loD_get hm
        clear hb1 hb2 hown1 hown2 HENC HL1 HST HHD HIFF hxs hs2 hlen
        obtain ⟨W, rfl⟩ : ∃ W, W = wr := ⟨_, rfl⟩
        go_loopw [8, 9] (fun t i wr => ∃ j : Nat, j ≤ k ∧ i = .int .i64 ((j : Int) - 1) ∧ OwnBytes wr W.heap.size t (xs ++ (encI n).take (1 + (k - j))) ∧ Below W.heap.size W wr) (fun _ i _ => (intOf i + 1).toNat)
        case atStart => exact ⟨k, Nat.le_refl _, rfl, ho3, hb3⟩
        case round =>
          obtain ⟨j, hj, rfl, hown, hb2⟩ := hrel
          have hs2 := hb2.size
          clear ho3 hb3
          cases j with
          | zero =>
            go_wp2
            go_ret
            refine ⟨_, rfl, ?_, hb.trans (hb2.mono hs1)⟩
            have := hown.down hs1
            rwa [List.take_of_length_le (by have := HLEN.out; omega)] at this
          | succ m =>
            rw [show (((m + 1 : Nat) : Int) - 1) = (m : Int) from by omega]
            have hlow2 := hlow.below hb2
            obtain ⟨b, off, rfl, hbB, hcap, hcx⟩ := hlow2.elem (i := m) (by have := HLo.out; omega)
            rw [HGET.out m (by omega)] at hcx
            have htk := HTK.out m (by omega)
            obtain ⟨x, hx⟩ : ∃ x : Int, x = ((u / 256 ^ m % 256 : Nat) : Int) := ⟨_, rfl⟩
            rw [← hx] at htk hcx
            have HTK1 := Lib.hid htk
            have hcap' := HLo.out
            have hlt : (m : Int) < (k : Int) := by omega
            clear hx htk HTK HGET
            go_wp2_with (at_builtin; refine wpList_append_sl rfl _ _ 26 rfl Try.underlying26 infoBytes (by decide) rfl rfl (hown.grow _) (Sl.one _ _ x _ rfl) (by rw [List.length_append, List.length_take, List.length_cons, List.length_nil]; have := HLEN.out; omega) (by rw [World.size_alloc]; omega) ?_; intro v' w3 hown' hb3)
            go_roundw
            case rel =>
              refine ⟨m, by omega, rfl, ?_, (hb2.alloc hs2 _).trans hb3⟩
              rw [HTK1.out, ← List.append_assoc]
              exact hown'
            case measure => simp [intOf]

end Go.Proofs.Ytjcocahhpjgbhaa

/- The reader: worlds, must, take. -/
set_option maxRecDepth 100000
set_option linter.unusedVariables false
set_option linter.unusedSimpArgs false
namespace Go.Proofs.Ytjcocahhpjgbhaa
open Go.RowKit Go.BigFrame

/-- Of the old blocks p alone may have turned. -/
structure But (p : Nat) (w w' : World) : Prop where
  os : w'.os = w.os
  tape : w'.tape = w.tape
  output : w'.output = w.output
  size : w.heap.size ≤ w'.heap.size
  block : ∀ k, k < w.heap.size → k ≠ p → w'.heap[k]? = w.heap[k]?
theorem But.refl (p : Nat) (w : World) : But p w w := ⟨rfl, rfl, rfl, Nat.le_refl _, fun _ _ _ => rfl⟩
theorem But.trans {p : Nat} {a b c : World} (h : But p a b) (k : But p b c) : But p a c :=
  ⟨k.os.trans h.os, k.tape.trans h.tape, k.output.trans h.output, Nat.le_trans h.size k.size, fun i hi hp => (k.block i (Nat.lt_of_lt_of_le hi h.size) hp).trans (h.block i hi hp)⟩
theorem But.of {p : Nat} {a b : World} (h : Below a.heap.size a b) : But p a b := ⟨h.os, h.tape, h.output, h.size, fun k hk _ => h.block k hk⟩
theorem But.below {p B : Nat} {a b : World} (h : But p a b) (hp : B ≤ p) (hB : B ≤ a.heap.size) : Below B a b := ⟨h.os, h.tape, h.output, h.size, fun k hk => h.block k (by omega) (by omega)⟩
theorem But.drewN {p : Nat} {a b : World} (h : But p a b) (n : Nat) : But p a (b.drewN n) := ⟨h.os, h.tape, h.output, h.size, h.block⟩
theorem But.store {p : Nat} {a b : World} (h : But p a b) (o : Nat) (v : Value) : But p a (b.setCell ⟨p, o, none⟩ v) :=
  h.trans ⟨rfl, rfl, rfl, by simp [World.setCell], fun k hk hp => Below.heap_setCell _ _ _ _ (by intro e; exact hp (by simpa using e))⟩
theorem But.alloc {p : Nat} {a b : World} (h : But p a b) (o : Obj) : But p a (b.alloc o) := h.trans (But.of ((Below.refl _ _).alloc (Nat.le_refl _) o))
/-- What the call owns above p is kept. -/
theorem OwnK.but {k : IntKind} {e : TypeId} {w w' : World} {B p : Nat} {v : Value} {xs : List Int} (h : OwnK k e w B v xs) (hp : p < B) (hb : But p w w') : OwnK k e w' B v xs := by
  refine ⟨h.1, ?_⟩
  rcases h.2 with h2 | ⟨g, cap, cur, hv, hg, hh, r⟩
  · exact .inl h2
  · have hlt : g < w.heap.size := by
      rcases Nat.lt_or_ge g w.heap.size with hlt | hge
      · exact hlt
      · rw [Array.getElem?_eq_none hge] at hh; cases hh
    exact .inr ⟨g, cap, cur, hv, hg, (hb.block g hlt (by omega)).trans hh, r⟩

/-- The reader at block p. -/
structure Rd (w : World) (p : Nat) (xs : List Int) (S : Value) (a : Int) (why : Int) : Prop where
  lt : p < w.heap.size
  sl : Sl .u8 w p S xs
  c0 : w.cell? ⟨p, 0, none⟩ = some S
  c1 : w.cell? ⟨p, 1, none⟩ = some (.int .i64 a)
  c2 : w.cell? ⟨p, 2, none⟩ = some (.int .i64 why)
  fz : ∀ i, w.frozen? ⟨p, i, none⟩ = false
theorem Rd.below {w w' : World} {p : Nat} {xs : List Int} {S : Value} {a why : Int} (h : Rd w p xs S a why) (hb : Below w.heap.size w w') : Rd w' p xs S a why :=
  ⟨Nat.lt_of_lt_of_le h.lt hb.size, h.sl.below (hb.mono (Nat.le_of_lt h.lt)), (hb.cell (p := ⟨p, 0, none⟩) h.lt).trans h.c0, (hb.cell (p := ⟨p, 1, none⟩) h.lt).trans h.c1, (hb.cell (p := ⟨p, 2, none⟩) h.lt).trans h.c2, fun i => (hb.frozen (p := ⟨p, i, none⟩) h.lt).trans (h.fz i)⟩
theorem Rd.drewN {w : World} {p : Nat} {xs : List Int} {S : Value} {a why : Int} (h : Rd w p xs S a why) (n : Nat) : Rd (w.drewN n) p xs S a why := h.below (Bel.drewN (Below.refl _ _) n)
theorem Rd.setAt {w : World} {p : Nat} {xs : List Int} {S : Value} {a why : Int} (h : Rd w p xs S a why) (a' : Int) : Rd (w.setCell ⟨p, 1, none⟩ (.int .i64 a')) p xs S a' why := by
  refine ⟨by simpa [World.setCell] using h.lt, h.sl.below ((But.refl p w).store 1 _ |>.below (Nat.le_refl _) (Nat.le_of_lt h.lt)), (World.cell?_setCell_other w ⟨p, 1, none⟩ ⟨p, 0, none⟩ _ (by simp)).trans h.c0, World.cell?_setCell_same w _ _ h.c1, (World.cell?_setCell_other w ⟨p, 1, none⟩ ⟨p, 2, none⟩ _ (by simp)).trans h.c2, fun i => ?_⟩
  · rw [World.frozen?_setCell]; exact h.fz i
theorem Rd.setWhy {w : World} {p : Nat} {xs : List Int} {S : Value} {a why : Int} (h : Rd w p xs S a why) (y : Int) : Rd (w.setCell ⟨p, 2, none⟩ (.int .i64 y)) p xs S a y := by
  refine ⟨by simpa [World.setCell] using h.lt, h.sl.below ((But.refl p w).store 2 _ |>.below (Nat.le_refl _) (Nat.le_of_lt h.lt)), (World.cell?_setCell_other w ⟨p, 2, none⟩ ⟨p, 0, none⟩ _ (by simp)).trans h.c0, (World.cell?_setCell_other w ⟨p, 2, none⟩ ⟨p, 1, none⟩ _ (by simp)).trans h.c1, World.cell?_setCell_same w _ _ h.c2, fun i => ?_⟩
  · rw [World.frozen?_setCell]; exact h.fz i

/-- A piece of a slice. -/
theorem Sl.piece {k : IntKind} {w : World} {B L c a n : Nat} {A : Option Addr} {xs : List Int} (h : Sl k w B (.slice A L c) xs) (hn : a + n ≤ xs.length) : Sl k w B (sliced A a (a + n) c 1) ((xs.drop a).take n) := by
  have hlen : ((xs.drop a).take n).length = n := by simp; omega
  rcases h with ⟨A', c', hv, rfl⟩ | ⟨b, off, c', hv, hlt, hc, hx⟩
  · obtain ⟨rfl, rfl⟩ : a = 0 ∧ n = 0 := by simp at hn; omega
    exact .inl ⟨_, _, rfl, rfl⟩
  · injection hv with h1 h2 h3
    subst h1 h3
    by_cases hca : c = a
    · have h0 : n = 0 := by omega
      subst h0
      have e : Go.sliced (some ⟨b, off, none⟩) a (a + 0) c 1 = .slice (if c = a then some ⟨b, off, none⟩ else (some (⟨b, off, none⟩ : Addr)).map (·.add (a * 1))) 0 (c - a) := by
        unfold Go.sliced
        rw [show a + 0 - a = 0 from by omega]
      exact .inl ⟨_, _, e, by simp⟩
    · refine .inr ⟨b, off + a, c - a, ?_, hlt, by omega, fun i hi => ?_⟩
      · unfold sliced
        rw [if_neg hca, hlen, show a + n - a = n from by omega]
        simp [Addr.add_lit]
      · rw [hlen] at hi
        have := hx (a + i) (by omega)
        rw [← Nat.add_assoc] at this
        rw [this, List.getElem?_take_of_lt hi, List.getElem?_drop]
theorem run_cut (A : Option Addr) (L c a n : Nat) (h : a + n ≤ c) (W : World) :
    (Instr.sliceAt 26 (.slice A L c) (some (.int .i64 (a : Int))) (some (.int .i64 ((a : Int) + (n : Int)))) none).run Try.prog W = .ok (sliced A a (a + n) c 1) W := by
  obtain ⟨i0, hi, hz0, hz1, hz2⟩ := info_parts infoBytes
  have hu : Try.prog.underlying 26 = some (.slice (Try.prog.elem 26)) := by kernel_rfl
  have he : Try.prog.elem 26 = 5 := by kernel_rfl
  rw [run_sliceAt_slice (h := hu), run_slice_lh (ht := hu) (h0 := by omega) (h1 := by omega) (h2 := by omega), he]
  rw [show ((a : Int) + (n : Int)).toNat = a + n from by omega, show ((a : Int)).toNat = a from by omega]
  simp [sizeOf, typeInfo, hi, hz1, Result.andThen]

/-- A halt's panic. -/
abbrev haltP (c : Int) : List PanicEntry := [{ v := .iface 102 (.int .i64 c), recovered := false }]
set_option maxHeartbeats 400000 in
theorem must_ok (c : Int) (w : World) : Calls Try.prog 62 #[.bool true, .int .i64 c] w fun e w' => e = .returned (.tuple #[]) ∧ w = w' := by
  have hnot : ∀ (x : Bool) (w : World), (Op.unary .not (.bool x)).run Try.prog w = .ok (.bool (!x)) w := fun _ _ => rfl
  go_enter Try.func62, Try.ntmps62
  go_wp2
  go_end0
  exact ⟨rfl, rfl⟩
set_option maxHeartbeats 400000 in
theorem must_no (c : Int) (w : World) : Calls Try.prog 62 #[.bool false, .int .i64 c] w fun e w' => e = .panicked (haltP c) ∧ w = w' := by
  have hnot : ∀ (x : Bool) (w : World), (Op.unary .not (.bool x)).run Try.prog w = .ok (.bool (!x)) w := fun _ _ => rfl
  go_enter Try.func62, Try.ntmps62
  go_wp2
  exact ⟨rfl, rfl, rfl⟩

/-- take: there is enough. -/
theorem take_ok (xs : List Int) (S : Value) (p a n : Nat) (why : Int) (w : World) (hR : Rd w p xs S a why) (hl : xs.length ≤ 1099511627776) (h : a + n ≤ xs.length) :
    Calls Try.prog 64 #[.pointer (some ⟨p, 0, none⟩), .int .i64 n] w fun e w' => ∃ r, e = .returned r ∧ But p w w' ∧ Rd w' p xs S ((a + n : Nat) : Int) why ∧ Sl .u8 w' p r ((xs.drop a).take n) := by
  obtain ⟨A, c, rfl⟩ := hR.sl.shape
  have hc0 := hR.c0
  have hc1 := hR.c1
  have hc2 := hR.c2
  have hfz := hR.fz
  have hnot : ∀ (x : Bool) (w : World), (Op.unary .not (.bool x)).run Try.prog w = .ok (.bool (!x)) w := fun _ _ => rfl
  have hplt := hR.lt
  have hle : (n : Int) ≤ (xs.length : Int) - (a : Int) := by omega
  go_enter Try.func64, Try.ntmps64
  go_wp2
  refine wp_region_later (by kernel_rfl) (by kernel_rfl) ?_
  repeat (any_goals (first | go_big_quiet_step (first | (go_at_call 62; have hC := must_ok 4 (Later.w ‹_›); with_reducible exact Later.callS hC))))
  refine wpQuiet_nil ?_
  intro x
  obtain ⟨w1, hb1⟩ := x
  have hR1 := hR.below hb1
  have hs1 := hb1.size
  have hB1 : But p w w1 := But.of hb1
  dsimp only
  clear hb1 hc0 hc1 hc2 hfz hR hplt
  have hplt := hR1.lt
  have hc1 := hR1.c1
  have hfz := hR1.fz
  have hcap : a + n ≤ c ∨ xs = [] := by
    rcases hR1.sl with ⟨A', c', hv, rfl⟩ | ⟨b, off, c', hv, hlt, hc, hx⟩
    · exact .inr rfl
    · injection hv with _ _ h3; subst h3; exact .inl (by omega)
  have hcap' : a + n ≤ c := by
    rcases hcap with h' | rfl
    · exact h'
    · simp at h; omega
  have hsl := fun W : World => run_cut A xs.length c a n hcap' W
  have hRS : Sl .u8 (w1.setCell ⟨p, 1, none⟩ (.int .i64 ((a : Int) + (n : Int)))) p (sliced A a (a + n) c 1) ((xs.drop a).take n) := (hR1.setAt _).sl.piece h
  generalize sliced A a (a + n) c 1 = r at hsl hRS
  have HRS := Lib.hid hRS
  clear hRS hcap hcap'
  go_wp2
  have hR2 := hR1.setAt ((a : Int) + (n : Int))
  have hB2 := hB1.store 1 (.int .i64 ((a : Int) + (n : Int)))
  generalize w1.setCell ⟨p, 1, none⟩ (.int .i64 ((a : Int) + (n : Int))) = w2 at *
  clear hR1 hB1 hc1 hfz hplt
  have hc0 := hR2.c0
  have hc1 := hR2.c1
  have hsub : IntKind.i64.wrap ((a : Int) + (n : Int) - (n : Int)) = (a : Int) := by
    rw [show (a : Int) + (n : Int) - (n : Int) = (a : Int) from by omega]; exact IntWalk.i64_in _ (by omega)
  have hsub' : (a : Int) + (n : Int) - (n : Int) = (a : Int) := by omega
  go_region
  go_wp2
  go_ret
  exact ⟨_, rfl, hB2.drewN 1, hR2.below (Below.drew (Below.refl _ _)), HRS.out⟩

set_option maxHeartbeats 1000000 in
/-- take: there is not. -/
theorem take_no (xs : List Int) (S : Value) (p a n : Nat) (why : Int) (w : World) (hR : Rd w p xs S a why) (hl : xs.length ≤ 1099511627776) (hn : n ≤ 1099511627776) (ha : a ≤ xs.length) (h : xs.length < a + n) :
    Calls Try.prog 64 #[.pointer (some ⟨p, 0, none⟩), .int .i64 n] w fun e w' => e = .panicked (haltP 4) ∧ But p w w' ∧ Rd w' p xs S a why := by
  obtain ⟨A, c, rfl⟩ := hR.sl.shape
  have hc0 := hR.c0
  have hc1 := hR.c1
  have hplt := hR.lt
  have hle : ¬ (n : Int) ≤ (xs.length : Int) - (a : Int) := by omega
  go_enter Try.func64, Try.ntmps64
  go_wp2
  have hdec : decide ((n : Int) ≤ IntKind.i64.wrap ((xs.length : Int) - (a : Int))) = false := by
    rw [IntWalk.i64_in _ (by omega)]; exact decide_eq_false (by omega)
  go_region_dies
  all_goals
    refine (must_no 4 _).mono ?_
    rintro e w' ⟨rfl, rfl⟩
    exact ⟨rfl, rfl, But.of (Below.drew (Below.refl _ _)), hR.below (Below.drew (Below.refl _ _))⟩
end Go.Proofs.Ytjcocahhpjgbhaa

/- Reading numbers and rows: plain facts. -/
set_option maxRecDepth 100000
set_option linter.unusedVariables false
set_option linter.unusedSimpArgs false
namespace Go.Proofs.Ytjcocahhpjgbhaa
open Go.RowKit

/-- How many digits a head tells. -/
def kOf (h : Int) : Nat := (if h % 32 < 16 then h else h - 16).toNat
/-- What digits are worth, the highest first. -/
def valD : List Int → Nat := List.foldl (fun u d => u * 256 + d.toNat) 0
/-- What is read as a number: a code, or the number and how many bytes it has. -/
def numR : List Int → Int ⊕ (Int × Nat)
  | [] => .inl 4
  | h :: t =>
    if 8 < kOf h ∨ h = 16 then .inl 5
    else if t.length < kOf h then .inl 4
    else if 0 < kOf h ∧ t[0]?.getD 0 = 0 then .inl 5
    else if h % 32 < 16 then (if valD (t.take (kOf h)) < 9223372036854775808 then .inr (valD (t.take (kOf h)), kOf h + 1) else .inl 5)
    else (if valD (t.take (kOf h)) ≤ 9223372036854775808 then .inr (-(valD (t.take (kOf h)) : Int), kOf h + 1) else .inl 5)

theorem valD_snoc (l : List Int) (d : Int) : valD (l ++ [d]) = valD l * 256 + d.toNat := by simp [valD, List.foldl_append]
theorem valD_aux (l : List Int) (hl : ∀ d ∈ l, 0 ≤ d ∧ d ≤ 255) : ∀ u, List.foldl (fun u d => u * 256 + Int.toNat d) u l < (u + 1) * 256 ^ l.length := by
  induction l with
  | nil => intro u; simp
  | cons d l ih =>
    intro u
    have h1 := hl d (by simp)
    have h2 := ih (fun x hx => hl x (by simp [hx])) (u * 256 + d.toNat)
    simp only [List.foldl_cons, List.length_cons, Nat.pow_succ]
    refine Nat.lt_of_lt_of_le h2 ?_
    rw [Nat.mul_comm (256 ^ l.length) 256, ← Nat.mul_assoc]
    exact Nat.mul_le_mul_right _ (by omega)
theorem valD_lt (l : List Int) (hl : ∀ d ∈ l, 0 ≤ d ∧ d ≤ 255) : valD l < 256 ^ l.length := by
  have := valD_aux l hl 0
  simpa [valD] using this
theorem head_bits : ∀ h : Fin 256, bits .andNot .u8 ((h : Nat) : Int) 16 = (kOf ((h : Nat) : Int) : Int) ∧ bits .and .u8 ((h : Nat) : Int) 16 = (if ((h : Nat) : Int) % 32 < 16 then 0 else 16) := by decide +kernel
theorem head_not {h : Int} (h0 : 0 ≤ h) (h1 : h ≤ 255) : bits .andNot .u8 h 16 = (kOf h : Int) := by
  have := (head_bits ⟨h.toNat, by omega⟩).1
  simpa [Int.toNat_of_nonneg h0] using this
theorem head_and {h : Int} (h0 : 0 ≤ h) (h1 : h ≤ 255) : bits .and .u8 h 16 = (if h % 32 < 16 then 0 else 16) := by
  have := (head_bits ⟨h.toNat, by omega⟩).2
  simpa [Int.toNat_of_nonneg h0] using this
theorem wraps_u64 (n : Int) (h₀ : 0 ≤ n) (h₁ : n < 2 ^ 64) : IntKind.u64.wrap n = n := by rw [IntKind.wrap_u64]; omega
theorem or_digit {x y : Int} (h0 : 0 ≤ x) (hx : x % 256 = 0) (h1 : x < 18446744073709551616) (h2 : 0 ≤ y) (h3 : y < 256) : bits .or .u64 x y = x + y :=
  bits_join .u64 64 (by decide) wraps_u64 8 x y h0 (by omega) (by omega) h2 (by omega) (by omega)
end Go.Proofs.Ytjcocahhpjgbhaa
