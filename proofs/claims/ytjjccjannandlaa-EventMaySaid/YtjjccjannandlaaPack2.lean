/- Walk of pack.Int. -/
import Derived.Test.YtjjccjannandlaaPack
import Derived.Test.YtjjccjannandlaaKitBytes
import Derived.Laws.MakeOwn
import Derived.Laws.CopyOwn
import Derived.Laws.Shifts
set_option linter.unusedVariables false
set_option linter.unusedSimpArgs false
namespace Go.Proofs.Ytjjccjannandlaa
open Go.RowKit Go.BigFrame

theorem or_head : ∀ k : Fin 9, bits .or .u8 16 ((k : Nat) : Int) = 16 + ((k : Nat) : Int) ∧ bits .or .u8 0 ((k : Nat) : Int) = ((k : Nat) : Int) := by decide
theorem or_hd {n : Int} {K : Nat} (hK : K ≤ 8) : bits .or .u8 (if n < 0 then 16 else 0) (K : Int) = (K : Int) + (if n < 0 then 16 else 0) := by
  obtain ⟨h1, h2⟩ := or_head ⟨K, by omega⟩
  split
  · rw [show ((K : Nat) : Int) = (((⟨K, by omega⟩ : Fin 9) : Nat) : Int) from rfl, h1]; simp; omega
  · rw [show ((K : Nat) : Int) = (((⟨K, by omega⟩ : Fin 9) : Nat) : Int) from rfl, h2]; simp

theorem run_make_bytes (n c : Nat) (hnc : n ≤ c) (hc : c ≤ 2199023255552) (w : World) :
    (Instr.makeSlice 22 (.int .i64 (n : Int)) (.int .i64 (c : Int))).run Try.prog w = .ok (.slice (some ⟨w.heap.size, 0, none⟩) n c) (w.alloc (.cells (madeCells #[.int .u8 0] c) 5)) := by
  obtain ⟨i0, hi, hz0, hz1, hz2⟩ := info_parts infoBytes
  have hr := run_make (P := Try.prog) w 22 5 i0 (.int .u8 0) Try.underlying22 hi hz0 .i64 .i64 n c (by omega) (by omega) (by rw [hz2]; omega) (by omega)
  simp only [Int.toNat_natCast, hz1, Nat.mul_one] at hr
  exact hr

theorem beD_succ (u k : Nat) : beD u (k + 1) = ((u / 256 ^ k % 256 : Nat) : Int) :: beD u k := rfl

theorem beD_get {u K m k : Nat} (h : K = m + 1 + k) : (beD u K)[k]? = some ((u / 256 ^ m % 256 : Nat) : Int) := by
  subst h
  induction k with
  | zero => rfl
  | succ k ih => rw [show m + 1 + (k + 1) = (m + 1 + k) + 1 from by omega, beD_succ]; exact ih
theorem beD_take {u K m k : Nat} (h : K = m + 1 + k) : (beD u K).take (k + 1) = (beD u K).take k ++ [((u / 256 ^ m % 256 : Nat) : Int)] := by
  rw [List.take_add_one, beD_get h]; rfl
theorem shr_byte (u m : Nat) : (u : Int) / 2 ^ (8 * m) % 256 = ((u / 256 ^ m % 256 : Nat) : Int) := by
  rw [pow256, Int.natCast_emod, Int.natCast_ediv, Int.natCast_pow]; rfl

set_option maxHeartbeats 2000000 in
theorem pint_any (xs : List Int) (n : Int) (v : Value) (B : Nat) (w : World) (hx : Sl .u8 w B v xs) (hB : B ≤ w.heap.size) (hl : xs.length ≤ 1099511627776) (h0 : -9223372036854775808 ≤ n) (h1 : n ≤ 9223372036854775807) :
    Calls Try.prog 43 #[v, .int .i64 n] w fun e w' => ∃ r, e = .returned r ∧ OwnBytes w' w.heap.size r (xs ++ encI n) ∧ Below w.heap.size w w' := by
  obtain ⟨A, c, rfl⟩ := hx.shape
  obtain ⟨i0, hi, hz0, hz1, hz2⟩ := info_parts infoBytes
  have hu := mag_lt h0 h1
  have henc : encI n = ((nb (mag n) : Int) + (if n < 0 then 16 else 0)) :: beD (mag n) (nb (mag n)) := rfl
  have HSZ := Lib.hid (size_any n w h0 h1)
  have hL64 : Lib.bitLen (mag n) ≤ 64 := by
    have := nb_le (u := mag n) (by omega)
    unfold nb at this; omega
  have hKL : (Lib.bitLen (mag n) + 7) / 8 = nb (mag n) := rfl
  obtain ⟨hd, hhd⟩ : ∃ hd : Int, hd = if n < 0 then 16 else 0 := ⟨_, rfl⟩
  have hd0 : hd = 16 ∨ hd = 0 := by subst hhd; split <;> simp
  have hK8 := nb_le (u := mag n) (by omega)
  have hor := or_hd (n := n) hK8
  rw [← hhd] at hor henc
  have HS2 : Hid (Calls Try.prog 56 #[.int .i64 n] w fun e w' => e = .returned (.tuple #[.int .u64 (mag n), .int .u8 hd]) ∧ w = w') := by rw [hhd]; exact HSZ.out
  have HENC := Lib.hid henc
  clear henc HSZ hhd
  obtain ⟨u, hue⟩ : ∃ u, u = mag n := ⟨_, rfl⟩
  rw [← hue] at hu HENC HS2 hL64 hKL hK8 hor
  obtain ⟨L, hLe⟩ : ∃ L, L = Lib.bitLen u := ⟨_, rfl⟩
  have HLE := Lib.hid hLe
  rw [← hLe] at hL64 hKL
  obtain ⟨K, hKe⟩ : ∃ K, K = nb u := ⟨_, rfl⟩
  rw [← hKe] at HENC hKL hK8 hor
  clear hLe hue hKe
  have hq : ((L : Int) + 7) / 8 = (K : Int) := by omega
  have hKL' := Lib.hid hKL
  clear hKL
  have HX := Lib.hid hx
  have HOR := hor
  obtain ⟨Z, hZ⟩ : ∃ Z : List Value, Z = (madeCells #[.int .u8 0] (xs.length + 1 + K)).toList := ⟨_, rfl⟩
  have hZl : Z.length = xs.length + 1 + K := by rw [hZ]; simp [size_madeCells]
  have hmk : ∀ W, (Instr.makeSlice 22 (.int .i64 (xs.length : Int)) (.int .i64 ((xs.length : Int) + 1 + (K : Int)))).run Try.prog W = .ok (.slice (some ⟨W.heap.size, 0, none⟩) xs.length (xs.length + 1 + K)) (W.alloc (.cells Z.toArray 5)) := fun W => by
    rw [show ((xs.length : Int) + 1 + (K : Int)) = ((xs.length + 1 + K : Nat) : Int) from by omega, hZ, Array.toArray_toList]
    exact run_make_bytes xs.length (xs.length + 1 + K) (by omega) (by omega) W
  obtain ⟨X1, hX1⟩ : ∃ X1, X1 = xs.map (Value.int .u8) := ⟨_, rfl⟩
  have HX1 := Lib.hid hX1
  have HZL := Lib.hid hZl
  have HCL : Hid (X1.length = Nat.min xs.length xs.length) := by
    show X1.length = Nat.min xs.length xs.length
    rw [hX1, List.length_map]; exact (Nat.min_self _).symm
  have HCV : Hid (∀ v ∈ X1, v.oneCell' = true) := by
    show ∀ v ∈ X1, v.oneCell' = true
    rw [hX1]; intro v hv; simp at hv; obtain ⟨x, _, rfl⟩ := hv; rfl
  have HCF : Hid (0 + X1.length ≤ Z.length) := by
    show 0 + X1.length ≤ Z.length
    rw [hX1, hZl, List.length_map]; omega
  have HSRC : Hid (0 < X1.length → ∃ ad, A = some ad ∧ ∀ W, Below w.heap.size w W → ∀ j v, X1[j]? = some v → W.cell? (ad.add j) = some v) := by
    intro hp
    rw [hX1, List.length_map] at hp
    obtain ⟨b, off, rfl, _, _, _⟩ := hx.elem hp
    refine ⟨_, rfl, fun W hW j v hv => ?_⟩
    rw [hX1] at hv
    exact (hx.below (hW.mono hB)).cells j v hv
  have HROW : Hid (∀ W : World, W.heap[w.heap.size]? = some (.cells (splice Z 0 X1).toArray 5 (0, 0)) → OwnBytes W w.heap.size (.slice (some ⟨w.heap.size, 0, none⟩) xs.length (xs.length + 1 + K)) xs) := by
    intro W hW
    refine ⟨by simp, .inr ⟨w.heap.size, _, _, rfl, Nat.le_refl _, hW, by omega, by unfold maxLen; omega, ?_, ?_⟩⟩
    · have := length_splice Z 0 X1 (by rw [hX1, hZl, List.length_map]; omega)
      simp [this, hZl]
    · simp [splice, hX1]
  clear hX1 hZ hZl hx hor
  go_enter Try.func43, Try.ntmps43
  go_wp2_with fail
  refine HS2.out.mono ?_
  rintro e w1 ⟨rfl, rfl⟩
  go_wp2_with fail
  refine (len64_any (u : Int) _ (by omega) (by omega)).mono ?_
  rw [Int.toNat_natCast, ← HLE.out]
  rintro e w1 ⟨rfl, rfl⟩
  go_wp2_with (first
    | (with_reducible refine wpList_copy_splice (o := ⟨some 29, _, _, _, _, _⟩) rfl (.tmp 27) (.tmp 28) 22 22 rfl 5 Try.underlying22 (by kernel_rfl) _ _ _ _ _ _ rfl rfl w1.heap.size 0 Z 5 (heap_alloc_new w1 _) X1 HCL.out (fun hp => ⟨rfl, (HSRC.out hp).imp fun ad h => ⟨h.1, h.2 _ ((Below.refl _ _).alloc (Nat.le_refl _) _)⟩⟩) HCF.out HCV.out w1.heap.size w1 ((Below.refl _ _).alloc (Nat.le_refl _) _) (Nat.le_refl _) ?_; intro w2 HG2 hB2; have hown := HROW.out w2 HG2.out; have hw2 := hB2.size; clear HG2 HROW HSRC HCF HCV HCL HX hmk)
    | (at_builtin; refine wpList_append_own _ rfl _ _ 22 rfl w1.heap.size 5 i0 (.int .u8 0) 1 1 Try.underlying22 hi hz0 hz1 hz2 rfl (by decide) _ _ _ rfl (hown.row.alloc _) ⟨w2.heap.size, 0, none⟩ 1 1 [.int .u8 (K + hd)] rfl rfl (cell_one_new _ _ _) (by intro u hu; simp at hu; subst hu; rfl) (by unfold maxLen; omega) (by omega) (by simp; omega) ?_; intro v' w3 hown' hgrow _))
  have hb3 : Below w1.heap.size w1 w3 := (hB2.alloc hB2.size _).grown hgrow (by simp; omega) (own_base hown.row)
  have hK1 : IntKind.i64.wrap ((K : Int) - 1) = (K : Int) - 1 := IntWalk.i64_in _ (by omega)
  have ho1 : w3.ownsRow w1.heap.size 5 1 v' (xs.length + 1 + (K - K)) ((xs ++ ((K : Int) + hd) :: (beD u K).take (K - K)).map (Value.int .u8)) := by simpa using hown'
  clear hown hown' hgrow hB2 hw2
  go_loopw [8, 9] (fun t i wr => ∃ j : Nat, j ≤ K ∧ i = .int .i64 ((j : Int) - 1) ∧ wr.ownsRow w1.heap.size 5 1 t (xs.length + 1 + (K - j)) ((xs ++ ((K : Int) + hd) :: (beD u K).take (K - j)).map (Value.int .u8)) ∧ Below w1.heap.size w1 wr) (fun _ i _ => (intOf i + 1).toNat)
  case atStart => exact ⟨K, Nat.le_refl _, rfl, ho1, hb3⟩
  case round =>
    obtain ⟨j, hj, rfl, hown, hb⟩ := hrel
    clear ho1 hb3 hK1
    cases j with
    | zero =>
      go_wp2
      go_ret
      refine ⟨_, rfl, OwnK.of hown ?_ ?_, hb⟩
      · rw [HENC.out]; simp [beD_length]; omega
      · rw [HENC.out]; simp [beD_length]; rw [List.take_of_length_le (by simp [beD_length])]
    | succ m =>
      rw [show (((m + 1 : Nat) : Int) - 1) = (m : Int) from by omega]
      have hby := shr_byte u m
      have htk := beD_take (u := u) (K := K) (m := m) (k := K - (m + 1)) (by omega)
      have hKm : K - (m + 1) + 1 = K - m := by omega
      rw [hKm] at htk
      have HTK := Lib.hid htk
      clear htk
      obtain ⟨x, hx⟩ : ∃ x : Int, x = ((u / 256 ^ m % 256 : Nat) : Int) := ⟨_, rfl⟩
      rw [← hx] at hby HTK
      clear hx
      go_wp2_with (at_builtin; refine wpList_append_own _ rfl _ _ 22 rfl w1.heap.size 5 i0 (.int .u8 0) 1 1 Try.underlying22 hi hz0 hz1 hz2 rfl (by decide) _ _ _ rfl (hown.alloc _) ⟨wr.heap.size, 0, none⟩ 1 1 [.int .u8 x] rfl rfl (cell_one_new _ _ _) (by intro u hu; simp at hu; subst hu; rfl) (by unfold maxLen; omega) (by omega) (by have := hb.size; simp; omega) ?_; intro v' w3 hown' hgrow _)
      go_roundw
      case rel =>
        refine ⟨m, by omega, rfl, ?_, (hb.alloc hb.size _).grown hgrow (by have := hb.size; simp; omega) (own_base hown)⟩
        rw [HTK.out, show xs.length + 1 + (K - m) = xs.length + 1 + (K - (m + 1)) + 1 from by omega]
        simpa using hown'
      case measure => simp [intOf]
end Go.Proofs.Ytjjccjannandlaa
