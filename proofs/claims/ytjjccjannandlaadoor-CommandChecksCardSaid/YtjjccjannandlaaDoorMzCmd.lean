/- command.fields and command.Put. -/
import Derived.Test.YtjjccjannandlaaDoorMg2
import Derived.Test.YtjjccjannandlaaDoorMzKitF
import Derived.BigRegion
set_option maxRecDepth 100000
set_option maxRecDepth 100000
set_option linter.unusedVariables false
set_option linter.unusedSimpArgs false
namespace Go.Proofs.YtjjccjannandlaaDoor
open Go.RowKit Go.BigFrame

/-- A command's value. -/
abbrev cmdV (v : Nat → Int) : Value := .agg #[.int .i64 (v 0), .int .i64 (v 1), .int .i64 (v 2), .int .i64 (v 3), .int .i64 (v 4), .int .i64 (v 5), .int .i64 (v 6)]
abbrev ptrs7 (q : Nat) : Value := .agg #[.pointer (some ⟨q, 0, none⟩), .pointer (some ⟨q, 1, none⟩), .pointer (some ⟨q, 2, none⟩), .pointer (some ⟨q, 3, none⟩), .pointer (some ⟨q, 4, none⟩), .pointer (some ⟨q, 5, none⟩), .pointer (some ⟨q, 6, none⟩)]

set_option maxHeartbeats 2000000 in
theorem fields_any (q : Nat) (w : World) : Calls Tryd.prog 39 #[.pointer (some ⟨q, 0, none⟩)] w fun e w' => e = .returned (ptrs7 q) ∧ Below w.heap.size w w' := by
  go_enter Tryd.func39, Tryd.ntmps39
  go_wp2
  go_region
  go_wp2
  have hB : ∀ o, Below w.heap.size w (w.alloc o).drew := fun o => Below.drew ((Below.refl w.heap.size w).alloc (Nat.le_refl _) o)
  simp [bodyPost, results, Tryd.results39, go_sem, hB]

/-- Numbers, one behind the other. -/
def encs (l : List Int) : List Int := l.flatMap encI
theorem encs_snoc (l : List Int) (n : Int) : encs (l ++ [n]) = encs l ++ encI n := by simp [encs]
theorem encs_append (l t : List Int) : encs (l ++ t) = encs l ++ encs t := by simp [encs]
def I64s (l : List Int) : Prop := ∀ n ∈ l, -9223372036854775808 ≤ n ∧ n ≤ 9223372036854775807
theorem encs_le {l : List Int} (h : I64s l) : (encs l).length ≤ 9 * l.length := by
  induction l with
  | nil => simp [encs]
  | cons n l ih =>
    have h1 := h n (by simp)
    have h2 := nb_le (u := mag n) (by have := mag_lt h1.1 h1.2; omega)
    have h3 := ih (fun x hx => h x (by simp [hx]))
    have e : encs (n :: l) = encI n ++ encs l := rfl
    rw [e, List.length_append, encI_length, List.length_cons]; omega
/-- The first k numbers of a command. -/
abbrev firstN (v : Nat → Int) (k : Nat) : List Int := (List.range k).map v
theorem firstN_succ (v : Nat → Int) (k : Nat) : firstN v (k + 1) = firstN v k ++ [v k] := by unfold firstN; rw [List.range_succ, List.map_append]; rfl
theorem firstN_64 {v : Nat → Int} {n k : Nat} (h : ∀ i, i < n → -9223372036854775808 ≤ v i ∧ v i ≤ 9223372036854775807) (hk : k ≤ n) : I64s (firstN v k) := by
  intro x hx
  obtain ⟨i, hi, rfl⟩ := List.mem_map.1 hx
  have := List.mem_range.1 hi
  exact h i (by omega)

theorem run_index7 (q k : Nat) (hk : k < 7) (W : World) : (Instr.index 79 (ptrs7 q) (.int .i64 (k : Int))).run Tryd.prog W = .ok (.pointer (some ⟨q, k, none⟩)) W := by
  rcases (show k = 0 ∨ k = 1 ∨ k = 2 ∨ k = 3 ∨ k = 4 ∨ k = 5 ∨ k = 6 from by omega) with rfl | rfl | rfl | rfl | rfl | rfl | rfl
  all_goals kernel_rfl

set_option maxHeartbeats 4000000 in
theorem cPut_any (v : Nat → Int) (w : World) (h64 : ∀ i, i < 7 → -9223372036854775808 ≤ v i ∧ v i ≤ 9223372036854775807) :
    Calls Tryd.prog 20 #[cmdV v] w fun e w' => ∃ r, e = .returned r ∧ OwnBytes w' w.heap.size r (encs (firstN v 7)) ∧ Below w.heap.size w w' := by
  have H64 := Lib.hid h64
  clear h64
  go_enter Tryd.func20, Tryd.ntmps20
  obtain ⟨w1, hw1⟩ : ∃ w1, w1 = w.alloc (.cells #[.int .i64 (v 0), .int .i64 (v 1), .int .i64 (v 2), .int .i64 (v 3), .int .i64 (v 4), .int .i64 (v 5), .int .i64 (v 6)] 27) := ⟨_, rfl⟩
  have hB1 : Below w.heap.size w w1 := by rw [hw1]; exact (Below.refl _ _).alloc (Nat.le_refl _) _
  have hs1 : w1.heap.size = w.heap.size + 1 := by rw [hw1]; simp
  have hc : ∀ i, i < 7 → w1.cell? ⟨w.heap.size, i, none⟩ = some (.int .i64 (v i)) := by
    intro i hi
    rw [hw1]
    rcases (show i = 0 ∨ i = 1 ∨ i = 2 ∨ i = 3 ∨ i = 4 ∨ i = 5 ∨ i = 6 from by omega) with rfl | rfl | rfl | rfl | rfl | rfl | rfl
    all_goals simp [go_sem]
  have HW1 := Lib.hid hw1
  have HC := Lib.hid hc
  have HB1 := Lib.hid hB1
  have HS1 := Lib.hid hs1
  clear hw1 hc hB1 hs1
  go_wp2_with fail
  rw [← HW1.out]
  refine (fields_any w.heap.size w1).mono ?_
  rintro e w2 ⟨rfl, hb2⟩
  have HB2 := Lib.hid hb2
  clear hb2
  go_wp2_with fail
  go_loopw [3, 7] (fun b i wr => ∃ k : Nat, k ≤ 7 ∧ i = .int .i64 k ∧ OwnBytes wr w2.heap.size b (encs (firstN v k)) ∧ Below w2.heap.size w2 wr) (fun _ i _ => 7 - (intOf i).toNat)
  case atStart => exact ⟨0, by omega, rfl, OwnK.nil_ _ _, Below.refl _ _⟩
  case round =>
    obtain ⟨k, hk, rfl, hown, hb⟩ := hrel
    have HO := Lib.hid hown
    have HB := Lib.hid hb
    clear hown hb
    by_cases hk7 : k < 7
    · have hck : wr.cell? ⟨w.heap.size, k, none⟩ = some (.int .i64 (v k)) := by
        have h1 := HB2.out.size
        have h2 := HS1.out
        exact (HB.out.cell (p := ⟨w.heap.size, k, none⟩) (by show w.heap.size < _; omega)).trans ((HB2.out.cell (p := ⟨w.heap.size, k, none⟩) (by show w.heap.size < _; omega)).trans (HC.out k hk7))
      have hbk := H64.out k hk7
      have hlen := encs_le (firstN_64 H64.out (k := k) (by omega))
      have HSU := Lib.hid (congrArg encs (firstN_succ v k))
      have HL : Hid ((encs (firstN v k)).length ≤ 1099511627776) := by
        have : (firstN v k).length = k := by simp
        rw [this] at hlen
        exact Lib.hid (by omega)
      obtain ⟨x, hx⟩ : ∃ x, x = v k := ⟨_, rfl⟩
      rw [← hx] at hck hbk HSU
      have hs2 := HB.out.size
      clear hlen hx
      have hix := run_index7 w.heap.size k hk7
      have hkI : (k : Int) < 7 := by omega
      go_wp2_with fail
      refine (pint_any _ x _ _ _ HO.out.sl (Nat.le_refl _) HL.out hbk.1 hbk.2).mono ?_
      rintro e w3 ⟨r, rfl, hr, hb3⟩
      rw [← encs_snoc, ← HSU.out] at hr
      have HR := Lib.hid (hr.down hs2)
      have HB3 := Lib.hid (Bel.then HB.out hb3)
      clear hr hb3
      go_wp2_with fail
      go_roundw
      case rel => exact ⟨k + 1, by omega, by go_num, HR.out, HB3.out⟩
      case measure => simp [intOf]; omega
    · have hk4 : k = 7 := by omega
      subst hk4
      go_wp2
      go_ret
      have hs := HB1.out.size
      have hs2 := HB2.out.size
      exact ⟨_, rfl, HO.out.down (by omega), HB1.out.trans ((HB2.out.mono hs).trans (HB.out.mono (by omega)))⟩
end Go.Proofs.YtjjccjannandlaaDoor
