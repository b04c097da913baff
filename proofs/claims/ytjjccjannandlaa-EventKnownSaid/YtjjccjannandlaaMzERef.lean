/- The document's Check of an event. -/
import Derived.Test.YtjjccjannandlaaMzEChk
set_option maxRecDepth 100000
set_option linter.unusedVariables false
set_option linter.unusedSimpArgs false
namespace Go.Proofs.Ytjjccjannandlaa
open Go.RowKit Go.BigFrame

set_option maxHeartbeats 4000000 in
theorem rChk_arg (f : Nat → Int) (dv : Value) (xs : List Int) (n : Int) (w : World) (hx : Sl .i64 w w.heap.size dv xs) (hl : xs.length ≤ 1099511627776)
    (h : f 0 < 0 ∨ (0 ≤ f 0 ∧ n ≤ f 0) ∨ (0 ≤ f 0 ∧ f 0 < n ∧ f 1 < 1) ∨ (0 ≤ f 0 ∧ f 0 < n ∧ 1 ≤ f 1 ∧ f 2 < 1) ∨ (0 ≤ f 0 ∧ f 0 < n ∧ 1 ≤ f 1 ∧ 1 ≤ f 2 ∧ f 4 < 0) ∨ (0 ≤ f 0 ∧ f 0 < n ∧ 1 ≤ f 1 ∧ 1 ≤ f 2 ∧ 0 ≤ f 4 ∧ f 8 < 0) ∨ (0 ≤ f 0 ∧ f 0 < n ∧ 1 ≤ f 1 ∧ 1 ≤ f 2 ∧ 0 ≤ f 4 ∧ 0 ≤ f 8 ∧ ((xs.length : Int) != n) = true)) :
    Calls Try.prog 28 #[evV f dv, .int .i64 n] w fun e w' => e = .returned (.int .i64 1) ∧ Below w.heap.size w w' := by
  obtain ⟨A, c, rfl⟩ := hx.shape
  have hB : ∀ o, Below w.heap.size w (w.alloc o) := fun o => (Below.refl w.heap.size w).alloc (Nat.le_refl _) o
  clear hx
  rcases h with h1 | ⟨h1, h2⟩ | ⟨h1, h2, h3⟩ | ⟨h1, h2, h3, h4⟩ | ⟨h1, h2, h3, h4, h5⟩ | ⟨h1, h2, h3, h4, h5, h6⟩ | ⟨h1, h2, h3, h4, h5, h6, h7⟩
  all_goals
    go_enter Try.func28, Try.ntmps28
    go_wp2_with fail
    go_ret
    exact ⟨rfl, hB _⟩
set_option maxHeartbeats 4000000 in
theorem rChk_neg (f : Nat → Int) (dv : Value) (xs : List Int) (w : World) (hx : Sl .i64 w w.heap.size dv xs) (hl : xs.length ≤ 1099511627776) (h1 : 0 ≤ f 0) (h2 : f 0 < (xs.length : Int)) (h3 : 1 ≤ f 1) (h4 : 1 ≤ f 2) (h5 : 0 ≤ f 4) (h6 : 0 ≤ f 8) (h8 : AnyNeg xs) :
    Calls Try.prog 28 #[evV f dv, .int .i64 (xs.length : Int)] w fun e w' => e = .returned (.int .i64 1) ∧ Below w.heap.size w w' := by
  obtain ⟨A, c, rfl⟩ := hx.shape
  have hB : ∀ o, Below w.heap.size w (w.alloc o) := fun o => (Below.refl w.heap.size w).alloc (Nat.le_refl _) o
  obtain ⟨W, hW⟩ : ∃ W, W = w.alloc (.cells #[.int .i64 (f 0), .int .i64 (f 1), .int .i64 (f 2), .slice A xs.length c, .int .i64 (f 3), .int .i64 (f 4), .int .i64 (f 5), .int .i64 (f 6), .int .i64 (f 7), .int .i64 (f 8)] 39) := ⟨_, rfl⟩
  have hc3 : W.cell? ⟨w.heap.size, 3, none⟩ = some (.slice A xs.length c) := by rw [hW]; simp [go_sem]
  have HX : Hid (Sl .i64 W W.heap.size (.slice A xs.length c) xs) := by rw [hW]; exact hx.later (hB _)
  have HB : Hid (Below w.heap.size w W) := by rw [hW]; exact hB _
  have HN := Lib.hid h8
  have hlen : (xs.length : Int) = (xs.length : Int) := rfl
  clear hx hB h8
  go_enter Try.func28, Try.ntmps28
  go_wp2_with fail
  rw [← hW]
  clear hW
  go_loopw [5] (fun i wr => ∃ k : Nat, k ≤ xs.length ∧ i = .int .i64 k ∧ wr = W ∧ Hid (∀ i, i < k → 0 ≤ xs[i]?.getD 0)) (fun i _ => xs.length - (intOf i).toNat)
  case atStart => exact ⟨0, Nat.zero_le _, rfl, rfl, Lib.hid (fun i hi => absurd hi (Nat.not_lt_zero i))⟩
  case round =>
    obtain ⟨k, hk, rfl, rfl, HK⟩ := hrel
    by_cases hlt : k < xs.length
    · obtain ⟨b, off, rfl, hbB, hcap, hcx⟩ := HX.out.elem hlt
      obtain ⟨x, hx⟩ : ∃ x, x = xs[k]?.getD 0 := ⟨_, rfl⟩
      rw [← hx] at hcx
      have hkI : (k : Int) < (xs.length : Int) := by omega
      have HXX := Lib.hid hx
      clear hx
      by_cases hx0 : x < 0
      · go_wp2_with fail
        go_ret
        exact ⟨rfl, HB.out⟩
      · go_wp2_with fail
        go_roundw
        case rel => exact ⟨k + 1, by omega, by go_num, trivial, Lib.hid (fun i hi => if he : i = k then by rw [he, ← HXX.out]; omega else HK.out i (by omega))⟩
        case measure => simp [intOf]; omega
    · exfalso
      obtain ⟨y, hy, hy0⟩ := HN.out
      obtain ⟨i, hi, rfl⟩ := List.mem_iff_getElem.1 hy
      have := HK.out i (by omega)
      rw [List.getElem?_eq_getElem hi] at this
      simp at this
      omega
set_option maxHeartbeats 8000000 in
theorem rChk_rest (f : Nat → Int) (dv : Value) (xs : List Int) (w : World) (hx : Sl .i64 w w.heap.size dv xs) (hl : xs.length ≤ 1099511627776) (k : Nat) (hk : f 0 = (k : Int)) (hkn : k < xs.length) (h3 : 1 ≤ f 1) (h4 : 1 ≤ f 2) (h5 : 0 ≤ f 4) (h6 : 0 ≤ f 8) (h8 : ¬ AnyNeg xs) (h64 : f 1 ≤ 9223372036854775807) (r : Int)
    (hr : (xs[k]?.getD 0 ≠ f 1 - 1 ∧ r = 9) ∨ (xs[k]?.getD 0 = f 1 - 1 ∧ ((f 6 < 1 ∧ r = 2) ∨ (1 ≤ f 6 ∧ 5 < f 6 ∧ r = 2) ∨ (1 ≤ f 6 ∧ f 6 ≤ 5 ∧ ((f 3 < 0 ∧ r = 8) ∨ (0 ≤ f 3 ∧ 7 < f 3 ∧ r = 8) ∨ (0 ≤ f 3 ∧ f 3 ≤ 7 ∧ f 5 < 0 ∧ r = 8) ∨ (0 ≤ f 3 ∧ f 3 ≤ 7 ∧ 0 ≤ f 5 ∧ 7 < f 5 ∧ r = 8) ∨ (0 ≤ f 3 ∧ f 3 ≤ 7 ∧ 0 ≤ f 5 ∧ f 5 ≤ 7 ∧ r = 0)))))) :
    Calls Try.prog 28 #[evV f dv, .int .i64 (xs.length : Int)] w fun e w' => e = .returned (.int .i64 r) ∧ Below w.heap.size w w' := by
  obtain ⟨A, c, rfl⟩ := hx.shape
  have hB : ∀ o, Below w.heap.size w (w.alloc o) := fun o => (Below.refl w.heap.size w).alloc (Nat.le_refl _) o
  obtain ⟨W, hW⟩ : ∃ W, W = w.alloc (.cells #[.int .i64 (f 0), .int .i64 (f 1), .int .i64 (f 2), .slice A xs.length c, .int .i64 (f 3), .int .i64 (f 4), .int .i64 (f 5), .int .i64 (f 6), .int .i64 (f 7), .int .i64 (f 8)] 39) := ⟨_, rfl⟩
  have hc := Has.new w #[.int .i64 (f 0), .int .i64 (f 1), .int .i64 (f 2), .slice A xs.length c, .int .i64 (f 3), .int .i64 (f 4), .int .i64 (f 5), .int .i64 (f 6), .int .i64 (f 7), .int .i64 (f 8)] 39
  rw [← hW] at hc
  rw [hk] at hW hc
  have hcd := hc.2
  have hsz := hc.1
  have HX : Hid (Sl .i64 W W.heap.size (.slice A xs.length c) xs) := by rw [hW]; exact hx.later (hB _)
  have HB : Hid (Below w.heap.size w W) := by rw [hW]; exact hB _
  have HN : Hid (∀ x ∈ xs, 0 ≤ x) := Lib.hid fun x hx => by
    rcases Int.lt_or_le x 0 with h | h
    · exact absurd ⟨x, hx, h⟩ h8
    · exact h
  have hw1 : IntKind.i64.wrap (f 1 - 1) = f 1 - 1 := IntWalk.i64_in _ (by omega)
  have hkI : (k : Int) < (xs.length : Int) := by omega
  clear hx hB h8 hc
  have HR := Lib.hid hr
  clear hr
  go_enter Try.func28, Try.ntmps28
  go_wp2_with fail
  rw [← hW]
  clear hW
  go_loopw [5] (fun i wr => ∃ k : Nat, k ≤ xs.length ∧ i = .int .i64 k ∧ wr = W) (fun i _ => xs.length - (intOf i).toNat)
  case atStart => exact ⟨0, Nat.zero_le _, rfl, rfl⟩
  case round =>
    obtain ⟨j, hj, rfl, rfl⟩ := hrel
    by_cases hlt : j < xs.length
    · obtain ⟨b, off, rfl, hbB, hcap, hcx⟩ := HX.out.elem hlt
      obtain ⟨x, hx⟩ : ∃ x, x = xs[j]?.getD 0 := ⟨_, rfl⟩
      have hx0 : 0 ≤ x := by rw [hx, List.getElem?_eq_getElem hlt]; exact HN.out _ (List.getElem_mem _)
      rw [← hx] at hcx
      have hjI : (j : Int) < (xs.length : Int) := by omega
      clear hx
      go_wp2_with fail
      go_roundw
      case rel => exact ⟨j + 1, by omega, by go_num, trivial⟩
      case measure => simp [intOf]; omega
    · have hk4 : j = xs.length := by omega
      subst hk4
      obtain ⟨b, off, rfl, hbB, hcap, hcx⟩ := HX.out.elem hkn
      obtain ⟨y, hy⟩ : ∃ y, y = xs[k]?.getD 0 := ⟨_, rfl⟩
      rw [← hy] at hcx HR
      have hBd := HB.out
      clear hy hlt
      rcases HR.out with ⟨ha, rfl⟩ | ⟨ha, ⟨hb, rfl⟩ | ⟨hb, hc, rfl⟩ | ⟨hb, hc, ⟨hd, rfl⟩ | ⟨hd, he, rfl⟩ | ⟨hd, he, hf, rfl⟩ | ⟨hd, he, hf, hg, rfl⟩ | ⟨hd, he, hf, hg, rfl⟩⟩⟩
      · have hne : (y != f 1 - 1) = true := by simp [ha]
        clear ha HR
        go_wp2_with fail
        go_region
        go_wp2_with fail
        go_ret
        exact ⟨rfl, Below.drew hBd⟩
      all_goals
        have hne : (y != f 1 - 1) = false := by simp [ha]
        clear ha HR
        go_wp2_with fail
        go_region
        go_wp2_with fail
        go_ret
        exact ⟨rfl, Below.drew hBd⟩
end Go.Proofs.Ytjjccjannandlaa
