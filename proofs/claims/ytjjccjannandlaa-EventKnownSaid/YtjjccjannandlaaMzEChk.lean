/- event.Check. -/
import Derived.Test.YtjjccjannandlaaMzEPut2
set_option maxRecDepth 100000
set_option linter.unusedVariables false
set_option linter.unusedSimpArgs false
namespace Go.Proofs.Ytjjccjannandlaa
open Go.RowKit Go.BigFrame

/-- One of them is below 0. -/
def AnyNeg (xs : List Int) : Prop := ∃ x ∈ xs, x < 0
instance (xs : List Int) : Decidable (AnyNeg xs) := by unfold AnyNeg; infer_instance
theorem below_is (x : Int) (w : World) : Calls Try.prog 47 #[.int .i64 x] w fun e w' => e = .returned (.bool (decide (x < 0))) ∧ w = w' := by
  go_enter Try.func47, Try.ntmps47
  go_wp2
  go_ret
  exact ⟨rfl, rfl⟩
set_option maxHeartbeats 1000000 in
theorem indexFunc_no (xs : List Int) (v : Value) (w : World) (hx : Sl .i64 w w.heap.size v xs) (hl : xs.length ≤ 1099511627776) (h : ∀ x ∈ xs, 0 ≤ x) :
    Calls Try.prog 59 #[v, .func (.func 47) #[] #[]] w fun e w' => e = .returned (.int .i64 (-1)) ∧ w = w' := by
  obtain ⟨A, c, rfl⟩ := hx.shape
  have HX := Lib.hid hx
  have HN := Lib.hid h
  clear hx h
  go_enter Try.func59, Try.ntmps59
  go_wp2_with fail
  go_loopw [8] (fun i wr => ∃ k : Nat, k ≤ xs.length ∧ i = .int .i64 k ∧ wr = w) (fun i _ => xs.length - (intOf i).toNat)
  case atStart => exact ⟨0, Nat.zero_le _, rfl, rfl⟩
  case round =>
    obtain ⟨k, hk, rfl, rfl⟩ := hrel
    by_cases hlt : k < xs.length
    · obtain ⟨b, off, rfl, hbB, hcap, hcx⟩ := HX.out.elem hlt
      obtain ⟨x, hx⟩ : ∃ x, x = xs[k]?.getD 0 := ⟨_, rfl⟩
      have hx0 : 0 ≤ x := by rw [hx, List.getElem?_eq_getElem hlt]; exact HN.out _ (List.getElem_mem _)
      rw [← hx] at hcx
      have hkI : (k : Int) < (xs.length : Int) := by omega
      clear hx
      go_wp2_with fail
      refine (below_is x _).mono ?_
      rintro e w3 ⟨rfl, rfl⟩
      go_wp2_with fail
      go_roundw
      case rel => exact ⟨k + 1, by omega, by go_num, trivial⟩
      case measure => simp [intOf]; omega
    · have hk4 : k = xs.length := by omega
      subst hk4
      go_wp2_with fail
      go_ret
      exact ⟨rfl, rfl⟩
set_option maxHeartbeats 1000000 in
theorem indexFunc_yes (xs : List Int) (v : Value) (w : World) (hx : Sl .i64 w w.heap.size v xs) (hl : xs.length ≤ 1099511627776) (h : AnyNeg xs) :
    Calls Try.prog 59 #[v, .func (.func 47) #[] #[]] w fun e w' => ∃ k : Nat, e = .returned (.int .i64 k) ∧ w = w' := by
  obtain ⟨A, c, rfl⟩ := hx.shape
  have HX := Lib.hid hx
  have HN := Lib.hid h
  clear hx h
  go_enter Try.func59, Try.ntmps59
  go_wp2_with fail
  go_loopw [8] (fun i wr => ∃ k : Nat, k ≤ xs.length ∧ i = .int .i64 k ∧ wr = w ∧ Hid (∀ i, i < k → 0 ≤ xs[i]?.getD 0)) (fun i _ => xs.length - (intOf i).toNat)
  case atStart => exact ⟨0, Nat.zero_le _, rfl, rfl, Lib.hid (fun i hi => absurd hi (Nat.not_lt_zero i))⟩
  case round =>
    obtain ⟨k, hk, rfl, rfl, HK⟩ := hrel
    by_cases hlt : k < xs.length
    · obtain ⟨b, off, rfl, hbB, hcap, hcx⟩ := HX.out.elem hlt
      obtain ⟨x, hx⟩ : ∃ x, x = xs[k]?.getD 0 := ⟨_, rfl⟩
      rw [← hx] at hcx
      have hkI : (k : Int) < (xs.length : Int) := by omega
      have HXX := Lib.hid hx
      clear hx
      by_cases hx0 : x < 0
      · have hd : decide (x < 0) = true := decide_eq_true hx0
        go_wp2_with fail
        refine (below_is x _).mono ?_
        rw [hd]
        rintro e w3 ⟨rfl, rfl⟩
        go_wp2_with fail
        go_ret
        exact ⟨k, rfl, rfl⟩
      · have hd : decide (x < 0) = false := decide_eq_false hx0
        go_wp2_with fail
        refine (below_is x _).mono ?_
        rw [hd]
        rintro e w3 ⟨rfl, rfl⟩
        go_wp2_with fail
        go_roundw
        case rel => exact ⟨k + 1, by omega, by go_num, trivial, Lib.hid (fun i hi => if he : i = k then by rw [he, ← HXX.out]; omega else HK.out i (by omega))⟩
        case measure => simp [intOf]; omega
    · exfalso
      obtain ⟨y, hy, hy0⟩ := HN.out
      obtain ⟨i, hi, rfl⟩ := List.mem_iff_getElem.1 hy
      have := HK.out i (by omega)
      rw [List.getElem?_eq_getElem hi] at this
      simp at this
      omega
theorem contains_is (xs : List Int) (v : Value) (w : World) (hx : Sl .i64 w w.heap.size v xs) (hl : xs.length ≤ 1099511627776) (b : Bool) (hb : b = true ↔ AnyNeg xs) :
    Calls Try.prog 48 #[v, .func (.func 47) #[] #[]] w fun e w' => e = .returned (.bool b) ∧ w = w' := by
  have HX := Lib.hid hx
  cases b with
  | true =>
    have h := hb.1 rfl
    clear hb hx
    go_enter Try.func48, Try.ntmps48
    go_wp2_with fail
    refine (indexFunc_yes xs _ _ HX.out hl h).mono ?_
    rintro e w3 ⟨k, rfl, rfl⟩
    go_wp2_with fail
    go_ret
    exact ⟨by simp, rfl⟩
  | false =>
    have h : ∀ x ∈ xs, 0 ≤ x := fun x hx => by
      rcases Int.lt_or_le x 0 with h | h
      · exact absurd (hb.2 ⟨x, hx, h⟩) (by simp)
      · exact h
    clear hb hx
    go_enter Try.func48, Try.ntmps48
    go_wp2_with fail
    refine (indexFunc_no xs _ _ HX.out hl h).mono ?_
    rintro e w3 ⟨rfl, rfl⟩
    go_wp2_with fail
    go_ret
    exact ⟨by simp, rfl⟩

/-- What is wrong with an event. -/
def chkE (f : Nat → Int) (xs : List Int) (n : Int) : Int :=
  if f 0 < 0 ∨ n ≤ f 0 ∨ f 1 < 1 ∨ f 2 < 1 ∨ f 4 < 0 ∨ f 8 < 0 ∨ (xs.length : Int) ≠ n ∨ AnyNeg xs then 1
  else if xs[(f 0).toNat]?.getD 0 ≠ f 1 - 1 then 9
  else if f 6 < 1 ∨ 5 < f 6 then 2
  else if f 3 < 0 ∨ f 5 < 0 ∨ 8 ≤ f 3 ∨ 8 ≤ f 5 then 8
  else 0
set_option maxHeartbeats 4000000 in
theorem eChk_arg (f : Nat → Int) (dv : Value) (xs : List Int) (n : Int) (w : World) (hx : Sl .i64 w w.heap.size dv xs) (hl : xs.length ≤ 1099511627776) (h : f 0 < 0 ∨ n ≤ f 0 ∨ f 1 < 1 ∨ f 2 < 1 ∨ f 4 < 0 ∨ f 8 < 0 ∨ (xs.length : Int) ≠ n ∨ AnyNeg xs) :
    Calls Try.prog 27 #[evV f dv, .int .i64 n] w fun e w' => e = .returned (.int .i64 1) ∧ Below w.heap.size w w' := by
  obtain ⟨A, c, rfl⟩ := hx.shape
  have HX := Lib.hid hx
  clear hx
  have hB : ∀ o, Below w.heap.size w (w.alloc o) := fun o => (Below.refl w.heap.size w).alloc (Nat.le_refl _) o
  have hc : f 0 < 0 ∨ (0 ≤ f 0 ∧ n ≤ f 0) ∨ (0 ≤ f 0 ∧ f 0 < n ∧ min (f 1) (f 2) < 1) ∨ (0 ≤ f 0 ∧ f 0 < n ∧ 1 ≤ f 1 ∧ 1 ≤ f 2 ∧ min (f 4) (f 8) < 0) ∨ (0 ≤ f 0 ∧ f 0 < n ∧ 1 ≤ f 1 ∧ 1 ≤ f 2 ∧ 0 ≤ f 4 ∧ 0 ≤ f 8 ∧ ((xs.length : Int) != n) = true) ∨ (0 ≤ f 0 ∧ f 0 < n ∧ 1 ≤ f 1 ∧ 1 ≤ f 2 ∧ 0 ≤ f 4 ∧ 0 ≤ f 8 ∧ (xs.length : Int) = n ∧ AnyNeg xs) := by
    by_cases hl : (xs.length : Int) = n
    · rcases h with h | h | h | h | h | h | h | h
      · omega
      · omega
      · omega
      · omega
      · omega
      · omega
      · exact absurd hl h
      · by_cases h5 : 0 ≤ f 0 ∧ f 0 < n ∧ 1 ≤ f 1 ∧ 1 ≤ f 2 ∧ 0 ≤ f 4 ∧ 0 ≤ f 8
        · exact .inr (.inr (.inr (.inr (.inr ⟨h5.1, h5.2.1, h5.2.2.1, h5.2.2.2.1, h5.2.2.2.2.1, h5.2.2.2.2.2, hl, h⟩))))
        · omega
    · by_cases h5 : 0 ≤ f 0 ∧ f 0 < n ∧ 1 ≤ f 1 ∧ 1 ≤ f 2 ∧ 0 ≤ f 4 ∧ 0 ≤ f 8
      · exact .inr (.inr (.inr (.inr (.inl ⟨h5.1, h5.2.1, h5.2.2.1, h5.2.2.2.1, h5.2.2.2.2.1, h5.2.2.2.2.2, by simp [hl]⟩))))
      · omega
  clear h
  rcases hc with h1 | ⟨h1, h2⟩ | ⟨h1, h2, h3⟩ | ⟨h1, h2, h3, h4, h5⟩ | ⟨h1, h2, h3, h4, h5, h6, h7⟩ | ⟨h1, h2, h3, h4, h5, h6, h7, h8⟩
  iterate 5
    · go_enter Try.func27, Try.ntmps27
      go_wp2_with fail
      simp [bodyPost, results, Try.results27, go_sem, hB]
  · subst h7
    have HC := Lib.hid (fun o => contains_is xs (.slice A xs.length c) (w.alloc o) ((HX.out.below (hB o)).more (hB o).size) hl true ⟨fun _ => h8, fun _ => rfl⟩)
    clear h8
    go_enter Try.func27, Try.ntmps27
    go_wp2_with fail
    refine (HC.out _).mono ?_
    rintro e w3 ⟨rfl, rfl⟩
    go_wp2_with fail
    simp [bodyPost, results, Try.results27, go_sem, hB]
end Go.Proofs.Ytjjccjannandlaa
