/- The reader: number and count, as the plain answer tells them. -/
import Derived.Test.YtjjccjannandlaaRead3
set_option linter.unusedVariables false
set_option linter.unusedSimpArgs false
namespace Go.Proofs.Ytjjccjannandlaa
open Go.RowKit Go.BigFrame

/-- Bytes. -/
abbrev Bytes (xs : List Int) : Prop := ∀ d ∈ xs, 0 ≤ d ∧ d ≤ 255
theorem Bytes.drop {xs : List Int} (h : Bytes xs) (a : Nat) : Bytes (xs.drop a) := fun d hd => h d (List.mem_of_mem_drop hd)

theorem numR_cons (h : Int) (t : List Int) : numR (h :: t) = if 8 < kOf h ∨ h = 16 then .inl 5
    else if t.length < kOf h then .inl 4
    else if 0 < kOf h ∧ t[0]?.getD 0 = 0 then .inl 5
    else if h % 32 < 16 then (if valD (t.take (kOf h)) < 9223372036854775808 then .inr (valD (t.take (kOf h)), kOf h + 1) else .inl 5)
    else (if valD (t.take (kOf h)) ≤ 9223372036854775808 then .inr (-(valD (t.take (kOf h)) : Int), kOf h + 1) else .inl 5) := rfl

theorem number_no {xs : List Int} {S : Value} {p a : Nat} {why c : Int} {w : World} (hR : Rd w p xs S a why) (hl : xs.length ≤ 1099511627776) (ha : a ≤ xs.length) (hb : Bytes xs) (hn : numR (xs.drop a) = .inl c) :
    Calls Try.prog 54 #[.pointer (some ⟨p, 0, none⟩)] w fun e w' => e = .panicked (haltP c) ∧ But p w w' ∧ ∃ a', Rd w' p xs S a' why := by
  have hbd := hb.drop a
  cases hx : xs.drop a with
  | nil =>
    rw [hx] at hn
    have : c = 4 := by injection hn with h; exact h.symm
    subst this
    exact number_empty xs S p a why w hR hl (by have := congrArg List.length hx; rw [List.length_drop, List.length_nil] at this; omega)
  | cons h t =>
    rw [hx] at hn hbd
    obtain ⟨h0, h1⟩ := hbd h (by simp)
    have hbt : ∀ d ∈ t, 0 ≤ d ∧ d ≤ 255 := fun d hd => hbd d (by simp [hd])
    rw [numR_cons] at hn
    by_cases c1 : 8 < kOf h ∨ h = 16
    · rw [if_pos c1] at hn
      have : c = 5 := by injection hn with h; exact h.symm
      subst this
      exact number_head xs S p a why w hR hl h t hx h0 h1 c1
    rw [if_neg c1] at hn
    have hk8 : kOf h ≤ 8 := by omega
    have hh : ¬ h = 16 := fun e => c1 (.inr e)
    by_cases c2 : t.length < kOf h
    · rw [if_pos c2] at hn
      have : c = 4 := by injection hn with h; exact h.symm
      subst this
      exact number_short xs S p a why w hR hl h t hx h0 h1 hk8 hh c2
    rw [if_neg c2] at hn
    by_cases c3 : 0 < kOf h ∧ t[0]?.getD 0 = 0
    · rw [if_pos c3] at hn
      have : c = 5 := by injection hn with h; exact h.symm
      subst this
      exact number_zero xs S p a why w hR hl h t hx h0 h1 hk8 hh (by omega) c3.1 c3.2
    rw [if_neg c3] at hn
    have hz : kOf h = 0 ∨ ¬ t[0]?.getD 0 = 0 := by
      rcases Nat.eq_zero_or_pos (kOf h) with h' | h'
      · exact .inl h'
      · exact .inr fun e => c3 ⟨h', e⟩
    by_cases c4 : h % 32 < 16
    · rw [if_pos c4] at hn
      by_cases c5 : valD (t.take (kOf h)) < 9223372036854775808
      · rw [if_pos c5] at hn; cases hn
      · rw [if_neg c5] at hn
        have : c = 5 := by injection hn with h; exact h.symm
        subst this
        exact number_big xs S p a why w hR hl h t hx h0 h1 hk8 hh (by omega) hz hbt (.inl ⟨c4, by omega⟩)
    · rw [if_neg c4] at hn
      by_cases c5 : valD (t.take (kOf h)) ≤ 9223372036854775808
      · rw [if_pos c5] at hn; cases hn
      · rw [if_neg c5] at hn
        have : c = 5 := by injection hn with h; exact h.symm
        subst this
        exact number_big xs S p a why w hR hl h t hx h0 h1 hk8 hh (by omega) hz hbt (.inr ⟨c4, by omega⟩)

theorem number_ok {xs : List Int} {S : Value} {p a k : Nat} {why n : Int} {w : World} (hR : Rd w p xs S a why) (hl : xs.length ≤ 1099511627776) (hb : Bytes xs) (hn : numR (xs.drop a) = .inr (n, k)) :
    Calls Try.prog 54 #[.pointer (some ⟨p, 0, none⟩)] w fun e w' => e = .returned (.int .i64 n) ∧ But p w w' ∧ Rd w' p xs S ((a + k : Nat) : Int) why := by
  have hbd := hb.drop a
  cases hx : xs.drop a with
  | nil => rw [hx] at hn; cases hn
  | cons h t =>
    rw [hx] at hn hbd
    obtain ⟨h0, h1⟩ := hbd h (by simp)
    have hbt : ∀ d ∈ t, 0 ≤ d ∧ d ≤ 255 := fun d hd => hbd d (by simp [hd])
    rw [numR_cons] at hn
    by_cases c1 : 8 < kOf h ∨ h = 16
    · rw [if_pos c1] at hn; cases hn
    rw [if_neg c1] at hn
    have hk8 : kOf h ≤ 8 := by omega
    have hh : ¬ h = 16 := fun e => c1 (.inr e)
    by_cases c2 : t.length < kOf h
    · rw [if_pos c2] at hn; cases hn
    rw [if_neg c2] at hn
    by_cases c3 : 0 < kOf h ∧ t[0]?.getD 0 = 0
    · rw [if_pos c3] at hn; cases hn
    rw [if_neg c3] at hn
    have hz : kOf h = 0 ∨ ¬ t[0]?.getD 0 = 0 := by
      rcases Nat.eq_zero_or_pos (kOf h) with h' | h'
      · exact .inl h'
      · exact .inr fun e => c3 ⟨h', e⟩
    by_cases c4 : h % 32 < 16
    · rw [if_pos c4] at hn
      by_cases c5 : valD (t.take (kOf h)) < 9223372036854775808
      · rw [if_pos c5] at hn
        injection hn with hn
        injection hn with e1 e2
        exact number_val xs S p a why w hR hl h t hx h0 h1 hk8 hh (by omega) hz hbt (.inl ⟨c4, by omega⟩) n _ (by rw [if_pos c4, e1]) (by rw [← e2]; congr 1; omega)
      · rw [if_neg c5] at hn; cases hn
    · rw [if_neg c4] at hn
      by_cases c5 : valD (t.take (kOf h)) ≤ 9223372036854775808
      · rw [if_pos c5] at hn
        injection hn with hn
        injection hn with e1 e2
        exact number_val xs S p a why w hR hl h t hx h0 h1 hk8 hh (by omega) hz hbt (.inr ⟨c4, by omega⟩) n _ (by rw [if_neg c4, e1]) (by rw [← e2]; congr 1; omega)
      · rw [if_neg c5] at hn; cases hn

/-- A number from 0 to most. -/
def countR (l : List Int) (most : Int) : Int ⊕ (Int × Nat) :=
  match numR l with
  | .inl c => .inl c
  | .inr (n, k) => if 0 ≤ n ∧ n ≤ most then .inr (n, k) else .inl 3

set_option maxHeartbeats 1000000 in
theorem count_ok {xs : List Int} {S : Value} {p a k : Nat} {why n most : Int} {w : World} (hR : Rd w p xs S a why) (hl : xs.length ≤ 1099511627776) (hb : Bytes xs) (hn : countR (xs.drop a) most = .inr (n, k)) :
    Calls Try.prog 61 #[.pointer (some ⟨p, 0, none⟩), .int .i64 most] w fun e w' => e = .returned (.int .i64 n) ∧ But p w w' ∧ Rd w' p xs S ((a + k : Nat) : Int) why := by
  unfold countR at hn
  cases hnn : numR (xs.drop a) with
  | inl c => rw [hnn] at hn; cases hn
  | inr v =>
    obtain ⟨n', k'⟩ := v
    rw [hnn] at hn
    by_cases hc : 0 ≤ n' ∧ n' ≤ most
    · simp only [if_pos hc] at hn
      injection hn with hn
      injection hn with e1 e2
      subst e1 e2
      obtain ⟨hc0, hc1⟩ := hc
      have HN := Lib.hid (number_ok hR hl hb hnn)
      clear hR hnn hb
      go_enter Try.func61, Try.ntmps61
      go_wp2_with fail
      refine HN.out.mono ?_
      rintro e w1 ⟨rfl, hB1, hR1⟩
      go_wp2_with fail
      refine (must_ok 3 _).mono ?_
      rintro e w2 ⟨rfl, rfl⟩
      have HR1 := Lib.hid hR1
      clear hR1
      go_wp2_with fail
      go_ret
      exact ⟨rfl, hB1, HR1.out⟩
    · simp only [if_neg hc] at hn; cases hn
set_option maxHeartbeats 1000000 in
theorem count_no {xs : List Int} {S : Value} {p a : Nat} {why c most : Int} {w : World} (hR : Rd w p xs S a why) (hl : xs.length ≤ 1099511627776) (ha : a ≤ xs.length) (hb : Bytes xs) (hn : countR (xs.drop a) most = .inl c) :
    Calls Try.prog 61 #[.pointer (some ⟨p, 0, none⟩), .int .i64 most] w fun e w' => e = .panicked (haltP c) ∧ But p w w' ∧ ∃ a', Rd w' p xs S a' why := by
  unfold countR at hn
  cases hnn : numR (xs.drop a) with
  | inl c' =>
    rw [hnn] at hn
    have : c' = c := by injection hn
    subst this
    have HN := Lib.hid (number_no hR hl ha hb hnn)
    clear hR hnn hb hn
    go_enter Try.func61, Try.ntmps61
    go_wp2_with fail
    refine HN.out.mono ?_
    rintro e w1 ⟨rfl, hB1, hR1⟩
    exact ⟨rfl, rfl, hB1, hR1⟩
  | inr v =>
    obtain ⟨n', k'⟩ := v
    rw [hnn] at hn
    by_cases hc : 0 ≤ n' ∧ n' ≤ most
    · simp only [if_pos hc] at hn; cases hn
    · simp only [if_neg hc] at hn
      have : c = 3 := by injection hn with h; exact h.symm
      subst this
      have HN := Lib.hid (number_ok hR hl hb hnn)
      clear hR hnn hb hn
      rcases (show n' < 0 ∨ (0 ≤ n' ∧ ¬ n' ≤ most) from by omega) with hc1 | ⟨hc1, hc2⟩
      all_goals
        clear hc
        go_enter Try.func61, Try.ntmps61
        go_wp2_with fail
        refine HN.out.mono ?_
        rintro e w1 ⟨rfl, hB1, hR1⟩
        go_wp2_with fail
        try rw [show decide (n' ≤ most) = false from decide_eq_false (by omega)]
        refine (must_no 3 _).mono ?_
        rintro e w2 ⟨rfl, rfl⟩
        exact ⟨rfl, rfl, hB1, _, hR1⟩
end Go.Proofs.Ytjjccjannandlaa
