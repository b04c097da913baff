/- Vectors of numbers: plain facts. -/
import Derived.Test.YtjjccjannandlaaDoorGet
set_option maxRecDepth 100000
set_option linter.unusedVariables false
set_option linter.unusedSimpArgs false
namespace Go.Proofs.YtjjccjannandlaaDoor
open Go.RowKit

theorem getV_nonneg (xs : List Int) (o : Int) : 0 ≤ getV xs o := by
  unfold getV; split <;> omega
theorem getV_le {xs : List Int} (hr : ∀ x ∈ xs, x ≤ 9223372036854775807) (o : Int) : getV xs o ≤ 9223372036854775807 := by
  unfold getV
  split
  · rename_i h
    have hlt : o.toNat < xs.length := by omega
    rw [List.getElem?_eq_getElem hlt, Option.getD_some]
    have := hr _ (List.getElem_mem hlt)
    omega
  · omega
theorem getV_past {xs : List Int} {o : Nat} (h : xs.length ≤ o) : getV xs o = 0 := getV_out (by omega)

/-- Is some entry of the first n less? -/
def anyLt (xs ys : List Int) : Nat → Bool
  | 0 => false
  | n + 1 => anyLt xs ys n || decide (getV xs n < getV ys n)
theorem anyLt_yes {xs ys : List Int} {k : Nat} (h : getV xs k < getV ys k) : anyLt xs ys (k + 1) = true := by simp [anyLt, h]
theorem anyLt_no {xs ys : List Int} {k : Nat} (h : getV ys k ≤ getV xs k) : anyLt xs ys (k + 1) = anyLt xs ys k := by
  have : decide (getV xs k < getV ys k) = false := decide_eq_false (by omega)
  simp [anyLt, this]
theorem anyLt_iff (xs ys : List Int) (n : Nat) : anyLt xs ys n = true ↔ ∃ i : Nat, i < n ∧ getV xs i < getV ys i := by
  induction n with
  | zero => simp [anyLt]
  | succ n ih =>
    simp only [anyLt, Bool.or_eq_true, ih, decide_eq_true_eq]
    constructor
    · rintro (⟨i, h1, h2⟩ | h)
      · exact ⟨i, by omega, h2⟩
      · exact ⟨n, by omega, h⟩
    · rintro ⟨i, h1, h2⟩
      by_cases h : i = n
      · subst h; exact .inr h2
      · exact .inl ⟨i, by omega, h2⟩
/-- How two stand, as a number. -/
def code (l g : Bool) : Int := (if l then 1 else 0) + (if g then 2 else 0)
/-- Is some entry less, wherever? -/
def lessV (xs ys : List Int) : Bool := anyLt xs ys (max xs.length ys.length)
theorem lessV_iff (xs ys : List Int) : lessV xs ys = true ↔ ∃ i : Nat, getV xs i < getV ys i := by
  unfold lessV
  rw [anyLt_iff]
  constructor
  · rintro ⟨i, _, h⟩; exact ⟨i, h⟩
  · rintro ⟨i, h⟩
    refine ⟨i, ?_, h⟩
    rcases Nat.lt_or_ge i (max xs.length ys.length) with h' | h'
    · exact h'
    · rw [getV_past (xs := xs) (by omega), getV_past (xs := ys) (by omega)] at h; omega
theorem lessV_false (xs ys : List Int) : lessV xs ys = false ↔ ∀ i : Nat, getV ys i ≤ getV xs i := by
  rw [← Bool.not_eq_true, lessV_iff]
  constructor
  · intro h i
    rcases Int.lt_or_le (getV xs i) (getV ys i) with h' | h'
    · exact absurd ⟨i, h'⟩ h
    · exact h'
  · rintro h ⟨i, h'⟩
    have := h i
    omega
/-- Cmp. -/
def cmpV (xs ys : List Int) : Int := code (lessV xs ys) (lessV ys xs)

/-- Join. -/
def joinN (xs ys : List Int) (n : Nat) : List Int := (List.range n).map fun i : Nat => max (getV xs i) (getV ys i)
theorem joinN_length (xs ys : List Int) (n : Nat) : (joinN xs ys n).length = n := by simp [joinN]
theorem joinN_succ (xs ys : List Int) (n : Nat) : joinN xs ys (n + 1) = joinN xs ys n ++ [max (getV xs n) (getV ys n)] := by
  simp [joinN, List.range_succ]
def joinV (xs ys : List Int) : List Int := joinN xs ys (max xs.length ys.length)
theorem joinV_length (xs ys : List Int) : (joinV xs ys).length = max xs.length ys.length := joinN_length _ _ _
theorem getV_joinV (xs ys : List Int) (o : Int) : getV (joinV xs ys) o = max (getV xs o) (getV ys o) := by
  by_cases h : 0 ≤ o ∧ o < max xs.length ys.length
  · obtain ⟨n, rfl⟩ := Int.eq_ofNat_of_zero_le h.1
    rw [getV_in h.1 (by rw [joinV_length]; omega)]
    have hn : n < max xs.length ys.length := by omega
    have e : (joinV xs ys)[n]? = some (max (getV xs n) (getV ys n)) := by
      unfold joinV joinN
      rw [List.getElem?_map, List.getElem?_range hn]; rfl
    rw [Int.toNat_natCast, e, Option.getD_some]
    have := getV_nonneg xs n
    omega
  · rw [getV_out (by rw [joinV_length]; omega), getV_out (xs := xs) (by omega), getV_out (xs := ys) (by omega)]; rfl
theorem joinV_range {xs ys : List Int} (hx : ∀ x ∈ xs, x ≤ 9223372036854775807) (hy : ∀ x ∈ ys, x ≤ 9223372036854775807) : ∀ x ∈ joinV xs ys, 0 ≤ x ∧ x ≤ 9223372036854775807 := by
  intro x h
  simp only [joinV, joinN, List.mem_map] at h
  obtain ⟨i, _, rfl⟩ := h
  have := getV_nonneg xs i
  have := getV_le hx i
  have := getV_le hy i
  omega

/-- Sum. -/
def psum (xs : List Int) : Nat → Int
  | 0 => 0
  | n + 1 => psum xs n + getV xs n
theorem psum_nonneg (xs : List Int) (n : Nat) : 0 ≤ psum xs n := by
  induction n with
  | zero => simp [psum]
  | succ n ih => have := getV_nonneg xs n; simp only [psum]; omega
theorem psum_mono (xs : List Int) {m n : Nat} (h : m ≤ n) : psum xs m ≤ psum xs n := by
  induction n with
  | zero => have : m = 0 := by omega
            subst this; omega
  | succ n ih =>
    by_cases e : m = n + 1
    · subst e; omega
    · have := ih (by omega); have := getV_nonneg xs n; simp only [psum]; omega
def totV (xs : List Int) : Int := psum xs xs.length
def sumOk (xs : List Int) : Bool := decide (totV xs ≤ 9223372036854775807)
def sumV (xs : List Int) : Int := if sumOk xs then totV xs else 0
theorem sumOk_false {xs : List Int} {k : Nat} (hk : k ≤ xs.length) (h : 9223372036854775807 < psum xs k) : sumOk xs = false := by
  have := psum_mono xs hk
  unfold sumOk totV; exact decide_eq_false (by omega)
theorem sumV_ok {xs : List Int} (h : sumOk xs = true) : sumV xs = totV xs := by simp [sumV, h]
theorem sumV_no {xs : List Int} (h : sumOk xs = false) : sumV xs = 0 := by simp [sumV, h]
/-- Noughts behind turn nothing. -/
theorem psum_past (xs : List Int) {n : Nat} (h : xs.length ≤ n) : psum xs n = totV xs := by
  induction n with
  | zero => have : xs.length = 0 := by omega
            simp [totV, this]
  | succ n ih =>
    by_cases e : xs.length = n + 1
    · simp [totV, e]
    · simp only [psum]; rw [ih (by omega), getV_past (by omega)]; omega
theorem psum_congr {xs ys : List Int} (h : ∀ i : Nat, getV xs i = getV ys i) (n : Nat) : psum xs n = psum ys n := by
  induction n with
  | zero => rfl
  | succ n ih => simp only [psum, ih, h n]
theorem totV_congr {xs ys : List Int} (h : ∀ i : Nat, getV xs i = getV ys i) : totV xs = totV ys := by
  rw [← psum_past xs (Nat.le_max_left xs.length ys.length), ← psum_past ys (Nat.le_max_right xs.length ys.length)]
  exact psum_congr h _
theorem psum_le {xs ys : List Int} (h : ∀ i : Nat, getV xs i ≤ getV ys i) (n : Nat) : psum xs n ≤ psum ys n := by
  induction n with
  | zero => simp [psum]
  | succ n ih => have := h n; simp only [psum]; omega
theorem totV_le {xs ys : List Int} (h : ∀ i : Nat, getV xs i ≤ getV ys i) : totV xs ≤ totV ys := by
  rw [← psum_past xs (Nat.le_max_left xs.length ys.length), ← psum_past ys (Nat.le_max_right xs.length ys.length)]
  exact psum_le h _
theorem psum_lt {xs ys : List Int} (h : ∀ i : Nat, getV xs i ≤ getV ys i) {k : Nat} (hk : getV xs k < getV ys k) {n : Nat} (hn : k < n) : psum xs n < psum ys n := by
  induction n with
  | zero => omega
  | succ n ih =>
    simp only [psum]
    by_cases e : k = n
    · subst e; have := psum_le h k; omega
    · have := ih (by omega); have := h n; omega
theorem totV_lt {xs ys : List Int} (h : ∀ i : Nat, getV xs i ≤ getV ys i) {k : Nat} (hk : getV xs k < getV ys k) : totV xs < totV ys := by
  rw [← psum_past xs (n := max (max xs.length ys.length) (k + 1)) (by omega), ← psum_past ys (n := max (max xs.length ys.length) (k + 1)) (by omega)]
  exact psum_lt h hk (by omega)
end Go.Proofs.YtjjccjannandlaaDoor
