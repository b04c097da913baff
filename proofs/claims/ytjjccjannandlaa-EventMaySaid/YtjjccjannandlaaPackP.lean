/- Numbers laid as bytes: plain facts. -/
import Derived.Test.YtjjccjannandlaaKitC
import Derived.Lib.ItoaNum
import Derived.Lib.BitFns
set_option linter.unusedVariables false
set_option linter.unusedSimpArgs false
namespace Go.Proofs.Ytjjccjannandlaa
open Go.RowKit

/-- How many bytes a magnitude has. -/
def nb (u : Nat) : Nat := (Lib.bitLen u + 7) / 8
theorem pow256 (k : Nat) : 256 ^ k = 2 ^ (8 * k) := by
  rw [Nat.pow_mul]
theorem nb_iff {u k : Nat} (hu : u < 18446744073709551616) : k < nb u ↔ 256 ^ k ≤ u := by
  have hu' : u < 2 ^ 64 := hu
  rw [pow256]
  unfold nb
  by_cases h0 : u = 0
  · subst h0
    have : Lib.bitLen 0 = 0 := Lib.bitLenAux_zero 64
    rw [this]
    have := Nat.two_pow_pos (8 * k)
    omega
  · obtain ⟨h1, h2, h3⟩ := Lib.bitLenAux_bounds 64 u hu' h0
    have e : Lib.bitLen u = Lib.bitLenAux 64 u := rfl
    rw [e]
    generalize Lib.bitLenAux 64 u = L at *
    constructor
    · intro h
      have : 8 * k ≤ L - 1 := by omega
      exact Nat.le_trans (Nat.pow_le_pow_right (by omega) this) h2
    · intro h
      have : 8 * k < L := by
        rcases Nat.lt_or_ge (8 * k) L with h' | h'
        · exact h'
        · have := Nat.pow_le_pow_right (n := 2) (by omega) h'
          omega
      omega
theorem nb_le {u : Nat} (hu : u < 18446744073709551616) : nb u ≤ 8 := by
  have h : ¬ 8 < nb u := fun h => by
    have := (nb_iff hu).1 h
    have e : (256 : Nat) ^ 8 = 18446744073709551616 := by decide
    omega
  omega
theorem lt_nb {u : Nat} (hu : u < 18446744073709551616) : u < 256 ^ nb u := by
  have := (nb_iff (k := nb u) hu)
  omega

/-- The last k bytes, the highest first. -/
def beD (u : Nat) : Nat → List Int
  | 0 => []
  | k + 1 => ((u / 256 ^ k % 256 : Nat) : Int) :: beD u k
theorem beD_length (u k : Nat) : (beD u k).length = k := by induction k with
  | zero => rfl
  | succ k ih => simp [beD, ih]
theorem beD_byte (u k : Nat) : ∀ x ∈ beD u k, 0 ≤ x ∧ x ≤ 255 := by
  induction k with
  | zero => intro x h; cases h
  | succ k ih =>
    intro x h
    simp only [beD, List.mem_cons] at h
    rcases h with rfl | h
    · omega
    · exact ih x h
/-- How far from 0. -/
def mag (n : Int) : Nat := n.natAbs
/-- The head's byte. -/
def headI (n : Int) : Int := (nb (mag n) : Int) + (if n < 0 then 16 else 0)
/-- A number's bytes. -/
def encI (n : Int) : List Int := headI n :: beD (mag n) (nb (mag n))
/-- A row's bytes. -/
def encB (xs : List Int) : List Int := encI xs.length ++ xs
theorem encI_length (n : Int) : (encI n).length = nb (mag n) + 1 := by simp [encI, beD_length]
theorem mag_lt {n : Int} (h0 : -9223372036854775808 ≤ n) (h1 : n ≤ 9223372036854775807) : mag n ≤ 9223372036854775808 := by unfold mag; omega
end Go.Proofs.Ytjjccjannandlaa
