/- Reading numbers and rows: plain facts. -/
import Derived.Test.YtjjccjannandlaaPackP
import Derived.Laws.BitsLemmas
import Derived.Laws.BitsAllLaws
set_option linter.unusedVariables false
set_option linter.unusedSimpArgs false
namespace Go.Proofs.Ytjjccjannandlaa
open Go.RowKit

/-- How many digits a head tells. -/
def kOf (h : Int) : Nat := (if h % 32 < 16 then h else h - 16).toNat
/-- What digits are worth, the highest first. -/
def valD : List Int → Nat := List.foldl (fun u d => u * 256 + d.toNat) 0
/-- What is read as a number: a code, or the number and how many bytes it has. -/
def numR : List Int → Int ⊕ (Int × Nat)
  | [] => .inl 4
  | h :: t =>
    if 8 < kOf h ∨ h = 16 then .inl 5
    else if t.length < kOf h then .inl 4
    else if 0 < kOf h ∧ t[0]?.getD 0 = 0 then .inl 5
    else if h % 32 < 16 then (if valD (t.take (kOf h)) < 9223372036854775808 then .inr (valD (t.take (kOf h)), kOf h + 1) else .inl 5)
    else (if valD (t.take (kOf h)) ≤ 9223372036854775808 then .inr (-(valD (t.take (kOf h)) : Int), kOf h + 1) else .inl 5)

theorem valD_snoc (l : List Int) (d : Int) : valD (l ++ [d]) = valD l * 256 + d.toNat := by simp [valD, List.foldl_append]
theorem valD_aux (l : List Int) (hl : ∀ d ∈ l, 0 ≤ d ∧ d ≤ 255) : ∀ u, List.foldl (fun u d => u * 256 + Int.toNat d) u l < (u + 1) * 256 ^ l.length := by
  induction l with
  | nil => intro u; simp
  | cons d l ih =>
    intro u
    have h1 := hl d (by simp)
    have h2 := ih (fun x hx => hl x (by simp [hx])) (u * 256 + d.toNat)
    simp only [List.foldl_cons, List.length_cons, Nat.pow_succ]
    refine Nat.lt_of_lt_of_le h2 ?_
    rw [Nat.mul_comm (256 ^ l.length) 256, ← Nat.mul_assoc]
    exact Nat.mul_le_mul_right _ (by omega)
theorem valD_lt (l : List Int) (hl : ∀ d ∈ l, 0 ≤ d ∧ d ≤ 255) : valD l < 256 ^ l.length := by
  have := valD_aux l hl 0
  simpa [valD] using this
theorem head_bits : ∀ h : Fin 256, bits .andNot .u8 ((h : Nat) : Int) 16 = (kOf ((h : Nat) : Int) : Int) ∧ bits .and .u8 ((h : Nat) : Int) 16 = (if ((h : Nat) : Int) % 32 < 16 then 0 else 16) := by decide +kernel
theorem head_not {h : Int} (h0 : 0 ≤ h) (h1 : h ≤ 255) : bits .andNot .u8 h 16 = (kOf h : Int) := by
  have := (head_bits ⟨h.toNat, by omega⟩).1
  simpa [Int.toNat_of_nonneg h0] using this
theorem head_and {h : Int} (h0 : 0 ≤ h) (h1 : h ≤ 255) : bits .and .u8 h 16 = (if h % 32 < 16 then 0 else 16) := by
  have := (head_bits ⟨h.toNat, by omega⟩).2
  simpa [Int.toNat_of_nonneg h0] using this
theorem wraps_u64 (n : Int) (h₀ : 0 ≤ n) (h₁ : n < 2 ^ 64) : IntKind.u64.wrap n = n := by rw [IntKind.wrap_u64]; omega
theorem or_digit {x y : Int} (h0 : 0 ≤ x) (hx : x % 256 = 0) (h1 : x < 18446744073709551616) (h2 : 0 ≤ y) (h3 : y < 256) : bits .or .u64 x y = x + y :=
  bits_join .u64 64 (by decide) wraps_u64 8 x y h0 (by omega) (by omega) h2 (by omega) (by omega)
end Go.Proofs.Ytjjccjannandlaa
