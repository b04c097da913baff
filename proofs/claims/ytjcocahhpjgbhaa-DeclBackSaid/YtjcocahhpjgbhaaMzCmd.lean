/- command.fields and command.Put. -/
import Derived.Test.YtjcocahhpjgbhaaMg2
import Derived.Test.YtjcocahhpjgbhaaMzKitF
import Derived.BigRegion
set_option maxRecDepth 100000
set_option maxRecDepth 100000
set_option linter.unusedVariables false
set_option linter.unusedSimpArgs false
namespace Go.Proofs.Ytjcocahhpjgbhaa
open Go.RowKit Go.BigFrame

/-- A command's value. -/
abbrev cmdV (v : Nat → Int) : Value := .agg #[.int .i64 (v 0), .int .i64 (v 1), .int .i64 (v 2), .int .i64 (v 3), .int .i64 (v 4), .int .i64 (v 5), .int .i64 (v 6)]
abbrev ptrs7 (q : Nat) : Value := .agg #[.pointer (some ⟨q, 0, none⟩), .pointer (some ⟨q, 1, none⟩), .pointer (some ⟨q, 2, none⟩), .pointer (some ⟨q, 3, none⟩), .pointer (some ⟨q, 4, none⟩), .pointer (some ⟨q, 5, none⟩), .pointer (some ⟨q, 6, none⟩)]

/-- Numbers, one behind the other. -/
def encs (l : List Int) : List Int := l.flatMap encI
theorem encs_snoc (l : List Int) (n : Int) : encs (l ++ [n]) = encs l ++ encI n := by simp [encs]
theorem encs_append (l t : List Int) : encs (l ++ t) = encs l ++ encs t := by simp [encs]
def I64s (l : List Int) : Prop := ∀ n ∈ l, -9223372036854775808 ≤ n ∧ n ≤ 9223372036854775807
theorem encs_le {l : List Int} (h : I64s l) : (encs l).length ≤ 9 * l.length := by
  induction l with
  | nil => simp [encs]
  | cons n l ih =>
    have h1 := h n (by simp)
    have h2 := nb_le (u := mag n) (by have := mag_lt h1.1 h1.2; omega)
    have h3 := ih (fun x hx => h x (by simp [hx]))
    have e : encs (n :: l) = encI n ++ encs l := rfl
    rw [e, List.length_append, encI_length, List.length_cons]; omega
/-- The first k numbers of a command. -/
abbrev firstN (v : Nat → Int) (k : Nat) : List Int := (List.range k).map v
theorem firstN_succ (v : Nat → Int) (k : Nat) : firstN v (k + 1) = firstN v k ++ [v k] := by unfold firstN; rw [List.range_succ, List.map_append]; rfl
theorem firstN_64 {v : Nat → Int} {n k : Nat} (h : ∀ i, i < n → -9223372036854775808 ≤ v i ∧ v i ≤ 9223372036854775807) (hk : k ≤ n) : I64s (firstN v k) := by
  intro x hx
  obtain ⟨i, hi, rfl⟩ := List.mem_map.1 hx
  have := List.mem_range.1 hi
  exact h i (by omega)

end Go.Proofs.Ytjcocahhpjgbhaa
