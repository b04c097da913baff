/- A command's bytes, read: plain facts. -/
import Derived.Test.YtjcocahhpjgbhaaMzCGet
set_option maxRecDepth 100000
set_option maxRecDepth 100000
set_option linter.unusedVariables false
set_option linter.unusedSimpArgs false
namespace Go.Proofs.Ytjcocahhpjgbhaa
open Go.RowKit

abbrev V64 (v : Nat → Int) : Prop := ∀ i, i < 7 → -9223372036854775808 ≤ v i ∧ v i ≤ 9223372036854775807
theorem firstN_length (v : Nat → Int) (k : Nat) : (firstN v k).length = k := by simp
theorem firstN_get {v : Nat → Int} {k i : Nat} (h : i < k) : (firstN v k)[i]?.getD 0 = v i := by
  unfold firstN
  rw [List.getElem?_map, List.getElem?_range h]; rfl
theorem get_back {v : Nat → Int} (h : V64 v) (rest : List Int) : rdN (encs (firstN v 7) ++ rest) (0, 0) 7 = ((encs (firstN v 7)).length, 0) ∧ ∀ i, i < 7 → valN (encs (firstN v 7) ++ rest) (0, 0) i = v i := by
  have h64 := firstN_64 h (Nat.le_refl 7)
  obtain ⟨h1, h2⟩ := rdN_enc (xs := encs (firstN v 7) ++ rest) (rest := rest) (a := 0) h64 rfl
  rw [firstN_length, Nat.zero_add] at h1
  refine ⟨h1, fun i hi => ?_⟩
  rw [h2 i (by rw [firstN_length]; exact hi), firstN_get hi]
theorem getE_back {v : Nat → Int} (h : V64 v) : getE (encs (firstN v 7)) = 0 := by
  have := (get_back h []).1
  rw [List.append_nil] at this
  unfold getE doneN doneR
  rw [this]
  simp
theorem getC_back {v : Nat → Int} (h : V64 v) {i : Nat} (hi : i < 7) : getC (encs (firstN v 7)) i = v i := by
  have := (get_back h []).2 i hi
  rw [List.append_nil] at this
  unfold getC
  rw [if_pos (getE_back h), this]
theorem getE_long {v : Nat → Int} (h : V64 v) (x : Int) : getE (encs (firstN v 7) ++ [x]) = 5 := by
  unfold getE doneN doneR
  rw [(get_back h [x]).1]
  simp
  omega
theorem getE_cut {v : Nat → Int} (h : V64 v) {m : Nat} (hm : m < (encs (firstN v 7)).length) : getE ((encs (firstN v 7)).take m) = 4 := by
  have := rdN_cut (xs := (encs (firstN v 7)).take m) (a := 0) (firstN_64 h (Nat.le_refl 7)) rfl hm
  rw [firstN_length] at this
  unfold getE doneN doneR
  rw [this]
  simp
theorem getE_ok {b : List Int} (hb : Bytes b) (h : getE b = 0) : encs (firstN (getC b) 7) = b ∧ V64 (getC b) := by
  have hle := rdN_le (xs := b) (st := (0, 0)) (Nat.zero_le _) 7
  have hd : (rdN b (0, 0) 7).2 = 0 ∧ (rdN b (0, 0) 7).1 = b.length := by
    unfold getE doneN doneR at h
    split at h
    · cases h
    · rename_i hc
      exact ⟨h, by omega⟩
  obtain ⟨h1, h2, h3⟩ := rdN_ok hb (a := 0) (k := 7) hd.1
  rw [hd.2, List.drop_zero, Nat.sub_zero, List.take_length] at h2
  have e : firstN (getC b) 7 = firstN (valN b (0, 0)) 7 := by
    unfold firstN
    refine List.map_congr_left fun i hi => ?_
    unfold getC
    rw [if_pos h]
  refine ⟨e ▸ h2.symm, fun i hi => ?_⟩
  have := h3 (valN b (0, 0) i) (List.mem_map.2 ⟨i, List.mem_range.2 hi, rfl⟩)
  unfold getC
  rw [if_pos h]
  exact this
theorem getC_no {b : List Int} (h : getE b ≠ 0) (i : Nat) : getC b i = 0 := by
  unfold getC; rw [if_neg h]
theorem encs_pos {l : List Int} : l.length ≤ (encs l).length := by
  induction l with
  | nil => simp
  | cons n l ih =>
    have e : encs (n :: l) = encI n ++ encs l := rfl
    rw [e, List.length_append, encI_length, List.length_cons]; omega
theorem encs_byte {l : List Int} (h : I64s l) : Bytes (encs l) := by
  intro d hd
  obtain ⟨n, hn, hd⟩ := List.mem_flatMap.1 hd
  obtain ⟨h0, h1⟩ := h n hn
  have h8 := nb_le (u := mag n) (by have := mag_lt h0 h1; omega)
  unfold encI at hd
  rcases List.mem_cons.1 hd with rfl | h
  · unfold headI; split <;> omega
  · exact beD_byte _ _ d h
end Go.Proofs.Ytjcocahhpjgbhaa
