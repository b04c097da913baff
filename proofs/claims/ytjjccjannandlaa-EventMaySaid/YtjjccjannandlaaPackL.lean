/- Reading what was laid: plain facts. -/
import Derived.Test.YtjjccjannandlaaReadD
set_option linter.unusedVariables false
set_option linter.unusedSimpArgs false
namespace Go.Proofs.Ytjjccjannandlaa
open Go.RowKit

theorem valD_acc (u k : Nat) : ∀ acc, List.foldl (fun u d => u * 256 + Int.toNat d) acc (beD u k) = acc * 256 ^ k + u % 256 ^ k := by
  induction k with
  | zero => intro acc; simp [beD, Nat.mod_one]
  | succ k ih =>
    intro acc
    simp only [beD, List.foldl_cons]
    rw [ih, Int.toNat_natCast, Nat.mod_pow_succ, Nat.pow_succ, Nat.add_mul, Nat.mul_assoc, Nat.mul_comm (256 ^ k) 256, Nat.mul_comm (u / 256 ^ k % 256)]
    omega
theorem valD_beD {u k : Nat} (h : u < 256 ^ k) : valD (beD u k) = u := by
  have := valD_acc u k 0
  unfold valD
  rw [this, Nat.mod_eq_of_lt h]; omega
theorem headI_is {n : Int} (h0 : -9223372036854775808 ≤ n) (h1 : n ≤ 9223372036854775807) :
    kOf (headI n) = nb (mag n) ∧ ¬ (8 < kOf (headI n) ∨ headI n = 16) ∧ (headI n % 32 < 16 ↔ 0 ≤ n) := by
  have hm := mag_lt h0 h1
  have h8 := nb_le (u := mag n) (by omega)
  have hpos : n < 0 → 0 < nb (mag n) := fun h => (nb_iff (by omega)).2 (by unfold mag; simp; omega)
  unfold headI kOf
  by_cases hn : n < 0
  · have := hpos hn
    rw [if_pos hn]
    refine ⟨?_, ?_, ?_⟩
    · rw [if_neg (by omega)]; omega
    · rw [if_neg (by omega)]; omega
    · omega
  · rw [if_neg hn]
    refine ⟨?_, ?_, ?_⟩
    · rw [if_pos (by omega)]; omega
    · rw [if_pos (by omega)]; omega
    · omega
theorem beD_head {u k : Nat} (hk : 0 < k) : (beD u k)[0]?.getD 0 = ((u / 256 ^ (k - 1) % 256 : Nat) : Int) := by
  cases k with
  | zero => omega
  | succ k => rfl
theorem nb_top {u : Nat} (hu : u < 18446744073709551616) (h : 0 < nb u) : u / 256 ^ (nb u - 1) % 256 ≠ 0 := by
  have h1 := (nb_iff (k := nb u - 1) hu).1 (by omega)
  have h2 := lt_nb hu
  have h3 : 0 < u / 256 ^ (nb u - 1) := Nat.div_pos h1 (Nat.pow_pos (by decide))
  have h4 : u / 256 ^ (nb u - 1) < 256 := by
    rw [Nat.div_lt_iff_lt_mul (Nat.pow_pos (by decide)), Nat.mul_comm, ← Nat.pow_succ, show (nb u - 1).succ = nb u from by omega]
    exact h2
  omega

/-- A number is read as it was laid. -/
theorem numR_enc {n : Int} (h0 : -9223372036854775808 ≤ n) (h1 : n ≤ 9223372036854775807) (t : List Int) : numR (encI n ++ t) = .inr (n, (encI n).length) := by
  obtain ⟨e1, e2, e3⟩ := headI_is h0 h1
  have hm := mag_lt h0 h1
  have hlen := beD_length (mag n) (nb (mag n))
  have hval : valD ((beD (mag n) (nb (mag n)) ++ t).take (kOf (headI n))) = mag n := by
    rw [e1, List.take_append_of_le_length (by omega), List.take_of_length_le (by omega), valD_beD (lt_nb (by omega))]
  have hz : ¬ (0 < kOf (headI n) ∧ (beD (mag n) (nb (mag n)) ++ t)[0]?.getD 0 = 0) := by
    rintro ⟨ha, hb⟩
    rw [e1] at ha
    rw [List.getElem?_append_left (by omega), beD_head ha] at hb
    exact nb_top (by omega) ha (by omega)
  rw [encI_length]
  unfold encI
  rw [List.cons_append, numR_cons, if_neg e2, if_neg (by rw [List.length_append, e1]; omega), if_neg hz, hval]
  by_cases hn : 0 ≤ n
  · rw [if_pos (e3.2 hn), if_pos (by unfold mag; omega), e1]
    congr 2
    unfold mag; omega
  · rw [if_neg (fun h => hn (e3.1 h)), if_pos hm, e1]
    congr 2
    unfold mag; omega
theorem countR_enc {n most : Int} (h0 : 0 ≤ n) (h1 : n ≤ most) (h2 : n ≤ 9223372036854775807) (t : List Int) : countR (encI n ++ t) most = .inr (n, (encI n).length) := by
  unfold countR
  rw [numR_enc (by omega) h2]
  simp only
  rw [if_pos ⟨h0, h1⟩]
/-- A row is read as it was laid. -/
theorem blobR_enc {xs : List Int} (h : xs.length ≤ 2147483647) (t : List Int) : blobR (encB xs ++ t) = .inr (xs, (encB xs).length) := by
  unfold blobR encB
  rw [List.append_assoc, countR_enc (by omega) (by omega) (by omega)]
  simp only [Int.toNat_natCast]
  rw [if_pos (by simp)]
  rw [List.drop_left, List.take_left, List.length_append]

/-- Of a number whose last bytes are cut off, nothing is read. -/
theorem numR_cut {n : Int} (h0 : -9223372036854775808 ≤ n) (h1 : n ≤ 9223372036854775807) {m : Nat} (hm : m < (encI n).length) : numR ((encI n).take m) = .inl 4 := by
  obtain ⟨e1, e2, e3⟩ := headI_is h0 h1
  rw [encI_length] at hm
  unfold encI
  cases m with
  | zero => rfl
  | succ m =>
    rw [List.take_succ_cons, numR_cons, if_neg e2, if_pos (by rw [List.length_take, beD_length, e1]; omega)]
/-- Nor of a row. -/
theorem blobR_cut {xs : List Int} (h : xs.length ≤ 2147483647) {m : Nat} (hm : m < (encB xs).length) : blobR ((encB xs).take m) = .inl 4 := by
  have hl : (encB xs).length = (encI xs.length).length + xs.length := by unfold encB; rw [List.length_append]
  by_cases hc : m < (encI (xs.length : Int)).length
  · unfold blobR countR encB
    rw [List.take_append_of_le_length (by omega), numR_cut (by omega) (by omega) hc]
  · unfold blobR
    rw [show (encB xs).take m = encI (xs.length : Int) ++ xs.take (m - (encI (xs.length : Int)).length) from by unfold encB; rw [List.take_append, List.take_of_length_le (by omega)]]
    rw [countR_enc (by omega) (by omega) (by omega)]
    simp only [Int.toNat_natCast]
    rw [if_neg (by rw [List.length_append, List.length_take]; omega)]

/-! The way back: what is read as a number has one form. -/
theorem valD_cons (d : Int) (l : List Int) : valD (d :: l) = d.toNat * 256 ^ l.length + valD l := by
  have key : ∀ (l : List Int) (acc : Nat), List.foldl (fun u d => u * 256 + Int.toNat d) acc l = acc * 256 ^ l.length + valD l := by
    intro l
    induction l with
    | nil => intro acc; simp [valD]
    | cons x l ih =>
      intro acc
      unfold valD
      simp only [List.foldl_cons, List.length_cons]
      rw [ih, ih (0 * 256 + x.toNat), Nat.pow_succ, Nat.add_mul, Nat.mul_assoc, Nat.mul_comm 256 (256 ^ l.length)]
      simp [Nat.add_assoc]
  show List.foldl (fun u d => u * 256 + Int.toNat d) 0 (d :: l) = _
  simp only [List.foldl_cons]
  rw [key]; simp
theorem beD_mod {u v k : Nat} (h : u % 256 ^ k = v % 256 ^ k) : beD u k = beD v k := by
  induction k with
  | zero => rfl
  | succ k ih =>
    have hk : u % 256 ^ k = v % 256 ^ k := by
      have := congrArg (· % 256 ^ k) h
      simp only [Nat.pow_succ, Nat.mod_mul_right_mod] at this
      exact this
    have hd : u / 256 ^ k % 256 = v / 256 ^ k % 256 := by
      rw [Nat.mod_pow_succ, Nat.mod_pow_succ, hk] at h
      have := Nat.add_left_cancel h
      exact Nat.eq_of_mul_eq_mul_left (Nat.pow_pos (by decide)) this
    simp only [beD]
    rw [ih hk, hd]
theorem beD_valD {l : List Int} (hl : ∀ d ∈ l, 0 ≤ d ∧ d ≤ 255) : beD (valD l) l.length = l := by
  induction l with
  | nil => rfl
  | cons d l ih =>
    have hd := hl d (by simp)
    have hl' : ∀ x ∈ l, 0 ≤ x ∧ x ≤ 255 := fun x hx => hl x (by simp [hx])
    have hlt := valD_lt l hl'
    rw [valD_cons, List.length_cons]
    simp only [beD]
    rw [beD_mod (v := valD l) (by rw [Nat.mul_add_mod_self_right]), ih hl']
    congr 1
    rw [Nat.mul_comm, Nat.mul_add_div (Nat.pow_pos (by decide)), Nat.div_eq_of_lt hlt]
    omega
theorem encI_numR {l : List Int} {n : Int} {k : Nat} (hb : Bytes l) (h : numR l = .inr (n, k)) : encI n = l.take k ∧ -9223372036854775808 ≤ n ∧ n ≤ 9223372036854775807 := by
  cases l with
  | nil => cases h
  | cons x t =>
    obtain ⟨hx0, hx1⟩ := hb x (by simp)
    rw [numR_cons] at h
    split at h
    · cases h
    rename_i c1
    split at h
    · cases h
    rename_i c2
    split at h
    · cases h
    rename_i c3
    have hbt : ∀ d ∈ t.take (kOf x), 0 ≤ d ∧ d ≤ 255 := fun d hd => hb d (by simp [List.mem_of_mem_take hd])
    have hlt := valD_lt _ hbt
    have hlen : (t.take (kOf x)).length = kOf x := by rw [List.length_take]; omega
    rw [hlen] at hlt
    have hbe := beD_valD hbt
    rw [hlen] at hbe
    have hk8 : kOf x ≤ 8 := by omega
    have hp : 256 ^ kOf x ≤ 18446744073709551616 := Nat.le_trans (Nat.pow_le_pow_right (by decide) hk8) (by decide)
    obtain ⟨u, hu⟩ : ∃ u, u = valD (t.take (kOf x)) := ⟨_, rfl⟩
    rw [← hu] at h hlt hbe
    have hnb : nb u = kOf x := by
      have hi : ∀ j, j < nb u ↔ 256 ^ j ≤ u := fun j => nb_iff (by omega)
      rcases Nat.eq_zero_or_pos (kOf x) with h0 | h0
      · rw [h0] at hlt ⊢
        have : u = 0 := by simpa using hlt
        subst this
        rcases Nat.eq_zero_or_pos (nb 0) with h' | h'
        · exact h'
        · have := (hi 0).1 h'
          simp at this
      · have ha : ¬ kOf x < nb u := fun h' => by have := (hi _).1 h'; omega
        have hb' : kOf x - 1 < nb u := (hi _).2 (by
          have hc : ¬ t[0]?.getD 0 = 0 := fun e => c3 ⟨h0, e⟩
          cases t with
          | nil => simp at hlen; omega
          | cons d t' =>
            obtain ⟨j, hj⟩ : ∃ j, kOf x = j + 1 := ⟨kOf x - 1, by omega⟩
            rw [hj] at hu hbt hlen ⊢
            rw [List.take_succ_cons] at hu hbt hlen
            have hd := hbt d (by simp)
            have hd0 : d ≠ 0 := by simpa using hc
            rw [List.length_cons] at hlen
            rw [hu, valD_cons, show (t'.take j).length = j from by omega]
            show 256 ^ j ≤ _
            have : 256 ^ j ≤ d.toNat * 256 ^ j := Nat.le_mul_of_pos_left _ (by omega)
            omega)
        omega
    have hkx : kOf x = (if x % 32 < 16 then x else x - 16).toNat := rfl
    have hfin : ∀ s : Int, mag s = u → headI s = x → encI s = (x :: t).take (kOf x + 1) := fun s h1 h2 => by
      unfold encI
      rw [h1, h2, hnb, hbe, List.take_succ_cons]
    split at h
    · rename_i c4
      rw [if_pos c4] at hkx
      split at h
      · rename_i c5
        injection h with h
        injection h with e1 e2
        subst e1 e2
        refine ⟨hfin _ (by unfold mag; omega) ?_, by omega, by omega⟩
        unfold headI
        rw [show mag (u : Int) = u from by unfold mag; omega, hnb, if_neg (by omega)]
        omega
      · cases h
    · rename_i c4
      rw [if_neg c4] at hkx
      split at h
      · rename_i c5
        injection h with h
        injection h with e1 e2
        subst e1 e2
        have hu0 : 0 < u := by
          rcases Nat.eq_zero_or_pos u with h0 | h0
          · exfalso
            rw [h0] at hnb
            have : nb 0 = 0 := by decide +kernel
            omega
          · exact h0
        refine ⟨hfin _ (by unfold mag; omega) ?_, by omega, by omega⟩
        unfold headI
        rw [show mag (-(u : Int)) = u from by unfold mag; omega, hnb, if_pos (by omega)]
        omega
      · cases h
end Go.Proofs.Ytjjccjannandlaa
