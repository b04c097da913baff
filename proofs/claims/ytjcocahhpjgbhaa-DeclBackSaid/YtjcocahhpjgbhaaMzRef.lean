/- The document's reader: number. -/
import Derived.Test.YtjcocahhpjgbhaaMzInts
set_option maxRecDepth 100000
set_option maxRecDepth 100000
set_option linter.unusedVariables false
set_option linter.unusedSimpArgs false
namespace Go.Proofs.Ytjcocahhpjgbhaa
open Go.RowKit Go.BigFrame

/-- What the document's number answers. -/
def rnumR (l : List Int) : Int × Int × Int := match numR l with | .inl c => (0, 0, c) | .inr (n, k) => (n, (k : Int), 0)
theorem kOf_lo {h : Int} (h0 : 0 ≤ h) (h1 : h ≤ 16) (h2 : h ≠ 16) : (kOf h : Int) = h ∧ h % 32 < 16 := by
  have e : h % 32 < 16 := by omega
  unfold kOf; rw [if_pos e]; omega
theorem kOf_hi {h : Int} (h0 : 16 < h) (h1 : h ≤ 255) (h8 : kOf h ≤ 8) : (kOf h : Int) = h - 16 ∧ ¬ h % 32 < 16 := by
  unfold kOf at h8 ⊢
  split at h8
  · omega
  · rename_i hc
    rw [if_neg hc]
    omega
theorem kOf_bad {h : Int} (h0 : 16 < h) (h1 : h ≤ 255) (h8 : ¬ kOf h ≤ 8) : 24 < h := by
  unfold kOf at h8
  split at h8 <;> omega

set_option maxHeartbeats 2000000 in
theorem rnum_empty {xs : List Int} {S : Value} {p a : Nat} {why : Int} {w : World} (hR : Rd w p xs S a why) (ha : xs.length ≤ a) :
    Calls Try.prog 47 #[.pointer (some ⟨p, 0, none⟩), .int .i64 a] w fun r w' => r = .returned (.tuple #[.int .i64 0, .int .i64 0, .int .i64 4]) ∧ w = w' := by
  obtain ⟨A, c, rfl⟩ := hR.sl.shape
  have hc0 := hR.c0
  have haI : (xs.length : Int) ≤ (a : Int) := by omega
  clear hR ha
  go_enter Try.func47, Try.ntmps47
  go_wp2
  simp [bodyPost, results, Try.results47, go_sem]

set_option maxHeartbeats 4000000 in
theorem rnum_head {xs t : List Int} {S : Value} {p a : Nat} {why h : Int} {w : World} (hR : Rd w p xs S a why) (hl : xs.length ≤ 1099511627776) (hx : xs.drop a = h :: t) (h0 : 0 ≤ h) (h1 : h ≤ 255) (hbad : 8 < kOf h ∨ h = 16) :
    Calls Try.prog 47 #[.pointer (some ⟨p, 0, none⟩), .int .i64 a] w fun r w' => r = .returned (.tuple #[.int .i64 0, .int .i64 0, .int .i64 5]) ∧ w = w' := by
  obtain ⟨A, c, rfl⟩ := hR.sl.shape
  have hc0 := hR.c0
  have hlt : a < xs.length := by
    rcases Nat.lt_or_ge a xs.length with h' | h'
    · exact h'
    · rw [List.drop_eq_nil_of_le h'] at hx; cases hx
  obtain ⟨b, off, rfl, hbB, hcap, hcx⟩ := hR.sl.elem hlt
  have hxa : xs[a]?.getD 0 = h := by
    have := congrArg List.head? hx
    rw [List.head?_drop] at this
    rw [this]; rfl
  rw [hxa] at hcx
  have hltI : ¬ (xs.length : Int) ≤ (a : Int) := by omega
  have hltI' : (a : Int) < (xs.length : Int) := by omega
  have hcv : IntKind.i64.wrap h = h := IntWalk.i64_in _ (by omega)
  have hcase : (24 < h ∧ 16 < h) ∨ (8 < h ∧ h ≤ 16) := by
    by_cases h16 : 16 < h
    · left
      rcases hbad with hb | hb
      · exact ⟨kOf_bad h16 h1 (by omega), h16⟩
      · omega
    · right
      rcases hbad with hb | hb
      · by_cases he : h = 16
        · omega
        · have := (kOf_lo h0 (by omega) he).1
          omega
      · omega
  clear hR hx hbad hxa
  rcases hcase with ⟨k1, k2⟩ | ⟨k1, k2⟩
  · have hsub : IntKind.i64.wrap (h - 16) = h - 16 := IntWalk.i64_in _ (by omega)
    have hgt : 8 < h - 16 := by omega
    go_enter Try.func47, Try.ntmps47
    go_wp2
    simp [bodyPost, results, Try.results47, go_sem]
  · go_enter Try.func47, Try.ntmps47
    go_wp2
    simp [bodyPost, results, Try.results47, go_sem]
end Go.Proofs.Ytjcocahhpjgbhaa
