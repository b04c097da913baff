/- The document's reader: Count. -/
import Derived.Test.YtjcocahhpjgbhaaMzDGet3
import Derived.Test.YtjcocahhpjgbhaaMzRef4
set_option maxRecDepth 100000
set_option maxRecDepth 100000
set_option maxRecDepth 100000
set_option linter.unusedVariables false
set_option linter.unusedSimpArgs false
namespace Go.Proofs.Ytjcocahhpjgbhaa
open Go.RowKit Go.BigFrame

def rcountR (l : List Int) (most : Int) : Int × Int × Int := match countR l most with | .inl c => (0, 0, c) | .inr (n, k) => (n, (k : Int), 0)
set_option maxHeartbeats 2000000 in
theorem counted_any {xs : List Int} {S : Value} {p a : Nat} {why most : Int} {w : World} (hR : Rd w p xs S a why) (hl : xs.length ≤ 1099511627776) (hb : Bytes xs) (n k e : Int) (hr : rcountR (xs.drop a) most = (n, k, e)) :
    Calls Try.prog 46 #[.pointer (some ⟨p, 0, none⟩), .int .i64 most] w fun r w' => r = .returned (.tuple #[.int .i64 n, .int .i64 k, .int .i64 e]) ∧ w = w' := by
  have hc1 := hR.c1
  have hplt := hR.lt
  obtain ⟨⟨m, j, c⟩, hz⟩ : ∃ z, rnumR (xs.drop a) = z := ⟨_, rfl⟩
  have HN := Lib.hid (rnumber_any hR hl hb m j c hz)
  have hcase : (c ≠ 0 ∧ n = m ∧ k = j ∧ e = c) ∨ (c = 0 ∧ m < 0 ∧ n = 0 ∧ k = 0 ∧ e = 3) ∨ (c = 0 ∧ 0 ≤ m ∧ most < m ∧ n = 0 ∧ k = 0 ∧ e = 3) ∨ (c = 0 ∧ 0 ≤ m ∧ m ≤ most ∧ n = m ∧ k = j ∧ e = 0) := by
    unfold rnumR at hz
    unfold rcountR countR at hr
    cases h : numR (xs.drop a) with
    | inl d =>
      rw [h] at hz hr
      injection hz with e1 e2
      injection e2 with e2 e3
      injection hr with e4 e5
      injection e5 with e5 e6
      refine .inl ⟨?_, by omega, by omega, by omega⟩
      rcases numR_err0 h with h2 | h2 <;> omega
    | inr v =>
      obtain ⟨q, i⟩ := v
      rw [h] at hz hr
      dsimp only at hz hr
      injection hz with e1 e2
      injection e2 with e2 e3
      by_cases hq : 0 ≤ q ∧ q ≤ most
      · rw [if_pos hq] at hr
        injection hr with e4 e5
        injection e5 with e5 e6
        exact .inr (.inr (.inr ⟨by omega, by omega, by omega, by omega, by omega, by omega⟩))
      · rw [if_neg hq] at hr
        injection hr with e4 e5
        injection e5 with e5 e6
        by_cases h0 : q < 0
        · exact .inr (.inl ⟨by omega, by omega, by omega, by omega, by omega⟩)
        · exact .inr (.inr (.inl ⟨by omega, by omega, by omega, by omega, by omega, by omega⟩))
  clear hr hz hR hb
  rcases hcase with ⟨h0, rfl, rfl, rfl⟩ | ⟨rfl, h1, rfl, rfl, rfl⟩ | ⟨rfl, h1, h2, rfl, rfl, rfl⟩ | ⟨rfl, h1, h2, rfl, rfl, rfl⟩
  · have hcb : (e == 0) = false := by simp [h0]
    go_enter Try.func46, Try.ntmps46
    go_wp2_with fail
    refine HN.out.mono ?_
    rintro r w1 ⟨rfl, rfl⟩
    go_wp2_with fail
    simp [bodyPost, results, Try.results46, go_sem]
  · go_enter Try.func46, Try.ntmps46
    go_wp2_with fail
    refine HN.out.mono ?_
    rintro r w1 ⟨rfl, rfl⟩
    go_wp2_with fail
    simp [bodyPost, results, Try.results46, go_sem]
  · go_enter Try.func46, Try.ntmps46
    go_wp2_with fail
    refine HN.out.mono ?_
    rintro r w1 ⟨rfl, rfl⟩
    go_wp2_with fail
    simp [bodyPost, results, Try.results46, go_sem]
  · go_enter Try.func46, Try.ntmps46
    go_wp2_with fail
    refine HN.out.mono ?_
    rintro r w1 ⟨rfl, rfl⟩
    go_wp2_with fail
    simp [bodyPost, results, Try.results46, go_sem]
theorem next_rcnt {xs : List Int} {a : Nat} {most n k e : Int} (hr : rcountR (xs.drop a) most = (n, k, e)) : nextC xs most (a, 0) = (n, (a + k.toNat, e)) ∧ (a : Int) + k = ((a + k.toNat : Nat) : Int) ∧ 0 ≤ k ∧ k ≤ xs.length := by
  unfold rcountR at hr
  unfold nextC
  rw [if_pos rfl]
  dsimp only
  cases h : countR (xs.drop a) most with
  | inl c =>
    rw [h] at hr
    injection hr with e1 e2
    injection e2 with e2 e3
    subst e1 e2 e3
    exact ⟨rfl, by simp, by omega, by omega⟩
  | inr v =>
    obtain ⟨m, q⟩ := v
    rw [h] at hr
    injection hr with e1 e2
    injection e2 with e2 e3
    subst e1 e2 e3
    have := (numR_le (countR_num h).1).1
    rw [List.length_drop] at this
    exact ⟨rfl, by simp, by omega, by omega⟩
set_option maxHeartbeats 2000000 in
theorem rCount_next {xs : List Int} {S : Value} {p : Nat} {most : Int} {st : Nat × Int} {w : World} (hR : Rd w p xs S (st.1 : Int) st.2) (hl : xs.length ≤ 1099511627776) (ha : st.1 ≤ xs.length) (hb : Bytes xs) (r : Int × Nat × Int) (hr : nextC xs most st = r) :
    Calls Try.prog 33 #[.pointer (some ⟨p, 0, none⟩), .int .i64 most] w fun e w' => e = .returned (.int .i64 r.1) ∧ But p w w' ∧ Rd w' p xs S (r.2.1 : Int) r.2.2 := by
  obtain ⟨a, why⟩ := st
  dsimp only at hR ha
  have hc1 := hR.c1
  have hc2 := hR.c2
  have hf1 := hR.fz 1
  have hf2 := hR.fz 2
  have hplt := hR.lt
  by_cases hw : why = 0
  · subst hw
    obtain ⟨⟨n, k, e⟩, hnke⟩ : ∃ z, rcountR (xs.drop a) most = z := ⟨_, rfl⟩
    obtain ⟨h1, h2, h3, h4⟩ := next_rcnt hnke
    rw [h1] at hr
    subst hr
    have HN := Lib.hid (counted_any hR hl hb n k e hnke)
    have hak : IntKind.i64.wrap ((a : Int) + k) = (a : Int) + k := IntWalk.i64_in _ (by omega)
    have HR := Lib.hid hR
    have H2 := Lib.hid h2
    clear hR hnke h1 h2 hb
    go_enter Try.func33, Try.ntmps33
    go_wp2_with fail
    refine HN.out.mono ?_
    rintro r w1 ⟨rfl, rfl⟩
    go_wp2_with fail
    go_ret
    refine ⟨rfl, ((But.refl _ _).store 1 _).store 2 _, ?_⟩
    have := (HR.out.setAt ((a : Int) + k)).setWhy e
    rw [H2.out] at this ⊢
    exact this
  · have e1 : nextC xs most (a, why) = (0, a, why) := nextC_stop hw
    rw [e1] at hr
    subst hr
    have hwb : (why != 0) = true := by simp [hw]
    have HR := Lib.hid hR
    clear hR e1
    go_enter Try.func33, Try.ntmps33
    go_wp2_with fail
    go_ret
    exact ⟨rfl, But.refl _ _, HR.out⟩
end Go.Proofs.Ytjcocahhpjgbhaa
