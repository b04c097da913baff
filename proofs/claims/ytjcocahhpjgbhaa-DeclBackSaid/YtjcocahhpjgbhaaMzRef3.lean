/- The document's reader: number, whatever there is; From, Int, Done. -/
import Derived.Test.YtjcocahhpjgbhaaMzRef2
set_option maxRecDepth 100000
set_option maxRecDepth 100000
set_option linter.unusedVariables false
set_option linter.unusedSimpArgs false
namespace Go.Proofs.Ytjcocahhpjgbhaa
open Go.RowKit Go.BigFrame

theorem rnumber_any {xs : List Int} {S : Value} {p a : Nat} {why : Int} {w : World} (hR : Rd w p xs S a why) (hl : xs.length ≤ 1099511627776) (hb : Bytes xs) (n k e : Int) (hr : rnumR (xs.drop a) = (n, k, e)) :
    Calls Try.prog 47 #[.pointer (some ⟨p, 0, none⟩), .int .i64 a] w fun r w' => r = .returned (.tuple #[.int .i64 n, .int .i64 k, .int .i64 e]) ∧ w = w' := by
  have hbd := hb.drop a
  cases hx : xs.drop a with
  | nil =>
    rw [hx] at hr
    injection hr with h1 h2
    injection h2 with h2 h3
    subst h1 h2 h3
    exact rnum_empty hR (by have := congrArg List.length hx; rw [List.length_drop, List.length_nil] at this; omega)
  | cons h t =>
    rw [hx] at hr hbd
    obtain ⟨h0, h1⟩ := hbd h (by simp)
    have hbt : ∀ d ∈ t, 0 ≤ d ∧ d ≤ 255 := fun d hd => hbd d (by simp [hd])
    unfold rnumR at hr
    rw [numR_cons] at hr
    by_cases c1 : 8 < kOf h ∨ h = 16
    · rw [if_pos c1] at hr
      injection hr with e1 e2
      injection e2 with e2 e3
      subst e1 e2 e3
      exact rnum_head hR hl hx h0 h1 c1
    rw [if_neg c1] at hr
    have hk8 : kOf h ≤ 8 := by omega
    have hh16 : h ≠ 16 := fun e => c1 (.inr e)
    by_cases c2 : t.length < kOf h
    · rw [if_pos c2] at hr
      injection hr with e1 e2
      injection e2 with e2 e3
      subst e1 e2 e3
      refine rnum_short hR hl hx hk8 ?_ c2
      by_cases hgt : 16 < h
      · have := (kOf_hi hgt h1 hk8).1
        exact .inl ⟨hgt, by omega, by omega⟩
      · exact .inr ⟨by omega, (kOf_lo h0 (by omega) hh16).1.symm⟩
    rw [if_neg c2] at hr
    refine rnum_val hR hl hx hk8 hbt (by omega) n k e _ rfl ?_
    by_cases hgt : 16 < h
    · obtain ⟨k1, k2⟩ := kOf_hi hgt h1 hk8
      left
      refine ⟨hgt, by omega, by omega, ?_⟩
      by_cases c3 : 0 < kOf h ∧ t[0]?.getD 0 = 0
      · rw [if_pos c3] at hr
        injection hr with e1 e2
        injection e2 with e2 e3
        exact .inl ⟨.inl c3.2, e1.symm, e2.symm, e3.symm⟩
      · rw [if_neg c3, if_neg k2] at hr
        have hz : t[0]?.getD 0 ≠ 0 := fun e => c3 ⟨by omega, e⟩
        by_cases c5 : valD (t.take (kOf h)) ≤ 9223372036854775808
        · rw [if_pos c5] at hr
          injection hr with e1 e2
          injection e2 with e2 e3
          refine .inr ⟨hz, c5, e1.symm, ?_, e3.symm⟩
          rw [← e2]; simp
        · rw [if_neg c5] at hr
          injection hr with e1 e2
          injection e2 with e2 e3
          exact .inl ⟨.inr (by omega), e1.symm, e2.symm, e3.symm⟩
    · obtain ⟨k1, k2⟩ := kOf_lo h0 (by omega) hh16
      right
      refine ⟨by omega, k1.symm, ?_⟩
      by_cases c3 : 0 < kOf h ∧ t[0]?.getD 0 = 0
      · rw [if_pos c3] at hr
        injection hr with e1 e2
        injection e2 with e2 e3
        exact .inl ⟨.inl c3, e1.symm, e2.symm, e3.symm⟩
      · rw [if_neg c3, if_pos k2] at hr
        have hz : kOf h = 0 ∨ t[0]?.getD 0 ≠ 0 := by
          rcases Nat.eq_zero_or_pos (kOf h) with h' | h'
          · exact .inl h'
          · exact .inr fun e => c3 ⟨h', e⟩
        by_cases c5 : valD (t.take (kOf h)) < 9223372036854775808
        · rw [if_pos c5] at hr
          injection hr with e1 e2
          injection e2 with e2 e3
          refine .inr ⟨hz, c5, e1.symm, ?_, e3.symm⟩
          rw [← e2]; simp
        · rw [if_neg c5] at hr
          injection hr with e1 e2
          injection e2 with e2 e3
          exact .inl ⟨.inr (by omega), e1.symm, e2.symm, e3.symm⟩

theorem next_rnum {xs : List Int} {a : Nat} {n k e : Int} (hr : rnumR (xs.drop a) = (n, k, e)) : nextI xs (a, 0) = (n, (a + k.toNat, e)) ∧ (a : Int) + k = ((a + k.toNat : Nat) : Int) ∧ 0 ≤ k ∧ k ≤ xs.length := by
  unfold rnumR at hr
  unfold nextI
  rw [if_pos rfl]
  dsimp only
  cases h : numR (xs.drop a) with
  | inl c =>
    rw [h] at hr
    injection hr with e1 e2
    injection e2 with e2 e3
    subst e1 e2 e3
    exact ⟨rfl, by simp, by omega, by omega⟩
  | inr v =>
    obtain ⟨m, q⟩ := v
    rw [h] at hr
    injection hr with e1 e2
    injection e2 with e2 e3
    subst e1 e2 e3
    have := (numR_le h).1
    rw [List.length_drop] at this
    exact ⟨rfl, by simp, by omega, by omega⟩

set_option maxHeartbeats 2000000 in
theorem rInt_next {xs : List Int} {S : Value} {p : Nat} {st : Nat × Int} {w : World} (hR : Rd w p xs S (st.1 : Int) st.2) (hl : xs.length ≤ 1099511627776) (ha : st.1 ≤ xs.length) (hb : Bytes xs) (r : Int × Nat × Int) (hr : nextI xs st = r) :
    Calls Try.prog 35 #[.pointer (some ⟨p, 0, none⟩)] w fun e w' => e = .returned (.int .i64 r.1) ∧ But p w w' ∧ Rd w' p xs S (r.2.1 : Int) r.2.2 := by
  obtain ⟨a, why⟩ := st
  dsimp only at hR ha
  have hc1 := hR.c1
  have hc2 := hR.c2
  have hf1 := hR.fz 1
  have hf2 := hR.fz 2
  have hplt := hR.lt
  by_cases hw : why = 0
  · subst hw
    obtain ⟨⟨n, k, e⟩, hnke⟩ : ∃ z, rnumR (xs.drop a) = z := ⟨_, rfl⟩
    obtain ⟨h1, h2, h3, h4⟩ := next_rnum hnke
    rw [h1] at hr
    subst hr
    have HN := Lib.hid (rnumber_any hR hl hb n k e hnke)
    have hak : IntKind.i64.wrap ((a : Int) + k) = (a : Int) + k := IntWalk.i64_in _ (by omega)
    have HR := Lib.hid hR
    have H2 := Lib.hid h2
    clear hR hnke h1 h2 hb
    go_enter Try.func35, Try.ntmps35
    go_wp2_with fail
    refine HN.out.mono ?_
    rintro r w1 ⟨rfl, rfl⟩
    go_wp2_with fail
    go_ret
    refine ⟨rfl, ((But.refl _ _).store 1 _).store 2 _, ?_⟩
    have := (HR.out.setAt ((a : Int) + k)).setWhy e
    rw [H2.out] at this ⊢
    exact this
  · have e1 : nextI xs (a, why) = (0, a, why) := nextI_stop hw
    rw [e1] at hr
    subst hr
    have hwb : (why != 0) = true := by simp [hw]
    have HR := Lib.hid hR
    clear hR e1
    go_enter Try.func35, Try.ntmps35
    go_wp2_with fail
    go_ret
    exact ⟨rfl, But.refl _ _, HR.out⟩
end Go.Proofs.Ytjcocahhpjgbhaa
