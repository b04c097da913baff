/- The document's reader: number, behind its head. -/
import Derived.Test.YtjcocahhpjgbhaaMzRef
set_option maxRecDepth 100000
set_option maxRecDepth 100000
set_option linter.unusedVariables false
set_option linter.unusedSimpArgs false
namespace Go.Proofs.Ytjcocahhpjgbhaa
open Go.RowKit Go.BigFrame

theorem drop_cons_get {xs t : List Int} {a : Nat} {h : Int} (hx : xs.drop a = h :: t) : a < xs.length ∧ xs[a]?.getD 0 = h ∧ t.length + a + 1 = xs.length ∧ ∀ j, xs[a + 1 + j]?.getD 0 = t[j]?.getD 0 := by
  have hlt : a < xs.length := by
    rcases Nat.lt_or_ge a xs.length with h' | h'
    · exact h'
    · rw [List.drop_eq_nil_of_le h'] at hx; cases hx
  have hlen := congrArg List.length hx
  rw [List.length_drop, List.length_cons] at hlen
  refine ⟨hlt, ?_, by omega, fun j => ?_⟩
  · have := congrArg List.head? hx
    rw [List.head?_drop] at this
    rw [this]; rfl
  · have ht : xs.drop (a + 1) = t := by rw [← List.drop_drop, hx]; rfl
    rw [← ht, List.getElem?_drop]

set_option maxHeartbeats 4000000 in
theorem rnum_short {xs t : List Int} {S : Value} {p a K : Nat} {why h : Int} {w : World} (hR : Rd w p xs S a why) (hl : xs.length ≤ 1099511627776) (hx : xs.drop a = h :: t) (hK8 : K ≤ 8) (hh : (16 < h ∧ 0 < K ∧ h - 16 = (K : Int)) ∨ (h ≤ 16 ∧ h = (K : Int))) (hs : t.length < K) :
    Calls Try.prog 47 #[.pointer (some ⟨p, 0, none⟩), .int .i64 a] w fun r w' => r = .returned (.tuple #[.int .i64 0, .int .i64 0, .int .i64 4]) ∧ w = w' := by
  obtain ⟨A, c, rfl⟩ := hR.sl.shape
  have hc0 := hR.c0
  obtain ⟨hlt, hxa, hlen, _⟩ := drop_cons_get hx
  obtain ⟨b, off, rfl, hbB, hcap, hcx⟩ := hR.sl.elem hlt
  rw [hxa] at hcx
  have hltI : ¬ (xs.length : Int) ≤ (a : Int) := by omega
  have hltI' : (a : Int) < (xs.length : Int) := by omega
  have hsh : (xs.length : Int) - (a : Int) - 1 < (K : Int) := by omega
  have hkk : ¬ (K : Int) > 8 := by omega
  have hcv : IntKind.i64.wrap h = h := IntWalk.i64_in _ (by omega)
  clear hR hx hxa
  rcases hh with ⟨k1, k3, k2⟩ | ⟨k1, k2⟩
  · have hsub : IntKind.i64.wrap (h - 16) = (K : Int) := by rw [k2]; exact IntWalk.i64_in _ (by omega)
    clear k2
    go_enter Try.func47, Try.ntmps47
    go_wp2
    simp [bodyPost, results, Try.results47, go_sem]
  · subst k2
    go_enter Try.func47, Try.ntmps47
    go_wp2
    simp [bodyPost, results, Try.results47, go_sem]

theorem valD_step {t : List Int} {j : Nat} (hj : j < t.length) : valD (t.take (j + 1)) = valD (t.take j) * 256 + (t[j]?.getD 0).toNat := by
  rw [take_succ' hj, valD_snoc]
theorem valD_take_lt {t : List Int} (h : ∀ d ∈ t, 0 ≤ d ∧ d ≤ 255) {j : Nat} (hj : j ≤ 7) : valD (t.take j) < 72057594037927936 := by
  have h1 := valD_lt (t.take j) (fun d hd => h d (List.mem_of_mem_take hd))
  have h2 : (t.take j).length ≤ 7 := by rw [List.length_take]; omega
  have h3 : 256 ^ (t.take j).length ≤ 256 ^ 7 := Nat.pow_le_pow_right (by decide) h2
  have h4 : (256 : Nat) ^ 7 = 72057594037927936 := by decide
  omega

set_option maxHeartbeats 8000000 in
theorem rnum_val {xs t : List Int} {S : Value} {p a K : Nat} {why h : Int} {w : World} (hR : Rd w p xs S a why) (hl : xs.length ≤ 1099511627776) (hx : xs.drop a = h :: t) (hK8 : K ≤ 8) (hbt : ∀ d ∈ t, 0 ≤ d ∧ d ≤ 255) (hs : K ≤ t.length)
    (n k e : Int) (u : Nat) (hu : u = valD (t.take K))
    (hh : (16 < h ∧ 0 < K ∧ h - 16 = (K : Int) ∧ ((t[0]?.getD 0 = 0 ∨ 9223372036854775808 < u) ∧ n = 0 ∧ k = 0 ∧ e = 5 ∨ t[0]?.getD 0 ≠ 0 ∧ u ≤ 9223372036854775808 ∧ n = -(u : Int) ∧ k = (K : Int) + 1 ∧ e = 0)) ∨
      (h ≤ 16 ∧ h = (K : Int) ∧ ((0 < K ∧ t[0]?.getD 0 = 0 ∨ 9223372036854775808 ≤ u) ∧ n = 0 ∧ k = 0 ∧ e = 5 ∨ (K = 0 ∨ t[0]?.getD 0 ≠ 0) ∧ u < 9223372036854775808 ∧ n = (u : Int) ∧ k = (K : Int) + 1 ∧ e = 0))) :
    Calls Try.prog 47 #[.pointer (some ⟨p, 0, none⟩), .int .i64 a] w fun r w' => r = .returned (.tuple #[.int .i64 n, .int .i64 k, .int .i64 e]) ∧ w = w' := by
  obtain ⟨A, c, rfl⟩ := hR.sl.shape
  have hc0 := hR.c0
  obtain ⟨hlt, hxa, hlen, hget⟩ := drop_cons_get hx
  obtain ⟨b, off, rfl, hbB, hcap, hcx⟩ := hR.sl.elem hlt
  rw [hxa] at hcx
  have HSL := Lib.hid hR.sl
  have HGET := Lib.hid hget
  have HBT := Lib.hid hbt
  have HU := Lib.hid hu
  have HLEN := Lib.hid hlen
  have hltI : ¬ (xs.length : Int) ≤ (a : Int) := by omega
  have hltI' : (a : Int) < (xs.length : Int) := by omega
  have hsh : ¬ (xs.length : Int) - (a : Int) - 1 < (K : Int) := by omega
  have hkk : ¬ (K : Int) > 8 := by omega
  have hcv : IntKind.i64.wrap h = h := IntWalk.i64_in _ (by omega)
  clear hR hx hxa hget hbt hu hlen
  rcases hh with ⟨k1, k3, k2, hh⟩ | ⟨k1, k2, hh⟩
  · have hsub : IntKind.i64.wrap (h - 16) = (K : Int) := by rw [k2]; exact IntWalk.i64_in _ (by omega)
    have hk0 : ((K : Int) == 0) = false := by simp; omega
    have HH := Lib.hid hh
    clear k2 hh
    go_enter Try.func47, Try.ntmps47
    go_wp2
    have HK0 := Lib.hid hK8
    go_loopw [9, 10] (fun q i wr => ∃ j : Nat, j ≤ K ∧ q = .int .u64 ((valD (t.take j) : Nat) : Int) ∧ i = .int .i64 j ∧ wr = w) (fun _ i _ => K - (intOf i).toNat)
    case atStart => exact ⟨0, Nat.zero_le _, rfl, rfl, rfl⟩
    case round =>
      obtain ⟨j, hj, rfl, rfl, rfl⟩ := hrel
      have hst := fun h : j < t.length => valD_step h
      obtain ⟨q, hq⟩ : ∃ q, q = valD (t.take j) := ⟨_, rfl⟩
      rw [← hq]
      rw [← hq] at hst
      by_cases hjK : j < K
      · have hql := valD_take_lt HBT.out (j := j) (by omega)
        rw [← hq] at hql
        have hjI : (j : Int) < (K : Int) := by omega
        obtain ⟨b', off', hA, _, _, hcd⟩ := HSL.out.elem (i := a + 1 + j) (by have := HLEN.out; omega)
        injection hA with hA
        injection hA with hA1 hA2
        subst hA1 hA2
        rw [HGET.out j] at hcd
        have hdb := HBT.out (t[j]?.getD 0) (by rw [List.getElem?_eq_getElem (by omega)]; exact List.getElem_mem _)
        have HST := Lib.hid (hst (by omega))
        obtain ⟨d, hd⟩ : ∃ d, d = t[j]?.getD 0 := ⟨_, rfl⟩
        rw [← hd] at hcd hdb HST
        have hmul : IntKind.u64.wrap ((q : Int) * 256) = (q : Int) * 256 := wraps_u64 _ (by omega) (by omega)
        have hcd2 : IntKind.u64.wrap d = d := wraps_u64 _ (by omega) (by omega)
        have hadd : IntKind.u64.wrap ((q : Int) * 256 + d) = (q : Int) * 256 + d := wraps_u64 _ (by omega) (by omega)
        have htn : ((a : Int) + 1 + (j : Int)).toNat = a + 1 + j := by omega
        have hi1 : (a : Int) + 1 + (j : Int) < (xs.length : Int) := by have := HLEN.out; omega
        clear hq hd hst
        go_wp2
        go_roundw
        case rel =>
          refine ⟨j + 1, by omega, ?_, by go_num, trivial⟩
          rw [HST.out, Int.natCast_add, Int.natCast_mul, Int.toNat_of_nonneg hdb.1]; rfl
        case measure => simp [intOf]; omega
      · have hjK' : j = K := by omega
        subst hjK'
        have hqu : q = u := by rw [hq, HU.out]
        subst hqu
        clear hq hst
        obtain ⟨b', off', hA, _, _, hcd⟩ := HSL.out.elem (i := a + 1) (by have := HLEN.out; omega)
        injection hA with hA
        injection hA with hA1 hA2
        subst hA1 hA2
        rw [show xs[a + 1]?.getD 0 = t[0]?.getD 0 from HGET.out 0] at hcd
        obtain ⟨d, hd⟩ : ∃ d, d = t[0]?.getD 0 := ⟨_, rfl⟩
        rw [← hd] at hcd HH
        have htn : ((a : Int) + 1).toNat = a + 1 := by omega
        have hi1 : (a : Int) + 1 < (xs.length : Int) := by have := HLEN.out; omega
        have hk3I : (j : Int) > 0 := by omega
        clear hd
        rcases HH.out with ⟨hz, rfl, rfl, rfl⟩ | ⟨hz, hq1, rfl, rfl, rfl⟩
        · by_cases hd0 : d = 0
          · subst hd0
            go_wp2
            simp [bodyPost, results, Try.results47, go_sem]
          · have hqI : (q : Int) > 9223372036854775808 := by rcases hz with h | h <;> omega
            have hdb0 : (d == 0) = false := by simp [hd0]
            clear hz
            go_wp2
            simp [bodyPost, results, Try.results47, go_sem]
        · have hdb0 : (d == 0) = false := by simp [hz]
          have hqI : ¬ (q : Int) > 9223372036854775808 := by omega
          obtain ⟨y, hy1, hy2⟩ : ∃ y, IntKind.u64.wrap (-(q : Int)) = y ∧ IntKind.i64.wrap y = -(q : Int) := by
            refine ⟨_, rfl, ?_⟩
            rw [IntKind.wrap_u64, IntKind.wrap_i64]; omega
          have hk1 : IntKind.i64.wrap ((j : Int) + 1) = (j : Int) + 1 := IntWalk.i64_in _ (by omega)
          clear hz
          go_wp2
          simp [bodyPost, results, Try.results47, go_sem]
  · subst k2
    have HH := Lib.hid hh
    clear hh
    go_enter Try.func47, Try.ntmps47
    go_wp2
    have HK0 := Lib.hid hK8
    go_loopw [9, 10] (fun q i wr => ∃ j : Nat, j ≤ K ∧ q = .int .u64 ((valD (t.take j) : Nat) : Int) ∧ i = .int .i64 j ∧ wr = w) (fun _ i _ => K - (intOf i).toNat)
    case atStart => exact ⟨0, Nat.zero_le _, rfl, rfl, rfl⟩
    case round =>
      obtain ⟨j, hj, rfl, rfl, rfl⟩ := hrel
      have hst := fun h : j < t.length => valD_step h
      obtain ⟨q, hq⟩ : ∃ q, q = valD (t.take j) := ⟨_, rfl⟩
      rw [← hq]
      rw [← hq] at hst
      by_cases hjK : j < K
      · have hql := valD_take_lt HBT.out (j := j) (by omega)
        rw [← hq] at hql
        have hjI : (j : Int) < (K : Int) := by omega
        obtain ⟨b', off', hA, _, _, hcd⟩ := HSL.out.elem (i := a + 1 + j) (by have := HLEN.out; omega)
        injection hA with hA
        injection hA with hA1 hA2
        subst hA1 hA2
        rw [HGET.out j] at hcd
        have hdb := HBT.out (t[j]?.getD 0) (by rw [List.getElem?_eq_getElem (by omega)]; exact List.getElem_mem _)
        have HST := Lib.hid (hst (by omega))
        obtain ⟨d, hd⟩ : ∃ d, d = t[j]?.getD 0 := ⟨_, rfl⟩
        rw [← hd] at hcd hdb HST
        have hmul : IntKind.u64.wrap ((q : Int) * 256) = (q : Int) * 256 := wraps_u64 _ (by omega) (by omega)
        have hcd2 : IntKind.u64.wrap d = d := wraps_u64 _ (by omega) (by omega)
        have hadd : IntKind.u64.wrap ((q : Int) * 256 + d) = (q : Int) * 256 + d := wraps_u64 _ (by omega) (by omega)
        have htn : ((a : Int) + 1 + (j : Int)).toNat = a + 1 + j := by omega
        have hi1 : (a : Int) + 1 + (j : Int) < (xs.length : Int) := by have := HLEN.out; omega
        clear hq hd hst
        go_wp2
        go_roundw
        case rel =>
          refine ⟨j + 1, by omega, ?_, by go_num, trivial⟩
          rw [HST.out, Int.natCast_add, Int.natCast_mul, Int.toNat_of_nonneg hdb.1]; rfl
        case measure => simp [intOf]; omega
      · have hjK' : j = K := by omega
        subst hjK'
        have hqu : q = u := by rw [hq, HU.out]
        subst hqu
        clear hq hst
        have hk1 : IntKind.i64.wrap ((j : Int) + 1) = (j : Int) + 1 := IntWalk.i64_in _ (by omega)
        by_cases hj0 : j = 0
        · have hj0I : ¬ (j : Int) > 0 := by omega
          rcases HH.out with ⟨hz, rfl, rfl, rfl⟩ | ⟨hz, hq1, rfl, rfl, rfl⟩
          · have hqI : (q : Int) > 9223372036854775807 := by omega
            clear hz
            go_wp2
            simp [bodyPost, results, Try.results47, go_sem]
          · have hqI : ¬ (q : Int) > 9223372036854775807 := by omega
            have hcq : IntKind.i64.wrap (q : Int) = (q : Int) := IntWalk.i64_in _ (by omega)
            clear hz
            go_wp2
            simp [bodyPost, results, Try.results47, go_sem]
        · obtain ⟨b', off', hA, _, _, hcd⟩ := HSL.out.elem (i := a + 1) (by have := HLEN.out; omega)
          injection hA with hA
          injection hA with hA1 hA2
          subst hA1 hA2
          rw [show xs[a + 1]?.getD 0 = t[0]?.getD 0 from HGET.out 0] at hcd
          obtain ⟨d, hd⟩ : ∃ d, d = t[0]?.getD 0 := ⟨_, rfl⟩
          rw [← hd] at hcd HH
          have htn : ((a : Int) + 1).toNat = a + 1 := by omega
          have hi1 : (a : Int) + 1 < (xs.length : Int) := by have := HLEN.out; omega
          have hj0I : (j : Int) > 0 := by omega
          clear hd
          rcases HH.out with ⟨hz, rfl, rfl, rfl⟩ | ⟨hz, hq1, rfl, rfl, rfl⟩
          · by_cases hd0 : d = 0
            · subst hd0
              go_wp2
              simp [bodyPost, results, Try.results47, go_sem]
            · have hqI : (q : Int) > 9223372036854775807 := by omega
              have hdb0 : (d == 0) = false := by simp [hd0]
              clear hz
              go_wp2
              simp [bodyPost, results, Try.results47, go_sem]
          · have hd0 : d ≠ 0 := by rcases hz with h | h; exact absurd h hj0; exact h
            have hdb0 : (d == 0) = false := by simp [hd0]
            have hqI : ¬ (q : Int) > 9223372036854775807 := by omega
            have hcq : IntKind.i64.wrap (q : Int) = (q : Int) := IntWalk.i64_in _ (by omega)
            clear hz
            go_wp2
            simp [bodyPost, results, Try.results47, go_sem]
end Go.Proofs.Ytjcocahhpjgbhaa
