/- PackForm: the walk. -/
import Derived.Test.YtamnligooelmgaaPackL
import Derived.Test.YtamnligooelmgaaLays
import Derived.Test.YtamnligooelmgaaShown
set_option linter.unusedVariables false
set_option linter.unusedSimpArgs false
namespace Go.Proofs.Ytamnligooelmgaa
open Go.RowKit Go.BigFrame

theorem numR_err {l : List Int} {c : Int} (h : numR l = .inl c) : c = 4 ∨ c = 5 := by
  cases l with
  | nil => injection h with h; exact .inl h.symm
  | cons x t =>
    rw [numR_cons] at h
    split at h
    · injection h with h; exact .inr h.symm
    split at h
    · injection h with h; exact .inl h.symm
    split at h
    · injection h with h; exact .inr h.symm
    split at h
    all_goals
      split at h
      · cases h
      · injection h with h; exact .inr h.symm
theorem enc_0 : encI 0 = [0] := by decide +kernel
/-- Where no number is read there is no 0. -/
theorem numR_not0 {xs : List Int} {a : Nat} {c : Int} (h : numR (xs.drop a) = .inl c) (ha : a < xs.length) : xs.take a ++ [0] ≠ xs.take (a + 1) := by
  intro e
  rw [take_succ' ha] at e
  have e0 := List.append_cancel_left e
  rw [List.getElem?_eq_getElem ha] at e0
  have e1 : xs[a] = 0 := by simpa using e0.symm
  rw [List.drop_eq_getElem_cons ha, e1] at h
  have := numR_enc (n := 0) (by decide) (by decide) (xs.drop (a + 1))
  rw [enc_0] at this
  rw [List.singleton_append] at this
  rw [this] at h
  cases h
theorem Sl.cap {k : IntKind} {w : World} {B n c : Nat} {A : Option Addr} {xs : List Int} (h : Sl k w B (.slice A n c) xs) : xs.length ≤ c := by
  rcases h with ⟨A', c', hv, rfl⟩ | ⟨b, off, c', hv, hlt, hc, hx⟩
  · simp
  · injection hv with h1 h2 h3
    subst h3; exact hc
/-- What is read and laid again. -/
theorem form_next {xs : List Int} {a q : Nat} {m : Int} (hb : Bytes xs) (h : numR (xs.drop a) = .inr (m, q)) (ha : a ≤ xs.length) :
    xs.take a ++ encI m = xs.take (a + q) ∧ a + q ≤ xs.length ∧ 1 ≤ q ∧ -9223372036854775808 ≤ m ∧ m ≤ 9223372036854775807 := by
  obtain ⟨h1, h2, h3⟩ := encI_numR (hb.drop a) h
  obtain ⟨h4, h5⟩ := numR_le h
  rw [List.length_drop] at h4
  refine ⟨?_, by omega, h5, h2, h3⟩
  rw [h1, List.take_add]

set_option maxRecDepth 100000 in
set_option maxHeartbeats 4000000 in
theorem packForm_any (n : Int) (xs : List Int) (v : Value) (w : World) (hx : Sl .u8 w w.heap.size v xs) (hb : Bytes xs) (h0 : -9223372036854775808 ≤ n) (h1 : n ≤ 9223372036854775807) :
    Calls Try.prog 5 #[.int .i64 n, v] w fun e w' => e = .returned (.bool true) ∧ Below w.heap.size w w' := by
  obtain ⟨A, c, rfl⟩ := hx.shape
  have hcap := hx.cap
  have HX := Lib.hid hx
  have HBY := Lib.hid hb
  have HP := Lib.hid (pint_any [] n _ w.heap.size w Sl.nil_ (Nat.le_refl _) (by decide) h0 h1)
  have hu := mag_lt h0 h1
  have hK8 := nb_le (u := mag n) (by omega)
  have hiff : ∀ k, k < nb (mag n) ↔ 256 ^ k ≤ mag n := fun k => nb_iff (by omega)
  have hlen := encI_length n
  obtain ⟨u, hue⟩ : ∃ u, u = mag n := ⟨_, rfl⟩
  have hsg : (n < 0 ∧ ∃ x : Int, IntKind.u64.wrap n = x ∧ IntKind.u64.wrap (-x) = (u : Int)) ∨ (0 ≤ n ∧ IntKind.u64.wrap n = (u : Int)) := by
    by_cases hn : n < 0
    · left
      obtain ⟨x, c1, c2⟩ := u64_neg h0 hn
      exact ⟨hn, x, c1, by rw [hue]; exact c2⟩
    · exact .inr ⟨by omega, by rw [hue]; exact u64_pos h1 (by omega)⟩
  rw [← hue] at hu hK8 hiff hlen
  obtain ⟨K, hKe⟩ : ∃ K, K = nb u := ⟨_, rfl⟩
  rw [← hKe] at hK8 hiff hlen
  have HIFF := Lib.hid hiff
  have HLEN := Lib.hid hlen
  have hst : (u : Int) = ((u / 256 ^ 0 : Nat) : Int) := by simp
  have HST := Lib.hid hst
  clear hx hb h0 h1 hue hKe hiff hlen hst
  rcases hsg with ⟨hn, x, c1, c2⟩ | ⟨hn, c1⟩
  all_goals
    go_enter Try.func5, Try.ntmps5
    go_wp2_with fail
    refine HP.out.mono ?_
    rintro e w1 ⟨r1, rfl, ho1, hb1⟩
    rw [List.nil_append] at ho1
    obtain ⟨A1, k1, hr1⟩ := ho1.sl.shape
    rw [HLEN.out] at hr1
    subst hr1
    have HB1 := Lib.hid hb1
    clear ho1 hb1 HP
    go_wp2_with fail
    go_loopw [6, 7] (fun t i wr => ∃ j : Nat, j ≤ K ∧ t = .int .u64 ((u / 256 ^ j : Nat) : Int) ∧ i = .int .i64 j ∧ wr = w1) (fun _ i _ => K - (intOf i).toNat)
    case atStart => exact ⟨0, Nat.zero_le _, by rw [← HST.out], rfl, rfl⟩
    case round =>
      obtain ⟨j, hj, rfl, rfl, rfl⟩ := hrel
      obtain ⟨q, hq⟩ : ∃ q, q = u / 256 ^ j := ⟨_, rfl⟩
      have hqu : q ≤ u := by rw [hq]; exact Nat.div_le_self _ _
      have hq1 : q / 256 = u / 256 ^ (j + 1) := by rw [hq, Nat.div_div_eq_div_mul, Nat.pow_succ]
      have hzero : 0 < q ↔ j < K := by
        rw [hq, HIFF.out j]
        exact Nat.div_pos_iff.trans ⟨fun h => h.2, fun h => ⟨Nat.pow_pos (by decide), h⟩⟩
      rw [← hq]
      have HQ1 := Lib.hid hq1
      clear hq hq1
      by_cases hlt : j < K
      · have hqp := hzero.2 hlt
        have hqI : (0 : Int) < (q : Int) := by omega
        clear hzero
        go_wp2
        go_roundw
        case rel => exact ⟨j + 1, by omega, by rw [← HQ1.out]; rfl, by go_num, trivial⟩
        case measure => simp [intOf]; omega
      · have hq0 : q = 0 := by omega
        subst hq0
        have hjK : j = K := by omega
        subst hjK
        clear hzero HQ1 hlt HST HIFF
        obtain ⟨W1, rfl⟩ : ∃ W1, W1 = wr := ⟨_, rfl⟩
        by_cases hbig : 4096 < (xs.length : Int)
        · go_wp2_with fail
          refine (shown_any _).mono ?_
          rintro e w2 ⟨rfl, hb⟩
          have HB := Lib.hid (Bel.then HB1.out hb)
          clear hb
          go_wp2_with fail
          go_ret
          exact ⟨rfl, HB.out⟩
        · go_wp2_with fail
          refine (From_any xs _ _ (HX.out.later HB1.out) (by omega)).mono ?_
          rintro e w2 ⟨p, S, rfl, hp, hb2, hR⟩
          have hwp : w.heap.size ≤ p := Nat.le_trans HB1.out.size hp
          have HB2 := Lib.hid (Bel.then HB1.out hb2)
          have HR2 := Lib.hid hR
          clear hb2 hR HB1 hp
          go_wp2_with fail
          have hxl : xs.length ≤ 4096 := by omega
          go_loopw [9, 10] (fun t i wr => ∃ k a : Nat, k ≤ 4096 ∧ k ≤ a ∧ a ≤ xs.length ∧ i = .int .i64 k ∧ OwnBytes wr (p + 1) t (xs.take a) ∧ Below w.heap.size w wr ∧ Rd wr p xs S (a : Int) 0) (fun _ i _ => 4096 - (intOf i).toNat)
          case atStart => exact ⟨0, 0, Nat.zero_le _, Nat.zero_le _, Nat.zero_le _, rfl, OwnK.nil_ _ _, HB2.out, HR2.out⟩
          case round =>
            obtain ⟨k, a, hk, hka, hax, rfl, hown, hb, hR⟩ := hrel
            obtain ⟨A9, c9, h9⟩ := hown.sl.shape
            rw [List.length_take_of_le hax] at h9
            subst h9
            have HO := Lib.hid hown
            have HB := Lib.hid hb
            have HR := Lib.hid hR
            clear HR2 HB2 hown hb hR
            by_cases hk2 : k < 4096
            · have hkI : (k : Int) < 4096 := by omega
              cases hnum : numR (xs.drop a) with
              | inr mq =>
                obtain ⟨m, q⟩ := mq
                obtain ⟨e1, e2, e3, e4, e5⟩ := form_next HBY.out hnum hax
                have HE1 := Lib.hid e1
                have HST : Hid (stepR (numR (xs.drop a)) a 0 = (m, ((a + q : Nat) : Int), 0)) := by rw [hnum]; rfl
                clear e1 hnum
                go_wp2_with fail
                refine (Int_any HR.out (by omega) hax HBY.out _ HST.out).mono ?_
                rintro e w3 ⟨rfl, hb3, hR3⟩
                have hp3 := HR.out.lt
                have HO3 := Lib.hid (HO.out.but (Nat.lt_succ_self p) hb3)
                have HB3 := Lib.hid (HB.out.trans (hb3.below hwp HB.out.size))
                have HR3 := Lib.hid hR3
                clear hb3 hR3 HO HB HR HST
                dsimp only
                go_wp2_with fail
                refine (pint_any (xs.take a) m _ _ _ HO3.out.sl (Nat.le_refl _) (by rw [List.length_take_of_le hax]; omega) e4 e5).mono ?_
                rintro e w4 ⟨r4, rfl, ho4, hb4⟩
                rw [HE1.out] at ho4
                obtain ⟨L, hL⟩ : ∃ L, L = a + q := ⟨_, rfl⟩
                rw [← hL] at ho4 HR3 e2
                have HL := Lib.hid hL
                clear hL
                obtain ⟨A4, c4, h4⟩ := ho4.sl.shape
                rw [List.length_take_of_le e2] at h4
                subst h4
                have HO4 := Lib.hid ho4
                have HB4 := Lib.hid (Bel.then HB3.out hb4)
                have HR4 := Lib.hid (HR3.out.below hb4)
                have hs3 := HR3.out.lt
                clear ho4 hb4 HO3 HB3 HR3 HE1
                have hLI : (L : Int) ≤ (xs.length : Int) := by omega
                obtain ⟨A5, c5, he5⟩ := sliced_shape A 0 L c
                rw [Nat.sub_zero] at he5
                have hcut := fun W => run_upto A xs.length c L (by omega) W
                rw [he5] at hcut
                have HS5 : Hid (Sl .u8 w4 w4.heap.size (.slice A5 L c5) (xs.take L)) := by
                  have := (HX.out.later HB4.out).upto_ (a := L) e2
                  rw [he5] at this
                  exact this
                clear he5
                go_wp2_with fail
                refine (sameBytes_is HO4.out.sl HS5.out (b := true) (decide_eq_true rfl) (by rw [List.length_take_of_le e2]; omega)).mono ?_
                rintro e w5 ⟨rfl, hb5⟩
                have HO5 := Lib.hid (HO4.out.later hb5)
                have HB5 := Lib.hid (Bel.then HB4.out hb5)
                have HR5 := Lib.hid (HR4.out.below hb5)
                clear hb5 HO4 HB4 HR4 HS5 hcut
                go_wp2_with fail
                go_roundw
                case rel => exact ⟨k + 1, L, by omega, by have := HL.out; omega, e2, by go_num, HO5.out.down hs3, HB5.out, HR5.out⟩
                case measure => simp [intOf]; omega
              | inl cd =>
                have hcd := numR_err hnum
                have HST : Hid (stepR (numR (xs.drop a)) a 0 = (0, (a : Int), cd)) := by rw [hnum]; rfl
                have HN0 : Hid (a < xs.length → xs.take a ++ [0] ≠ xs.take (a + 1)) := fun h => numR_not0 hnum h
                have HC4 : Hid (a = xs.length → cd = 4) := by
                  intro h
                  rw [h, List.drop_length] at hnum
                  injection hnum with h'; exact h'.symm
                have HCD := Lib.hid hcd
                clear hnum hcd
                go_wp2_with fail
                refine (Int_any HR.out (by omega) hax HBY.out _ HST.out).mono ?_
                rintro e w3 ⟨rfl, hb3, hR3⟩
                have HO3 := Lib.hid (HO.out.but (Nat.lt_succ_self p) hb3)
                have HB3 := Lib.hid (HB.out.trans (hb3.below hwp HB.out.size))
                have HR3 : Hid (Rd w3 p xs S (a : Int) cd) := hR3
                clear hb3 hR3 HO HB HR HST
                dsimp only
                go_wp2_with fail
                refine (pint_any (xs.take a) 0 _ _ _ HO3.out.sl (Nat.le_refl _) (by rw [List.length_take_of_le hax]; omega) (by decide) (by decide)).mono ?_
                rintro e w4 ⟨r4, rfl, ho4, hb4⟩
                rw [enc_0] at ho4
                obtain ⟨L, hL⟩ : ∃ L, L = a + 1 := ⟨_, rfl⟩
                obtain ⟨A4, c4, h4⟩ := ho4.sl.shape
                rw [List.length_append, List.length_take_of_le hax, show a + ([0] : List Int).length = L from hL.symm] at h4
                subst h4
                have HL := Lib.hid hL
                clear hL
                have HO4 := Lib.hid ho4
                have HB4 := Lib.hid (Bel.then HB3.out hb4)
                have HR4 := Lib.hid (HR3.out.below hb4)
                clear ho4 hb4 HO3 HB3 HR3
                by_cases hlt : a < xs.length
                · have e2 : L ≤ xs.length := by have := HL.out; omega
                  have hLI : (L : Int) ≤ (xs.length : Int) := by omega
                  have hne := HN0.out hlt
                  rw [← HL.out] at hne
                  have HNE := Lib.hid hne
                  have hal : ((a : Int) == (xs.length : Int)) = false := by simp; omega
                  obtain ⟨A5, c5, he5⟩ := sliced_shape A 0 L c
                  rw [Nat.sub_zero] at he5
                  have hcut := fun W => run_upto A xs.length c L (by omega) W
                  rw [he5] at hcut
                  have HS5 : Hid (Sl .u8 w4 w4.heap.size (.slice A5 L c5) (xs.take L)) := by
                    have := (HX.out.later HB4.out).upto_ (a := L) e2
                    rw [he5] at this
                    exact this
                  clear he5 hne
                  go_wp2_with fail
                  refine (sameBytes_is HO4.out.sl HS5.out (b := false) (decide_eq_false HNE.out) (by rw [List.length_append, List.length_take_of_le hax, List.length_singleton]; omega)).mono ?_
                  rintro e w5 ⟨rfl, hb5⟩
                  have HB5 := Lib.hid (Bel.then HB4.out hb5)
                  have HR5 := Lib.hid (HR4.out.below hb5)
                  clear hb5 HO4 HB4 HR4 HS5 hcut
                  go_wp2_with fail
                  refine (Done_any HR5.out).mono ?_
                  rw [show doneR xs a cd = cd from by unfold doneR; rw [if_neg (by have := HCD.out; omega)]]
                  rintro e w6 ⟨rfl, hb6⟩
                  have HB6 := Lib.hid (Bel.then HB5.out hb6)
                  clear hb6 HB5 HR5
                  rcases HCD.out with rfl | rfl
                  all_goals
                    go_wp2_with fail
                    refine (shown_any _).mono ?_
                    rintro e w7 ⟨rfl, hb7⟩
                    have HB7 := Lib.hid (Bel.then HB6.out hb7)
                    clear hb7
                    go_wp2_with fail
                    go_ret
                    exact ⟨rfl, HB7.out⟩
                · have hae : a = xs.length := by omega
                  have := HC4.out hae
                  subst this
                  have hLI : (L : Int) > (xs.length : Int) := by have := HL.out; omega
                  have hal : ((a : Int) == (xs.length : Int)) = true := by simp; omega
                  go_wp2_with fail
                  refine (Done_any HR4.out).mono ?_
                  rw [show doneR xs a 4 = 4 from by unfold doneR; rw [if_neg (by omega)]]
                  rintro e w6 ⟨rfl, hb6⟩
                  have HB6 := Lib.hid (Bel.then HB4.out hb6)
                  clear hb6 HB4 HR4
                  go_wp2_with fail
                  refine (shown_any _).mono ?_
                  rintro e w7 ⟨rfl, hb7⟩
                  have HB7 := Lib.hid (Bel.then HB6.out hb7)
                  clear hb7
                  go_wp2_with fail
                  go_ret
                  exact ⟨rfl, HB7.out⟩
            · have hk4 : k = 4096 := by omega
              subst hk4
              have hae : a = xs.length := by omega
              have hal : ((a : Int) == (xs.length : Int)) = true := by simp; omega
              go_wp2_with fail
              refine (Done_any HR.out).mono ?_
              rw [show doneR xs a 0 = 0 from by unfold doneR; rw [if_neg (by omega)]]
              rintro e w6 ⟨rfl, hb6⟩
              have HB6 := Lib.hid (Bel.then HB.out hb6)
              clear hb6 HB HR
              go_wp2_with fail
              refine (shown_any _).mono ?_
              rintro e w7 ⟨rfl, hb7⟩
              have HB7 := Lib.hid (Bel.then HB6.out hb7)
              clear hb7
              go_wp2_with fail
              go_ret
              exact ⟨rfl, HB7.out⟩
end Go.Proofs.Ytamnligooelmgaa
