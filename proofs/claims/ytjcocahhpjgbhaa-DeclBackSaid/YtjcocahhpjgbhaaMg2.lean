/- Read2, Read3, Read4, Read5, Read6, Read7, Read8, Read9, KitE, ReadA, ReadB, ReadC, ReadD, PackL. -/
import Derived.Test.YtjcocahhpjgbhaaMg1
import Derived.Deep.RegionLaw
set_option maxRecDepth 100000
/- The reader: number. -/
set_option maxRecDepth 100000
set_option linter.unusedVariables false
set_option linter.unusedSimpArgs false
namespace Go.Proofs.Ytjcocahhpjgbhaa
open Go.RowKit Go.BigFrame

theorem kOf_le {h : Int} (h0 : 0 ≤ h) (h1 : h ≤ 255) : kOf h ≤ 255 := by unfold kOf; split <;> omega

set_option maxHeartbeats 1000000 in
theorem number_empty (xs : List Int) (S : Value) (p a : Nat) (why : Int) (w : World) (hR : Rd w p xs S a why) (hl : xs.length ≤ 1099511627776) (ha : a = xs.length) :
    Calls Try.prog 61 #[.pointer (some ⟨p, 0, none⟩)] w fun e w' => e = .panicked (haltP 4) ∧ But p w w' ∧ ∃ a', Rd w' p xs S a' why := by
  have HR := Lib.hid hR
  clear hR
  go_enter Try.func61, Try.ntmps61
  go_wp2_with fail
  refine (take_no xs S p a 1 why _ HR.out hl (by omega) (by omega) (by omega)).mono ?_
  rintro e w1 ⟨rfl, hB1, hR1⟩
  exact ⟨rfl, rfl, hB1, _, hR1⟩

set_option maxHeartbeats 1000000 in
theorem number_head (xs : List Int) (S : Value) (p a : Nat) (why : Int) (w : World) (hR : Rd w p xs S a why) (hl : xs.length ≤ 1099511627776) (h : Int) (t : List Int) (hx : xs.drop a = h :: t) (h0 : 0 ≤ h) (h1 : h ≤ 255) (hbad : 8 < kOf h ∨ h = 16) :
    Calls Try.prog 61 #[.pointer (some ⟨p, 0, none⟩)] w fun e w' => e = .panicked (haltP 5) ∧ But p w w' ∧ ∃ a', Rd w' p xs S a' why := by
  have hlen : xs.length = a + 1 + t.length := by
    have := congrArg List.length hx
    rw [List.length_drop, List.length_cons] at this
    omega
  have hpiece : (xs.drop a).take 1 = [h] := by rw [hx]; rfl
  have HR := Lib.hid hR
  have HX := Lib.hid hx
  have hk := kOf_le h0 h1
  have hn1 := head_not h0 h1
  clear hR hx
  go_enter Try.func61, Try.ntmps61
  go_wp2_with fail
  refine (take_ok xs S p a 1 why _ HR.out hl (by omega)).mono ?_
  rintro e w1 ⟨r, rfl, hB1, hR1, hS1⟩
  rw [hpiece] at hS1
  obtain ⟨A1, c1, rfl⟩ := hS1.shape
  obtain ⟨b, off, rfl, hbB, hcap, hcx⟩ := hS1.elem (i := 0) (by simp)
  simp only [List.length_singleton, List.length_cons, List.length_nil, Nat.add_zero, List.getElem?_cons_zero, Option.getD_some] at hcx hcap ⊢
  rcases hbad with hbad | rfl
  · have hbI : ¬ (kOf h : Int) ≤ 8 := by omega
    go_wp2_with fail
    refine (must_no 5 _).mono ?_
    rintro e w2 ⟨rfl, rfl⟩
    exact ⟨rfl, rfl, hB1, _, hR1⟩
  · have hbI : (kOf 16 : Int) ≤ 8 := by decide
    go_wp2_with fail
    refine (must_no 5 _).mono ?_
    rintro e w2 ⟨rfl, rfl⟩
    exact ⟨rfl, rfl, hB1, _, hR1⟩

set_option maxHeartbeats 2000000 in
theorem number_short (xs : List Int) (S : Value) (p a : Nat) (why : Int) (w : World) (hR : Rd w p xs S a why) (hl : xs.length ≤ 1099511627776) (h : Int) (t : List Int) (hx : xs.drop a = h :: t) (h0 : 0 ≤ h) (h1 : h ≤ 255) (hk8 : kOf h ≤ 8) (hh : ¬ h = 16) (hs : t.length < kOf h) :
    Calls Try.prog 61 #[.pointer (some ⟨p, 0, none⟩)] w fun e w' => e = .panicked (haltP 4) ∧ But p w w' ∧ ∃ a', Rd w' p xs S a' why := by
  have hlen : xs.length = a + 1 + t.length := by
    have := congrArg List.length hx
    rw [List.length_drop, List.length_cons] at this
    omega
  have hpiece : (xs.drop a).take 1 = [h] := by rw [hx]; rfl
  have hdrop : xs.drop (a + 1) = t := by rw [← List.drop_drop, hx]; rfl
  have HR := Lib.hid hR
  have hk := kOf_le h0 h1
  have hn1 := head_not h0 h1
  have hbI : (kOf h : Int) ≤ 8 := by omega
  have hne : (h != 16) = true := by simp [hh]
  clear hR hx
  go_enter Try.func61, Try.ntmps61
  go_wp2_with fail
  refine (take_ok xs S p a 1 why _ HR.out hl (by omega)).mono ?_
  rintro e w1 ⟨r, rfl, hB1, hR1, hS1⟩
  rw [hpiece] at hS1
  obtain ⟨A1, c1, rfl⟩ := hS1.shape
  obtain ⟨b, off, rfl, hbB, hcap, hcx⟩ := hS1.elem (i := 0) (by simp)
  simp only [List.length_singleton, List.length_cons, List.length_nil, Nat.add_zero, List.getElem?_cons_zero, Option.getD_some] at hcx hcap ⊢
  go_wp2_with fail
  refine (must_ok 5 _).mono ?_
  rintro e w2 ⟨rfl, rfl⟩
  clear hS1 hcx
  have hkn : a + 1 ≤ xs.length := by omega
  go_wp2_with fail
  refine (take_no xs S p (a + 1) (kOf h) why _ hR1 hl (by omega) hkn (by omega)).mono ?_
  rintro e w3 ⟨rfl, hB3, hR3⟩
  exact ⟨rfl, rfl, hB1.trans hB3, _, hR3⟩

set_option maxHeartbeats 2000000 in
theorem number_zero (xs : List Int) (S : Value) (p a : Nat) (why : Int) (w : World) (hR : Rd w p xs S a why) (hl : xs.length ≤ 1099511627776) (h : Int) (t : List Int) (hx : xs.drop a = h :: t) (h0 : 0 ≤ h) (h1 : h ≤ 255) (hk8 : kOf h ≤ 8) (hh : ¬ h = 16) (hs : kOf h ≤ t.length) (hz0 : 0 < kOf h) (hz : t[0]?.getD 0 = 0) :
    Calls Try.prog 61 #[.pointer (some ⟨p, 0, none⟩)] w fun e w' => e = .panicked (haltP 5) ∧ But p w w' ∧ ∃ a', Rd w' p xs S a' why := by
  have hlen : xs.length = a + 1 + t.length := by
    have := congrArg List.length hx
    rw [List.length_drop, List.length_cons] at this
    omega
  have hpiece : (xs.drop a).take 1 = [h] := by rw [hx]; rfl
  have hdrop : xs.drop (a + 1) = t := by rw [← List.drop_drop, hx]; rfl
  have HR := Lib.hid hR
  have hk := kOf_le h0 h1
  have hn1 := head_not h0 h1
  have hbI : (kOf h : Int) ≤ 8 := by omega
  have hne : (h != 16) = true := by simp [hh]
  clear hR hx
  go_enter Try.func61, Try.ntmps61
  go_wp2_with fail
  refine (take_ok xs S p a 1 why _ HR.out hl (by omega)).mono ?_
  rintro e w1 ⟨r, rfl, hB1, hR1, hS1⟩
  rw [hpiece] at hS1
  obtain ⟨A1, c1, rfl⟩ := hS1.shape
  obtain ⟨b, off, rfl, hbB, hcap, hcx⟩ := hS1.elem (i := 0) (by simp)
  simp only [List.length_singleton, List.length_cons, List.length_nil, Nat.add_zero, List.getElem?_cons_zero, Option.getD_some] at hcx hcap ⊢
  go_wp2_with fail
  refine (must_ok 5 _).mono ?_
  rintro e w2 ⟨rfl, rfl⟩
  clear hS1 hcx
  have hkn : a + 1 ≤ xs.length := by omega
  go_wp2_with fail
  refine (take_ok xs S p (a + 1) (kOf h) why _ hR1 hl (by omega)).mono ?_
  rintro e w3 ⟨r2, rfl, hB3, hR3, hS3⟩
  rw [hdrop] at hS3
  have hBB := hB1.trans hB3
  clear hB1 hB3 hR1
  obtain ⟨ds, hds⟩ : ∃ ds, ds = t.take (kOf h) := ⟨_, rfl⟩
  have hdl : ds.length = kOf h := by rw [hds, List.length_take]; omega
  rw [← hds] at hS3
  have hd0 : ds[0]?.getD 0 = 0 := by rw [hds, List.getElem?_take_of_lt hz0]; exact hz
  obtain ⟨A2, c2, rfl⟩ := hS3.shape
  obtain ⟨b2, off2, rfl, hbB2, hcap2, hcx2⟩ := hS3.elem (i := 0) (by omega)
  rw [hd0, Nat.add_zero] at hcx2
  have hkz : ((kOf h : Int) == 0) = false := by simp; omega
  have hdpos : (0 : Int) < (ds.length : Int) := by omega
  clear hS3 hds hd0
  go_wp2_with fail
  refine (must_no 5 _).mono ?_
  rintro e w4 ⟨rfl, rfl⟩
  exact ⟨rfl, rfl, hBB, _, hR3⟩
end Go.Proofs.Ytjcocahhpjgbhaa

/- The reader: number, its digits. -/
set_option maxRecDepth 100000
set_option linter.unusedVariables false
set_option linter.unusedSimpArgs false
namespace Go.Proofs.Ytjcocahhpjgbhaa
open Go.RowKit Go.BigFrame

set_option maxHeartbeats 4000000 in
theorem number_val (xs : List Int) (S : Value) (p a : Nat) (why : Int) (w : World) (hR : Rd w p xs S a why) (hl : xs.length ≤ 1099511627776) (h : Int) (t : List Int) (hx : xs.drop a = h :: t) (h0 : 0 ≤ h) (h1 : h ≤ 255) (hk8 : kOf h ≤ 8) (hh : ¬ h = 16) (hs : kOf h ≤ t.length) (hz : kOf h = 0 ∨ ¬ t[0]?.getD 0 = 0) (hby : ∀ d ∈ t, 0 ≤ d ∧ d ≤ 255) (hV : (h % 32 < 16 ∧ valD (t.take (kOf h)) < 9223372036854775808) ∨ (¬ h % 32 < 16 ∧ valD (t.take (kOf h)) ≤ 9223372036854775808)) (N m : Int) (hN : N = if h % 32 < 16 then (valD (t.take (kOf h)) : Int) else -(valD (t.take (kOf h)) : Int)) (hm : ((a + 1 + kOf h : Nat) : Int) = m) :
    Calls Try.prog 61 #[.pointer (some ⟨p, 0, none⟩)] w fun e w' => e = .returned (.int .i64 N) ∧ But p w w' ∧ Rd w' p xs S m why := by
  have HN := Lib.hid hN
  have HM2 := Lib.hid hm
  clear hN hm
  have hlen : xs.length = a + 1 + t.length := by
    have := congrArg List.length hx
    rw [List.length_drop, List.length_cons] at this
    omega
  have hpiece : (xs.drop a).take 1 = [h] := by rw [hx]; rfl
  have hdrop : xs.drop (a + 1) = t := by rw [← List.drop_drop, hx]; rfl
  have HR := Lib.hid hR
  have hk := kOf_le h0 h1
  have hn1 := head_not h0 h1
  have hbI : (kOf h : Int) ≤ 8 := by omega
  have hne : (h != 16) = true := by simp [hh]
  clear hR hx
  go_enter Try.func61, Try.ntmps61
  go_wp2_with fail
  refine (take_ok xs S p a 1 why _ HR.out hl (by omega)).mono ?_
  rintro e w1 ⟨r, rfl, hB1, hR1, hS1⟩
  rw [hpiece] at hS1
  obtain ⟨A1, c1, rfl⟩ := hS1.shape
  obtain ⟨b, off, rfl, hbB, hcap, hcx⟩ := hS1.elem (i := 0) (by simp)
  simp only [List.length_singleton, List.length_cons, List.length_nil, Nat.add_zero, List.getElem?_cons_zero, Option.getD_some] at hcx hcap ⊢
  go_wp2_with fail
  refine (must_ok 5 _).mono ?_
  rintro e w2 ⟨rfl, rfl⟩
  clear hS1 hcx
  have hkn : a + 1 ≤ xs.length := by omega
  go_wp2_with fail
  refine (take_ok xs S p (a + 1) (kOf h) why _ hR1 hl (by omega)).mono ?_
  rintro e w3 ⟨r2, rfl, hB3, hR3, hS3⟩
  rw [hdrop] at hS3
  have hBB := hB1.trans hB3
  clear hB1 hB3 hR1
  obtain ⟨ds, hds⟩ : ∃ ds, ds = t.take (kOf h) := ⟨_, rfl⟩
  have hdl : ds.length = kOf h := by rw [hds, List.length_take]; omega
  rw [← hds] at hS3
  have hby2 : ∀ d ∈ ds, 0 ≤ d ∧ d ≤ 255 := by rw [hds]; intro d hd; exact hby d (List.mem_of_mem_take hd)
  have hand := head_and h0 h1
  rw [← hds] at hV
  have HBY := Lib.hid hby2
  have HV := Lib.hid hV
  have HAND := Lib.hid hand
  have HS3 := Lib.hid hS3
  have HKO : Hid (ds.length = kOf h ∧ kOf h ≤ 8) := ⟨hdl, hk8⟩
  have HDS := Lib.hid hds
  obtain ⟨A2, c2, hr2⟩ := hS3.shape
  rw [hdl] at hr2
  subst hr2
  have hcellz : kOf h = 0 ∨ (0 < (kOf h : Int) ∧ ∃ b off d0, A2 = some ⟨b, off, none⟩ ∧ b < p ∧ w3.cell? ⟨b, off, none⟩ = some (.int .u8 d0) ∧ ¬ d0 = 0) := by
    rcases Nat.eq_zero_or_pos (kOf h) with h' | h'
    · exact .inl h'
    · obtain ⟨b2, off2, hA, hbB2, hcap2, hcx2⟩ := hS3.elem (i := 0) (by omega)
      refine .inr ⟨by omega, b2, off2, _, hA, hbB2, hcx2, ?_⟩
      rw [hds, List.getElem?_take_of_lt h']
      rcases hz with h2 | h2
      · omega
      · exact h2
  have HS3' : Hid (Sl .u8 w3 p (.slice A2 ds.length c2) ds) := by have := HS3.out; rwa [← hdl] at this
  clear HS3
  have HS3 := HS3'
  clear HS3'
  clear hz hby hby2 hV hand hds hS3 hn1 hk hdl
  rcases hcellz with hz2 | ⟨hkp, b2, off2, d0, rfl, hbB2, hc2, hz2⟩
  · have hkb : ((kOf h : Int) == 0) = true := by simp; omega
    have HZ2 := Lib.hid hz2
    clear hz2
    go_wp2_with fail
    refine (must_ok 5 _).mono ?_
    rintro e w4 ⟨rfl, rfl⟩
    clear hkb
    go_wp2_with fail
    go_loop [6, 37] (fun u i => ∃ k : Nat, k ≤ ds.length ∧ i = .int .i64 (k : Int) ∧ u = .int .u64 (valD (ds.take k) : Int)) (fun u i => ds.length - (intOf i).toNat)
    case atStart => exact ⟨0, Nat.zero_le _, rfl, rfl⟩
    case round =>
      obtain ⟨k, hk, rfl, rfl⟩ := hrel
      by_cases hlt : k < ds.length
      · obtain ⟨b3, off3, hA, hbB3, hcap3, hcx3⟩ := HS3.out.elem hlt
        cases hA
        obtain ⟨d, hdv⟩ : ∃ d, d = ds[k]?.getD 0 := ⟨_, rfl⟩
        rw [← hdv] at hcx3
        have hdr := HBY.out d (by rw [hdv, List.getElem?_eq_getElem hlt]; exact List.getElem_mem _)
        have hd0' := hdr.1
        have hd1' := hdr.2
        have hvk := valD_lt (ds.take k) (fun x hx => HBY.out x (List.mem_of_mem_take hx))
        have hk7 : (ds.take k).length ≤ 7 := by have := HKO.out; rw [List.length_take]; omega
        have hp7 := Nat.pow_le_pow_right (n := 256) (by omega) hk7
        rw [show (256 : Nat) ^ 7 = 72057594037927936 from by decide] at hp7
        have hsn : valD (ds.take (k + 1)) = valD (ds.take k) * 256 + d.toNat := by rw [take_succ' hlt, valD_snoc, ← hdv]
        obtain ⟨x, hxe⟩ : ∃ x, x = valD (ds.take k) := ⟨_, rfl⟩
        rw [← hxe] at hvk hsn ⊢
        have hx7 : x < 72057594037927936 := by omega
        have hshl : IntKind.u64.wrap ((x : Int) * 256) = (x : Int) * 256 := wraps_u64 _ (by omega) (by omega)
        have hor : bits .or .u64 ((x : Int) * 256) d = (x : Int) * 256 + d := or_digit (by omega) (by omega) (by omega) hd0' (by omega)
        have HSN := Lib.hid hsn
        have hki : (k : Int) < (kOf h : Int) := by have := HKO.out; omega
        have hki0 : (0 : Int) ≤ (k : Int) := by omega
        clear hdv hdr hvk hk7 hp7 hsn hxe
        go_wp2
        go_round
        case rel =>
          refine ⟨k + 1, by omega, by go_num, ?_⟩
          rw [HSN.out]
          exact congrArg (Value.int .u64) (by omega)
        case measure => simp [intOf]; omega
      · have hk' : k = ds.length := by omega
        subst hk'
        have hnl : ¬ ((ds.length : Nat) : Int) < (kOf h : Int) := by have := HKO.out; omega
        rw [List.take_length]
        clear hlt hk
        rcases HV.out with ⟨hm16, hV⟩ | ⟨hm16, hV⟩
        · have hand : bits .and .u8 h 16 = 0 := by rw [HAND.out, if_pos hm16]
          have hVI : ((valD ds : Nat) : Int) < 9223372036854775808 := by omega
          have hw : IntKind.i64.wrap ((valD ds : Nat) : Int) = ((valD ds : Nat) : Int) := IntWalk.i64_in _ (by omega)
          have HM := Lib.hid hm16
          clear hm16 hV
          go_wp2_with fail
          refine (must_ok 5 _).mono ?_
          rintro e w5 ⟨rfl, rfl⟩
          go_wp2_with fail
          go_ret
          exact ⟨by rw [HN.out, ← HDS.out, if_pos HM.out]; rfl, hBB, HM2.out ▸ hR3⟩
        · have hand : bits .and .u8 h 16 = 16 := by rw [HAND.out, if_neg (by omega)]
          have hVI : ((valD ds : Nat) : Int) ≤ 9223372036854775808 := by omega
          obtain ⟨y, hy⟩ : ∃ y, y = IntKind.u64.wrap (-((valD ds : Nat) : Int)) := ⟨_, rfl⟩
          have hw : IntKind.i64.wrap y = -((valD ds : Nat) : Int) := by rw [hy, IntKind.wrap_i64, IntKind.wrap_u64]; omega
          have hy' := hy.symm
          have HM := Lib.hid hm16
          clear hm16 hV hy
          go_wp2_with fail
          refine (must_ok 5 _).mono ?_
          rintro e w5 ⟨rfl, rfl⟩
          go_wp2_with fail
          go_ret
          exact ⟨by rw [HN.out, ← HDS.out, if_neg (by have := HM.out; omega)]; rfl, hBB, HM2.out ▸ hR3⟩
  · have hkb : ((kOf h : Int) == 0) = false := by simp; omega
    have hdb : (d0 != 0) = true := by simp [hz2]
    clear hz2
    go_wp2_with fail
    refine (must_ok 5 _).mono ?_
    rintro e w4 ⟨rfl, rfl⟩
    clear hkb hdb
    go_wp2_with fail
    go_loop [6, 37] (fun u i => ∃ k : Nat, k ≤ ds.length ∧ i = .int .i64 (k : Int) ∧ u = .int .u64 (valD (ds.take k) : Int)) (fun u i => ds.length - (intOf i).toNat)
    case atStart => exact ⟨0, Nat.zero_le _, rfl, rfl⟩
    case round =>
      obtain ⟨k, hk, rfl, rfl⟩ := hrel
      by_cases hlt : k < ds.length
      · obtain ⟨b3, off3, hA, hbB3, hcap3, hcx3⟩ := HS3.out.elem hlt
        cases hA
        obtain ⟨d, hdv⟩ : ∃ d, d = ds[k]?.getD 0 := ⟨_, rfl⟩
        rw [← hdv] at hcx3
        have hdr := HBY.out d (by rw [hdv, List.getElem?_eq_getElem hlt]; exact List.getElem_mem _)
        have hd0' := hdr.1
        have hd1' := hdr.2
        have hvk := valD_lt (ds.take k) (fun x hx => HBY.out x (List.mem_of_mem_take hx))
        have hk7 : (ds.take k).length ≤ 7 := by have := HKO.out; rw [List.length_take]; omega
        have hp7 := Nat.pow_le_pow_right (n := 256) (by omega) hk7
        rw [show (256 : Nat) ^ 7 = 72057594037927936 from by decide] at hp7
        have hsn : valD (ds.take (k + 1)) = valD (ds.take k) * 256 + d.toNat := by rw [take_succ' hlt, valD_snoc, ← hdv]
        obtain ⟨x, hxe⟩ : ∃ x, x = valD (ds.take k) := ⟨_, rfl⟩
        rw [← hxe] at hvk hsn ⊢
        have hx7 : x < 72057594037927936 := by omega
        have hshl : IntKind.u64.wrap ((x : Int) * 256) = (x : Int) * 256 := wraps_u64 _ (by omega) (by omega)
        have hor : bits .or .u64 ((x : Int) * 256) d = (x : Int) * 256 + d := or_digit (by omega) (by omega) (by omega) hd0' (by omega)
        have HSN := Lib.hid hsn
        have hki : (k : Int) < (kOf h : Int) := by have := HKO.out; omega
        have hki0 : (0 : Int) ≤ (k : Int) := by omega
        clear hdv hdr hvk hk7 hp7 hsn hxe
        go_wp2
        go_round
        case rel =>
          refine ⟨k + 1, by omega, by go_num, ?_⟩
          rw [HSN.out]
          exact congrArg (Value.int .u64) (by omega)
        case measure => simp [intOf]; omega
      · have hk' : k = ds.length := by omega
        subst hk'
        have hnl : ¬ ((ds.length : Nat) : Int) < (kOf h : Int) := by have := HKO.out; omega
        rw [List.take_length]
        clear hlt hk
        rcases HV.out with ⟨hm16, hV⟩ | ⟨hm16, hV⟩
        · have hand : bits .and .u8 h 16 = 0 := by rw [HAND.out, if_pos hm16]
          have hVI : ((valD ds : Nat) : Int) < 9223372036854775808 := by omega
          have hw : IntKind.i64.wrap ((valD ds : Nat) : Int) = ((valD ds : Nat) : Int) := IntWalk.i64_in _ (by omega)
          have HM := Lib.hid hm16
          clear hm16 hV
          go_wp2_with fail
          refine (must_ok 5 _).mono ?_
          rintro e w5 ⟨rfl, rfl⟩
          go_wp2_with fail
          go_ret
          exact ⟨by rw [HN.out, ← HDS.out, if_pos HM.out]; rfl, hBB, HM2.out ▸ hR3⟩
        · have hand : bits .and .u8 h 16 = 16 := by rw [HAND.out, if_neg (by omega)]
          have hVI : ((valD ds : Nat) : Int) ≤ 9223372036854775808 := by omega
          obtain ⟨y, hy⟩ : ∃ y, y = IntKind.u64.wrap (-((valD ds : Nat) : Int)) := ⟨_, rfl⟩
          have hw : IntKind.i64.wrap y = -((valD ds : Nat) : Int) := by rw [hy, IntKind.wrap_i64, IntKind.wrap_u64]; omega
          have hy' := hy.symm
          have HM := Lib.hid hm16
          clear hm16 hV hy
          go_wp2_with fail
          refine (must_ok 5 _).mono ?_
          rintro e w5 ⟨rfl, rfl⟩
          go_wp2_with fail
          go_ret
          exact ⟨by rw [HN.out, ← HDS.out, if_neg (by have := HM.out; omega)]; rfl, hBB, HM2.out ▸ hR3⟩

set_option maxHeartbeats 4000000 in
theorem number_big (xs : List Int) (S : Value) (p a : Nat) (why : Int) (w : World) (hR : Rd w p xs S a why) (hl : xs.length ≤ 1099511627776) (h : Int) (t : List Int) (hx : xs.drop a = h :: t) (h0 : 0 ≤ h) (h1 : h ≤ 255) (hk8 : kOf h ≤ 8) (hh : ¬ h = 16) (hs : kOf h ≤ t.length) (hz : kOf h = 0 ∨ ¬ t[0]?.getD 0 = 0) (hby : ∀ d ∈ t, 0 ≤ d ∧ d ≤ 255) (hV : (h % 32 < 16 ∧ 9223372036854775808 ≤ valD (t.take (kOf h))) ∨ (¬ h % 32 < 16 ∧ 9223372036854775808 < valD (t.take (kOf h)))) :
    Calls Try.prog 61 #[.pointer (some ⟨p, 0, none⟩)] w fun e w' => e = .panicked (haltP 5) ∧ But p w w' ∧ ∃ a', Rd w' p xs S a' why := by
  have hlen : xs.length = a + 1 + t.length := by
    have := congrArg List.length hx
    rw [List.length_drop, List.length_cons] at this
    omega
  have hpiece : (xs.drop a).take 1 = [h] := by rw [hx]; rfl
  have hdrop : xs.drop (a + 1) = t := by rw [← List.drop_drop, hx]; rfl
  have HR := Lib.hid hR
  have hk := kOf_le h0 h1
  have hn1 := head_not h0 h1
  have hbI : (kOf h : Int) ≤ 8 := by omega
  have hne : (h != 16) = true := by simp [hh]
  clear hR hx
  go_enter Try.func61, Try.ntmps61
  go_wp2_with fail
  refine (take_ok xs S p a 1 why _ HR.out hl (by omega)).mono ?_
  rintro e w1 ⟨r, rfl, hB1, hR1, hS1⟩
  rw [hpiece] at hS1
  obtain ⟨A1, c1, rfl⟩ := hS1.shape
  obtain ⟨b, off, rfl, hbB, hcap, hcx⟩ := hS1.elem (i := 0) (by simp)
  simp only [List.length_singleton, List.length_cons, List.length_nil, Nat.add_zero, List.getElem?_cons_zero, Option.getD_some] at hcx hcap ⊢
  go_wp2_with fail
  refine (must_ok 5 _).mono ?_
  rintro e w2 ⟨rfl, rfl⟩
  clear hS1 hcx
  have hkn : a + 1 ≤ xs.length := by omega
  go_wp2_with fail
  refine (take_ok xs S p (a + 1) (kOf h) why _ hR1 hl (by omega)).mono ?_
  rintro e w3 ⟨r2, rfl, hB3, hR3, hS3⟩
  rw [hdrop] at hS3
  have hBB := hB1.trans hB3
  clear hB1 hB3 hR1
  obtain ⟨ds, hds⟩ : ∃ ds, ds = t.take (kOf h) := ⟨_, rfl⟩
  have hdl : ds.length = kOf h := by rw [hds, List.length_take]; omega
  rw [← hds] at hS3
  have hby2 : ∀ d ∈ ds, 0 ≤ d ∧ d ≤ 255 := by rw [hds]; intro d hd; exact hby d (List.mem_of_mem_take hd)
  have hand := head_and h0 h1
  rw [← hds] at hV
  have HBY := Lib.hid hby2
  have HV := Lib.hid hV
  have HAND := Lib.hid hand
  have HS3 := Lib.hid hS3
  have HKO : Hid (ds.length = kOf h ∧ kOf h ≤ 8) := ⟨hdl, hk8⟩
  have HDS := Lib.hid hds
  obtain ⟨A2, c2, hr2⟩ := hS3.shape
  rw [hdl] at hr2
  subst hr2
  have hcellz : kOf h = 0 ∨ (0 < (kOf h : Int) ∧ ∃ b off d0, A2 = some ⟨b, off, none⟩ ∧ b < p ∧ w3.cell? ⟨b, off, none⟩ = some (.int .u8 d0) ∧ ¬ d0 = 0) := by
    rcases Nat.eq_zero_or_pos (kOf h) with h' | h'
    · exact .inl h'
    · obtain ⟨b2, off2, hA, hbB2, hcap2, hcx2⟩ := hS3.elem (i := 0) (by omega)
      refine .inr ⟨by omega, b2, off2, _, hA, hbB2, hcx2, ?_⟩
      rw [hds, List.getElem?_take_of_lt h']
      rcases hz with h2 | h2
      · omega
      · exact h2
  have HS3' : Hid (Sl .u8 w3 p (.slice A2 ds.length c2) ds) := by have := HS3.out; rwa [← hdl] at this
  clear HS3
  have HS3 := HS3'
  clear HS3'
  clear hz hby hby2 hV hand hds hS3 hn1 hk hdl
  rcases hcellz with hz2 | ⟨hkp, b2, off2, d0, rfl, hbB2, hc2, hz2⟩
  · have hkb : ((kOf h : Int) == 0) = true := by simp; omega
    have HZ2 := Lib.hid hz2
    clear hz2
    go_wp2_with fail
    refine (must_ok 5 _).mono ?_
    rintro e w4 ⟨rfl, rfl⟩
    clear hkb
    go_wp2_with fail
    go_loop [6, 37] (fun u i => ∃ k : Nat, k ≤ ds.length ∧ i = .int .i64 (k : Int) ∧ u = .int .u64 (valD (ds.take k) : Int)) (fun u i => ds.length - (intOf i).toNat)
    case atStart => exact ⟨0, Nat.zero_le _, rfl, rfl⟩
    case round =>
      obtain ⟨k, hk, rfl, rfl⟩ := hrel
      by_cases hlt : k < ds.length
      · obtain ⟨b3, off3, hA, hbB3, hcap3, hcx3⟩ := HS3.out.elem hlt
        cases hA
        obtain ⟨d, hdv⟩ : ∃ d, d = ds[k]?.getD 0 := ⟨_, rfl⟩
        rw [← hdv] at hcx3
        have hdr := HBY.out d (by rw [hdv, List.getElem?_eq_getElem hlt]; exact List.getElem_mem _)
        have hd0' := hdr.1
        have hd1' := hdr.2
        have hvk := valD_lt (ds.take k) (fun x hx => HBY.out x (List.mem_of_mem_take hx))
        have hk7 : (ds.take k).length ≤ 7 := by have := HKO.out; rw [List.length_take]; omega
        have hp7 := Nat.pow_le_pow_right (n := 256) (by omega) hk7
        rw [show (256 : Nat) ^ 7 = 72057594037927936 from by decide] at hp7
        have hsn : valD (ds.take (k + 1)) = valD (ds.take k) * 256 + d.toNat := by rw [take_succ' hlt, valD_snoc, ← hdv]
        obtain ⟨x, hxe⟩ : ∃ x, x = valD (ds.take k) := ⟨_, rfl⟩
        rw [← hxe] at hvk hsn ⊢
        have hx7 : x < 72057594037927936 := by omega
        have hshl : IntKind.u64.wrap ((x : Int) * 256) = (x : Int) * 256 := wraps_u64 _ (by omega) (by omega)
        have hor : bits .or .u64 ((x : Int) * 256) d = (x : Int) * 256 + d := or_digit (by omega) (by omega) (by omega) hd0' (by omega)
        have HSN := Lib.hid hsn
        have hki : (k : Int) < (kOf h : Int) := by have := HKO.out; omega
        have hki0 : (0 : Int) ≤ (k : Int) := by omega
        clear hdv hdr hvk hk7 hp7 hsn hxe
        go_wp2
        go_round
        case rel =>
          refine ⟨k + 1, by omega, by go_num, ?_⟩
          rw [HSN.out]
          exact congrArg (Value.int .u64) (by omega)
        case measure => simp [intOf]; omega
      · have hk' : k = ds.length := by omega
        subst hk'
        have hnl : ¬ ((ds.length : Nat) : Int) < (kOf h : Int) := by have := HKO.out; omega
        rw [List.take_length]
        clear hlt hk
        rcases HV.out with ⟨hm16, hV⟩ | ⟨hm16, hV⟩
        · have hand : bits .and .u8 h 16 = 0 := by rw [HAND.out, if_pos hm16]
          have hVI : ¬ ((valD ds : Nat) : Int) < 9223372036854775808 := by omega
          clear hm16 hV
          go_wp2_with fail
          refine (must_no 5 _).mono ?_
          rintro e w5 ⟨rfl, rfl⟩
          exact ⟨rfl, rfl, hBB, _, hR3⟩
        · have hand : bits .and .u8 h 16 = 16 := by rw [HAND.out, if_neg (by omega)]
          have hVI : ¬ ((valD ds : Nat) : Int) ≤ 9223372036854775808 := by omega
          clear hm16 hV
          go_wp2_with fail
          refine (must_no 5 _).mono ?_
          rintro e w5 ⟨rfl, rfl⟩
          exact ⟨rfl, rfl, hBB, _, hR3⟩
  · have hkb : ((kOf h : Int) == 0) = false := by simp; omega
    have hdb : (d0 != 0) = true := by simp [hz2]
    clear hz2
    go_wp2_with fail
    refine (must_ok 5 _).mono ?_
    rintro e w4 ⟨rfl, rfl⟩
    clear hkb hdb
    go_wp2_with fail
    go_loop [6, 37] (fun u i => ∃ k : Nat, k ≤ ds.length ∧ i = .int .i64 (k : Int) ∧ u = .int .u64 (valD (ds.take k) : Int)) (fun u i => ds.length - (intOf i).toNat)
    case atStart => exact ⟨0, Nat.zero_le _, rfl, rfl⟩
    case round =>
      obtain ⟨k, hk, rfl, rfl⟩ := hrel
      by_cases hlt : k < ds.length
      · obtain ⟨b3, off3, hA, hbB3, hcap3, hcx3⟩ := HS3.out.elem hlt
        cases hA
        obtain ⟨d, hdv⟩ : ∃ d, d = ds[k]?.getD 0 := ⟨_, rfl⟩
        rw [← hdv] at hcx3
        have hdr := HBY.out d (by rw [hdv, List.getElem?_eq_getElem hlt]; exact List.getElem_mem _)
        have hd0' := hdr.1
        have hd1' := hdr.2
        have hvk := valD_lt (ds.take k) (fun x hx => HBY.out x (List.mem_of_mem_take hx))
        have hk7 : (ds.take k).length ≤ 7 := by have := HKO.out; rw [List.length_take]; omega
        have hp7 := Nat.pow_le_pow_right (n := 256) (by omega) hk7
        rw [show (256 : Nat) ^ 7 = 72057594037927936 from by decide] at hp7
        have hsn : valD (ds.take (k + 1)) = valD (ds.take k) * 256 + d.toNat := by rw [take_succ' hlt, valD_snoc, ← hdv]
        obtain ⟨x, hxe⟩ : ∃ x, x = valD (ds.take k) := ⟨_, rfl⟩
        rw [← hxe] at hvk hsn ⊢
        have hx7 : x < 72057594037927936 := by omega
        have hshl : IntKind.u64.wrap ((x : Int) * 256) = (x : Int) * 256 := wraps_u64 _ (by omega) (by omega)
        have hor : bits .or .u64 ((x : Int) * 256) d = (x : Int) * 256 + d := or_digit (by omega) (by omega) (by omega) hd0' (by omega)
        have HSN := Lib.hid hsn
        have hki : (k : Int) < (kOf h : Int) := by have := HKO.out; omega
        have hki0 : (0 : Int) ≤ (k : Int) := by omega
        clear hdv hdr hvk hk7 hp7 hsn hxe
        go_wp2
        go_round
        case rel =>
          refine ⟨k + 1, by omega, by go_num, ?_⟩
          rw [HSN.out]
          exact congrArg (Value.int .u64) (by omega)
        case measure => simp [intOf]; omega
      · have hk' : k = ds.length := by omega
        subst hk'
        have hnl : ¬ ((ds.length : Nat) : Int) < (kOf h : Int) := by have := HKO.out; omega
        rw [List.take_length]
        clear hlt hk
        rcases HV.out with ⟨hm16, hV⟩ | ⟨hm16, hV⟩
        · have hand : bits .and .u8 h 16 = 0 := by rw [HAND.out, if_pos hm16]
          have hVI : ¬ ((valD ds : Nat) : Int) < 9223372036854775808 := by omega
          clear hm16 hV
          go_wp2_with fail
          refine (must_no 5 _).mono ?_
          rintro e w5 ⟨rfl, rfl⟩
          exact ⟨rfl, rfl, hBB, _, hR3⟩
        · have hand : bits .and .u8 h 16 = 16 := by rw [HAND.out, if_neg (by omega)]
          have hVI : ¬ ((valD ds : Nat) : Int) ≤ 9223372036854775808 := by omega
          clear hm16 hV
          go_wp2_with fail
          refine (must_no 5 _).mono ?_
          rintro e w5 ⟨rfl, rfl⟩
          exact ⟨rfl, rfl, hBB, _, hR3⟩
end Go.Proofs.Ytjcocahhpjgbhaa

/- The reader: number and count, as the plain answer tells them. -/
set_option maxRecDepth 100000
set_option linter.unusedVariables false
set_option linter.unusedSimpArgs false
namespace Go.Proofs.Ytjcocahhpjgbhaa
open Go.RowKit Go.BigFrame

/-- Bytes. -/
abbrev Bytes (xs : List Int) : Prop := ∀ d ∈ xs, 0 ≤ d ∧ d ≤ 255
theorem Bytes.drop {xs : List Int} (h : Bytes xs) (a : Nat) : Bytes (xs.drop a) := fun d hd => h d (List.mem_of_mem_drop hd)

theorem numR_cons (h : Int) (t : List Int) : numR (h :: t) = if 8 < kOf h ∨ h = 16 then .inl 5
    else if t.length < kOf h then .inl 4
    else if 0 < kOf h ∧ t[0]?.getD 0 = 0 then .inl 5
    else if h % 32 < 16 then (if valD (t.take (kOf h)) < 9223372036854775808 then .inr (valD (t.take (kOf h)), kOf h + 1) else .inl 5)
    else (if valD (t.take (kOf h)) ≤ 9223372036854775808 then .inr (-(valD (t.take (kOf h)) : Int), kOf h + 1) else .inl 5) := rfl

theorem number_no {xs : List Int} {S : Value} {p a : Nat} {why c : Int} {w : World} (hR : Rd w p xs S a why) (hl : xs.length ≤ 1099511627776) (ha : a ≤ xs.length) (hb : Bytes xs) (hn : numR (xs.drop a) = .inl c) :
    Calls Try.prog 61 #[.pointer (some ⟨p, 0, none⟩)] w fun e w' => e = .panicked (haltP c) ∧ But p w w' ∧ ∃ a', Rd w' p xs S a' why := by
  have hbd := hb.drop a
  cases hx : xs.drop a with
  | nil =>
    rw [hx] at hn
    have : c = 4 := by injection hn with h; exact h.symm
    subst this
    exact number_empty xs S p a why w hR hl (by have := congrArg List.length hx; rw [List.length_drop, List.length_nil] at this; omega)
  | cons h t =>
    rw [hx] at hn hbd
    obtain ⟨h0, h1⟩ := hbd h (by simp)
    have hbt : ∀ d ∈ t, 0 ≤ d ∧ d ≤ 255 := fun d hd => hbd d (by simp [hd])
    rw [numR_cons] at hn
    by_cases c1 : 8 < kOf h ∨ h = 16
    · rw [if_pos c1] at hn
      have : c = 5 := by injection hn with h; exact h.symm
      subst this
      exact number_head xs S p a why w hR hl h t hx h0 h1 c1
    rw [if_neg c1] at hn
    have hk8 : kOf h ≤ 8 := by omega
    have hh : ¬ h = 16 := fun e => c1 (.inr e)
    by_cases c2 : t.length < kOf h
    · rw [if_pos c2] at hn
      have : c = 4 := by injection hn with h; exact h.symm
      subst this
      exact number_short xs S p a why w hR hl h t hx h0 h1 hk8 hh c2
    rw [if_neg c2] at hn
    by_cases c3 : 0 < kOf h ∧ t[0]?.getD 0 = 0
    · rw [if_pos c3] at hn
      have : c = 5 := by injection hn with h; exact h.symm
      subst this
      exact number_zero xs S p a why w hR hl h t hx h0 h1 hk8 hh (by omega) c3.1 c3.2
    rw [if_neg c3] at hn
    have hz : kOf h = 0 ∨ ¬ t[0]?.getD 0 = 0 := by
      rcases Nat.eq_zero_or_pos (kOf h) with h' | h'
      · exact .inl h'
      · exact .inr fun e => c3 ⟨h', e⟩
    by_cases c4 : h % 32 < 16
    · rw [if_pos c4] at hn
      by_cases c5 : valD (t.take (kOf h)) < 9223372036854775808
      · rw [if_pos c5] at hn; cases hn
      · rw [if_neg c5] at hn
        have : c = 5 := by injection hn with h; exact h.symm
        subst this
        exact number_big xs S p a why w hR hl h t hx h0 h1 hk8 hh (by omega) hz hbt (.inl ⟨c4, by omega⟩)
    · rw [if_neg c4] at hn
      by_cases c5 : valD (t.take (kOf h)) ≤ 9223372036854775808
      · rw [if_pos c5] at hn; cases hn
      · rw [if_neg c5] at hn
        have : c = 5 := by injection hn with h; exact h.symm
        subst this
        exact number_big xs S p a why w hR hl h t hx h0 h1 hk8 hh (by omega) hz hbt (.inr ⟨c4, by omega⟩)

theorem number_ok {xs : List Int} {S : Value} {p a k : Nat} {why n : Int} {w : World} (hR : Rd w p xs S a why) (hl : xs.length ≤ 1099511627776) (hb : Bytes xs) (hn : numR (xs.drop a) = .inr (n, k)) :
    Calls Try.prog 61 #[.pointer (some ⟨p, 0, none⟩)] w fun e w' => e = .returned (.int .i64 n) ∧ But p w w' ∧ Rd w' p xs S ((a + k : Nat) : Int) why := by
  have hbd := hb.drop a
  cases hx : xs.drop a with
  | nil => rw [hx] at hn; cases hn
  | cons h t =>
    rw [hx] at hn hbd
    obtain ⟨h0, h1⟩ := hbd h (by simp)
    have hbt : ∀ d ∈ t, 0 ≤ d ∧ d ≤ 255 := fun d hd => hbd d (by simp [hd])
    rw [numR_cons] at hn
    by_cases c1 : 8 < kOf h ∨ h = 16
    · rw [if_pos c1] at hn; cases hn
    rw [if_neg c1] at hn
    have hk8 : kOf h ≤ 8 := by omega
    have hh : ¬ h = 16 := fun e => c1 (.inr e)
    by_cases c2 : t.length < kOf h
    · rw [if_pos c2] at hn; cases hn
    rw [if_neg c2] at hn
    by_cases c3 : 0 < kOf h ∧ t[0]?.getD 0 = 0
    · rw [if_pos c3] at hn; cases hn
    rw [if_neg c3] at hn
    have hz : kOf h = 0 ∨ ¬ t[0]?.getD 0 = 0 := by
      rcases Nat.eq_zero_or_pos (kOf h) with h' | h'
      · exact .inl h'
      · exact .inr fun e => c3 ⟨h', e⟩
    by_cases c4 : h % 32 < 16
    · rw [if_pos c4] at hn
      by_cases c5 : valD (t.take (kOf h)) < 9223372036854775808
      · rw [if_pos c5] at hn
        injection hn with hn
        injection hn with e1 e2
        exact number_val xs S p a why w hR hl h t hx h0 h1 hk8 hh (by omega) hz hbt (.inl ⟨c4, by omega⟩) n _ (by rw [if_pos c4, e1]) (by rw [← e2]; congr 1; omega)
      · rw [if_neg c5] at hn; cases hn
    · rw [if_neg c4] at hn
      by_cases c5 : valD (t.take (kOf h)) ≤ 9223372036854775808
      · rw [if_pos c5] at hn
        injection hn with hn
        injection hn with e1 e2
        exact number_val xs S p a why w hR hl h t hx h0 h1 hk8 hh (by omega) hz hbt (.inr ⟨c4, by omega⟩) n _ (by rw [if_neg c4, e1]) (by rw [← e2]; congr 1; omega)
      · rw [if_neg c5] at hn; cases hn

/-- A number from 0 to most. -/
def countR (l : List Int) (most : Int) : Int ⊕ (Int × Nat) :=
  match numR l with
  | .inl c => .inl c
  | .inr (n, k) => if 0 ≤ n ∧ n ≤ most then .inr (n, k) else .inl 3

set_option maxHeartbeats 1000000 in
theorem count_ok {xs : List Int} {S : Value} {p a k : Nat} {why n most : Int} {w : World} (hR : Rd w p xs S a why) (hl : xs.length ≤ 1099511627776) (hb : Bytes xs) (hn : countR (xs.drop a) most = .inr (n, k)) :
    Calls Try.prog 54 #[.pointer (some ⟨p, 0, none⟩), .int .i64 most] w fun e w' => e = .returned (.int .i64 n) ∧ But p w w' ∧ Rd w' p xs S ((a + k : Nat) : Int) why := by
  unfold countR at hn
  cases hnn : numR (xs.drop a) with
  | inl c => rw [hnn] at hn; cases hn
  | inr v =>
    obtain ⟨n', k'⟩ := v
    rw [hnn] at hn
    by_cases hc : 0 ≤ n' ∧ n' ≤ most
    · simp only [if_pos hc] at hn
      injection hn with hn
      injection hn with e1 e2
      subst e1 e2
      obtain ⟨hc0, hc1⟩ := hc
      have HN := Lib.hid (number_ok hR hl hb hnn)
      clear hR hnn hb
      go_enter Try.func54, Try.ntmps54
      go_wp2_with fail
      refine HN.out.mono ?_
      rintro e w1 ⟨rfl, hB1, hR1⟩
      go_wp2_with fail
      refine (must_ok 3 _).mono ?_
      rintro e w2 ⟨rfl, rfl⟩
      have HR1 := Lib.hid hR1
      clear hR1
      go_wp2_with fail
      go_ret
      exact ⟨rfl, hB1, HR1.out⟩
    · simp only [if_neg hc] at hn; cases hn
set_option maxHeartbeats 1000000 in
theorem count_no {xs : List Int} {S : Value} {p a : Nat} {why c most : Int} {w : World} (hR : Rd w p xs S a why) (hl : xs.length ≤ 1099511627776) (ha : a ≤ xs.length) (hb : Bytes xs) (hn : countR (xs.drop a) most = .inl c) :
    Calls Try.prog 54 #[.pointer (some ⟨p, 0, none⟩), .int .i64 most] w fun e w' => e = .panicked (haltP c) ∧ But p w w' ∧ ∃ a', Rd w' p xs S a' why := by
  unfold countR at hn
  cases hnn : numR (xs.drop a) with
  | inl c' =>
    rw [hnn] at hn
    have : c' = c := by injection hn
    subst this
    have HN := Lib.hid (number_no hR hl ha hb hnn)
    clear hR hnn hb hn
    go_enter Try.func54, Try.ntmps54
    go_wp2_with fail
    refine HN.out.mono ?_
    rintro e w1 ⟨rfl, hB1, hR1⟩
    exact ⟨rfl, rfl, hB1, hR1⟩
  | inr v =>
    obtain ⟨n', k'⟩ := v
    rw [hnn] at hn
    by_cases hc : 0 ≤ n' ∧ n' ≤ most
    · simp only [if_pos hc] at hn; cases hn
    · simp only [if_neg hc] at hn
      have : c = 3 := by injection hn with h; exact h.symm
      subst this
      have HN := Lib.hid (number_ok hR hl hb hnn)
      clear hR hnn hb hn
      rcases (show n' < 0 ∨ (0 ≤ n' ∧ ¬ n' ≤ most) from by omega) with hc1 | ⟨hc1, hc2⟩
      all_goals
        clear hc
        go_enter Try.func54, Try.ntmps54
        go_wp2_with fail
        refine HN.out.mono ?_
        rintro e w1 ⟨rfl, hB1, hR1⟩
        go_wp2_with fail
        try rw [show decide (n' ≤ most) = false from decide_eq_false (by omega)]
        refine (must_no 3 _).mono ?_
        rintro e w2 ⟨rfl, rfl⟩
        exact ⟨rfl, rfl, hB1, _, hR1⟩
end Go.Proofs.Ytjcocahhpjgbhaa

/- The reader: reading, its deferred closure. -/
set_option maxRecDepth 100000
set_option linter.unusedVariables false
set_option linter.unusedSimpArgs false
namespace Go.Proofs.Ytjcocahhpjgbhaa
open Go.RowKit Go.BigFrame

set_option maxHeartbeats 4000000 in
theorem catch_idle (q r : Addr) (w : World) :
    CallsD Try.prog 60 #[.pointer (some q), .pointer (some r)] .returning w fun e u' w' => e = .returned (.tuple #[]) ∧ u' = .returning ∧ w' = w := by
  refine callsD_of_wpS Try.func60 rfl fun c₀ cs hu => ?_
  apply wpS_seq
  apply wpS_region
  simp [wpOpsS, go_sem, recoverD, hu, Try.ntmps60, Exit.thenS]
  refine wpS_of_wp ?_
  rw [show (#[Value.pointer (some q), Value.pointer (some r)] ++ (Array.replicate 17 undef).setIfInBounds 3 Value.nilIface) = #[Value.pointer (some q), Value.pointer (some r), undef, undef, undef, Value.nilIface, undef, undef, undef, undef, undef, undef, undef, undef, undef, undef, undef, undef, undef] from rfl]
  have hnil : ∀ w : World, (binOp BinOp.eql 20 .nilIface .nilIface).run Try.prog w = .ok (.bool true) w := fun _ => by kernel_rfl
  go_wp2
  cases c₀
  simp_all [bodyPostS, results, Try.results60]

set_option maxHeartbeats 4000000 in
theorem catch_halt (q r : Nat) (p : Nat) (from_ c x y : Int) (older : List PanicEntry) (w : World) (hq : w.cell? ⟨q, 0, none⟩ = some (.int .i64 from_)) (hr : w.cell? ⟨r, 0, none⟩ = some (.pointer (some ⟨p, 0, none⟩)))
    (h1 : w.cell? ⟨p, 1, none⟩ = some (.int .i64 x)) (h2 : w.cell? ⟨p, 2, none⟩ = some (.int .i64 y)) (hf : ∀ i, w.frozen? ⟨p, i, none⟩ = false) :
    CallsD Try.prog 60 #[.pointer (some ⟨q, 0, none⟩), .pointer (some ⟨r, 0, none⟩)] (.panicking ({ v := .iface 102 (.int .i64 c), recovered := false } :: older)) w fun e u' w' =>
      e = .returned (.tuple #[]) ∧ u' = .panicking ({ v := .iface 102 (.int .i64 c), recovered := true } :: older) ∧ w' = (w.setCell ⟨p, 1, none⟩ (.int .i64 from_)).setCell ⟨p, 2, none⟩ (.int .i64 c) := by
  refine callsD_of_wpS Try.func60 rfl fun c₀ cs hu => ?_
  apply wpS_seq
  apply wpS_region
  simp [wpOpsS, go_sem, recoverD, hu, Try.ntmps60, Exit.thenS]
  refine wpS_of_wp ?_
  rw [show (#[Value.pointer (some ⟨q, 0, none⟩), Value.pointer (some ⟨r, 0, none⟩)] ++ (Array.replicate 17 undef).setIfInBounds 3 (Value.iface 102 (.int .i64 c))) = #[Value.pointer (some ⟨q, 0, none⟩), Value.pointer (some ⟨r, 0, none⟩), undef, undef, undef, Value.iface 102 (.int .i64 c), undef, undef, undef, undef, undef, undef, undef, undef, undef, undef, undef, undef, undef] from rfl]
  have hnil : ∀ w : World, (binOp BinOp.eql 20 (.iface 102 (.int .i64 c)) .nilIface).run Try.prog w = .ok (.bool false) w := fun _ => by kernel_rfl
  have hta : ∀ w : World, (Instr.typeAssert (.iface 102 (.int .i64 c)) 20 102 true).run Try.prog w = .ok (.tuple #[.int .i64 c, .bool true]) w := fun _ => by kernel_rfl
  go_wp2
  simp [bodyPostS, results, Try.results60]
end Go.Proofs.Ytjcocahhpjgbhaa

/- The reader: reading, whatever it does. -/
set_option maxRecDepth 100000
set_option linter.unusedVariables false
set_option linter.unusedSimpArgs false
namespace Go.Proofs.Ytjcocahhpjgbhaa
open Go.RowKit Go.BigFrame

set_option maxHeartbeats 2000000 in
/-- An error is there: nothing is done. -/
theorem reading_skip (g : FuncId) (cap : Array Value) {xs : List Int} {S : Value} {p : Nat} {a why : Int} {w : World} (hR : Rd w p xs S a why) (hw : ¬ why = 0) :
    Calls Try.prog 52 #[.pointer (some ⟨p, 0, none⟩), .func (.func g) #[] cap] w fun e w' => e = .returned (.tuple #[]) ∧ Below w.heap.size w w' := by
  have hc2 := hR.c2
  have hplt := hR.lt
  have hwb : (why != 0) = true := by simp [hw]
  go_enter_defers Try.func52, Try.ntmps52
  go_wp2
  have hB := (Below.refl w.heap.size w).alloc (Nat.le_refl _) (.cells #[.pointer (some ⟨p, 0, none⟩)] 63)
  simp [bodyPostD, Leaves, settle, results, Try.results52, hB]

set_option maxHeartbeats 4000000 in
/-- It is done. -/
theorem reading_ok (g : FuncId) (cap : Array Value) (Q : World → Prop) {xs : List Int} {S : Value} {p : Nat} {a : Int} {w : World} (hR : Rd w p xs S a 0)
    (hen : ∀ W : World, (callFunc g cap).run Try.prog W = .ok (.enter g cap) W) (hdo : ∀ w1, Below w.heap.size w w1 → Calls Try.prog g cap w1 fun e w' => e = .returned (.tuple #[]) ∧ Q w') :
    Calls Try.prog 52 #[.pointer (some ⟨p, 0, none⟩), .func (.func g) #[] cap] w fun e w' => e = .returned (.tuple #[]) ∧ Q w' := by
  have hmf : ∀ (fn : Fn) (first cap : Array Value) (w : World), (Instr.makeFunc fn first cap).run Try.prog w = .ok (.func fn first cap) w := fun _ _ _ _ => rfl
  have hc1 := hR.c1
  have hc2 := hR.c2
  have hplt := hR.lt
  go_enter_defers Try.func52, Try.ntmps52
  have hB := ((Below.refl w.heap.size w).alloc (Nat.le_refl _) (.cells #[.pointer (some ⟨p, 0, none⟩)] 63)).alloc (by simp) (.cells #[.int .i64 a] 3)
  go_wp2_with fail
  refine (hdo _ hB).mono ?_
  rintro e w' ⟨rfl, hq⟩
  go_wp2_with fail
  refine leaves_cons (f := 60) (args := #[.pointer (some ⟨w.heap.size + 1, 0, none⟩), .pointer (some ⟨w.heap.size, 0, none⟩)]) (by simp) (by simp [go_sem]) ?_
  refine (catch_idle _ _ _).mono ?_
  rintro e u' w'' ⟨rfl, rfl, rfl⟩
  simp [Leaves, settle, results, Try.results52, go_sem, hq]

theorem But.cell {p : Nat} {w w' : World} (h : But p w w') {b o : Nat} (hb : b < w.heap.size) (hp : b ≠ p) : w'.cell? ⟨b, o, none⟩ = w.cell? ⟨b, o, none⟩ := World.cell?_of_block (w := w) (a := ⟨b, o, none⟩) (h.block b hb hp)

set_option maxHeartbeats 4000000 in
/-- It halts: nothing was read, and why is laid. -/
theorem reading_no (g : FuncId) (cap : Array Value) (c : Int) {xs : List Int} {S : Value} {p : Nat} {a : Int} {w : World} (hR : Rd w p xs S a 0)
    (hen : ∀ W : World, (callFunc g cap).run Try.prog W = .ok (.enter g cap) W) (hdo : ∀ w1, Below w.heap.size w w1 → Calls Try.prog g cap w1 fun e w' => e = .panicked (haltP c) ∧ But p w1 w' ∧ ∃ a', Rd w' p xs S a' 0) :
    Calls Try.prog 52 #[.pointer (some ⟨p, 0, none⟩), .func (.func g) #[] cap] w fun e w' => e = .returned (.tuple #[]) ∧ But p w w' ∧ Rd w' p xs S a c := by
  have hmf : ∀ (fn : Fn) (first cap : Array Value) (w : World), (Instr.makeFunc fn first cap).run Try.prog w = .ok (.func fn first cap) w := fun _ _ _ _ => rfl
  have hc1 := hR.c1
  have hc2 := hR.c2
  have hplt := hR.lt
  go_enter_defers Try.func52, Try.ntmps52
  have hB := ((Below.refl w.heap.size w).alloc (Nat.le_refl _) (.cells #[.pointer (some ⟨p, 0, none⟩)] 63)).alloc (by simp) (.cells #[.int .i64 a] 3)
  have hq0 : ((w.alloc (.cells #[.pointer (some ⟨p, 0, none⟩)] 63)).alloc (.cells #[.int .i64 a] 3)).cell? ⟨w.heap.size + 1, 0, none⟩ = some (.int .i64 a) := by simp [go_sem]
  have hr0 : ((w.alloc (.cells #[.pointer (some ⟨p, 0, none⟩)] 63)).alloc (.cells #[.int .i64 a] 3)).cell? ⟨w.heap.size, 0, none⟩ = some (.pointer (some ⟨p, 0, none⟩)) := by simp [go_sem]
  go_wp2_with fail
  refine (hdo _ hB).mono ?_
  rintro e w' ⟨rfl, hBut, a', hR'⟩
  have hq1 := (hBut.cell (o := 0) (by simp) (by omega)).trans hq0
  have hr1 := (hBut.cell (o := 0) (by simp; omega) (by omega)).trans hr0
  refine leaves_cons (f := 60) (args := #[.pointer (some ⟨w.heap.size + 1, 0, none⟩), .pointer (some ⟨w.heap.size, 0, none⟩)]) (by simp) (by simp [go_sem]) ?_
  refine (catch_halt _ _ _ _ _ _ _ _ _ hq1 hr1 hR'.c1 hR'.c2 hR'.fz).mono ?_
  rintro e u' w'' ⟨rfl, rfl, rfl⟩
  have hfin := (hR'.setAt a).setWhy c
  have hBF : But p w _ := ((But.of hB).trans hBut).store 1 (.int .i64 a)
  have hBF2 := hBF.store 2 (.int .i64 c)
  simp [Leaves, settle, results, Try.results52, go_sem, hfin, hBF2]
end Go.Proofs.Ytjcocahhpjgbhaa

/- The reader: Int and Count. -/
set_option maxRecDepth 100000
set_option linter.unusedVariables false
set_option linter.unusedSimpArgs false
namespace Go.Proofs.Ytjcocahhpjgbhaa
open Go.RowKit Go.BigFrame

theorem But.fresh {p : Nat} {a b : World} (h : But p a b) {q : Nat} (hq : a.heap.size ≤ q) (o : Nat) (v : Value) : But p a (b.setCell ⟨q, o, none⟩ v) :=
  ⟨h.os, h.tape, h.output, by simpa [World.setCell] using h.size, fun k hk hp => (Below.heap_setCell _ _ _ _ (by simp; omega)).trans (h.block k hk hp)⟩
theorem Rd.below1 {w w' : World} {p : Nat} {xs : List Int} {S : Value} {a why : Int} (h : Rd w p xs S a why) (hb : Below (p + 1) w w') : Rd w' p xs S a why :=
  ⟨Nat.lt_of_lt_of_le h.lt hb.size, h.sl.below (hb.mono (Nat.le_succ _)), (hb.cell (p := ⟨p, 0, none⟩) (Nat.lt_succ_self _)).trans h.c0, (hb.cell (p := ⟨p, 1, none⟩) (Nat.lt_succ_self _)).trans h.c1, (hb.cell (p := ⟨p, 2, none⟩) (Nat.lt_succ_self _)).trans h.c2, fun i => (hb.frozen (p := ⟨p, i, none⟩) (Nat.lt_succ_self _)).trans (h.fz i)⟩
theorem Rd.other {w : World} {p : Nat} {xs : List Int} {S : Value} {a why : Int} (h : Rd w p xs S a why) {q : Nat} (hq : p < q) (o : Nat) (v : Value) : Rd (w.setCell ⟨q, o, none⟩ v) p xs S a why :=
  h.below1 ((Below.refl _ _).setCell (by simp; omega) v)
theorem But.frozen {p : Nat} {w w' : World} (h : But p w w') {b o : Nat} (hb : b < w.heap.size) (hp : b ≠ p) : w'.frozen? ⟨b, o, none⟩ = w.frozen? ⟨b, o, none⟩ := World.frozen?_of_block (w := w) (a := ⟨b, o, none⟩) (h.block b hb hp)

/-- What a reading's closure leaves that wrote a number. -/
def Wrote (p q2 : Nat) (xs : List Int) (S : Value) (a : Int) (v : Value) (w1 w' : World) : Prop := ∃ w2, But p w1 w2 ∧ w' = w2.setCell ⟨q2, 0, none⟩ v ∧ Rd w' p xs S a 0 ∧ w'.cell? ⟨q2, 0, none⟩ = some v ∧ w'.frozen? ⟨q2, 0, none⟩ = false

set_option maxHeartbeats 1000000 in
theorem int1_ok {xs : List Int} {S : Value} {p a k q1 q2 : Nat} {n x : Int} {w : World} (hR : Rd w p xs S a 0) (hl : xs.length ≤ 1099511627776) (hb : Bytes xs) (hn : numR (xs.drop a) = .inr (n, k))
    (h1 : w.cell? ⟨q1, 0, none⟩ = some (.pointer (some ⟨p, 0, none⟩))) (h2 : w.cell? ⟨q2, 0, none⟩ = some (.int .i64 x)) (hf : w.frozen? ⟨q2, 0, none⟩ = false) (hp2 : p < q2) (hlt : q2 < w.heap.size) :
    Calls Try.prog 63 #[.pointer (some ⟨q1, 0, none⟩), .pointer (some ⟨q2, 0, none⟩)] w fun e w' => e = .returned (.tuple #[]) ∧ Wrote p q2 xs S ((a + k : Nat) : Int) (.int .i64 n) w w' := by
  have HN := Lib.hid (number_ok hR hl hb hn)
  clear hR hb hn
  go_enter Try.func63, Try.ntmps63
  go_wp2_with fail
  refine HN.out.mono ?_
  rintro e w1 ⟨rfl, hB1, hR1⟩
  have h2' := (hB1.cell (o := 0) hlt (by omega)).trans h2
  have hf' := (hB1.frozen (o := 0) hlt (by omega)).trans hf
  have HR1 := Lib.hid hR1
  clear hR1
  go_wp2_with fail
  go_end0
  exact ⟨rfl, w1, hB1, rfl, HR1.out.other hp2 0 _, World.cell?_setCell_same _ _ _ h2', by rw [World.frozen?_setCell]; exact hf'⟩
theorem int1_no {xs : List Int} {S : Value} {p a q1 q2 : Nat} {c : Int} {w : World} (hR : Rd w p xs S a 0) (hl : xs.length ≤ 1099511627776) (ha : a ≤ xs.length) (hb : Bytes xs) (hn : numR (xs.drop a) = .inl c)
    (h1 : w.cell? ⟨q1, 0, none⟩ = some (.pointer (some ⟨p, 0, none⟩))) :
    Calls Try.prog 63 #[.pointer (some ⟨q1, 0, none⟩), .pointer (some ⟨q2, 0, none⟩)] w fun e w' => e = .panicked (haltP c) ∧ But p w w' ∧ ∃ a', Rd w' p xs S a' 0 := by
  have HN := Lib.hid (number_no hR hl ha hb hn)
  clear hR hb hn
  go_enter Try.func63, Try.ntmps63
  go_wp2_with fail
  refine HN.out.mono ?_
  rintro e w1 ⟨rfl, hB1, hR1⟩
  exact ⟨rfl, rfl, hB1, hR1⟩

/-- What a reading of a number hands back; where the reader stands; why it failed. -/
def stepR (r : Int ⊕ (Int × Nat)) (a : Nat) (why : Int) : Int × Int × Int :=
  if why = 0 then (match r with | .inl c => (0, a, c) | .inr (n, k) => (n, ((a + k : Nat) : Int), 0)) else (0, a, why)

/-- A reading through a closure that writes its number into a new variable. -/
theorem reading_num {g : FuncId} {cap : Array Value} {xs : List Int} {S : Value} {p a q2 : Nat} {why : Int} {r : Int ⊕ (Int × Nat)} {w W : World} (hR : Rd w p xs S a why) (hB : Below w.heap.size w W) (hq : w.heap.size ≤ q2) (hlt : q2 < W.heap.size)
    (h2 : W.cell? ⟨q2, 0, none⟩ = some (.int .i64 0)) (hf : W.frozen? ⟨q2, 0, none⟩ = false) (hen : ∀ W : World, (callFunc g cap).run Try.prog W = .ok (.enter g cap) W)
    (hok : ∀ n k w1, why = 0 → r = .inr (n, k) → Below W.heap.size W w1 → Calls Try.prog g cap w1 fun e w' => e = .returned (.tuple #[]) ∧ Wrote p q2 xs S ((a + k : Nat) : Int) (.int .i64 n) w1 w')
    (hno : ∀ c w1, why = 0 → r = .inl c → Below W.heap.size W w1 → Calls Try.prog g cap w1 fun e w' => e = .panicked (haltP c) ∧ But p w1 w' ∧ ∃ a', Rd w' p xs S a' 0) :
    Calls Try.prog 52 #[.pointer (some ⟨p, 0, none⟩), .func (.func g) #[] cap] W fun e w' => e = .returned (.tuple #[]) ∧ But p w w' ∧ Rd w' p xs S (stepR r a why).2.1 (stepR r a why).2.2 ∧
      w'.cell? ⟨q2, 0, none⟩ = some (.int .i64 (stepR r a why).1) ∧ w'.frozen? ⟨q2, 0, none⟩ = false := by
  have hp2 : p < q2 := Nat.lt_of_lt_of_le hR.lt hq
  by_cases hw : why = 0
  · subst hw
    cases r with
    | inr v =>
      obtain ⟨n, k⟩ := v
      refine (reading_ok g cap (fun w' => ∃ w1, Below W.heap.size W w1 ∧ Wrote p q2 xs S ((a + k : Nat) : Int) (.int .i64 n) w1 w') (hR.below hB) hen fun w1 hb1 => (hok n k w1 rfl rfl hb1).mono fun e w' h => ⟨h.1, w1, hb1, h.2⟩).mono ?_
      rintro e w' ⟨rfl, w1, hb1, w2, hB2, rfl, hR2, hc, hfz⟩
      exact ⟨rfl, ((((But.of hB).trans (But.of hb1))).trans hB2).fresh hq 0 _, hR2, hc, hfz⟩
    | inl c =>
      refine (reading_no g cap c (hR.below hB) hen fun w1 hb1 => hno c w1 rfl rfl hb1).mono ?_
      rintro e w' ⟨rfl, hB2, hR2⟩
      exact ⟨rfl, (But.of hB).trans hB2, hR2, (hB2.cell hlt (by omega)).trans h2, (hB2.frozen hlt (by omega)).trans hf⟩
  · have e : stepR r a why = (0, (a : Int), why) := by unfold stepR; rw [if_neg hw]
    rw [e]
    refine (reading_skip g cap (hR.below hB) hw).mono ?_
    rintro e w' ⟨rfl, hb⟩
    exact ⟨rfl, But.of (hB.trans (hb.mono hB.size)), (hR.below hB).below hb, (hb.cell (p := ⟨q2, 0, none⟩) hlt).trans h2, (hb.frozen (p := ⟨q2, 0, none⟩) hlt).trans hf⟩

set_option maxHeartbeats 2000000 in
theorem Int_any {xs : List Int} {S : Value} {p a : Nat} {why : Int} {w : World} (hR : Rd w p xs S a why) (hl : xs.length ≤ 1099511627776) (ha : a ≤ xs.length) (hb : Bytes xs) (r : Int × Int × Int) (hr : stepR (numR (xs.drop a)) a why = r) :
    Calls Try.prog 57 #[.pointer (some ⟨p, 0, none⟩)] w fun e w' => e = .returned (.int .i64 r.1) ∧ But p w w' ∧ Rd w' p xs S r.2.1 r.2.2 := by
  have hmf : ∀ (fn : Fn) (first cap : Array Value) (w : World), (Instr.makeFunc fn first cap).run Try.prog w = .ok (.func fn first cap) w := fun _ _ _ _ => rfl
  have hsz : ((w.alloc (.cells #[.pointer (some ⟨p, 0, none⟩)] 63)).alloc (.cells #[.int .i64 0] 3)).heap.size = w.heap.size + 2 := by simp
  have hc1 : ((w.alloc (.cells #[.pointer (some ⟨p, 0, none⟩)] 63)).alloc (.cells #[.int .i64 0] 3)).cell? ⟨w.heap.size, 0, none⟩ = some (.pointer (some ⟨p, 0, none⟩)) := by simp [go_sem]
  have hc2 : ((w.alloc (.cells #[.pointer (some ⟨p, 0, none⟩)] 63)).alloc (.cells #[.int .i64 0] 3)).cell? ⟨w.heap.size + 1, 0, none⟩ = some (.int .i64 0) := by simp [go_sem]
  have hf2 : ((w.alloc (.cells #[.pointer (some ⟨p, 0, none⟩)] 63)).alloc (.cells #[.int .i64 0] 3)).frozen? ⟨w.heap.size + 1, 0, none⟩ = false := by simp [go_sem]
  have hB := ((Below.refl w.heap.size w).alloc (Nat.le_refl _) (.cells #[.pointer (some ⟨p, 0, none⟩)] 63)).alloc (by simp) (.cells #[.int .i64 0] 3)
  have hplt := hR.lt
  have HH := Lib.hid (reading_num (g := 63) (cap := #[.pointer (some ⟨w.heap.size, 0, none⟩), .pointer (some ⟨w.heap.size + 1, 0, none⟩)]) (r := numR (xs.drop a)) hR hB (Nat.le_succ _) (by rw [hsz]; omega) hc2 hf2 (fun W => by kernel_rfl)
    (fun n k w1 hw hn hb1 => by
      subst hw
      exact int1_ok ((hR.below hB).below hb1) hl hb hn ((hb1.cell (p := ⟨w.heap.size, 0, none⟩) (by rw [hsz]; simp)).trans hc1) ((hb1.cell (p := ⟨w.heap.size + 1, 0, none⟩) (by rw [hsz]; simp)).trans hc2) ((hb1.frozen (p := ⟨w.heap.size + 1, 0, none⟩) (by rw [hsz]; simp)).trans hf2) (by omega) (by have := hb1.size; omega))
    (fun c w1 hw hn hb1 => by
      subst hw
      exact int1_no ((hR.below hB).below hb1) hl ha hb hn ((hb1.cell (p := ⟨w.heap.size, 0, none⟩) (by rw [hsz]; simp)).trans hc1)))
  rw [hr] at HH
  clear hb hr hc1 hc2 hf2 hB hsz ha
  go_enter Try.func57, Try.ntmps57
  go_wp2_with fail
  refine HH.out.mono ?_
  rintro e w' ⟨rfl, hB2, hR2, hc2, hf2⟩
  have HR2 := Lib.hid hR2
  clear hR2 hR
  go_wp2_with fail
  have hq1 : w.heap.size.succ = w.heap.size + 1 := rfl
  rw [hq1] at hc2 hf2
  have hc3 := World.cell?_setCell_same w' ⟨w.heap.size + 1, 0, none⟩ (.int .i64 r.1) hc2
  have hB3 := hB2.fresh (Nat.le_succ _) 0 (.int .i64 r.1)
  rw [hq1] at hB3
  have hR3 := HR2.out.other (q := w.heap.size + 1) (by omega) 0 (.int .i64 r.1)
  simp [bodyPost, results, Try.results57, go_sem, hc3, hB3, hR3]
end Go.Proofs.Ytjcocahhpjgbhaa

/- The reader: Count. -/
set_option maxRecDepth 100000
set_option linter.unusedVariables false
set_option linter.unusedSimpArgs false
namespace Go.Proofs.Ytjcocahhpjgbhaa
open Go.RowKit Go.BigFrame

set_option maxHeartbeats 1000000 in
theorem count1_ok {xs : List Int} {S : Value} {p a k q1 q3 q2 : Nat} {n x most : Int} {w : World} (hR : Rd w p xs S a 0) (hl : xs.length ≤ 1099511627776) (hb : Bytes xs) (hn : countR (xs.drop a) most = .inr (n, k))
    (h1 : w.cell? ⟨q1, 0, none⟩ = some (.pointer (some ⟨p, 0, none⟩))) (h3 : w.cell? ⟨q3, 0, none⟩ = some (.int .i64 most)) (h2 : w.cell? ⟨q2, 0, none⟩ = some (.int .i64 x)) (hf : w.frozen? ⟨q2, 0, none⟩ = false) (hp2 : p < q2) (hlt : q2 < w.heap.size) :
    Calls Try.prog 53 #[.pointer (some ⟨q1, 0, none⟩), .pointer (some ⟨q3, 0, none⟩), .pointer (some ⟨q2, 0, none⟩)] w fun e w' => e = .returned (.tuple #[]) ∧ Wrote p q2 xs S ((a + k : Nat) : Int) (.int .i64 n) w w' := by
  have HN := Lib.hid (count_ok hR hl hb hn)
  clear hR hb hn
  go_enter Try.func53, Try.ntmps53
  go_wp2_with fail
  refine HN.out.mono ?_
  rintro e w1 ⟨rfl, hB1, hR1⟩
  have h2' := (hB1.cell (o := 0) hlt (by omega)).trans h2
  have hf' := (hB1.frozen (o := 0) hlt (by omega)).trans hf
  have HR1 := Lib.hid hR1
  clear hR1
  go_wp2_with fail
  go_end0
  exact ⟨rfl, w1, hB1, rfl, HR1.out.other hp2 0 _, World.cell?_setCell_same _ _ _ h2', by rw [World.frozen?_setCell]; exact hf'⟩
theorem count1_no {xs : List Int} {S : Value} {p a q1 q3 q2 : Nat} {c most : Int} {w : World} (hR : Rd w p xs S a 0) (hl : xs.length ≤ 1099511627776) (ha : a ≤ xs.length) (hb : Bytes xs) (hn : countR (xs.drop a) most = .inl c)
    (h1 : w.cell? ⟨q1, 0, none⟩ = some (.pointer (some ⟨p, 0, none⟩))) (h3 : w.cell? ⟨q3, 0, none⟩ = some (.int .i64 most)) :
    Calls Try.prog 53 #[.pointer (some ⟨q1, 0, none⟩), .pointer (some ⟨q3, 0, none⟩), .pointer (some ⟨q2, 0, none⟩)] w fun e w' => e = .panicked (haltP c) ∧ But p w w' ∧ ∃ a', Rd w' p xs S a' 0 := by
  have HN := Lib.hid (count_no hR hl ha hb hn)
  clear hR hb hn
  go_enter Try.func53, Try.ntmps53
  go_wp2_with fail
  refine HN.out.mono ?_
  rintro e w1 ⟨rfl, hB1, hR1⟩
  exact ⟨rfl, rfl, hB1, hR1⟩

set_option maxHeartbeats 2000000 in
theorem Count_any {xs : List Int} {S : Value} {p a : Nat} {why most : Int} {w : World} (hR : Rd w p xs S a why) (hl : xs.length ≤ 1099511627776) (ha : a ≤ xs.length) (hb : Bytes xs) (r : Int × Int × Int) (hr : stepR (countR (xs.drop a) most) a why = r) :
    Calls Try.prog 42 #[.pointer (some ⟨p, 0, none⟩), .int .i64 most] w fun e w' => e = .returned (.int .i64 r.1) ∧ But p w w' ∧ Rd w' p xs S r.2.1 r.2.2 := by
  have hmf : ∀ (fn : Fn) (first cap : Array Value) (w : World), (Instr.makeFunc fn first cap).run Try.prog w = .ok (.func fn first cap) w := fun _ _ _ _ => rfl
  have hsz : (((w.alloc (.cells #[.pointer (some ⟨p, 0, none⟩)] 63)).alloc (.cells #[.int .i64 most] 3)).alloc (.cells #[.int .i64 0] 3)).heap.size = w.heap.size + 3 := by simp
  have hc1 : (((w.alloc (.cells #[.pointer (some ⟨p, 0, none⟩)] 63)).alloc (.cells #[.int .i64 most] 3)).alloc (.cells #[.int .i64 0] 3)).cell? ⟨w.heap.size, 0, none⟩ = some (.pointer (some ⟨p, 0, none⟩)) := by simp [go_sem]
  have hm1 : (((w.alloc (.cells #[.pointer (some ⟨p, 0, none⟩)] 63)).alloc (.cells #[.int .i64 most] 3)).alloc (.cells #[.int .i64 0] 3)).cell? ⟨w.heap.size + 1, 0, none⟩ = some (.int .i64 most) := by simp [go_sem]
  have hc2 : (((w.alloc (.cells #[.pointer (some ⟨p, 0, none⟩)] 63)).alloc (.cells #[.int .i64 most] 3)).alloc (.cells #[.int .i64 0] 3)).cell? ⟨w.heap.size + 2, 0, none⟩ = some (.int .i64 0) := by simp [go_sem]
  have hf2 : (((w.alloc (.cells #[.pointer (some ⟨p, 0, none⟩)] 63)).alloc (.cells #[.int .i64 most] 3)).alloc (.cells #[.int .i64 0] 3)).frozen? ⟨w.heap.size + 2, 0, none⟩ = false := by simp [go_sem]
  have hB := (((Below.refl w.heap.size w).alloc (Nat.le_refl _) (.cells #[.pointer (some ⟨p, 0, none⟩)] 63)).alloc (by simp) (.cells #[.int .i64 most] 3)).alloc (by simp; omega) (.cells #[.int .i64 0] 3)
  have hplt := hR.lt
  have HH := Lib.hid (reading_num (g := 53) (cap := #[.pointer (some ⟨w.heap.size, 0, none⟩), .pointer (some ⟨w.heap.size + 1, 0, none⟩), .pointer (some ⟨w.heap.size + 2, 0, none⟩)]) (r := countR (xs.drop a) most) hR hB (by omega) (by rw [hsz]; omega) hc2 hf2 (fun W => by kernel_rfl)
    (fun n k w1 hw hn hb1 => by
      subst hw
      exact count1_ok ((hR.below hB).below hb1) hl hb hn ((hb1.cell (p := ⟨w.heap.size, 0, none⟩) (by rw [hsz]; simp)).trans hc1) ((hb1.cell (p := ⟨w.heap.size + 1, 0, none⟩) (by rw [hsz]; simp)).trans hm1) ((hb1.cell (p := ⟨w.heap.size + 2, 0, none⟩) (by rw [hsz]; simp)).trans hc2) ((hb1.frozen (p := ⟨w.heap.size + 2, 0, none⟩) (by rw [hsz]; simp)).trans hf2) (by omega) (by have := hb1.size; omega))
    (fun c w1 hw hn hb1 => by
      subst hw
      exact count1_no ((hR.below hB).below hb1) hl ha hb hn ((hb1.cell (p := ⟨w.heap.size, 0, none⟩) (by rw [hsz]; simp)).trans hc1) ((hb1.cell (p := ⟨w.heap.size + 1, 0, none⟩) (by rw [hsz]; simp)).trans hm1)))
  rw [hr] at HH
  clear hb hr hc1 hm1 hc2 hf2 hB hsz ha
  go_enter Try.func42, Try.ntmps42
  go_wp2_with fail
  refine HH.out.mono ?_
  rintro e w' ⟨rfl, hB2, hR2, hc2, hf2⟩
  have HR2 := Lib.hid hR2
  clear hR2 hR
  go_wp2_with fail
  have hc3 := World.cell?_setCell_same w' ⟨w.heap.size + 2, 0, none⟩ (.int .i64 r.1) hc2
  have hB3 := hB2.fresh (q := w.heap.size + 2) (by omega) 0 (.int .i64 r.1)
  have hR3 := HR2.out.other (q := w.heap.size + 2) (by omega) 0 (.int .i64 r.1)
  simp [bodyPost, results, Try.results42, go_sem, hc3, hB3, hR3]
end Go.Proofs.Ytjcocahhpjgbhaa

/- The reader: From, Done. -/
set_option maxRecDepth 100000
set_option linter.unusedVariables false
set_option linter.unusedSimpArgs false
namespace Go.Proofs.Ytjcocahhpjgbhaa
open Go.RowKit Go.BigFrame

set_option maxHeartbeats 1000000 in
theorem From_any (xs : List Int) (v : Value) (w : World) (hx : Sl .u8 w w.heap.size v xs) (hl : xs.length ≤ 1099511627776) :
    Calls Try.prog 26 #[v] w fun e w' => ∃ p S, e = .returned (.pointer (some ⟨p, 0, none⟩)) ∧ w.heap.size ≤ p ∧ Below w.heap.size w w' ∧ Rd w' p xs S 0 0 := by
  obtain ⟨A, c, rfl⟩ := hx.shape
  have HX := Lib.hid hx
  clear hx
  go_enter Try.func26, Try.ntmps26
  go_wp2_with (at_builtin; refine wpList_append_sl rfl _ _ 26 rfl Try.underlying26 infoBytes (by decide) rfl rfl (OwnK.nil_ w w.heap.size) HX.out (by rw [List.length_nil]; omega) (Nat.le_refl _) ?_; intro v' w1 hown hb1; have hs1 := hb1.size; rw [List.nil_append] at hown; have HS1 := Lib.hid hown.sl; clear hown; obtain ⟨A1, c1, rfl⟩ := HS1.out.shape)
  go_ret
  refine ⟨w1.heap.size, .slice A1 xs.length c1, rfl, hs1, hb1.alloc hs1 _, ?_⟩
  have hsl := HS1.out.below (Below.alloc (Below.refl w1.heap.size w1) (Nat.le_refl _) (.cells #[.slice A1 xs.length c1, .int .i64 0, .int .i64 0] 84))
  exact ⟨by simp, hsl, by simp [go_sem], by simp [go_sem], by simp [go_sem], fun i => by simp [go_sem]⟩

def doneR (xs : List Int) (a why : Int) : Int := if why = 0 ∧ a < xs.length then 5 else why
set_option maxHeartbeats 1000000 in
theorem Done_any {xs : List Int} {S : Value} {p : Nat} {a why : Int} {w : World} (hR : Rd w p xs S a why) :
    Calls Try.prog 31 #[.pointer (some ⟨p, 0, none⟩)] w fun e w' => e = .returned (.int .i64 (doneR xs a why)) ∧ Below w.heap.size w w' := by
  obtain ⟨A, c, rfl⟩ := hR.sl.shape
  have hc0 := hR.c0
  have hc1 := hR.c1
  have hc2 := hR.c2
  have hplt := hR.lt
  by_cases hw : why = 0
  · subst hw
    by_cases hlt : a < (xs.length : Int)
    · have e : doneR xs a 0 = 5 := by unfold doneR; rw [if_pos ⟨rfl, hlt⟩]
      rw [e]
      clear e hR
      go_enter Try.func31, Try.ntmps31
      go_wp2
      go_region
      go_wp2
      go_ret
      exact ⟨rfl, Below.drew (Below.refl _ _)⟩
    · have e : doneR xs a 0 = 0 := by unfold doneR; rw [if_neg (fun h => hlt h.2)]
      rw [e]
      clear e hR
      go_enter Try.func31, Try.ntmps31
      go_wp2
      go_region
      go_wp2
      go_ret
      exact ⟨rfl, Below.drew (Below.refl _ _)⟩
  · have e : doneR xs a why = why := by unfold doneR; rw [if_neg (fun h => hw h.1)]
    rw [e]
    have hwb : (why == 0) = false := by simp [hw]
    clear e hR
    go_enter Try.func31, Try.ntmps31
    go_wp2
    go_region
    go_wp2
    go_ret
    exact ⟨rfl, Below.drew (Below.refl _ _)⟩
end Go.Proofs.Ytjcocahhpjgbhaa

/- Laws for a region that draws: append to a row of the call's own. -/
set_option maxRecDepth 100000
set_option linter.unusedVariables false
set_option linter.unusedSimpArgs false
namespace Go.Proofs.Ytjcocahhpjgbhaa
open Go.RowKit

/-- append(v, u...), one step of a region that draws: v the call's own, u whatever slice of integers. -/
theorem step_append_sl {P : Program} {ops : Array Oper} {o : Oper} {a : Act} {w : World} {K : Act → World → Prop} {Q : Exit → Act → World → Prop} {E : Prop} (hgd : o.guard = none) (s x : Operand) (t : TypeId)
    (ho : o.op = .call { callee := .builtin .append, args := #[s, x], argTypes := #[t, t] })
    {k : IntKind} {e : TypeId} {bytes : Nat} (hu : P.underlying t = some (.slice e)) (hinfo : (P.info? e).map (fun i => (i.zero, i.size, i.bytes)) = some (some (.int k 0), 1, bytes)) (hby : bytes ≤ 8)
    {B : Nat} {v u : Value} {xs ys : List Int} (hs : a.eval s = v) (hx : a.eval x = u) (hown : OwnK k e w B v xs) (hsrc : Sl k w w.heap.size u ys) (hl : xs.length + ys.length ≤ 4398046511104) (hB : B ≤ w.heap.size)
    (h : ∀ v' w', OwnK k e w' B v' (xs ++ ys) → Below B w w' → K (a.put o.dst v') w') :
    if Region.wanted o (yielded ops a.tmps) = true then Oper.wp P o a w K Q else E := by
  have hw : Region.wanted o (yielded ops a.tmps) = true := by simp [Region.wanted, hgd]
  rw [if_pos hw]
  obtain ⟨i0, hi, hz0, hz1, hz2⟩ := info_parts hinfo
  obtain ⟨A, c, rfl⟩ := hsrc.shape
  cases A with
  | none =>
    have hy : ys = [] := by
      rcases hsrc with ⟨A', c', hv, rfl⟩ | ⟨b, off, c', hv, _⟩
      · rfl
      · cases hv
    subst hy
    have hrun := run_append_nothing (P := P) (w := w) B t o.type e i0 1 c hu hi v _ _ hown.row
    unfold Oper.wp
    simp [execOp, ho, resolve, invoke, builtin, hs, hx, hrun, Result.andThen]
    exact h v w (by simpa using hown) (Below.refl _ _)
  | some ad =>
    refine wp_append_own w s x t ho B e i0 (.int k 0) 1 bytes hu hi hz0 hz1 hz2 rfl (by decide) v xs.length _ hs hown.row ad ys.length c (ys.map (Value.int k)) hx (by simp) hsrc.cells ?_ ?_ ?_ hB ?_
    · intro u hu; simp at hu; obtain ⟨x, _, rfl⟩ := hu; rfl
    · unfold maxLen; omega
    · exact Nat.le_trans (Nat.mul_le_mul (Nat.le_refl _) hby) (by omega)
    · intro v' w' ho' hg hn
      exact h v' w' (OwnK.of ho' (by simp) (by simp)) ((Below.refl _ _).grown hg hB (own_base hown.row))

/-- A step of a drawing region that dies: the walk goes on along an empty region. -/
theorem dies_step {G : Prop} {P : Program} {md : Region.Mode} {a : Act} {w : World} (h : G) (_ : wpAny P md (List.toArray []) (fun _ _ _ => True) 1 #[] a w) : G := h
end Go.Proofs.Ytjcocahhpjgbhaa

/- The reader: Blob. -/
set_option maxRecDepth 100000
set_option linter.unusedVariables false
set_option linter.unusedSimpArgs false
namespace Go.Proofs.Ytjcocahhpjgbhaa
open Go.RowKit Go.BigFrame

/-- What a reading's closure leaves that wrote a row of its own. -/
def WroteB (p q2 B : Nat) (xs ys : List Int) (S : Value) (a : Int) (w1 w' : World) : Prop := ∃ w2 v, But p w1 w2 ∧ w' = w2.setCell ⟨q2, 0, none⟩ v ∧ Rd w' p xs S a 0 ∧ w'.cell? ⟨q2, 0, none⟩ = some v ∧ w'.frozen? ⟨q2, 0, none⟩ = false ∧ OwnBytes w2 B v ys

end Go.Proofs.Ytjcocahhpjgbhaa

/- The reader: Blob's closure where it halts. -/
set_option maxRecDepth 100000
set_option linter.unusedVariables false
set_option linter.unusedSimpArgs false
namespace Go.Proofs.Ytjcocahhpjgbhaa
open Go.RowKit Go.BigFrame

end Go.Proofs.Ytjcocahhpjgbhaa

/- The reader: Blob's closure where there is not enough. -/
set_option maxRecDepth 100000
set_option linter.unusedVariables false
set_option linter.unusedSimpArgs false
namespace Go.Proofs.Ytjcocahhpjgbhaa
open Go.RowKit Go.BigFrame

end Go.Proofs.Ytjcocahhpjgbhaa

/- The reader: Blob. -/
set_option maxRecDepth 100000
set_option linter.unusedVariables false
set_option linter.unusedSimpArgs false
namespace Go.Proofs.Ytjcocahhpjgbhaa
open Go.RowKit Go.BigFrame

theorem numR_le {l : List Int} {n : Int} {k : Nat} (h : numR l = .inr (n, k)) : k ≤ l.length ∧ 1 ≤ k := by
  cases l with
  | nil => cases h
  | cons x t =>
    rw [numR_cons] at h
    split at h
    · cases h
    split at h
    · cases h
    rename_i h2
    split at h
    · cases h
    split at h
    all_goals
      split at h
      · injection h with h
        injection h with e1 e2
        subst e2
        exact ⟨by rw [List.length_cons]; omega, by omega⟩
      · cases h
theorem countR_num {l : List Int} {n most : Int} {k : Nat} (h : countR l most = .inr (n, k)) : numR l = .inr (n, k) ∧ 0 ≤ n ∧ n ≤ most := by
  unfold countR at h
  split at h
  · cases h
  · rename_i n' k' hn
    split at h
    · rename_i hc
      injection h with h
      injection h with e1 e2
      subst e1 e2
      exact ⟨hn, hc⟩
    · cases h

/-- A row that is read. -/
def blobR (l : List Int) : Int ⊕ (List Int × Nat) :=
  match countR l 2147483647 with
  | .inl c => .inl c
  | .inr (n, k) => if k + n.toNat ≤ l.length then .inr ((l.drop k).take n.toNat, k + n.toNat) else .inl 4
/-- What a reading of a row hands back; where the reader stands; why it failed. -/
def stepB (r : Int ⊕ (List Int × Nat)) (a : Nat) (why : Int) : List Int × Int × Int :=
  if why = 0 then (match r with | .inl c => ([], a, c) | .inr (n, k) => (n, ((a + k : Nat) : Int), 0)) else ([], a, why)

/-- A reading through a closure that writes its row into a new variable. -/
theorem reading_row {g : FuncId} {cap : Array Value} {xs : List Int} {S : Value} {p a q2 : Nat} {why : Int} {r : Int ⊕ (List Int × Nat)} {w W : World} (hR : Rd w p xs S a why) (hB : Below w.heap.size w W) (hq : w.heap.size ≤ q2) (hlt : q2 < W.heap.size)
    (h2 : W.cell? ⟨q2, 0, none⟩ = some (.slice none 0 0)) (hf : W.frozen? ⟨q2, 0, none⟩ = false) (hen : ∀ W : World, (callFunc g cap).run Try.prog W = .ok (.enter g cap) W)
    (hok : ∀ ys k w1, why = 0 → r = .inr (ys, k) → Below W.heap.size W w1 → Calls Try.prog g cap w1 fun e w' => e = .returned (.tuple #[]) ∧ WroteB p q2 w1.heap.size xs ys S ((a + k : Nat) : Int) w1 w')
    (hno : ∀ c w1, why = 0 → r = .inl c → Below W.heap.size W w1 → Calls Try.prog g cap w1 fun e w' => e = .panicked (haltP c) ∧ But p w1 w' ∧ ∃ a', Rd w' p xs S a' 0) :
    Calls Try.prog 52 #[.pointer (some ⟨p, 0, none⟩), .func (.func g) #[] cap] W fun e w' => e = .returned (.tuple #[]) ∧ But p w w' ∧ Rd w' p xs S (stepB r a why).2.1 (stepB r a why).2.2 ∧
      ∃ v, w'.cell? ⟨q2, 0, none⟩ = some v ∧ w'.frozen? ⟨q2, 0, none⟩ = false ∧ OwnBytes w' W.heap.size v (stepB r a why).1 := by
  have hp2 : p < q2 := Nat.lt_of_lt_of_le hR.lt hq
  by_cases hw : why = 0
  · subst hw
    cases r with
    | inr v =>
      obtain ⟨ys, k⟩ := v
      refine (reading_ok g cap (fun w' => ∃ w1, Below W.heap.size W w1 ∧ WroteB p q2 w1.heap.size xs ys S ((a + k : Nat) : Int) w1 w') (hR.below hB) hen fun w1 hb1 => (hok ys k w1 rfl rfl hb1).mono fun e w' h => ⟨h.1, w1, hb1, h.2⟩).mono ?_
      rintro e w' ⟨rfl, w1, hb1, w2, v, hB2, rfl, hR2, hc, hfz, hown⟩
      refine ⟨rfl, ((((But.of hB).trans (But.of hb1))).trans hB2).fresh hq 0 _, hR2, v, hc, hfz, ?_⟩
      exact (hown.down hb1.size).but hlt ((But.refl q2 w2).store 0 v)
    | inl c =>
      refine (reading_no g cap c (hR.below hB) hen fun w1 hb1 => hno c w1 rfl rfl hb1).mono ?_
      rintro e w' ⟨rfl, hB2, hR2⟩
      exact ⟨rfl, (But.of hB).trans hB2, hR2, _, (hB2.cell hlt (by omega)).trans h2, (hB2.frozen hlt (by omega)).trans hf, OwnK.nil_ _ _⟩
  · have e : stepB r a why = ([], (a : Int), why) := by unfold stepB; rw [if_neg hw]
    rw [e]
    refine (reading_skip g cap (hR.below hB) hw).mono ?_
    rintro e w' ⟨rfl, hb⟩
    exact ⟨rfl, But.of (hB.trans (hb.mono hB.size)), (hR.below hB).below hb, _, (hb.cell (p := ⟨q2, 0, none⟩) hlt).trans h2, (hb.frozen (p := ⟨q2, 0, none⟩) hlt).trans hf, OwnK.nil_ _ _⟩

end Go.Proofs.Ytjcocahhpjgbhaa

/- Reading what was laid: plain facts. -/
set_option maxRecDepth 100000
set_option linter.unusedVariables false
set_option linter.unusedSimpArgs false
namespace Go.Proofs.Ytjcocahhpjgbhaa
open Go.RowKit

theorem valD_acc (u k : Nat) : ∀ acc, List.foldl (fun u d => u * 256 + Int.toNat d) acc (beD u k) = acc * 256 ^ k + u % 256 ^ k := by
  induction k with
  | zero => intro acc; simp [beD, Nat.mod_one]
  | succ k ih =>
    intro acc
    simp only [beD, List.foldl_cons]
    rw [ih, Int.toNat_natCast, Nat.mod_pow_succ, Nat.pow_succ, Nat.add_mul, Nat.mul_assoc, Nat.mul_comm (256 ^ k) 256, Nat.mul_comm (u / 256 ^ k % 256)]
    omega
theorem valD_beD {u k : Nat} (h : u < 256 ^ k) : valD (beD u k) = u := by
  have := valD_acc u k 0
  unfold valD
  rw [this, Nat.mod_eq_of_lt h]; omega
theorem headI_is {n : Int} (h0 : -9223372036854775808 ≤ n) (h1 : n ≤ 9223372036854775807) :
    kOf (headI n) = nb (mag n) ∧ ¬ (8 < kOf (headI n) ∨ headI n = 16) ∧ (headI n % 32 < 16 ↔ 0 ≤ n) := by
  have hm := mag_lt h0 h1
  have h8 := nb_le (u := mag n) (by omega)
  have hpos : n < 0 → 0 < nb (mag n) := fun h => (nb_iff (by omega)).2 (by unfold mag; simp; omega)
  unfold headI kOf
  by_cases hn : n < 0
  · have := hpos hn
    rw [if_pos hn]
    refine ⟨?_, ?_, ?_⟩
    · rw [if_neg (by omega)]; omega
    · rw [if_neg (by omega)]; omega
    · omega
  · rw [if_neg hn]
    refine ⟨?_, ?_, ?_⟩
    · rw [if_pos (by omega)]; omega
    · rw [if_pos (by omega)]; omega
    · omega
theorem beD_head {u k : Nat} (hk : 0 < k) : (beD u k)[0]?.getD 0 = ((u / 256 ^ (k - 1) % 256 : Nat) : Int) := by
  cases k with
  | zero => omega
  | succ k => rfl
theorem nb_top {u : Nat} (hu : u < 18446744073709551616) (h : 0 < nb u) : u / 256 ^ (nb u - 1) % 256 ≠ 0 := by
  have h1 := (nb_iff (k := nb u - 1) hu).1 (by omega)
  have h2 := lt_nb hu
  have h3 : 0 < u / 256 ^ (nb u - 1) := Nat.div_pos h1 (Nat.pow_pos (by decide))
  have h4 : u / 256 ^ (nb u - 1) < 256 := by
    rw [Nat.div_lt_iff_lt_mul (Nat.pow_pos (by decide)), Nat.mul_comm, ← Nat.pow_succ, show (nb u - 1).succ = nb u from by omega]
    exact h2
  omega

/-- A number is read as it was laid. -/
theorem numR_enc {n : Int} (h0 : -9223372036854775808 ≤ n) (h1 : n ≤ 9223372036854775807) (t : List Int) : numR (encI n ++ t) = .inr (n, (encI n).length) := by
  obtain ⟨e1, e2, e3⟩ := headI_is h0 h1
  have hm := mag_lt h0 h1
  have hlen := beD_length (mag n) (nb (mag n))
  have hval : valD ((beD (mag n) (nb (mag n)) ++ t).take (kOf (headI n))) = mag n := by
    rw [e1, List.take_append_of_le_length (by omega), List.take_of_length_le (by omega), valD_beD (lt_nb (by omega))]
  have hz : ¬ (0 < kOf (headI n) ∧ (beD (mag n) (nb (mag n)) ++ t)[0]?.getD 0 = 0) := by
    rintro ⟨ha, hb⟩
    rw [e1] at ha
    rw [List.getElem?_append_left (by omega), beD_head ha] at hb
    exact nb_top (by omega) ha (by omega)
  rw [encI_length]
  unfold encI
  rw [List.cons_append, numR_cons, if_neg e2, if_neg (by rw [List.length_append, e1]; omega), if_neg hz, hval]
  by_cases hn : 0 ≤ n
  · rw [if_pos (e3.2 hn), if_pos (by unfold mag; omega), e1]
    congr 2
    unfold mag; omega
  · rw [if_neg (fun h => hn (e3.1 h)), if_pos hm, e1]
    congr 2
    unfold mag; omega
theorem countR_enc {n most : Int} (h0 : 0 ≤ n) (h1 : n ≤ most) (h2 : n ≤ 9223372036854775807) (t : List Int) : countR (encI n ++ t) most = .inr (n, (encI n).length) := by
  unfold countR
  rw [numR_enc (by omega) h2]
  simp only
  rw [if_pos ⟨h0, h1⟩]
/-- A row is read as it was laid. -/
theorem blobR_enc {xs : List Int} (h : xs.length ≤ 2147483647) (t : List Int) : blobR (encB xs ++ t) = .inr (xs, (encB xs).length) := by
  unfold blobR encB
  rw [List.append_assoc, countR_enc (by omega) (by omega) (by omega)]
  simp only [Int.toNat_natCast]
  rw [if_pos (by simp)]
  rw [List.drop_left, List.take_left, List.length_append]

/-- Of a number whose last bytes are cut off, nothing is read. -/
theorem numR_cut {n : Int} (h0 : -9223372036854775808 ≤ n) (h1 : n ≤ 9223372036854775807) {m : Nat} (hm : m < (encI n).length) : numR ((encI n).take m) = .inl 4 := by
  obtain ⟨e1, e2, e3⟩ := headI_is h0 h1
  rw [encI_length] at hm
  unfold encI
  cases m with
  | zero => rfl
  | succ m =>
    rw [List.take_succ_cons, numR_cons, if_neg e2, if_pos (by rw [List.length_take, beD_length, e1]; omega)]
/-- Nor of a row. -/
theorem blobR_cut {xs : List Int} (h : xs.length ≤ 2147483647) {m : Nat} (hm : m < (encB xs).length) : blobR ((encB xs).take m) = .inl 4 := by
  have hl : (encB xs).length = (encI xs.length).length + xs.length := by unfold encB; rw [List.length_append]
  by_cases hc : m < (encI (xs.length : Int)).length
  · unfold blobR countR encB
    rw [List.take_append_of_le_length (by omega), numR_cut (by omega) (by omega) hc]
  · unfold blobR
    rw [show (encB xs).take m = encI (xs.length : Int) ++ xs.take (m - (encI (xs.length : Int)).length) from by unfold encB; rw [List.take_append, List.take_of_length_le (by omega)]]
    rw [countR_enc (by omega) (by omega) (by omega)]
    simp only [Int.toNat_natCast]
    rw [if_neg (by rw [List.length_append, List.length_take]; omega)]

/-! The way back: what is read as a number has one form. -/
theorem valD_cons (d : Int) (l : List Int) : valD (d :: l) = d.toNat * 256 ^ l.length + valD l := by
  have key : ∀ (l : List Int) (acc : Nat), List.foldl (fun u d => u * 256 + Int.toNat d) acc l = acc * 256 ^ l.length + valD l := by
    intro l
    induction l with
    | nil => intro acc; simp [valD]
    | cons x l ih =>
      intro acc
      unfold valD
      simp only [List.foldl_cons, List.length_cons]
      rw [ih, ih (0 * 256 + x.toNat), Nat.pow_succ, Nat.add_mul, Nat.mul_assoc, Nat.mul_comm 256 (256 ^ l.length)]
      simp [Nat.add_assoc]
  show List.foldl (fun u d => u * 256 + Int.toNat d) 0 (d :: l) = _
  simp only [List.foldl_cons]
  rw [key]; simp
theorem beD_mod {u v k : Nat} (h : u % 256 ^ k = v % 256 ^ k) : beD u k = beD v k := by
  induction k with
  | zero => rfl
  | succ k ih =>
    have hk : u % 256 ^ k = v % 256 ^ k := by
      have := congrArg (· % 256 ^ k) h
      simp only [Nat.pow_succ, Nat.mod_mul_right_mod] at this
      exact this
    have hd : u / 256 ^ k % 256 = v / 256 ^ k % 256 := by
      rw [Nat.mod_pow_succ, Nat.mod_pow_succ, hk] at h
      have := Nat.add_left_cancel h
      exact Nat.eq_of_mul_eq_mul_left (Nat.pow_pos (by decide)) this
    simp only [beD]
    rw [ih hk, hd]
theorem beD_valD {l : List Int} (hl : ∀ d ∈ l, 0 ≤ d ∧ d ≤ 255) : beD (valD l) l.length = l := by
  induction l with
  | nil => rfl
  | cons d l ih =>
    have hd := hl d (by simp)
    have hl' : ∀ x ∈ l, 0 ≤ x ∧ x ≤ 255 := fun x hx => hl x (by simp [hx])
    have hlt := valD_lt l hl'
    rw [valD_cons, List.length_cons]
    simp only [beD]
    rw [beD_mod (v := valD l) (by rw [Nat.mul_add_mod_self_right]), ih hl']
    congr 1
    rw [Nat.mul_comm, Nat.mul_add_div (Nat.pow_pos (by decide)), Nat.div_eq_of_lt hlt]
    omega
theorem encI_numR {l : List Int} {n : Int} {k : Nat} (hb : Bytes l) (h : numR l = .inr (n, k)) : encI n = l.take k ∧ -9223372036854775808 ≤ n ∧ n ≤ 9223372036854775807 := by
  cases l with
  | nil => cases h
  | cons x t =>
    obtain ⟨hx0, hx1⟩ := hb x (by simp)
    rw [numR_cons] at h
    split at h
    · cases h
    rename_i c1
    split at h
    · cases h
    rename_i c2
    split at h
    · cases h
    rename_i c3
    have hbt : ∀ d ∈ t.take (kOf x), 0 ≤ d ∧ d ≤ 255 := fun d hd => hb d (by simp [List.mem_of_mem_take hd])
    have hlt := valD_lt _ hbt
    have hlen : (t.take (kOf x)).length = kOf x := by rw [List.length_take]; omega
    rw [hlen] at hlt
    have hbe := beD_valD hbt
    rw [hlen] at hbe
    have hk8 : kOf x ≤ 8 := by omega
    have hp : 256 ^ kOf x ≤ 18446744073709551616 := Nat.le_trans (Nat.pow_le_pow_right (by decide) hk8) (by decide)
    obtain ⟨u, hu⟩ : ∃ u, u = valD (t.take (kOf x)) := ⟨_, rfl⟩
    rw [← hu] at h hlt hbe
    have hnb : nb u = kOf x := by
      have hi : ∀ j, j < nb u ↔ 256 ^ j ≤ u := fun j => nb_iff (by omega)
      rcases Nat.eq_zero_or_pos (kOf x) with h0 | h0
      · rw [h0] at hlt ⊢
        have : u = 0 := by simpa using hlt
        subst this
        rcases Nat.eq_zero_or_pos (nb 0) with h' | h'
        · exact h'
        · have := (hi 0).1 h'
          simp at this
      · have ha : ¬ kOf x < nb u := fun h' => by have := (hi _).1 h'; omega
        have hb' : kOf x - 1 < nb u := (hi _).2 (by
          have hc : ¬ t[0]?.getD 0 = 0 := fun e => c3 ⟨h0, e⟩
          cases t with
          | nil => simp at hlen; omega
          | cons d t' =>
            obtain ⟨j, hj⟩ : ∃ j, kOf x = j + 1 := ⟨kOf x - 1, by omega⟩
            rw [hj] at hu hbt hlen ⊢
            rw [List.take_succ_cons] at hu hbt hlen
            have hd := hbt d (by simp)
            have hd0 : d ≠ 0 := by simpa using hc
            rw [List.length_cons] at hlen
            rw [hu, valD_cons, show (t'.take j).length = j from by omega]
            show 256 ^ j ≤ _
            have : 256 ^ j ≤ d.toNat * 256 ^ j := Nat.le_mul_of_pos_left _ (by omega)
            omega)
        omega
    have hkx : kOf x = (if x % 32 < 16 then x else x - 16).toNat := rfl
    have hfin : ∀ s : Int, mag s = u → headI s = x → encI s = (x :: t).take (kOf x + 1) := fun s h1 h2 => by
      unfold encI
      rw [h1, h2, hnb, hbe, List.take_succ_cons]
    split at h
    · rename_i c4
      rw [if_pos c4] at hkx
      split at h
      · rename_i c5
        injection h with h
        injection h with e1 e2
        subst e1 e2
        refine ⟨hfin _ (by unfold mag; omega) ?_, by omega, by omega⟩
        unfold headI
        rw [show mag (u : Int) = u from by unfold mag; omega, hnb, if_neg (by omega)]
        omega
      · cases h
    · rename_i c4
      rw [if_neg c4] at hkx
      split at h
      · rename_i c5
        injection h with h
        injection h with e1 e2
        subst e1 e2
        have hu0 : 0 < u := by
          rcases Nat.eq_zero_or_pos u with h0 | h0
          · exfalso
            rw [h0] at hnb
            have : nb 0 = 0 := by decide +kernel
            omega
          · exact h0
        refine ⟨hfin _ (by unfold mag; omega) ?_, by omega, by omega⟩
        unfold headI
        rw [show mag (-(u : Int)) = u from by unfold mag; omega, hnb, if_pos (by omega)]
        omega
      · cases h
end Go.Proofs.Ytjcocahhpjgbhaa
