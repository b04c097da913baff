/- The reader: number, its digits. -/
import Derived.Test.YtjjccjannandlaaRead2
set_option linter.unusedVariables false
set_option linter.unusedSimpArgs false
namespace Go.Proofs.Ytjjccjannandlaa
open Go.RowKit Go.BigFrame

set_option maxHeartbeats 4000000 in
theorem number_val (xs : List Int) (S : Value) (p a : Nat) (why : Int) (w : World) (hR : Rd w p xs S a why) (hl : xs.length ≤ 1099511627776) (h : Int) (t : List Int) (hx : xs.drop a = h :: t) (h0 : 0 ≤ h) (h1 : h ≤ 255) (hk8 : kOf h ≤ 8) (hh : ¬ h = 16) (hs : kOf h ≤ t.length) (hz : kOf h = 0 ∨ ¬ t[0]?.getD 0 = 0) (hby : ∀ d ∈ t, 0 ≤ d ∧ d ≤ 255) (hV : (h % 32 < 16 ∧ valD (t.take (kOf h)) < 9223372036854775808) ∨ (¬ h % 32 < 16 ∧ valD (t.take (kOf h)) ≤ 9223372036854775808)) (N m : Int) (hN : N = if h % 32 < 16 then (valD (t.take (kOf h)) : Int) else -(valD (t.take (kOf h)) : Int)) (hm : ((a + 1 + kOf h : Nat) : Int) = m) :
    Calls Try.prog 54 #[.pointer (some ⟨p, 0, none⟩)] w fun e w' => e = .returned (.int .i64 N) ∧ But p w w' ∧ Rd w' p xs S m why := by
  have HN := Lib.hid hN
  have HM2 := Lib.hid hm
  clear hN hm
  have hlen : xs.length = a + 1 + t.length := by
    have := congrArg List.length hx
    rw [List.length_drop, List.length_cons] at this
    omega
  have hpiece : (xs.drop a).take 1 = [h] := by rw [hx]; rfl
  have hdrop : xs.drop (a + 1) = t := by rw [← List.drop_drop, hx]; rfl
  have HR := Lib.hid hR
  have hk := kOf_le h0 h1
  have hn1 := head_not h0 h1
  have hbI : (kOf h : Int) ≤ 8 := by omega
  have hne : (h != 16) = true := by simp [hh]
  clear hR hx
  go_enter Try.func54, Try.ntmps54
  go_wp2_with fail
  refine (take_ok xs S p a 1 why _ HR.out hl (by omega)).mono ?_
  rintro e w1 ⟨r, rfl, hB1, hR1, hS1⟩
  rw [hpiece] at hS1
  obtain ⟨A1, c1, rfl⟩ := hS1.shape
  obtain ⟨b, off, rfl, hbB, hcap, hcx⟩ := hS1.elem (i := 0) (by simp)
  simp only [List.length_singleton, List.length_cons, List.length_nil, Nat.add_zero, List.getElem?_cons_zero, Option.getD_some] at hcx hcap ⊢
  go_wp2_with fail
  refine (must_ok 5 _).mono ?_
  rintro e w2 ⟨rfl, rfl⟩
  clear hS1 hcx
  have hkn : a + 1 ≤ xs.length := by omega
  go_wp2_with fail
  refine (take_ok xs S p (a + 1) (kOf h) why _ hR1 hl (by omega)).mono ?_
  rintro e w3 ⟨r2, rfl, hB3, hR3, hS3⟩
  rw [hdrop] at hS3
  have hBB := hB1.trans hB3
  clear hB1 hB3 hR1
  obtain ⟨ds, hds⟩ : ∃ ds, ds = t.take (kOf h) := ⟨_, rfl⟩
  have hdl : ds.length = kOf h := by rw [hds, List.length_take]; omega
  rw [← hds] at hS3
  have hby2 : ∀ d ∈ ds, 0 ≤ d ∧ d ≤ 255 := by rw [hds]; intro d hd; exact hby d (List.mem_of_mem_take hd)
  have hand := head_and h0 h1
  rw [← hds] at hV
  have HBY := Lib.hid hby2
  have HV := Lib.hid hV
  have HAND := Lib.hid hand
  have HS3 := Lib.hid hS3
  have HKO : Hid (ds.length = kOf h ∧ kOf h ≤ 8) := ⟨hdl, hk8⟩
  have HDS := Lib.hid hds
  obtain ⟨A2, c2, hr2⟩ := hS3.shape
  rw [hdl] at hr2
  subst hr2
  have hcellz : kOf h = 0 ∨ (0 < (kOf h : Int) ∧ ∃ b off d0, A2 = some ⟨b, off, none⟩ ∧ b < p ∧ w3.cell? ⟨b, off, none⟩ = some (.int .u8 d0) ∧ ¬ d0 = 0) := by
    rcases Nat.eq_zero_or_pos (kOf h) with h' | h'
    · exact .inl h'
    · obtain ⟨b2, off2, hA, hbB2, hcap2, hcx2⟩ := hS3.elem (i := 0) (by omega)
      refine .inr ⟨by omega, b2, off2, _, hA, hbB2, hcx2, ?_⟩
      rw [hds, List.getElem?_take_of_lt h']
      rcases hz with h2 | h2
      · omega
      · exact h2
  have HS3' : Hid (Sl .u8 w3 p (.slice A2 ds.length c2) ds) := by have := HS3.out; rwa [← hdl] at this
  clear HS3
  have HS3 := HS3'
  clear HS3'
  clear hz hby hby2 hV hand hds hS3 hn1 hk hdl
  rcases hcellz with hz2 | ⟨hkp, b2, off2, d0, rfl, hbB2, hc2, hz2⟩
  · have hkb : ((kOf h : Int) == 0) = true := by simp; omega
    have HZ2 := Lib.hid hz2
    clear hz2
    go_wp2_with fail
    refine (must_ok 5 _).mono ?_
    rintro e w4 ⟨rfl, rfl⟩
    clear hkb
    go_wp2_with fail
    go_loop [6, 37] (fun u i => ∃ k : Nat, k ≤ ds.length ∧ i = .int .i64 (k : Int) ∧ u = .int .u64 (valD (ds.take k) : Int)) (fun u i => ds.length - (intOf i).toNat)
    case atStart => exact ⟨0, Nat.zero_le _, rfl, rfl⟩
    case round =>
      obtain ⟨k, hk, rfl, rfl⟩ := hrel
      by_cases hlt : k < ds.length
      · obtain ⟨b3, off3, hA, hbB3, hcap3, hcx3⟩ := HS3.out.elem hlt
        cases hA
        obtain ⟨d, hdv⟩ : ∃ d, d = ds[k]?.getD 0 := ⟨_, rfl⟩
        rw [← hdv] at hcx3
        have hdr := HBY.out d (by rw [hdv, List.getElem?_eq_getElem hlt]; exact List.getElem_mem _)
        have hd0' := hdr.1
        have hd1' := hdr.2
        have hvk := valD_lt (ds.take k) (fun x hx => HBY.out x (List.mem_of_mem_take hx))
        have hk7 : (ds.take k).length ≤ 7 := by have := HKO.out; rw [List.length_take]; omega
        have hp7 := Nat.pow_le_pow_right (n := 256) (by omega) hk7
        rw [show (256 : Nat) ^ 7 = 72057594037927936 from by decide] at hp7
        have hsn : valD (ds.take (k + 1)) = valD (ds.take k) * 256 + d.toNat := by rw [take_succ' hlt, valD_snoc, ← hdv]
        obtain ⟨x, hxe⟩ : ∃ x, x = valD (ds.take k) := ⟨_, rfl⟩
        rw [← hxe] at hvk hsn ⊢
        have hx7 : x < 72057594037927936 := by omega
        have hshl : IntKind.u64.wrap ((x : Int) * 256) = (x : Int) * 256 := wraps_u64 _ (by omega) (by omega)
        have hor : bits .or .u64 ((x : Int) * 256) d = (x : Int) * 256 + d := or_digit (by omega) (by omega) (by omega) hd0' (by omega)
        have HSN := Lib.hid hsn
        have hki : (k : Int) < (kOf h : Int) := by have := HKO.out; omega
        have hki0 : (0 : Int) ≤ (k : Int) := by omega
        clear hdv hdr hvk hk7 hp7 hsn hxe
        go_wp2
        go_round
        case rel =>
          refine ⟨k + 1, by omega, by go_num, ?_⟩
          rw [HSN.out]
          exact congrArg (Value.int .u64) (by omega)
        case measure => simp [intOf]; omega
      · have hk' : k = ds.length := by omega
        subst hk'
        have hnl : ¬ ((ds.length : Nat) : Int) < (kOf h : Int) := by have := HKO.out; omega
        rw [List.take_length]
        clear hlt hk
        rcases HV.out with ⟨hm16, hV⟩ | ⟨hm16, hV⟩
        · have hand : bits .and .u8 h 16 = 0 := by rw [HAND.out, if_pos hm16]
          have hVI : ((valD ds : Nat) : Int) < 9223372036854775808 := by omega
          have hw : IntKind.i64.wrap ((valD ds : Nat) : Int) = ((valD ds : Nat) : Int) := IntWalk.i64_in _ (by omega)
          have HM := Lib.hid hm16
          clear hm16 hV
          go_wp2_with fail
          refine (must_ok 5 _).mono ?_
          rintro e w5 ⟨rfl, rfl⟩
          go_wp2_with fail
          go_ret
          exact ⟨by rw [HN.out, ← HDS.out, if_pos HM.out]; rfl, hBB, HM2.out ▸ hR3⟩
        · have hand : bits .and .u8 h 16 = 16 := by rw [HAND.out, if_neg (by omega)]
          have hVI : ((valD ds : Nat) : Int) ≤ 9223372036854775808 := by omega
          obtain ⟨y, hy⟩ : ∃ y, y = IntKind.u64.wrap (-((valD ds : Nat) : Int)) := ⟨_, rfl⟩
          have hw : IntKind.i64.wrap y = -((valD ds : Nat) : Int) := by rw [hy, IntKind.wrap_i64, IntKind.wrap_u64]; omega
          have hy' := hy.symm
          have HM := Lib.hid hm16
          clear hm16 hV hy
          go_wp2_with fail
          refine (must_ok 5 _).mono ?_
          rintro e w5 ⟨rfl, rfl⟩
          go_wp2_with fail
          go_ret
          exact ⟨by rw [HN.out, ← HDS.out, if_neg (by have := HM.out; omega)]; rfl, hBB, HM2.out ▸ hR3⟩
  · have hkb : ((kOf h : Int) == 0) = false := by simp; omega
    have hdb : (d0 != 0) = true := by simp [hz2]
    clear hz2
    go_wp2_with fail
    refine (must_ok 5 _).mono ?_
    rintro e w4 ⟨rfl, rfl⟩
    clear hkb hdb
    go_wp2_with fail
    go_loop [6, 37] (fun u i => ∃ k : Nat, k ≤ ds.length ∧ i = .int .i64 (k : Int) ∧ u = .int .u64 (valD (ds.take k) : Int)) (fun u i => ds.length - (intOf i).toNat)
    case atStart => exact ⟨0, Nat.zero_le _, rfl, rfl⟩
    case round =>
      obtain ⟨k, hk, rfl, rfl⟩ := hrel
      by_cases hlt : k < ds.length
      · obtain ⟨b3, off3, hA, hbB3, hcap3, hcx3⟩ := HS3.out.elem hlt
        cases hA
        obtain ⟨d, hdv⟩ : ∃ d, d = ds[k]?.getD 0 := ⟨_, rfl⟩
        rw [← hdv] at hcx3
        have hdr := HBY.out d (by rw [hdv, List.getElem?_eq_getElem hlt]; exact List.getElem_mem _)
        have hd0' := hdr.1
        have hd1' := hdr.2
        have hvk := valD_lt (ds.take k) (fun x hx => HBY.out x (List.mem_of_mem_take hx))
        have hk7 : (ds.take k).length ≤ 7 := by have := HKO.out; rw [List.length_take]; omega
        have hp7 := Nat.pow_le_pow_right (n := 256) (by omega) hk7
        rw [show (256 : Nat) ^ 7 = 72057594037927936 from by decide] at hp7
        have hsn : valD (ds.take (k + 1)) = valD (ds.take k) * 256 + d.toNat := by rw [take_succ' hlt, valD_snoc, ← hdv]
        obtain ⟨x, hxe⟩ : ∃ x, x = valD (ds.take k) := ⟨_, rfl⟩
        rw [← hxe] at hvk hsn ⊢
        have hx7 : x < 72057594037927936 := by omega
        have hshl : IntKind.u64.wrap ((x : Int) * 256) = (x : Int) * 256 := wraps_u64 _ (by omega) (by omega)
        have hor : bits .or .u64 ((x : Int) * 256) d = (x : Int) * 256 + d := or_digit (by omega) (by omega) (by omega) hd0' (by omega)
        have HSN := Lib.hid hsn
        have hki : (k : Int) < (kOf h : Int) := by have := HKO.out; omega
        have hki0 : (0 : Int) ≤ (k : Int) := by omega
        clear hdv hdr hvk hk7 hp7 hsn hxe
        go_wp2
        go_round
        case rel =>
          refine ⟨k + 1, by omega, by go_num, ?_⟩
          rw [HSN.out]
          exact congrArg (Value.int .u64) (by omega)
        case measure => simp [intOf]; omega
      · have hk' : k = ds.length := by omega
        subst hk'
        have hnl : ¬ ((ds.length : Nat) : Int) < (kOf h : Int) := by have := HKO.out; omega
        rw [List.take_length]
        clear hlt hk
        rcases HV.out with ⟨hm16, hV⟩ | ⟨hm16, hV⟩
        · have hand : bits .and .u8 h 16 = 0 := by rw [HAND.out, if_pos hm16]
          have hVI : ((valD ds : Nat) : Int) < 9223372036854775808 := by omega
          have hw : IntKind.i64.wrap ((valD ds : Nat) : Int) = ((valD ds : Nat) : Int) := IntWalk.i64_in _ (by omega)
          have HM := Lib.hid hm16
          clear hm16 hV
          go_wp2_with fail
          refine (must_ok 5 _).mono ?_
          rintro e w5 ⟨rfl, rfl⟩
          go_wp2_with fail
          go_ret
          exact ⟨by rw [HN.out, ← HDS.out, if_pos HM.out]; rfl, hBB, HM2.out ▸ hR3⟩
        · have hand : bits .and .u8 h 16 = 16 := by rw [HAND.out, if_neg (by omega)]
          have hVI : ((valD ds : Nat) : Int) ≤ 9223372036854775808 := by omega
          obtain ⟨y, hy⟩ : ∃ y, y = IntKind.u64.wrap (-((valD ds : Nat) : Int)) := ⟨_, rfl⟩
          have hw : IntKind.i64.wrap y = -((valD ds : Nat) : Int) := by rw [hy, IntKind.wrap_i64, IntKind.wrap_u64]; omega
          have hy' := hy.symm
          have HM := Lib.hid hm16
          clear hm16 hV hy
          go_wp2_with fail
          refine (must_ok 5 _).mono ?_
          rintro e w5 ⟨rfl, rfl⟩
          go_wp2_with fail
          go_ret
          exact ⟨by rw [HN.out, ← HDS.out, if_neg (by have := HM.out; omega)]; rfl, hBB, HM2.out ▸ hR3⟩

set_option maxHeartbeats 4000000 in
theorem number_big (xs : List Int) (S : Value) (p a : Nat) (why : Int) (w : World) (hR : Rd w p xs S a why) (hl : xs.length ≤ 1099511627776) (h : Int) (t : List Int) (hx : xs.drop a = h :: t) (h0 : 0 ≤ h) (h1 : h ≤ 255) (hk8 : kOf h ≤ 8) (hh : ¬ h = 16) (hs : kOf h ≤ t.length) (hz : kOf h = 0 ∨ ¬ t[0]?.getD 0 = 0) (hby : ∀ d ∈ t, 0 ≤ d ∧ d ≤ 255) (hV : (h % 32 < 16 ∧ 9223372036854775808 ≤ valD (t.take (kOf h))) ∨ (¬ h % 32 < 16 ∧ 9223372036854775808 < valD (t.take (kOf h)))) :
    Calls Try.prog 54 #[.pointer (some ⟨p, 0, none⟩)] w fun e w' => e = .panicked (haltP 5) ∧ But p w w' ∧ ∃ a', Rd w' p xs S a' why := by
  have hlen : xs.length = a + 1 + t.length := by
    have := congrArg List.length hx
    rw [List.length_drop, List.length_cons] at this
    omega
  have hpiece : (xs.drop a).take 1 = [h] := by rw [hx]; rfl
  have hdrop : xs.drop (a + 1) = t := by rw [← List.drop_drop, hx]; rfl
  have HR := Lib.hid hR
  have hk := kOf_le h0 h1
  have hn1 := head_not h0 h1
  have hbI : (kOf h : Int) ≤ 8 := by omega
  have hne : (h != 16) = true := by simp [hh]
  clear hR hx
  go_enter Try.func54, Try.ntmps54
  go_wp2_with fail
  refine (take_ok xs S p a 1 why _ HR.out hl (by omega)).mono ?_
  rintro e w1 ⟨r, rfl, hB1, hR1, hS1⟩
  rw [hpiece] at hS1
  obtain ⟨A1, c1, rfl⟩ := hS1.shape
  obtain ⟨b, off, rfl, hbB, hcap, hcx⟩ := hS1.elem (i := 0) (by simp)
  simp only [List.length_singleton, List.length_cons, List.length_nil, Nat.add_zero, List.getElem?_cons_zero, Option.getD_some] at hcx hcap ⊢
  go_wp2_with fail
  refine (must_ok 5 _).mono ?_
  rintro e w2 ⟨rfl, rfl⟩
  clear hS1 hcx
  have hkn : a + 1 ≤ xs.length := by omega
  go_wp2_with fail
  refine (take_ok xs S p (a + 1) (kOf h) why _ hR1 hl (by omega)).mono ?_
  rintro e w3 ⟨r2, rfl, hB3, hR3, hS3⟩
  rw [hdrop] at hS3
  have hBB := hB1.trans hB3
  clear hB1 hB3 hR1
  obtain ⟨ds, hds⟩ : ∃ ds, ds = t.take (kOf h) := ⟨_, rfl⟩
  have hdl : ds.length = kOf h := by rw [hds, List.length_take]; omega
  rw [← hds] at hS3
  have hby2 : ∀ d ∈ ds, 0 ≤ d ∧ d ≤ 255 := by rw [hds]; intro d hd; exact hby d (List.mem_of_mem_take hd)
  have hand := head_and h0 h1
  rw [← hds] at hV
  have HBY := Lib.hid hby2
  have HV := Lib.hid hV
  have HAND := Lib.hid hand
  have HS3 := Lib.hid hS3
  have HKO : Hid (ds.length = kOf h ∧ kOf h ≤ 8) := ⟨hdl, hk8⟩
  have HDS := Lib.hid hds
  obtain ⟨A2, c2, hr2⟩ := hS3.shape
  rw [hdl] at hr2
  subst hr2
  have hcellz : kOf h = 0 ∨ (0 < (kOf h : Int) ∧ ∃ b off d0, A2 = some ⟨b, off, none⟩ ∧ b < p ∧ w3.cell? ⟨b, off, none⟩ = some (.int .u8 d0) ∧ ¬ d0 = 0) := by
    rcases Nat.eq_zero_or_pos (kOf h) with h' | h'
    · exact .inl h'
    · obtain ⟨b2, off2, hA, hbB2, hcap2, hcx2⟩ := hS3.elem (i := 0) (by omega)
      refine .inr ⟨by omega, b2, off2, _, hA, hbB2, hcx2, ?_⟩
      rw [hds, List.getElem?_take_of_lt h']
      rcases hz with h2 | h2
      · omega
      · exact h2
  have HS3' : Hid (Sl .u8 w3 p (.slice A2 ds.length c2) ds) := by have := HS3.out; rwa [← hdl] at this
  clear HS3
  have HS3 := HS3'
  clear HS3'
  clear hz hby hby2 hV hand hds hS3 hn1 hk hdl
  rcases hcellz with hz2 | ⟨hkp, b2, off2, d0, rfl, hbB2, hc2, hz2⟩
  · have hkb : ((kOf h : Int) == 0) = true := by simp; omega
    have HZ2 := Lib.hid hz2
    clear hz2
    go_wp2_with fail
    refine (must_ok 5 _).mono ?_
    rintro e w4 ⟨rfl, rfl⟩
    clear hkb
    go_wp2_with fail
    go_loop [6, 37] (fun u i => ∃ k : Nat, k ≤ ds.length ∧ i = .int .i64 (k : Int) ∧ u = .int .u64 (valD (ds.take k) : Int)) (fun u i => ds.length - (intOf i).toNat)
    case atStart => exact ⟨0, Nat.zero_le _, rfl, rfl⟩
    case round =>
      obtain ⟨k, hk, rfl, rfl⟩ := hrel
      by_cases hlt : k < ds.length
      · obtain ⟨b3, off3, hA, hbB3, hcap3, hcx3⟩ := HS3.out.elem hlt
        cases hA
        obtain ⟨d, hdv⟩ : ∃ d, d = ds[k]?.getD 0 := ⟨_, rfl⟩
        rw [← hdv] at hcx3
        have hdr := HBY.out d (by rw [hdv, List.getElem?_eq_getElem hlt]; exact List.getElem_mem _)
        have hd0' := hdr.1
        have hd1' := hdr.2
        have hvk := valD_lt (ds.take k) (fun x hx => HBY.out x (List.mem_of_mem_take hx))
        have hk7 : (ds.take k).length ≤ 7 := by have := HKO.out; rw [List.length_take]; omega
        have hp7 := Nat.pow_le_pow_right (n := 256) (by omega) hk7
        rw [show (256 : Nat) ^ 7 = 72057594037927936 from by decide] at hp7
        have hsn : valD (ds.take (k + 1)) = valD (ds.take k) * 256 + d.toNat := by rw [take_succ' hlt, valD_snoc, ← hdv]
        obtain ⟨x, hxe⟩ : ∃ x, x = valD (ds.take k) := ⟨_, rfl⟩
        rw [← hxe] at hvk hsn ⊢
        have hx7 : x < 72057594037927936 := by omega
        have hshl : IntKind.u64.wrap ((x : Int) * 256) = (x : Int) * 256 := wraps_u64 _ (by omega) (by omega)
        have hor : bits .or .u64 ((x : Int) * 256) d = (x : Int) * 256 + d := or_digit (by omega) (by omega) (by omega) hd0' (by omega)
        have HSN := Lib.hid hsn
        have hki : (k : Int) < (kOf h : Int) := by have := HKO.out; omega
        have hki0 : (0 : Int) ≤ (k : Int) := by omega
        clear hdv hdr hvk hk7 hp7 hsn hxe
        go_wp2
        go_round
        case rel =>
          refine ⟨k + 1, by omega, by go_num, ?_⟩
          rw [HSN.out]
          exact congrArg (Value.int .u64) (by omega)
        case measure => simp [intOf]; omega
      · have hk' : k = ds.length := by omega
        subst hk'
        have hnl : ¬ ((ds.length : Nat) : Int) < (kOf h : Int) := by have := HKO.out; omega
        rw [List.take_length]
        clear hlt hk
        rcases HV.out with ⟨hm16, hV⟩ | ⟨hm16, hV⟩
        · have hand : bits .and .u8 h 16 = 0 := by rw [HAND.out, if_pos hm16]
          have hVI : ¬ ((valD ds : Nat) : Int) < 9223372036854775808 := by omega
          clear hm16 hV
          go_wp2_with fail
          refine (must_no 5 _).mono ?_
          rintro e w5 ⟨rfl, rfl⟩
          exact ⟨rfl, rfl, hBB, _, hR3⟩
        · have hand : bits .and .u8 h 16 = 16 := by rw [HAND.out, if_neg (by omega)]
          have hVI : ¬ ((valD ds : Nat) : Int) ≤ 9223372036854775808 := by omega
          clear hm16 hV
          go_wp2_with fail
          refine (must_no 5 _).mono ?_
          rintro e w5 ⟨rfl, rfl⟩
          exact ⟨rfl, rfl, hBB, _, hR3⟩
  · have hkb : ((kOf h : Int) == 0) = false := by simp; omega
    have hdb : (d0 != 0) = true := by simp [hz2]
    clear hz2
    go_wp2_with fail
    refine (must_ok 5 _).mono ?_
    rintro e w4 ⟨rfl, rfl⟩
    clear hkb hdb
    go_wp2_with fail
    go_loop [6, 37] (fun u i => ∃ k : Nat, k ≤ ds.length ∧ i = .int .i64 (k : Int) ∧ u = .int .u64 (valD (ds.take k) : Int)) (fun u i => ds.length - (intOf i).toNat)
    case atStart => exact ⟨0, Nat.zero_le _, rfl, rfl⟩
    case round =>
      obtain ⟨k, hk, rfl, rfl⟩ := hrel
      by_cases hlt : k < ds.length
      · obtain ⟨b3, off3, hA, hbB3, hcap3, hcx3⟩ := HS3.out.elem hlt
        cases hA
        obtain ⟨d, hdv⟩ : ∃ d, d = ds[k]?.getD 0 := ⟨_, rfl⟩
        rw [← hdv] at hcx3
        have hdr := HBY.out d (by rw [hdv, List.getElem?_eq_getElem hlt]; exact List.getElem_mem _)
        have hd0' := hdr.1
        have hd1' := hdr.2
        have hvk := valD_lt (ds.take k) (fun x hx => HBY.out x (List.mem_of_mem_take hx))
        have hk7 : (ds.take k).length ≤ 7 := by have := HKO.out; rw [List.length_take]; omega
        have hp7 := Nat.pow_le_pow_right (n := 256) (by omega) hk7
        rw [show (256 : Nat) ^ 7 = 72057594037927936 from by decide] at hp7
        have hsn : valD (ds.take (k + 1)) = valD (ds.take k) * 256 + d.toNat := by rw [take_succ' hlt, valD_snoc, ← hdv]
        obtain ⟨x, hxe⟩ : ∃ x, x = valD (ds.take k) := ⟨_, rfl⟩
        rw [← hxe] at hvk hsn ⊢
        have hx7 : x < 72057594037927936 := by omega
        have hshl : IntKind.u64.wrap ((x : Int) * 256) = (x : Int) * 256 := wraps_u64 _ (by omega) (by omega)
        have hor : bits .or .u64 ((x : Int) * 256) d = (x : Int) * 256 + d := or_digit (by omega) (by omega) (by omega) hd0' (by omega)
        have HSN := Lib.hid hsn
        have hki : (k : Int) < (kOf h : Int) := by have := HKO.out; omega
        have hki0 : (0 : Int) ≤ (k : Int) := by omega
        clear hdv hdr hvk hk7 hp7 hsn hxe
        go_wp2
        go_round
        case rel =>
          refine ⟨k + 1, by omega, by go_num, ?_⟩
          rw [HSN.out]
          exact congrArg (Value.int .u64) (by omega)
        case measure => simp [intOf]; omega
      · have hk' : k = ds.length := by omega
        subst hk'
        have hnl : ¬ ((ds.length : Nat) : Int) < (kOf h : Int) := by have := HKO.out; omega
        rw [List.take_length]
        clear hlt hk
        rcases HV.out with ⟨hm16, hV⟩ | ⟨hm16, hV⟩
        · have hand : bits .and .u8 h 16 = 0 := by rw [HAND.out, if_pos hm16]
          have hVI : ¬ ((valD ds : Nat) : Int) < 9223372036854775808 := by omega
          clear hm16 hV
          go_wp2_with fail
          refine (must_no 5 _).mono ?_
          rintro e w5 ⟨rfl, rfl⟩
          exact ⟨rfl, rfl, hBB, _, hR3⟩
        · have hand : bits .and .u8 h 16 = 16 := by rw [HAND.out, if_neg (by omega)]
          have hVI : ¬ ((valD ds : Nat) : Int) ≤ 9223372036854775808 := by omega
          clear hm16 hV
          go_wp2_with fail
          refine (must_no 5 _).mono ?_
          rintro e w5 ⟨rfl, rfl⟩
          exact ⟨rfl, rfl, hBB, _, hR3⟩
end Go.Proofs.Ytjjccjannandlaa
