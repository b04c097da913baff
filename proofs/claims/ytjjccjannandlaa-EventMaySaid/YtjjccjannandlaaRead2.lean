/- The reader: number. -/
import Derived.Test.YtjjccjannandlaaRead
import Derived.Test.YtjjccjannandlaaReadP
set_option linter.unusedVariables false
set_option linter.unusedSimpArgs false
namespace Go.Proofs.Ytjjccjannandlaa
open Go.RowKit Go.BigFrame

theorem kOf_le {h : Int} (h0 : 0 ≤ h) (h1 : h ≤ 255) : kOf h ≤ 255 := by unfold kOf; split <;> omega

set_option maxHeartbeats 1000000 in
theorem number_empty (xs : List Int) (S : Value) (p a : Nat) (why : Int) (w : World) (hR : Rd w p xs S a why) (hl : xs.length ≤ 1099511627776) (ha : a = xs.length) :
    Calls Try.prog 54 #[.pointer (some ⟨p, 0, none⟩)] w fun e w' => e = .panicked (haltP 4) ∧ But p w w' ∧ ∃ a', Rd w' p xs S a' why := by
  have HR := Lib.hid hR
  clear hR
  go_enter Try.func54, Try.ntmps54
  go_wp2_with fail
  refine (take_no xs S p a 1 why _ HR.out hl (by omega) (by omega) (by omega)).mono ?_
  rintro e w1 ⟨rfl, hB1, hR1⟩
  exact ⟨rfl, rfl, hB1, _, hR1⟩

set_option maxHeartbeats 1000000 in
theorem number_head (xs : List Int) (S : Value) (p a : Nat) (why : Int) (w : World) (hR : Rd w p xs S a why) (hl : xs.length ≤ 1099511627776) (h : Int) (t : List Int) (hx : xs.drop a = h :: t) (h0 : 0 ≤ h) (h1 : h ≤ 255) (hbad : 8 < kOf h ∨ h = 16) :
    Calls Try.prog 54 #[.pointer (some ⟨p, 0, none⟩)] w fun e w' => e = .panicked (haltP 5) ∧ But p w w' ∧ ∃ a', Rd w' p xs S a' why := by
  have hlen : xs.length = a + 1 + t.length := by
    have := congrArg List.length hx
    rw [List.length_drop, List.length_cons] at this
    omega
  have hpiece : (xs.drop a).take 1 = [h] := by rw [hx]; rfl
  have HR := Lib.hid hR
  have HX := Lib.hid hx
  have hk := kOf_le h0 h1
  have hn1 := head_not h0 h1
  clear hR hx
  go_enter Try.func54, Try.ntmps54
  go_wp2_with fail
  refine (take_ok xs S p a 1 why _ HR.out hl (by omega)).mono ?_
  rintro e w1 ⟨r, rfl, hB1, hR1, hS1⟩
  rw [hpiece] at hS1
  obtain ⟨A1, c1, rfl⟩ := hS1.shape
  obtain ⟨b, off, rfl, hbB, hcap, hcx⟩ := hS1.elem (i := 0) (by simp)
  simp only [List.length_singleton, List.length_cons, List.length_nil, Nat.add_zero, List.getElem?_cons_zero, Option.getD_some] at hcx hcap ⊢
  rcases hbad with hbad | rfl
  · have hbI : ¬ (kOf h : Int) ≤ 8 := by omega
    go_wp2_with fail
    refine (must_no 5 _).mono ?_
    rintro e w2 ⟨rfl, rfl⟩
    exact ⟨rfl, rfl, hB1, _, hR1⟩
  · have hbI : (kOf 16 : Int) ≤ 8 := by decide
    go_wp2_with fail
    refine (must_no 5 _).mono ?_
    rintro e w2 ⟨rfl, rfl⟩
    exact ⟨rfl, rfl, hB1, _, hR1⟩

set_option maxHeartbeats 2000000 in
theorem number_short (xs : List Int) (S : Value) (p a : Nat) (why : Int) (w : World) (hR : Rd w p xs S a why) (hl : xs.length ≤ 1099511627776) (h : Int) (t : List Int) (hx : xs.drop a = h :: t) (h0 : 0 ≤ h) (h1 : h ≤ 255) (hk8 : kOf h ≤ 8) (hh : ¬ h = 16) (hs : t.length < kOf h) :
    Calls Try.prog 54 #[.pointer (some ⟨p, 0, none⟩)] w fun e w' => e = .panicked (haltP 4) ∧ But p w w' ∧ ∃ a', Rd w' p xs S a' why := by
  have hlen : xs.length = a + 1 + t.length := by
    have := congrArg List.length hx
    rw [List.length_drop, List.length_cons] at this
    omega
  have hpiece : (xs.drop a).take 1 = [h] := by rw [hx]; rfl
  have hdrop : xs.drop (a + 1) = t := by rw [← List.drop_drop, hx]; rfl
  have HR := Lib.hid hR
  have hk := kOf_le h0 h1
  have hn1 := head_not h0 h1
  have hbI : (kOf h : Int) ≤ 8 := by omega
  have hne : (h != 16) = true := by simp [hh]
  clear hR hx
  go_enter Try.func54, Try.ntmps54
  go_wp2_with fail
  refine (take_ok xs S p a 1 why _ HR.out hl (by omega)).mono ?_
  rintro e w1 ⟨r, rfl, hB1, hR1, hS1⟩
  rw [hpiece] at hS1
  obtain ⟨A1, c1, rfl⟩ := hS1.shape
  obtain ⟨b, off, rfl, hbB, hcap, hcx⟩ := hS1.elem (i := 0) (by simp)
  simp only [List.length_singleton, List.length_cons, List.length_nil, Nat.add_zero, List.getElem?_cons_zero, Option.getD_some] at hcx hcap ⊢
  go_wp2_with fail
  refine (must_ok 5 _).mono ?_
  rintro e w2 ⟨rfl, rfl⟩
  clear hS1 hcx
  have hkn : a + 1 ≤ xs.length := by omega
  go_wp2_with fail
  refine (take_no xs S p (a + 1) (kOf h) why _ hR1 hl (by omega) hkn (by omega)).mono ?_
  rintro e w3 ⟨rfl, hB3, hR3⟩
  exact ⟨rfl, rfl, hB1.trans hB3, _, hR3⟩

set_option maxHeartbeats 2000000 in
theorem number_zero (xs : List Int) (S : Value) (p a : Nat) (why : Int) (w : World) (hR : Rd w p xs S a why) (hl : xs.length ≤ 1099511627776) (h : Int) (t : List Int) (hx : xs.drop a = h :: t) (h0 : 0 ≤ h) (h1 : h ≤ 255) (hk8 : kOf h ≤ 8) (hh : ¬ h = 16) (hs : kOf h ≤ t.length) (hz0 : 0 < kOf h) (hz : t[0]?.getD 0 = 0) :
    Calls Try.prog 54 #[.pointer (some ⟨p, 0, none⟩)] w fun e w' => e = .panicked (haltP 5) ∧ But p w w' ∧ ∃ a', Rd w' p xs S a' why := by
  have hlen : xs.length = a + 1 + t.length := by
    have := congrArg List.length hx
    rw [List.length_drop, List.length_cons] at this
    omega
  have hpiece : (xs.drop a).take 1 = [h] := by rw [hx]; rfl
  have hdrop : xs.drop (a + 1) = t := by rw [← List.drop_drop, hx]; rfl
  have HR := Lib.hid hR
  have hk := kOf_le h0 h1
  have hn1 := head_not h0 h1
  have hbI : (kOf h : Int) ≤ 8 := by omega
  have hne : (h != 16) = true := by simp [hh]
  clear hR hx
  go_enter Try.func54, Try.ntmps54
  go_wp2_with fail
  refine (take_ok xs S p a 1 why _ HR.out hl (by omega)).mono ?_
  rintro e w1 ⟨r, rfl, hB1, hR1, hS1⟩
  rw [hpiece] at hS1
  obtain ⟨A1, c1, rfl⟩ := hS1.shape
  obtain ⟨b, off, rfl, hbB, hcap, hcx⟩ := hS1.elem (i := 0) (by simp)
  simp only [List.length_singleton, List.length_cons, List.length_nil, Nat.add_zero, List.getElem?_cons_zero, Option.getD_some] at hcx hcap ⊢
  go_wp2_with fail
  refine (must_ok 5 _).mono ?_
  rintro e w2 ⟨rfl, rfl⟩
  clear hS1 hcx
  have hkn : a + 1 ≤ xs.length := by omega
  go_wp2_with fail
  refine (take_ok xs S p (a + 1) (kOf h) why _ hR1 hl (by omega)).mono ?_
  rintro e w3 ⟨r2, rfl, hB3, hR3, hS3⟩
  rw [hdrop] at hS3
  have hBB := hB1.trans hB3
  clear hB1 hB3 hR1
  obtain ⟨ds, hds⟩ : ∃ ds, ds = t.take (kOf h) := ⟨_, rfl⟩
  have hdl : ds.length = kOf h := by rw [hds, List.length_take]; omega
  rw [← hds] at hS3
  have hd0 : ds[0]?.getD 0 = 0 := by rw [hds, List.getElem?_take_of_lt hz0]; exact hz
  obtain ⟨A2, c2, rfl⟩ := hS3.shape
  obtain ⟨b2, off2, rfl, hbB2, hcap2, hcx2⟩ := hS3.elem (i := 0) (by omega)
  rw [hd0, Nat.add_zero] at hcx2
  have hkz : ((kOf h : Int) == 0) = false := by simp; omega
  have hdpos : (0 : Int) < (ds.length : Int) := by omega
  clear hS3 hds hd0
  go_wp2_with fail
  refine (must_no 5 _).mono ?_
  rintro e w4 ⟨rfl, rfl⟩
  exact ⟨rfl, rfl, hBB, _, hR3⟩
end Go.Proofs.Ytjjccjannandlaa
