/- The walk of VecEntries: it returns true. -/
import Derived.Test.YtbfnlaemlflmpaaVec6
set_option linter.unusedVariables false
set_option linter.unusedSimpArgs false
namespace Go.Proofs.Ytbfnlaemlflmpaa
open Go.RowKit Go.BigFrame

/-- The first n entries, as numbers. -/
def entN (a : List Int) (n : Nat) : List Int := (List.range n).map fun i : Nat => getV a i
theorem entN_length (a : List Int) (n : Nat) : (entN a n).length = n := by simp [entN]
theorem entN_succ (a : List Int) (n : Nat) : entN a (n + 1) = entN a n ++ [getV a n] := by simp [entN, List.range_succ]
theorem getV_entN (a : List Int) {n : Nat} (hn : a.length ≤ n) (i : Nat) : getV (entN a n) i = getV a i := by
  by_cases h : i < n
  · rw [getV_in (xs := entN a n) (by omega) (by rw [entN_length]; omega)]
    have e : (entN a n)[i]? = some (getV a i) := by
      unfold entN
      rw [List.getElem?_map, List.getElem?_range h]; rfl
    rw [Int.toNat_natCast, e, Option.getD_some]
    have := getV_nonneg a i
    omega
  · rw [getV_past (xs := entN a n) (by rw [entN_length]; omega), getV_past (by omega)]

/-- What VecEntries asks. -/
structure EntriesSay (a b z : List Int) (at_ : Int) (n m x y c : Int) (is : Bool) : Prop where
  la : a.length ≤ 200
  lb : b.length ≤ 200
  lz : z.length ≤ 202
  ra : ∀ n ∈ a, n ≤ 9223372036854775807
  rz : ∀ n ∈ z, n ≤ 9223372036854775807
  sa : sumV a = n
  oa : sumOk a = is
  sz : sumV z = n
  oz : sumOk z = is
  ea : getV a at_ = x
  eb : getV b at_ = y
  ej : getV (joinV a b) at_ = m
  hm : (x < y ∧ m = y) ∨ (y ≤ x ∧ m = x)
  za : cmpV z a = 0
  zb : cmpV z b = c
  ab : cmpV a b = c

theorem cmpV_congr {xs xs' ys : List Int} (h : ∀ i : Nat, getV xs i = getV xs' i) : cmpV xs ys = cmpV xs' ys := by
  have h1 : lessV xs ys = lessV xs' ys := by rw [Bool.eq_iff_iff, lessV_iff, lessV_iff]; simp only [h]
  have h2 : lessV ys xs = lessV ys xs' := by rw [Bool.eq_iff_iff, lessV_iff, lessV_iff]; simp only [h]
  unfold cmpV; rw [h1, h2]
theorem entries_say {a b : List Int} (at_ : Int) (la : a.length ≤ 200) (lb : b.length ≤ 200) (ra : ∀ n ∈ a, n ≤ 9223372036854775807) :
    EntriesSay a b (entN a (a.length + 2)) at_ (sumV a) (getV (joinV a b) at_) (getV a at_) (getV b at_) (cmpV a b) (sumOk a) where
  la := la
  lb := lb
  lz := by rw [entN_length]; omega
  ra := ra
  rz := fun n hn => by
    simp only [entN, List.mem_map] at hn
    obtain ⟨i, _, rfl⟩ := hn
    exact getV_le ra i
  sa := rfl
  oa := rfl
  sz := by
    have e : totV (entN a (a.length + 2)) = totV a := totV_congr fun i => getV_entN a (by omega) i
    unfold sumV sumOk; rw [e]
  oz := by
    have e : totV (entN a (a.length + 2)) = totV a := totV_congr fun i => getV_entN a (by omega) i
    unfold sumOk; rw [e]
  ea := rfl
  eb := rfl
  ej := rfl
  hm := by rw [getV_joinV]; omega
  za := cmpV_same fun i => getV_entN a (by omega) i
  zb := cmpV_congr fun i => getV_entN a (by omega) i
  ab := rfl

set_option maxHeartbeats 2000000 in
theorem vecEntries_of (a b : List Int) (at_ n m x y c : Int) (is : Bool) (va vb : Value) (w : World) (ha : Sl .i64 w w.heap.size va a) (hb : Sl .i64 w w.heap.size vb b) (h : EntriesSay a b (entN a (a.length + 2)) at_ n m x y c is) :
    Calls Try.prog 12 #[va, vb, .int .i64 at_] w fun r w' => r = .returned (.bool true) ∧ Below w.heap.size w w' := by
  obtain ⟨A, ca, rfl⟩ := ha.shape
  obtain ⟨B, cb, rfl⟩ := hb.shape
  obtain ⟨i0, hi, hz0, hz1, hz2⟩ := info_parts Try.infoInt
  have HA := Lib.hid ha
  have HB := Lib.hid hb
  have H := Lib.hid h
  have la := h.la
  have lb := h.lb
  have hm := h.hm
  clear h ha hb
  go_enter Try.func12, Try.ntmps12
  go_wp2_with fail
  go_loopw [7, 8] (fun t i wr => ∃ k : Nat, k ≤ a.length + 2 ∧ i = .int .i64 k ∧ wr.ownsRow w.heap.size 3 1 t k ((entN a k).map (Value.int .i64)) ∧ Below w.heap.size w wr) (fun _ i _ => a.length + 2 - (intOf i).toNat)
  case atStart => exact ⟨0, Nat.zero_le _, rfl, World.ownsRow_nil _ _ _ _, Below.refl _ _⟩
  case round =>
    obtain ⟨k, hk, rfl, hown, hb⟩ := hrel
    by_cases hlt : k < a.length + 2
    · have HT := Lib.hid (entN_succ a k)
      go_wp2_with (first
        | (go_at_call 29; (with_reducible refine (get_is (HA.out.later hb) rfl).mono ?_); rintro e w' ⟨rfl, rfl⟩)
        | (at_builtin; refine wpList_append_own _ rfl _ _ 27 rfl w.heap.size 3 i0 (.int .i64 0) 1 8 Try.underlying27 hi hz0 hz1 hz2 rfl (by decide) _ _ _ rfl (hown.alloc _) ⟨wr.heap.size, 0, none⟩ 1 1 [.int .i64 (getV a k)] rfl rfl (cell_one_new _ _ _) (by intro u hu; simp at hu; subst hu; rfl) (by unfold maxLen; omega) (by omega) (by have := hb.size; simp; omega) ?_; intro v' w1 hown' hgrow _))
      go_roundw
      case rel =>
        refine ⟨k + 1, by omega, by go_num, ?_, (hb.alloc hb.size _).grown hgrow (by have := hb.size; simp; omega) (own_base hown)⟩
        rw [HT.out, List.map_append]
        exact hown'
      case measure => simp [intOf]; omega
    · have hk' : k = a.length + 2 := by omega
      have HK := Lib.hid hk'
      have HO : Own wr w.heap.size u7 (entN a (a.length + 2)) := by
        unfold Own; rw [entN_length, ← HK.out]; exact hown
      have HZ := Lib.hid HO.sl
      have HA1 := Lib.hid (HA.out.later hb)
      have HB1 := Lib.hid (HB.out.later hb)
      have G1 := Lib.hid hb
      have hge : a.length + 2 ≤ k := by omega
      clear HO hown hb hk' hlt
      rcases hm with ⟨h1, rfl⟩ | ⟨h1, rfl⟩
      all_goals
        go_wp2_with fail
        refine (sum_is HA1.out H.out.sa H.out.oa (by omega) H.out.ra).mono ?_
        rintro r w' ⟨rfl, rfl⟩
        go_wp2_with fail
        refine (sum_is HZ.out H.out.sz H.out.oz (by have := H.out.lz; omega) H.out.rz).mono ?_
        rintro r w' ⟨rfl, rfl⟩
        go_wp2_with fail
        refine (join_is HA1.out HB1.out rfl (by omega) (by omega)).mono ?_
        rintro r w2 ⟨j, rfl, ho, hb2⟩
        have HJ := Lib.hid ho.sl
        have HA2 := Lib.hid (HA1.out.later hb2)
        have HB2 := Lib.hid (HB1.out.later hb2)
        have HZ2 := Lib.hid (HZ.out.later hb2)
        have G2 := Lib.hid (Bel.then G1.out hb2)
        clear ho hb2 HA1 HB1 HZ G1
        go_wp2_with fail
        refine (get_is HJ.out H.out.ej).mono ?_
        rintro r w' ⟨rfl, rfl⟩
        go_wp2_with fail
        refine (get_is HA2.out H.out.ea).mono ?_
        rintro r w' ⟨rfl, rfl⟩
        go_wp2_with fail
        refine (get_is HB2.out H.out.eb).mono ?_
        rintro r w' ⟨rfl, rfl⟩
        go_wp2_with fail
        refine (cmp_is HZ2.out HA2.out H.out.za (by have := H.out.lz; omega) (by omega)).mono ?_
        rintro r w' ⟨rfl, rfl⟩
        go_wp2_with fail
        refine (cmp_is HZ2.out HB2.out H.out.zb (by have := H.out.lz; omega) (by omega)).mono ?_
        rintro r w' ⟨rfl, rfl⟩
        go_wp2_with fail
        refine (cmp_is HA2.out HB2.out H.out.ab (by omega) (by omega)).mono ?_
        rintro r w' ⟨rfl, rfl⟩
        go_wp2_with fail
        refine (works04_any _).mono ?_
        rintro r w9 ⟨rfl, hb9⟩
        go_wp2_with fail
        go_ret
        exact ⟨rfl, Bel.then G2.out hb9⟩

theorem vecEntries_any (a b : List Int) (at_ : Int) (va vb : Value) (w : World) (ha : Sl .i64 w w.heap.size va a) (hb : Sl .i64 w w.heap.size vb b) (ra : ∀ n ∈ a, n ≤ 9223372036854775807) :
    Calls Try.prog 12 #[va, vb, .int .i64 at_] w fun r w' => r = .returned (.bool true) ∧ Below w.heap.size w w' := by
  by_cases hl : a.length ≤ 200 ∧ b.length ≤ 200
  · exact vecEntries_of a b at_ _ _ _ _ _ _ va vb w ha hb (entries_say at_ hl.1 hl.2 ra)
  · obtain ⟨A, ca, rfl⟩ := ha.shape
    obtain ⟨B, cb, rfl⟩ := hb.shape
    have hl' : 200 < a.length ∨ (a.length ≤ 200 ∧ 200 < b.length) := by omega
    clear ha hb hl
    rcases hl' with h1 | ⟨h1, h2⟩
    all_goals
      go_enter Try.func12, Try.ntmps12
      go_wp2_with fail
      refine (works04_any _).mono ?_
      rintro r w9 ⟨rfl, hb9⟩
      go_wp2_with fail
      go_ret
      exact ⟨rfl, hb9⟩
end Go.Proofs.Ytbfnlaemlflmpaa
