/- The walks of VecSums and VecEntries: they return true. -/
import Derived.Test.YtbfnlaemlflmpaaVec6
set_option linter.unusedVariables false
set_option linter.unusedSimpArgs false
namespace Go.Proofs.Ytbfnlaemlflmpaa
open Go.RowKit Go.BigFrame

theorem sumOk_iff (xs : List Int) : sumOk xs = true ↔ totV xs ≤ 9223372036854775807 := by unfold sumOk; exact decide_eq_true_iff
/-- What VecSums asks. -/
structure SumsSay (a b z : List Int) (x y j : Int) (one two both l : Bool) : Prop where
  la : a.length ≤ 200
  lb : b.length ≤ 200
  lj : (joinV a b).length ≤ 200
  lz : z.length ≤ 202
  ra : ∀ n ∈ a, n ≤ 9223372036854775807
  rb : ∀ n ∈ b, n ≤ 9223372036854775807
  rj : ∀ n ∈ joinV a b, n ≤ 9223372036854775807
  rz : ∀ n ∈ z, n ≤ 9223372036854775807
  sa : sumV a = x
  oa : sumOk a = one
  sb : sumV b = y
  ob : sumOk b = two
  sj : sumV (joinV a b) = j
  oj : sumOk (joinV a b) = both
  sz : sumV z = x
  oz : sumOk z = one
  less : cmpV a b = if l then 1 else cmpV a b
  cases_ : (both = true ∧ one = true ∧ two = true ∧ x ≤ j ∧ y ≤ j ∧ 0 ≤ x ∧ 0 ≤ y) ∨ (both = false ∧ one = true ∧ two = true ∧ 0 ≤ x ∧ 0 ≤ y) ∨ (both = false ∧ one = true ∧ two = false ∧ 0 ≤ x) ∨ (both = false ∧ one = false ∧ x = 0 ∧ two = true) ∨ (both = false ∧ one = false ∧ x = 0 ∧ two = false)
  lt : one = true → two = true → cmpV a b = 1 → x < y

theorem getV_append (a zs : List Int) (h : ∀ n ∈ zs, n ≤ 0) (i : Nat) : getV (a ++ zs) i = getV a i := by
  by_cases h1 : i < a.length
  · rw [getV_in (xs := a) (by omega) (by omega), getV_in (xs := a ++ zs) (by omega) (by rw [List.length_append]; omega)]
    simp [List.getElem?_append_left h1]
  · rw [getV_past (xs := a) (by omega)]
    by_cases h2 : i < (a ++ zs).length
    · rw [getV_in (by omega) (by omega)]
      have hlt : i - a.length < zs.length := by simp at h2; omega
      have e : (a ++ zs)[i]? = some zs[i - a.length] := by rw [List.getElem?_append_right (by omega), List.getElem?_eq_getElem hlt]
      rw [Int.toNat_natCast, e, Option.getD_some]
      have := h _ (List.getElem_mem hlt)
      omega
    · exact getV_past (by omega)

theorem sums_say {a b : List Int} (la : a.length ≤ 200) (lb : b.length ≤ 200) (ra : ∀ n ∈ a, n ≤ 9223372036854775807) (rb : ∀ n ∈ b, n ≤ 9223372036854775807) :
    SumsSay a b (a ++ [0, -5]) (sumV a) (sumV b) (sumV (joinV a b)) (sumOk a) (sumOk b) (sumOk (joinV a b)) false where
  la := la
  lb := lb
  lj := by rw [joinV_length]; omega
  lz := by simp; omega
  ra := ra
  rb := rb
  rj := fun n hn => (joinV_range ra rb n hn).2
  rz := fun n hn => by
    rcases List.mem_append.1 hn with h | h
    · exact ra n h
    · simp at h; omega
  sa := rfl
  oa := rfl
  sb := rfl
  ob := rfl
  sj := rfl
  oj := rfl
  sz := by
    have e : totV (a ++ [0, -5]) = totV a := totV_congr fun i => getV_append a _ (by simp) i
    unfold sumV sumOk; rw [e]
  oz := by
    have e : totV (a ++ [0, -5]) = totV a := totV_congr fun i => getV_append a _ (by simp) i
    unfold sumOk; rw [e]
  less := by simp
  cases_ := by
    have h1 : totV a ≤ totV (joinV a b) := totV_le fun i => by rw [getV_joinV]; omega
    have h2 : totV b ≤ totV (joinV a b) := totV_le fun i => by rw [getV_joinV]; omega
    have h3 : 0 ≤ totV a := psum_nonneg _ _
    have h4 : 0 ≤ totV b := psum_nonneg _ _
    cases hj : sumOk (joinV a b) <;> cases ha : sumOk a <;> cases hb : sumOk b <;> simp [sumV, ha, hb, hj, h1, h2, h3, h4]
    all_goals
      have hj' := (sumOk_iff _).1 hj
      first
        | exact absurd (ha.symm.trans ((sumOk_iff a).2 (by omega))) Bool.false_ne_true
        | exact absurd (hb.symm.trans ((sumOk_iff b).2 (by omega))) Bool.false_ne_true
  lt := fun h1 h2 h3 => by
    rw [sumV_ok h1, sumV_ok h2]
    rcases code_ways (lessV a b) (lessV b a) with ⟨e, e1, e2⟩ | ⟨e, e1, e2⟩ | ⟨e, e1, e2⟩ | ⟨e, e1, e2⟩ <;> unfold cmpV at h3 <;> rw [e] at h3 <;> try omega
    obtain ⟨k, hk⟩ := (lessV_iff _ _).1 e1
    exact totV_lt (fun i => (lessV_false _ _).1 e2 i) hk

theorem code_range (l g : Bool) : code l g = 0 ∨ code l g = 1 ∨ code l g = 2 ∨ code l g = 3 := by cases l <;> cases g <;> simp [code]

theorem cells_new (w : World) (l : List Value) (t : TypeId) : ∀ (j : Nat) (u : Value), l[j]? = some u → (w.alloc (.cells l.toArray t)).cell? ((⟨w.heap.size, 0, none⟩ : Addr).add j) = some u := by
  intro j u h
  have e : (⟨w.heap.size, 0, none⟩ : Addr).add j = ⟨w.heap.size, j, none⟩ := by
    unfold Addr.add
    split
    · rename_i h0; subst h0; rfl
    · simp
  rw [e, World.cell?_alloc_at _ _ _ _ rfl]
  simpa using h

set_option maxHeartbeats 2000000 in
theorem vecSums_of (a b z : List Int) (x y j c : Int) (one two both : Bool) (va vb : Value) (w : World) (ha : Sl .i64 w w.heap.size va a) (hb : Sl .i64 w w.heap.size vb b) (h : SumsSay a b z x y j one two both false) (hz : z = a ++ [0, -5])
    (hc : cmpV a b = c) (hw : (c = 1 ∧ (one = true → two = true → x < y)) ∨ c = 0 ∨ c = 2 ∨ c = 3) :
    Calls Try.prog 10 #[va, vb] w fun r w' => r = .returned (.bool true) ∧ Below w.heap.size w w' := by
  obtain ⟨A, ca, rfl⟩ := ha.shape
  obtain ⟨B, cb, rfl⟩ := hb.shape
  obtain ⟨i0, hi, hz0, hz1, hz2⟩ := info_parts Try.infoInt
  have HA := Lib.hid ha
  have HB := Lib.hid hb
  have H := Lib.hid h
  have HZ := Lib.hid hz
  have HC := Lib.hid hc
  have la := h.la
  have lb := h.lb
  have hcs := h.cases_
  clear h ha hb hz hc
  rcases hcs with ⟨rfl, rfl, rfl, h1, h2, h3, h4⟩ | ⟨rfl, rfl, rfl, h3, h4⟩ | ⟨rfl, rfl, rfl, h3⟩ | ⟨rfl, rfl, rfl, rfl⟩ | ⟨rfl, rfl, rfl, rfl⟩ <;> rcases hw with ⟨rfl, hlt⟩ | rfl | rfl | rfl
  all_goals
    try (have hlt' := hlt rfl rfl; clear hlt)
    go_enter Try.func10, Try.ntmps10
    go_wp2_with fail
    refine (sum_is HA.out H.out.sa H.out.oa (by omega) H.out.ra).mono ?_
    rintro r w' ⟨rfl, rfl⟩
    go_wp2_with fail
    refine (sum_is HB.out H.out.sb H.out.ob (by omega) H.out.rb).mono ?_
    rintro r w' ⟨rfl, rfl⟩
    go_wp2_with fail
    refine (join_is HA.out HB.out rfl (by omega) (by omega)).mono ?_
    rintro r w1 ⟨r, rfl, ho, hb1⟩
    have HJ := Lib.hid ho.sl
    have HA1 := Lib.hid (HA.out.later hb1)
    have HB1 := Lib.hid (HB.out.later hb1)
    have G1 := Lib.hid hb1
    have hb1s := Lib.hid hb1.size
    clear ho hb1
    go_wp2_with fail
    refine (sum_is HJ.out H.out.sj H.out.oj (by have := H.out.lj; omega) H.out.rj).mono ?_
    rintro r w' ⟨rfl, rfl⟩
    go_wp2_with (first
      | (go_at_call 27; (with_reducible refine (cmp_is HA1.out HB1.out HC.out (by omega) (by omega)).mono ?_); rintro r w' ⟨rfl, rfl⟩))
    refine (copyInts_any a _ _ _ HA1.out (Nat.le_refl _) (by omega)).mono ?_
    rintro r w2 ⟨v2, rfl, ho2, hb2⟩
    have hown := ho2
    have G2 := Lib.hid (Bel.then G1.out hb2)
    have hsz : w1.heap.size ≤ w2.heap.size := hb2.size
    clear hb2 HA1 HB1 G1 HJ ho2
    unfold Own at hown
    go_wp2_with (at_builtin; refine wpList_append_own _ rfl _ _ 27 rfl w1.heap.size 3 i0 (.int .i64 0) 1 8 Try.underlying27 hi hz0 hz1 hz2 rfl (by decide) _ _ _ rfl (hown.alloc _) ⟨w2.heap.size, 0, none⟩ 2 2 [.int .i64 0, .int .i64 (-5)] rfl rfl (cells_new _ _ _) (by intro u hu; simp at hu; rcases hu with rfl | rfl <;> rfl) (by unfold maxLen; omega) (by omega) (by simp; omega) ?_; intro v' w3 hown' hgrow _)
    have HO : Own w3 w1.heap.size v' z := by
      rw [HZ.out]
      unfold Own
      rw [List.length_append, List.map_append]
      exact hown'
    have HSZ := Lib.hid HO.sl
    have G3 := Lib.hid ((Bel.grew G2.out _).grown hgrow (by have := G2.out.size; simp; omega) (fun g hg => by have := own_base hown g hg; have := hb1s.out; omega))
    clear HO hown hown' hgrow
    refine (sum_is HSZ.out H.out.sz H.out.oz (by have := H.out.lz; omega) H.out.rz).mono ?_
    rintro r w' ⟨rfl, rfl⟩
    go_wp2_with fail
    refine (works04_any _).mono ?_
    rintro r w9 ⟨rfl, hb9⟩
    go_wp2_with fail
    go_ret
    exact ⟨rfl, Bel.then G3.out hb9⟩

theorem vecSums_any (a b : List Int) (va vb : Value) (w : World) (ha : Sl .i64 w w.heap.size va a) (hb : Sl .i64 w w.heap.size vb b) (ra : ∀ n ∈ a, n ≤ 9223372036854775807) (rb : ∀ n ∈ b, n ≤ 9223372036854775807) :
    Calls Try.prog 10 #[va, vb] w fun r w' => r = .returned (.bool true) ∧ Below w.heap.size w w' := by
  by_cases hl : a.length ≤ 200 ∧ b.length ≤ 200
  · have h := sums_say hl.1 hl.2 ra rb
    refine vecSums_of a b _ _ _ _ _ _ _ _ va vb w ha hb h rfl rfl ?_
    rcases code_range (lessV a b) (lessV b a) with e | e | e | e
    · exact .inr (.inl e)
    · exact .inl ⟨e, fun h1 h2 => h.lt h1 h2 e⟩
    · exact .inr (.inr (.inl e))
    · exact .inr (.inr (.inr e))
  · obtain ⟨A, ca, rfl⟩ := ha.shape
    obtain ⟨B, cb, rfl⟩ := hb.shape
    have hl' : 200 < a.length ∨ (a.length ≤ 200 ∧ 200 < b.length) := by omega
    clear ha hb hl
    rcases hl' with h1 | ⟨h1, h2⟩
    all_goals
      go_enter Try.func10, Try.ntmps10
      go_wp2_with fail
      refine (works04_any _).mono ?_
      rintro r w9 ⟨rfl, hb9⟩
      go_wp2_with fail
      go_ret
      exact ⟨rfl, hb9⟩
end Go.Proofs.Ytbfnlaemlflmpaa
