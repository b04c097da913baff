/- PackBack: the walk. -/
import Derived.Test.YtamnligooelmgaaLaid
set_option linter.unusedVariables false
set_option linter.unusedSimpArgs false
namespace Go.Proofs.Ytamnligooelmgaa
open Go.RowKit Go.BigFrame

theorem laid_split (l : List Th) (k : Nat) : laidK l l.length = laidK l k ++ (l.drop k).flatMap Th.enc := by
  unfold laidK
  rw [List.take_length, ← List.flatMap_append, List.take_append_drop]
theorem laid_drop {l : List Th} {k : Nat} {t : Th} (h : l[k]? = some t) : (laidK l l.length).drop (laidK l k).length = t.enc ++ (l.drop (k + 1)).flatMap Th.enc := by
  rw [laid_split l k, List.drop_left]
  obtain ⟨hk, rfl⟩ := List.getElem?_eq_some_iff.1 h
  rw [List.drop_eq_getElem_cons hk, List.flatMap_cons]
theorem encI_byte {n : Int} (h0 : -9223372036854775808 ≤ n) (h1 : n ≤ 9223372036854775807) : Bytes (encI n) := by
  intro d hd
  have h8 := nb_le (u := mag n) (by have := mag_lt h0 h1; omega)
  unfold encI at hd
  rcases List.mem_cons.1 hd with rfl | h
  · unfold headI; split <;> omega
  · exact beD_byte _ _ d h
theorem enc_byte {t : Th} (hb : Bytes t.bs) (hl : t.bs.length ≤ 9223372036854775807) (h0 : -9223372036854775808 ≤ t.n) (h1 : t.n ≤ 9223372036854775807) : Bytes t.enc := by
  intro d hd
  unfold Th.enc at hd
  split at hd
  · unfold encB at hd
    rcases List.mem_append.1 hd with h | h
    · exact encI_byte (by omega) (by omega) d h
    · exact hb d h
  · exact encI_byte h0 h1 d hd
theorem laid_byte {l : List Th} (h : ∀ t ∈ l, t.bs.length ≤ 140737488351232 ∧ Bytes t.bs ∧ -9223372036854775808 ≤ t.n ∧ t.n ≤ 9223372036854775807) (k : Nat) : Bytes (laidK l k) := by
  intro d hd
  obtain ⟨t, ht, hd⟩ := List.mem_flatMap.1 hd
  obtain ⟨h1, h2, h3, h4⟩ := h t (List.mem_of_mem_take ht)
  exact enc_byte h2 (by omega) h3 h4 d hd
theorem step_row {t : Th} {rest : List Int} {a : Nat} (hr : t.row = true) (hl : t.bs.length ≤ 2147483647) : stepB (blobR (t.enc ++ rest)) a 0 = (t.bs, ((a + t.enc.length : Nat) : Int), 0) := by
  have e : t.enc = encB t.bs := by unfold Th.enc; rw [hr]; rfl
  rw [e, blobR_enc hl]; rfl
theorem step_num {t : Th} {rest : List Int} {a : Nat} (hr : t.row = false) (h0 : -9223372036854775808 ≤ t.n) (h1 : t.n ≤ 9223372036854775807) : stepR (numR (t.enc ++ rest)) a 0 = (t.n, ((a + t.enc.length : Nat) : Int), 0) := by
  have e : t.enc = encI t.n := by unfold Th.enc; rw [hr]; rfl
  rw [e, numR_enc h0 h1]; rfl

set_option maxHeartbeats 2000000 in
theorem packBack_any (l : List Th) (v : Value) (w : World) (hx : Things w w.heap.size v l) (hm : l.length ≤ 140737488351232) :
    Calls Try.prog 4 #[v] w fun e w' => e = .returned (.bool true) ∧ Below w.heap.size w w' := by
  obtain ⟨A, c, rfl⟩ := hx.shape
  have HX := Lib.hid hx
  clear hx
  go_enter Try.func4, Try.ntmps4
  go_wp2_with fail
  refine (long_any l _ _ _ HX.out hm).mono ?_
  rintro e w1 ⟨b, rfl, hlo, rfl⟩
  cases b
  · obtain ⟨hl1, hl2⟩ := hlo rfl
    have HL2 := Lib.hid hl2
    clear hlo hl2
    go_wp2_with fail
    refine (laid_any l _ _ _ HX.out (Nat.le_refl _) hl1 HL2.out).mono ?_
    rintro e w2 ⟨r, s, rfl, hr, _, hb2⟩
    obtain ⟨xs, hxs⟩ : ∃ xs, xs = laidK l l.length := ⟨_, rfl⟩
    have hin := fun t ht => (HX.out.in_ t ht).2
    have hxl : xs.length ≤ 10900 := by rw [hxs]; exact laidK_le _ (fun t ht => (hin t ht).imp_right fun h => h.2) hl1 HL2.out
    have HBY : Hid (Bytes xs) := by rw [hxs]; exact laid_byte hin _
    rw [← hxs] at hr
    have HXS := Lib.hid hxs
    have HR := Lib.hid hr
    have HB2 := Lib.hid hb2
    clear hr hb2 hxs hin
    go_wp2_with fail
    refine (From_any xs _ _ HR.out.sl (by omega)).mono ?_
    rintro e w3 ⟨p, S, rfl, hp, hb3, hR⟩
    have hwp : w.heap.size ≤ p := Nat.le_trans HB2.out.size hp
    have HB3 := Lib.hid (Bel.then HB2.out hb3)
    have HR3 := Lib.hid hR
    clear hb3 hR HB2 HR hp
    go_wp2_with fail
    go_loopw [6] (fun i wr => ∃ k : Nat, k ≤ l.length ∧ i = .int .i64 k ∧ Below w.heap.size w wr ∧ Rd wr p xs S ((laidK l k).length : Int) 0) (fun i _ => l.length - (intOf i).toNat)
    case atStart => exact ⟨0, Nat.zero_le _, rfl, HB3.out, HR3.out⟩
    case round =>
      obtain ⟨k, hk, rfl, hb, hR⟩ := hrel
      clear HR3 HB3
      by_cases hk2 : k < l.length
      · obtain ⟨t, ht⟩ : ∃ t, l[k]? = some t := ⟨_, List.getElem?_eq_getElem hk2⟩
        have hX' := HX.out.below hb
        have hin := hX'.in_ t (List.mem_of_getElem? ht)
        obtain ⟨b, off, rfl, hbB, hcap, hc0, hc1, hc2⟩ := hX'.elem ht
        obtain ⟨A2, c2, hv⟩ := hin.1.shape
        rw [hv] at hc2
        have hbl : t.bs.length ≤ 10000 := Nat.le_trans (sum_mem (List.mem_of_getElem? ht)) HL2.out
        have hdr := laid_drop ht
        rw [← HXS.out] at hdr
        have hsp := laid_split l k
        rw [← HXS.out] at hsp
        have hal : (laidK l k).length ≤ xs.length := by rw [hsp, List.length_append]; omega
        have hnx := congrArg List.length (laidK_succ ht)
        rw [List.length_append] at hnx
        obtain ⟨a, ha⟩ : ∃ a, a = (laidK l k).length := ⟨_, rfl⟩
        rw [← ha] at hdr hR hal hnx
        have HSv : Hid (Sl .u8 wr w.heap.size (.slice A2 t.bs.length c2) t.bs) := hv ▸ hin.1
        have HN := Lib.hid hin.2.2.2
        have HNX := Lib.hid hnx
        have HDR := Lib.hid hdr
        have HR := Lib.hid hR
        have HB := Lib.hid hb
        have hkI : (k : Int) < (l.length : Int) := by omega
        clear ht hin hv hX' hdr hsp hnx ha hR hb HX
        cases hrow : t.row
        · rw [hrow] at hc0
          have HST := Lib.hid (step_num (t := t) (rest := (l.drop (k + 1)).flatMap Th.enc) (a := a) hrow HN.out.1 HN.out.2)
          rw [← HDR.out, ← HNX.out] at HST
          go_wp2_with fail
          refine (is_num HR.out (by omega) hal HBY.out HST.out _ HSv.out).mono ?_
          rintro e w4 ⟨rfl, hb4, hR4⟩
          have HB4 := Lib.hid (HB.out.trans (hb4.below hwp HB.out.size))
          have HR4 := Lib.hid hR4
          clear hb4 hR4 HR HB
          go_wp2_with fail
          go_roundw
          case rel => exact ⟨k + 1, by omega, by go_num, HB4.out, HR4.out⟩
          case measure => simp [intOf]; omega
        · rw [hrow] at hc0
          have HST := Lib.hid (step_row (t := t) (rest := (l.drop (k + 1)).flatMap Th.enc) (a := a) hrow (by omega))
          rw [← HDR.out, ← HNX.out] at HST
          go_wp2_with fail
          refine (is_row HR.out (by omega) hal HBY.out HST.out hwp HSv.out (by omega)).mono ?_
          rintro e w4 ⟨rfl, hb4, hR4⟩
          have HB4 := Lib.hid (HB.out.trans (hb4.below hwp HB.out.size))
          have HR4 := Lib.hid hR4
          clear hb4 hR4 HR HB
          go_wp2_with fail
          go_roundw
          case rel => exact ⟨k + 1, by omega, by go_num, HB4.out, HR4.out⟩
          case measure => simp [intOf]; omega
      · have hk4 : k = l.length := by omega
        subst hk4
        rw [← HXS.out] at hR
        have HR := Lib.hid hR
        have HB := Lib.hid hb
        have hd : doneR xs xs.length 0 = 0 := by unfold doneR; rw [if_neg (by omega)]
        clear hR hb
        go_wp2_with fail
        refine (Done_any HR.out).mono ?_
        rw [hd]
        rintro e w4 ⟨rfl, hb4⟩
        have HB4 := Lib.hid (Bel.then HB.out hb4)
        clear hb4 HB HR hd
        go_wp2_with fail
        refine (shown_any _).mono ?_
        rintro e w5 ⟨rfl, hb5⟩
        have HB5 := Lib.hid (Bel.then HB4.out hb5)
        clear hb5 HB4
        go_wp2_with fail
        go_ret
        exact ⟨rfl, HB5.out⟩
  · go_wp2_with fail
    refine (shown_any _).mono ?_
    rintro e w2 ⟨rfl, hb⟩
    have HB := Lib.hid hb
    clear hb
    go_wp2_with fail
    go_ret
    exact ⟨rfl, HB.out⟩
end Go.Proofs.Ytamnligooelmgaa
