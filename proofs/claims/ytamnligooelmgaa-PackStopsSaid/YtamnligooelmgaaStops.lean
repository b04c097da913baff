/- PackStops: the walk. -/
import Derived.Test.YtamnligooelmgaaLays
import Derived.Test.YtamnligooelmgaaKitR
import Derived.Test.YtamnligooelmgaaPick
import Derived.Test.YtamnligooelmgaaPackL
set_option linter.unusedVariables false
set_option linter.unusedSimpArgs false
namespace Go.Proofs.Ytamnligooelmgaa
open Go.RowKit Go.BigFrame

/-- Readings: kind, most. -/
structure Rgs (w : World) (B : Nat) (v : Value) (l : List (Int × Int)) : Prop where
  sl : SlR 2 w B v (l.map fun t => [.int .i64 t.1, .int .i64 t.2])
  in_ : ∀ t ∈ l, -9223372036854775808 ≤ t.1 ∧ t.1 ≤ 9223372036854775807
theorem Rgs.below {w w' : World} {B : Nat} {v : Value} {l : List (Int × Int)} (h : Rgs w B v l) (hb : Below B w w') : Rgs w' B v l := ⟨h.sl.below hb, h.in_⟩
theorem Rgs.shape {w : World} {B : Nat} {v : Value} {l : List (Int × Int)} (h : Rgs w B v l) : ∃ A c, v = .slice A l.length c := by
  obtain ⟨A, c, h'⟩ := h.sl.shape
  exact ⟨A, c, by rw [h', List.length_map]⟩
theorem Rgs.elem {w : World} {B i n c : Nat} {A : Option Addr} {l : List (Int × Int)} {t : Int × Int} (h : Rgs w B (.slice A n c) l) (hi : l[i]? = some t) :
    ∃ b off, A = some ⟨b, off, none⟩ ∧ b < B ∧ l.length ≤ c ∧ w.cell? ⟨b, off + i * 2, none⟩ = some (.int .i64 t.1) ∧ w.cell? ⟨b, off + i * 2 + 1, none⟩ = some (.int .i64 t.2) := by
  obtain ⟨b, off, hA, hb, hc, hx⟩ := h.sl.elem (i := i) (r := [.int .i64 t.1, .int .i64 t.2]) (by rw [List.getElem?_map, hi]; rfl)
  exact ⟨b, off, hA, hb, by simpa using hc, hx 0 _ rfl, hx 1 _ rfl⟩

theorem stepR_stop (r : Int ⊕ (Int × Nat)) (a : Nat) : stepR r a 3 = (0, (a : Int), 3) := rfl
theorem stepB_stop (r : Int ⊕ (List Int × Nat)) (a : Nat) : stepB r a 3 = ([], (a : Int), 3) := rfl
theorem enc_m5 : encI (-5) = [17, 5] := by decide +kernel
theorem count_m5 (t : List Int) (most : Int) : stepR (countR (([17, 5] ++ t).drop 0) most) 0 0 = (0, 0, 3) := by
  have h : numR ([17, 5] ++ t) = .inr (-5, 2) := by
    have := numR_enc (n := -5) (by decide) (by decide) t
    rw [enc_m5] at this
    exact this
  unfold stepR countR
  rw [List.drop_zero, h]
  simp

set_option maxHeartbeats 2000000 in
theorem packStops_any (xs : List Int) (most : Int) (l : List (Int × Int)) (v u : Value) (w : World) (hx : Sl .u8 w w.heap.size v xs) (hb : Bytes xs) (hy : Rgs w w.heap.size u l) (hl : l.length ≤ 140737488351232) :
    Calls Try.prog 7 #[v, .int .i64 most, u] w fun e w' => e = .returned (.bool true) ∧ Below w.heap.size w w' := by
  obtain ⟨A, c, rfl⟩ := hx.shape
  obtain ⟨A', c', rfl⟩ := hy.shape
  have HX := Lib.hid hx
  have HY := Lib.hid hy
  clear hx hy
  by_cases hbig : 4096 < (xs.length : Int)
  · go_enter Try.func7, Try.ntmps7
    go_wp2_with fail
    refine (shown_any _).mono ?_
    rintro e w1 ⟨rfl, hb⟩
    have HB := Lib.hid hb
    clear hb
    go_wp2_with fail
    go_ret
    exact ⟨rfl, HB.out⟩
  · have hlx : xs.length ≤ 4096 := by omega
    have HBY : Hid (Bytes ([17, 5] ++ encB xs)) := by
      intro d hd
      rcases List.mem_append.1 hd with h | h
      · have hall : ∀ d ∈ ([17, 5] : List Int), 0 ≤ d ∧ d ≤ 255 := by decide
        exact hall d h
      · unfold encB at h
        rcases List.mem_append.1 h with h | h
        · have h8 := nb_le (u := mag (xs.length : Int)) (by unfold mag; omega)
          unfold encI at h
          rcases List.mem_cons.1 h with rfl | h
          · unfold headI; split <;> omega
          · exact beD_byte _ _ d h
        · exact hb d h
    have HLN : Hid (([17, 5] ++ encB xs).length ≤ 1099511627776) := by
      have := encB_le xs (by omega)
      simp only [Hid, List.length_append, List.length_cons, List.length_nil]; omega
    clear hb
    go_enter Try.func7, Try.ntmps7
    go_wp2_with fail
    refine (pint_any [] (-5) _ w.heap.size _ Sl.nil_ (Nat.le_refl _) (by decide) (by decide) (by decide)).mono ?_
    rintro e w1 ⟨r1, rfl, ho1, hb1⟩
    rw [List.nil_append, enc_m5] at ho1
    have HO1 := Lib.hid ho1
    have HB1 := Lib.hid hb1
    clear ho1 hb1
    go_wp2_with fail
    refine (pblob_any [17, 5] xs _ _ _ HO1.out.sl (HX.out.later HB1.out) (by decide) (by omega)).mono ?_
    rintro e w2 ⟨r2, rfl, ho2, hb2⟩
    have HO2 := Lib.hid ho2
    have HB2 := Lib.hid (Bel.then HB1.out hb2)
    clear ho2 hb2 HO1 HB1
    go_wp2_with fail
    refine (From_any _ _ _ HO2.out.sl HLN.out).mono ?_
    rintro e w3 ⟨p, S, rfl, hp, hb3, hR⟩
    have hwp : w.heap.size ≤ p := Nat.le_trans HB2.out.size hp
    have HB3 := Lib.hid (Bel.then HB2.out hb3)
    have HR3 := Lib.hid hR
    clear hb3 hR HB2 HO2 hp
    obtain ⟨ys, hys⟩ : ∃ ys, ys = [17, 5] ++ encB xs := ⟨_, rfl⟩
    have HC : Hid (stepR (countR (ys.drop 0) most) 0 0 = (0, 0, 3)) := by rw [hys]; exact count_m5 _ _
    rw [← hys] at HBY HLN HR3
    clear hys
    go_wp2_with fail
    refine (Count_any (a := 0) HR3.out HLN.out (Nat.zero_le _) HBY.out _ HC.out).mono ?_
    rintro e w4 ⟨rfl, hb4, hR⟩
    have HB4 := Lib.hid (HB3.out.trans (hb4.below hwp HB3.out.size))
    have HR4 := Lib.hid hR
    clear hb4 hR HB3 HR3 HC
    dsimp only
    go_wp2_with fail
    refine (Done_any HR4.out).mono ?_
    rw [show doneR ys 0 3 = 3 from rfl]
    rintro e w5 ⟨rfl, hb5⟩
    have HB5 := Lib.hid (Bel.then HB4.out hb5)
    have HR5 := Lib.hid (HR4.out.below hb5)
    clear hb5 HB4 HR4
    go_wp2_with fail
    go_loopw [8] (fun i wr => ∃ k : Nat, k ≤ l.length ∧ i = .int .i64 k ∧ Below w.heap.size w wr ∧ Rd wr p ys S 0 3) (fun i _ => l.length - (intOf i).toNat)
    case atStart => exact ⟨0, Nat.zero_le _, rfl, HB5.out, HR5.out⟩
    case round =>
      obtain ⟨k, hk, rfl, hb, hR⟩ := hrel
      have HR := Lib.hid hR
      have HB := Lib.hid hb
      clear HR5 HB5 hb hR
      by_cases hgo : k < l.length ∧ k < 40
      · obtain ⟨hk2, hk40⟩ := hgo
        obtain ⟨t, ht⟩ : ∃ t, l[k]? = some t := ⟨_, List.getElem?_eq_getElem hk2⟩
        have hY' := HY.out.below HB.out
        have hin := hY'.in_ t (List.mem_of_getElem? ht)
        obtain ⟨b, off, rfl, hbB, hcap, hc0, hc1⟩ := hY'.elem ht
        have hc1' : ∀ w', Below w.heap.size wr w' → w'.cell? ⟨b, off + k * 2 + 1, none⟩ = some (.int .i64 t.2) := fun w' h => (h.cell (p := ⟨b, off + k * 2 + 1, none⟩) hbB).trans hc1
        have hkI : (k : Int) < (l.length : Int) := by omega
        have hk4I : (k : Int) < 40 := by omega
        have HIN := Lib.hid hin
        clear ht hin hY'
        go_wp2_with fail
        refine (pick_any t.1 3 _ HIN.out.1 HIN.out.2 (by decide) (by decide)).mono ?_
        rintro e w6 ⟨m, rfl, hm0, hm3, rfl⟩
        have HFIN : Hid (∀ w7, Below w.heap.size wr w7 → Rd w7 p ys S 0 3 → True) := fun _ _ _ => trivial
        rcases (show m = 0 ∨ m = 1 ∨ m = 2 from by omega) with rfl | rfl | rfl
        · go_wp2_with fail
          refine (Int_any (a := 0) HR.out HLN.out (Nat.zero_le _) HBY.out _ (stepR_stop _ _)).mono ?_
          rintro e w7 ⟨rfl, hb7, hR7⟩
          have HB7 := Lib.hid (HB.out.trans (hb7.below hwp HB.out.size))
          have HR7 : Hid (Rd w7 p ys S 0 3) := hR7
          clear hb7 hR7
          dsimp only
          go_wp2_with fail
          refine (Done_any HR7.out).mono ?_
          rw [show doneR ys 0 3 = 3 from rfl]
          rintro e w8 ⟨rfl, hb8⟩
          have HB8 := Lib.hid (Bel.then HB7.out hb8)
          have HR8 := Lib.hid (HR7.out.below hb8)
          clear hb8 HB7 HR7 HB HR
          go_wp2_with fail
          go_roundw
          case rel => exact ⟨k + 1, by omega, by go_num, HB8.out, HR8.out⟩
          case measure => simp [intOf]; omega
        · go_wp2_with fail
          refine (Count_any (a := 0) HR.out HLN.out (Nat.zero_le _) HBY.out _ (stepR_stop _ _)).mono ?_
          rintro e w7 ⟨rfl, hb7, hR7⟩
          have HB7 := Lib.hid (HB.out.trans (hb7.below hwp HB.out.size))
          have HR7 : Hid (Rd w7 p ys S 0 3) := hR7
          clear hb7 hR7
          dsimp only
          go_wp2_with fail
          refine (Done_any HR7.out).mono ?_
          rw [show doneR ys 0 3 = 3 from rfl]
          rintro e w8 ⟨rfl, hb8⟩
          have HB8 := Lib.hid (Bel.then HB7.out hb8)
          have HR8 := Lib.hid (HR7.out.below hb8)
          clear hb8 HB7 HR7 HB HR
          go_wp2_with fail
          go_roundw
          case rel => exact ⟨k + 1, by omega, by go_num, HB8.out, HR8.out⟩
          case measure => simp [intOf]; omega
        · go_wp2_with fail
          refine (Blob_any (a := 0) HR.out HLN.out (Nat.zero_le _) HBY.out _ (stepB_stop _ _)).mono ?_
          rintro e w7 ⟨r7, rfl, hb7, hR7, hown⟩
          have HB7 := Lib.hid (HB.out.trans (hb7.below hwp HB.out.size))
          have HR7 : Hid (Rd w7 p ys S 0 3) := hR7
          obtain ⟨A7, c7, rfl⟩ := hown.sl.shape
          clear hb7 hR7 hown
          dsimp only [List.length_nil]
          go_wp2_with fail
          refine (Done_any HR7.out).mono ?_
          rw [show doneR ys 0 3 = 3 from rfl]
          rintro e w8 ⟨rfl, hb8⟩
          have HB8 := Lib.hid (Bel.then HB7.out hb8)
          have HR8 := Lib.hid (HR7.out.below hb8)
          clear hb8 HB7 HR7 HB HR
          go_wp2_with fail
          go_roundw
          case rel => exact ⟨k + 1, by omega, by go_num, HB8.out, HR8.out⟩
          case measure => simp [intOf]; omega
      · have hend : ¬ (k : Int) < (l.length : Int) ∨ ((k : Int) < (l.length : Int) ∧ ¬ (k : Int) < 40) := by omega
        clear hgo
        rcases hend with h1 | ⟨h1, h2⟩
        all_goals
          go_wp2_with fail
          refine (shown_any _).mono ?_
          rintro e w6 ⟨rfl, hb6⟩
          have HB6 := Lib.hid (Bel.then HB.out hb6)
          clear hb6
          go_wp2_with fail
          go_ret
          exact ⟨rfl, HB6.out⟩
end Go.Proofs.Ytamnligooelmgaa
