/- laid(): things, one behind the other, and where each of them ends. -/
import Derived.Test.YtamnligooelmgaaThings
import Derived.Test.YtamnligooelmgaaLays
import Derived.Test.YtamnligooelmgaaKitF
set_option linter.unusedVariables false
set_option linter.unusedSimpArgs false
namespace Go.Proofs.Ytamnligooelmgaa
open Go.RowKit Go.BigFrame

theorem infoInt : (Try.prog.info? 3).map (fun i => (i.zero, i.size, i.bytes)) = some (some (.int .i64 0), 1, 8) := by kernel_rfl
/-- A row of numbers that the call owns. -/
abbrev OwnInts (w : World) (B : Nat) (v : Value) (xs : List Int) : Prop := OwnK .i64 3 w B v xs

/-- A thing's bytes. -/
def Th.enc (t : Th) : List Int := if t.row then encB t.bs else encI t.n
/-- The first k things' bytes. -/
def laidK (l : List Th) (k : Nat) : List Int := (l.take k).flatMap Th.enc
/-- Where the first k things end. -/
def endsK (l : List Th) (k : Nat) : List Int := (List.range k).map fun i => ((laidK l (i + 1)).length : Int)
theorem laidK_succ {l : List Th} {k : Nat} {t : Th} (h : l[k]? = some t) : laidK l (k + 1) = laidK l k ++ t.enc := by
  unfold laidK
  rw [List.take_add_one, h]; simp [List.flatMap_append]
theorem endsK_succ (l : List Th) (k : Nat) : endsK l (k + 1) = endsK l k ++ [((laidK l (k + 1)).length : Int)] := by
  unfold endsK; rw [List.range_succ, List.map_append]; rfl
theorem endsK_length (l : List Th) (k : Nat) : (endsK l k).length = k := by simp [endsK]
theorem enc_le (t : Th) (h : t.bs.length ≤ 140737488351232) (h0 : -9223372036854775808 ≤ t.n) (h1 : t.n ≤ 9223372036854775807) : t.enc.length ≤ t.bs.length + 9 := by
  unfold Th.enc
  split
  · unfold encB; rw [List.length_append]
    have := encI_le (t.bs.length : Int) (by omega) (by omega)
    omega
  · have := encI_le t.n h0 h1
    omega
theorem laid_le : ∀ (l : List Th), (∀ t ∈ l, t.bs.length ≤ 140737488351232 ∧ -9223372036854775808 ≤ t.n ∧ t.n ≤ 9223372036854775807) → (l.flatMap Th.enc).length ≤ (l.map (fun t => t.bs.length)).sum + 9 * l.length
  | [], _ => by simp
  | t :: l, h => by
    have h1 := laid_le l (fun x hx => h x (by simp [hx]))
    have h2 := h t (by simp)
    have h3 := enc_le t h2.1 h2.2.1 h2.2.2
    simp only [List.flatMap_cons, List.length_append, List.map_cons, List.sum_cons, List.length_cons]
    omega
theorem laidK_le {l : List Th} (k : Nat) (h : ∀ t ∈ l, t.bs.length ≤ 140737488351232 ∧ -9223372036854775808 ≤ t.n ∧ t.n ≤ 9223372036854775807) (h1 : l.length ≤ 100) (h2 : (l.map (fun t => t.bs.length)).sum ≤ 10000) : (laidK l k).length ≤ 10900 := by
  have h3 := laid_le l h
  have h4 : l.flatMap Th.enc = laidK l k ++ (l.drop k).flatMap Th.enc := by
    unfold laidK
    rw [← List.flatMap_append, List.take_append_drop]
  rw [h4, List.length_append] at h3
  omega
theorem sum_mem : ∀ {l : List Th} {t : Th}, t ∈ l → t.bs.length ≤ (l.map (fun t => t.bs.length)).sum
  | [], _, h => by cases h
  | x :: l, t, h => by
    simp only [List.map_cons, List.sum_cons]
    rcases List.mem_cons.1 h with rfl | h
    · omega
    · have := sum_mem h; omega

set_option maxHeartbeats 2000000 in
theorem laid_any (l : List Th) (v : Value) (B : Nat) (w : World) (hx : Things w B v l) (hB : B ≤ w.heap.size) (hm : l.length ≤ 100) (hs : (l.map (fun t => t.bs.length)).sum ≤ 10000) :
    Calls Try.prog 17 #[v] w fun e w' => ∃ r s, e = .returned (.tuple #[r, s]) ∧ OwnBytes w' w.heap.size r (laidK l l.length) ∧ OwnInts w' w.heap.size s (endsK l l.length) ∧ Below w.heap.size w w' := by
  obtain ⟨A, c, rfl⟩ := hx.shape
  have HX := Lib.hid hx
  have HLE : Hid (∀ k, (laidK l k).length ≤ 10900) := fun k => laidK_le k (fun t ht => (hx.in_ t ht).2.imp_right fun h => h.2) hm hs
  have HSM : Hid (∀ t ∈ l, t.bs.length ≤ 10000) := fun t ht => Nat.le_trans (sum_mem ht) hs
  clear hx hs
  go_enter Try.func17, Try.ntmps17
  go_wp2
  go_loopw [4, 5, 6] (fun b s i wr => ∃ k : Nat, k ≤ l.length ∧ i = .int .i64 k ∧ OwnBytes wr w.heap.size b (laidK l k) ∧ OwnInts wr w.heap.size s (endsK l k) ∧ Below w.heap.size w wr) (fun _ _ i _ => l.length - (intOf i).toNat)
  case atStart => exact ⟨0, Nat.zero_le _, rfl, OwnK.nil_ _ _, OwnK.nil_ _ _, Below.refl _ _⟩
  case round =>
    obtain ⟨k, hk, rfl, hown, howe, hb⟩ := hrel
    by_cases hk2 : k < l.length
    · obtain ⟨t, ht⟩ : ∃ t, l[k]? = some t := ⟨_, List.getElem?_eq_getElem hk2⟩
      have hX' := HX.out.below (hb.mono hB)
      have hin := hX'.in_ t (List.mem_of_getElem? ht)
      obtain ⟨b, off, rfl, hbB, hcap, hc0, hc1, hc2⟩ := hX'.elem ht
      obtain ⟨A2, c2, hv⟩ := hin.1.shape
      rw [hv] at hc2
      have hbl := HSM.out t (List.mem_of_getElem? ht)
      have hkl := HLE.out k
      have hkl1 := HLE.out (k + 1)
      have HSv : Hid (Sl .u8 wr B (.slice A2 t.bs.length c2) t.bs) := hv ▸ hin.1
      have HL1 := Lib.hid (laidK_succ ht)
      have HE1 := Lib.hid (endsK_succ l k)
      have HN0 := hin.2.2.2.1
      have HN1 := hin.2.2.2.2
      have hkI : (k : Int) < (l.length : Int) := by omega
      have hs1 := hb.size
      obtain ⟨bv, hbv⟩ : ∃ bv, bv = laidK l k := ⟨_, rfl⟩
      have HBV := Lib.hid hbv
      rw [← hbv] at hown hkl
      have HO := Lib.hid hown
      have HE := Lib.hid howe
      clear ht hin hv hX' hbv hown howe
      cases hrow : t.row
      · rw [hrow] at hc0
        go_wp2_with fail
        refine (pint_any bv t.n _ _ _ HO.out.sl (Nat.le_refl _) (by omega) HN0 HN1).mono ?_
        rintro e w2 ⟨r, rfl, hr, hb2⟩
        rw [HBV.out, show encI t.n = t.enc from by unfold Th.enc; rw [hrow]; rfl, ← HL1.out] at hr
        obtain ⟨nx, hnx⟩ : ∃ nx, nx = laidK l (k + 1) := ⟨_, rfl⟩
        rw [← hnx] at hr hkl1 HE1
        have HNX := Lib.hid hnx
        have HO2 := Lib.hid hr
        have HE2 := Lib.hid (HE.out.later hb2)
        have HD := Lib.hid (own_apart HE.out hr)
        have HB2 := Lib.hid (hb.trans (hb2.mono hs1))
        have hs2 := HB2.out.size
        obtain ⟨A3, c3, rfl⟩ := hr.sl.shape
        clear hnx hr hb2 HO HE HX HSv hb
        go_wp2_with (at_builtin; refine wpList_append_keep rfl _ _ 32 rfl Try.underlying32 infoInt (by decide) rfl rfl (HE2.out.grow _) (Sl.one _ _ (nx.length : Int) _ rfl) (by rw [endsK_length, List.length_cons, List.length_nil]; omega) (by rw [World.size_alloc]; omega) ?_; intro v' w3 hown' hb3 hk3)
        go_roundw
        case rel =>
          refine ⟨k + 1, by omega, by go_num, ?_, ?_, (HB2.out.alloc hs2 _).trans hb3⟩
          · rw [← HNX.out]
            exact (hk3 _ _ _ _ _ (HO2.out.grow _) HD.out).down hs1
          · rw [HE1.out]; exact hown'
        case measure => simp [intOf]; omega
      · rw [hrow] at hc0
        go_wp2_with fail
        refine (pblob_any bv t.bs _ _ _ HO.out.sl (HSv.out.more (by omega)) (by omega) (by omega)).mono ?_
        rintro e w2 ⟨r, rfl, hr, hb2⟩
        rw [HBV.out, show encB t.bs = t.enc from by unfold Th.enc; rw [hrow]; rfl, ← HL1.out] at hr
        obtain ⟨nx, hnx⟩ : ∃ nx, nx = laidK l (k + 1) := ⟨_, rfl⟩
        rw [← hnx] at hr hkl1 HE1
        have HNX := Lib.hid hnx
        have HO2 := Lib.hid hr
        have HE2 := Lib.hid (HE.out.later hb2)
        have HD := Lib.hid (own_apart HE.out hr)
        have HB2 := Lib.hid (hb.trans (hb2.mono hs1))
        have hs2 := HB2.out.size
        obtain ⟨A3, c3, rfl⟩ := hr.sl.shape
        clear hnx hr hb2 HO HE HX HSv hb
        go_wp2_with (at_builtin; refine wpList_append_keep rfl _ _ 32 rfl Try.underlying32 infoInt (by decide) rfl rfl (HE2.out.grow _) (Sl.one _ _ (nx.length : Int) _ rfl) (by rw [endsK_length, List.length_cons, List.length_nil]; omega) (by rw [World.size_alloc]; omega) ?_; intro v' w3 hown' hb3 hk3)
        go_roundw
        case rel =>
          refine ⟨k + 1, by omega, by go_num, ?_, ?_, (HB2.out.alloc hs2 _).trans hb3⟩
          · rw [← HNX.out]
            exact (hk3 _ _ _ _ _ (HO2.out.grow _) HD.out).down hs1
          · rw [HE1.out]; exact hown'
        case measure => simp [intOf]; omega
    · have hk4 : k = l.length := by omega
      subst hk4
      go_wp2
      simp [bodyPost, results, Try.results17, go_sem, hb]
      exact ⟨_, _, ⟨rfl, rfl⟩, hown, howe⟩
end Go.Proofs.Ytamnligooelmgaa
