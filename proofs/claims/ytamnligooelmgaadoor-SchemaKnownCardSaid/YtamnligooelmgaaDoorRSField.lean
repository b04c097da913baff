/- quaysideref06.Field: as schema.Field. -/
import Derived.Test.YtamnligooelmgaaDoorSField
set_option maxRecDepth 100000
set_option maxRecDepth 100000
set_option linter.unusedVariables false
set_option linter.unusedSimpArgs false
namespace Go.Proofs.YtamnligooelmgaaDoor
open Go.RowKit Go.BigFrame

theorem cells_newL (w : World) (cs : Array Value) (t : TypeId) : ∀ (j : Nat) (u : Value), cs.toList[j]? = some u → (w.alloc (.cells cs t)).cell? ((⟨w.heap.size, 0, none⟩ : Addr).add j) = some u := by
  intro j u hu
  have e : ((⟨w.heap.size, 0, none⟩ : Addr).add j) = ⟨w.heap.size, j, none⟩ := by
    unfold Addr.add
    split
    · rename_i h0; subst h0; rfl
    · simp
  rw [e, (Has.new w cs t).2 j]
  simpa using hu
theorem take_flat {ms : List Mv} {k : Nat} {m : Mv} (h : ms[k]? = some m) : (((ms.take (k + 1)).map Mv.cells).flatten) = (((ms.take k).map Mv.cells).flatten) ++ m.cells := by
  rw [take_snoc h]; simp
set_option maxHeartbeats 8000000 in
theorem rfield_no (D : Dc) (ti fi : Int) (w : World) (hD : D.In w w.heap.size) (hl : D.ts.length ≤ 1099511627776) (hno : ¬ ∃ (t : Ty) (f : Fd), 0 ≤ ti ∧ D.ts[ti.toNat]? = some t ∧ 0 ≤ fi ∧ t.fs[fi.toNat]? = some f) :
    Calls Tryd.prog 12 #[declV D, .int .i64 ti, .int .i64 fi] w fun e w' => FldRet D ti fi w e w' := by
  obtain ⟨ts, ps, tv, pv⟩ := D
  obtain ⟨A, c, h1⟩ := hD.1.shapeL
  obtain ⟨A', c', h2⟩ := hD.2.2.shapeL
  dsimp only at h1 h2 hl
  subst h1 h2
  obtain ⟨W, hW⟩ : ∃ W, W = (w.alloc (.cells #[.slice A ts.length c, .slice A' ps.length c'] 25)).alloc (.cells #[.int .i64 0, .int .i64 0, .bool false, .slice none 0 0] 33) := ⟨_, rfl⟩
  have hB : Below w.heap.size w W := by rw [hW]; exact Bel.grew (Bel.grew (Below.refl _ _) _) _
  have hC : Has W w.heap.size #[.slice A ts.length c, .slice A' ps.length c'] := by rw [hW]; exact (Has.new w _ _).grow _
  have hR : Has W (w.heap.size + 1) #[.int .i64 0, .int .i64 0, .bool false, .slice none 0 0] := by rw [hW]; exact Has.new1 _ _ _ (by simp)
  have hf : ∀ o, W.frozen? ⟨w.heap.size + 1, o, none⟩ = false := by intro o; rw [hW]; simp [go_sem]
  have HD := Lib.hid hD
  have HB := Lib.hid hB
  have HW := Lib.hid hW
  have HN := Lib.hid hno
  have hc := hC.2
  have hcl := hC.1
  have hr := hR.2
  have hcs : ti < 0 ∨ (0 ≤ ti ∧ (ts.length : Int) ≤ ti) ∨ (0 ≤ ti ∧ ti < (ts.length : Int)) := by omega
  clear hD hB hW hC hR hno
  rcases hcs with h1 | ⟨h0, h1⟩ | ⟨h0, h1⟩
  · go_enter Tryd.func12, Tryd.ntmps12
    go_wp2_with fail
    rw [← HW.out]
    clear HW
    have k0 := hr 0
    have k1 := hr 1
    have k2 := hr 2
    have k3 := hr 3
    simp at k0 k1 k2 k3
    simp [bodyPost, results, Tryd.results12, go_sem, k0, k1, k2, k3]
    exact .inr ⟨HN.out, rfl, HB.out⟩
  · go_enter Tryd.func12, Tryd.ntmps12
    go_wp2_with fail
    rw [← HW.out]
    clear HW
    have k0 := hr 0
    have k1 := hr 1
    have k2 := hr 2
    have k3 := hr 3
    simp at k0 k1 k2 k3
    simp [bodyPost, results, Tryd.results12, go_sem, k0, k1, k2, k3]
    exact .inr ⟨HN.out, rfl, HB.out⟩
  obtain ⟨n, rfl⟩ := Int.eq_ofNat_of_zero_le h0
  have hn : n < ts.length := by omega
  obtain ⟨t, ht⟩ : ∃ t, ts[n]? = some t := ⟨_, List.getElem?_eq_getElem hn⟩
  have htm := List.mem_of_getElem? ht
  obtain ⟨b, off, rfl, hb, hcap, hcx⟩ := HD.out.1.at ht
  have hti2 := HD.out.2.1 t htm
  obtain ⟨fs, fv⟩ := t
  obtain ⟨A2, c2, h2⟩ := hti2.1.shapeL
  dsimp only at h2
  subst h2
  have hct := hcx 0 _ rfl
  rw [Nat.mul_one, Nat.add_zero] at hct
  dsimp only at hct
  have hcs : fi < 0 ∨ (0 ≤ fi ∧ (fs.length : Int) ≤ fi) := by
    rcases Int.lt_or_le fi 0 with h | h
    · exact .inl h
    · refine .inr ⟨h, ?_⟩
      rcases Int.lt_or_le fi fs.length with h' | h'
      · refine absurd ⟨⟨fs, .slice A2 fs.length c2⟩, fs[fi.toNat]'(by omega), h0, ?_, h, ?_⟩ HN.out
        · rw [Int.toNat_natCast]; exact ht
        · exact List.getElem?_eq_getElem _
      · exact h'
  have hb1 : b < w.heap.size + 1 := by omega
  clear hcx hti2 htm ht HD
  rcases hcs with h2 | ⟨h2, h3⟩
  all_goals
    go_enter Tryd.func12, Tryd.ntmps12
    go_wp2_with fail
    rw [← HW.out]
    clear HW
    have k0 := hr 0
    have k1 := hr 1
    have k2 := hr 2
    have k3 := hr 3
    simp at k0 k1 k2 k3
    simp [bodyPost, results, Tryd.results12, go_sem, k0, k1, k2, k3]
    exact .inr ⟨HN.out, rfl, HB.out⟩
set_option maxHeartbeats 16000000 in
theorem rfield_yes (D : Dc) (n m : Nat) (t : Ty) (f : Fd) (w : World) (hD : D.In w w.heap.size) (hl : D.ts.length ≤ 1099511627776 ∧ t.fs.length ≤ 1099511627776 ∧ f.ms.length ≤ 1099511627776) (ht : D.ts[n]? = some t) (hf2 : t.fs[m]? = some f) :
    Calls Tryd.prog 12 #[declV D, .int .i64 n, .int .i64 m] w fun e w' => FldRet D n m w e w' := by
  obtain ⟨ts, ps, tv, pv⟩ := D
  obtain ⟨A, c, h1⟩ := hD.1.shapeL
  obtain ⟨A', c', h2⟩ := hD.2.2.shapeL
  dsimp only at h1 h2 hl ht
  subst h1 h2
  obtain ⟨i0, hi, hz0, hz1, hz2⟩ := info_parts infoMv
  obtain ⟨W, hW⟩ : ∃ W, W = (w.alloc (.cells #[.slice A ts.length c, .slice A' ps.length c'] 25)).alloc (.cells #[.int .i64 0, .int .i64 0, .bool false, .slice none 0 0] 33) := ⟨_, rfl⟩
  have hB : Below w.heap.size w W := by rw [hW]; exact Bel.grew (Bel.grew (Below.refl _ _) _) _
  have hC : Has W w.heap.size #[.slice A ts.length c, .slice A' ps.length c'] := by rw [hW]; exact (Has.new w _ _).grow _
  have hR : Has W (w.heap.size + 1) #[.int .i64 0, .int .i64 0, .bool false, .slice none 0 0] := by rw [hW]; exact Has.new1 _ _ _ (by simp)
  have hf : ∀ o, W.frozen? ⟨w.heap.size + 1, o, none⟩ = false := by intro o; rw [hW]; simp [go_sem]
  have hsz : W.heap.size = w.heap.size + 1 + 1 := by rw [hW]; simp
  have HSZ0 := Lib.hid hsz
  have htm := List.mem_of_getElem? ht
  have hD' := hD
  obtain ⟨b, off, rfl, hb, hcap, hcx⟩ := hD'.1.at ht
  have hti2 := hD'.2.1 t htm
  obtain ⟨hn, _⟩ := List.getElem?_eq_some_iff.1 ht
  obtain ⟨fs, fv⟩ := t
  obtain ⟨A2, c2, h2⟩ := hti2.1.shapeL
  dsimp only at h2 hl hf2
  subst h2
  have hct := hcx 0 _ rfl
  rw [Nat.mul_one, Nat.add_zero] at hct
  dsimp only at hct
  have hnI : (n : Int) < (ts.length : Int) := by omega
  have hn0 : (0 : Int) ≤ (n : Int) := by omega
  have hm0 : (0 : Int) ≤ (m : Int) := by omega
  obtain ⟨hm, _⟩ := List.getElem?_eq_some_iff.1 hf2
  have hfm := List.mem_of_getElem? hf2
  obtain ⟨b2, off2, rfl, hb2, hcap2, hcy⟩ := hti2.1.at hf2
  have hfin := hti2.2 f hfm
  obtain ⟨fk, fp, ffl, ms, mv⟩ := f
  obtain ⟨A3, c3, h3⟩ := SlR.shapeL hfin
  dsimp only at h3 hl
  subst h3
  have hf0 := hcy 0 _ rfl
  have hf1 := hcy 1 _ rfl
  have hf2' := hcy 2 _ rfl
  have hf3 := hcy 3 _ rfl
  rw [Nat.add_zero] at hf0
  dsimp only at hf0 hf1 hf2' hf3
  have hmI : (m : Int) < (fs.length : Int) := by omega
  have hb1 : b < w.heap.size + 1 := by omega
  have hb21 : b2 < w.heap.size + 1 := by omega
  have HFI := Lib.hid (Fd.In.later hfin hB)
  have HTE := Lib.hid ht
  have HFE := Lib.hid hf2
  have HB := Lib.hid hB
  have HW := Lib.hid hW
  have HR : Hid (Has W (w.heap.size + 1) #[.int .i64 0, .int .i64 0, .bool false, .slice none 0 0]) := Lib.hid hR
  have HRF := Lib.hid hf
  have HMS := Lib.hid hl.2.2
  have hmsl : (ms.length : Int) ≤ 1099511627776 := by omega
  have hc := hC.2
  have hcl := hC.1
  clear hcy hfin hfm hf2 ht hti2 hcx hD' hB hW hR hC htm hD hf hsz hl
  go_enter Tryd.func12, Tryd.ntmps12
  go_wp2_with fail
  rw [← HW.out]
  clear HW
  obtain ⟨W2, hW2⟩ : ∃ W2, W2 = W.alloc (.cells #[.int .i64 fk, .int .i64 fp, .bool ffl, .slice A3 ms.length c3] 33) := ⟨_, rfl⟩
  have hgr : Below W.heap.size W W2 := by rw [hW2]; exact Bel.grew (Below.refl _ _) _
  have hV : Has (W.alloc (.cells #[.int .i64 fk, .int .i64 fp, .bool ffl, .slice A3 ms.length c3] 33)) (w.heap.size + 1 + 1) #[.int .i64 fk, .int .i64 fp, .bool ffl, .slice A3 ms.length c3] := Has.new1 _ _ _ HSZ0.out.symm
  have hfV : ∀ o, W2.frozen? ⟨w.heap.size + 1 + 1, o, none⟩ = false := by intro o; rw [← HSZ0.out, hW2]; simp [go_sem]
  have hs2 : W2.heap.size = W.heap.size + 1 := by rw [hW2]; simp
  rw [← hW2] at hV
  rw [← hW2]
  have HS2 := Lib.hid hs2
  have HB2 := Lib.hid hgr
  have HV := Lib.hid hV
  have HVF := Lib.hid hfV
  have HM2 : Hid (SlR 4 W2 W2.heap.size (.slice A3 ms.length c3) (ms.map Mv.cells)) := Lib.hid (SlR.later HFI.out hgr)
  have hvl := hV.1
  have hvc := hV.2
  clear hW2 hgr hV hfV hs2 hc hcl hct hf0 hf1 hf2' hf3 HFI
  go_loopw [9, 10] (fun t i wr => ∃ k : Nat, k ≤ ms.length ∧ i = .int .i64 k ∧ wr.ownsRow W2.heap.size 39 4 t k (((ms.take k).map Mv.cells).flatten) ∧ Below W2.heap.size W2 wr) (fun _ i _ => ms.length - (intOf i).toNat)
  case atStart => exact ⟨0, Nat.zero_le _, rfl, World.ownsRow_nil _ _ _ _, Below.refl _ _⟩
  case round =>
    obtain ⟨k, hk, rfl, hown, hb⟩ := hrel
    have hvr := (HV.out.later hb).2
    have hvrl := (HV.out.later hb).1
    clear hvc hvl
    by_cases hlt : k < ms.length
    · obtain ⟨mo, hmo⟩ : ∃ mo, ms[k]? = some mo := ⟨_, List.getElem?_eq_getElem hlt⟩
      have HT := Lib.hid (take_flat hmo)
      obtain ⟨b3, off3, rfl, hb3, hcap3, hcz⟩ := (SlR.later HM2.out hb).at hmo
      have hz0' := hcz 0 _ rfl
      have hz1' := hcz 1 _ rfl
      have hz2' := hcz 2 _ rfl
      have hz3' := hcz 3 _ rfl
      rw [Nat.add_zero] at hz0'
      try dsimp only at hz0' hz1' hz2' hz3'
      have hkI : (k : Int) < (ms.length : Int) := by omega
      obtain ⟨m0, m1, m2, m3⟩ := mo
      dsimp only at hz0' hz1' hz2' hz3' HT
      clear hcz hmo
      go_wp2_with (at_builtin; refine wpList_append_own _ rfl _ _ 31 rfl W2.heap.size 39 i0 _ 4 32 Tryd.underlying31 hi hz0 hz1 hz2 rfl (by decide) _ _ _ rfl (hown.alloc _) ⟨wr.heap.size, 0, none⟩ 1 1 [.int .i64 m0, .int .i64 m1, .int .i64 m2, .int .i64 m3] rfl rfl (cells_newL _ _ _) (by intro u hu; simp at hu; rcases hu with rfl | rfl | rfl | rfl <;> rfl) (by unfold maxLen; omega) (by omega) (by have := hb.size; simp; omega) ?_; intro v' w1 hown' hgrow _)
      go_roundw
      case rel =>
        refine ⟨k + 1, by omega, by go_num, ?_, (hb.alloc hb.size _).grown hgrow (by have := hb.size; simp; omega) (own_base hown)⟩
        rw [HT.out]
        exact hown'
      case measure => simp [intOf]; omega
    · have hk' : k = ms.length := by omega
      subst hk'
      obtain ⟨A4, c4, h4⟩ := SlR.shapeL (c := Mv.cells) (l := ms) (OwnR.sl (sz := 4) (e := 39) (rows := ms.map Mv.cells) ⟨mv_rows ms, by simpa using hown⟩)
      subst h4
      have hO : OwnR 4 39 wr W2.heap.size (.slice A4 ms.length c4) (ms.map Mv.cells) := ⟨mv_rows ms, by simpa using hown⟩
      have hv3f : ∀ o, wr.frozen? ⟨w.heap.size + 1 + 1, o, none⟩ = false := fun o => (hb.frozen (p := ⟨w.heap.size + 1 + 1, o, none⟩) HV.out.1).trans (HVF.out o)
      have hB3 : Below W.heap.size W wr := Bel.then HB2.out hb
      have hr3 := (HR.out.later hB3).2
      have hr3l := (HR.out.later hB3).1
      have hr3f : ∀ o, wr.frozen? ⟨w.heap.size + 1, o, none⟩ = false := fun o => (hB3.frozen (p := ⟨w.heap.size + 1, o, none⟩) HR.out.1).trans (HRF.out o)
      have hne : w.heap.size + 1 + 1 ≠ w.heap.size + 1 := by omega
      have hne' : w.heap.size + 1 ≠ w.heap.size + 1 + 1 := by omega
      have HB3 := Lib.hid (Bel.then HB.out hB3)
      have HO3 := Lib.hid (hO.setOther (q := w.heap.size + 1 + 1) (by have := HS2.out; have := HSZ0.out; omega) 3 (.slice A4 ms.length c4))
      have HSZ : Hid (w.heap.size + 1 < W2.heap.size) := Lib.hid (by have := HS2.out; have := HSZ0.out; omega)
      have HR3 : Hid (∀ o, o < 4 → ∃ u, (wr.setCell ⟨w.heap.size + 1 + 1, 3, none⟩ (.slice A4 ms.length c4)).cell? ⟨w.heap.size + 1, o, none⟩ = some u) := Lib.hid fun o ho => by
        rw [World.cell?_setCell_other wr ⟨w.heap.size + 1 + 1, 3, none⟩ ⟨w.heap.size + 1, o, none⟩ _ (by simp [hne']), hr3 o]
        exact ⟨_, Array.getElem?_eq_getElem ho⟩
      clear hown hb hO hB3
      go_wp2_with fail
      change bodyPost _ _ _ _ _ (store4 (wr.setCell ⟨w.heap.size + 1 + 1, 3, none⟩ (.slice A4 ms.length c4)) (w.heap.size + 1) (.int .i64 fk) (.int .i64 fp) (.bool ffl) (.slice A4 ms.length c4))
      obtain ⟨wf, hwf⟩ : ∃ wf, wf = store4 (wr.setCell ⟨w.heap.size + 1 + 1, 3, none⟩ (.slice A4 ms.length c4)) (w.heap.size + 1) (.int .i64 fk) (.int .i64 fp) (.bool ffl) (.slice A4 ms.length c4) := ⟨_, rfl⟩
      rw [← hwf]
      have hBf : Below w.heap.size w wf := by rw [hwf]; exact Below.store4 (HB3.out.setCell (by show w.heap.size ≤ w.heap.size + 1 + 1; omega) _) (by omega) _ _ _ _
      have hOf : OwnR 4 39 wf w.heap.size (.slice A4 ms.length c4) (ms.map Mv.cells) := by
        rw [hwf]
        exact ((((HO3.out.setOther HSZ.out 0 _).setOther HSZ.out 1 _).setOther HSZ.out 2 _).setOther HSZ.out 3 _).down (by have := HSZ.out; omega)
      obtain ⟨k0, k1, k2, k3⟩ := store4_cells (fun o ho => HR3.out o ho) (.int .i64 fk) (.int .i64 fp) (.bool ffl) (.slice A4 ms.length c4)
      rw [← hwf] at k0 k1 k2 k3
      clear hwf hvr hr3 hv3f hr3f
      simp [bodyPost, results, Tryd.results12, go_sem, k0, k1, k2, k3]
      exact .inl ⟨_, _, _, by omega, by rw [Int.toNat_natCast]; exact HTE.out, by omega, by rw [Int.toNat_natCast]; exact HFE.out, rfl, hOf, hBf⟩
theorem rfield_any (D : Dc) (ti fi : Int) (w : World) (hD : D.In w w.heap.size) (hS : D.ts.length ≤ 1099511627776 ∧ ∀ t ∈ D.ts, t.fs.length ≤ 1099511627776 ∧ ∀ f ∈ t.fs, f.ms.length ≤ 1099511627776) :
    Calls Tryd.prog 12 #[declV D, .int .i64 ti, .int .i64 fi] w fun e w' => FldRet D ti fi w e w' := by
  by_cases h : ∃ (t : Ty) (f : Fd), 0 ≤ ti ∧ D.ts[ti.toNat]? = some t ∧ 0 ≤ fi ∧ t.fs[fi.toNat]? = some f
  · obtain ⟨t, f, h0, h1, h2, h3⟩ := h
    obtain ⟨n, rfl⟩ := Int.eq_ofNat_of_zero_le h0
    obtain ⟨m, rfl⟩ := Int.eq_ofNat_of_zero_le h2
    rw [Int.toNat_natCast] at h1 h3
    have ht := hS.2 t (List.mem_of_getElem? h1)
    exact rfield_yes D n m t f w hD ⟨hS.1, ht.1, ht.2 f (List.mem_of_getElem? h3)⟩ h1 h3
  · exact rfield_no D ti fi w hD hS.1 h
end Go.Proofs.YtamnligooelmgaaDoor
