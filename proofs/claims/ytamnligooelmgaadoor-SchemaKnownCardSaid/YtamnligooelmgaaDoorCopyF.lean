/- CopyField, SameField. -/
import Derived.Test.YtamnligooelmgaaDoorRSField
import Derived.Test.YtamnligooelmgaaDoorOwnD
import Derived.StillTailTactics
import Derived.BigQuiet
set_option maxRecDepth 100000
set_option maxRecDepth 100000
set_option linter.unusedVariables false
set_option linter.unusedSimpArgs false
namespace Go.Proofs.YtamnligooelmgaaDoor
open Go.RowKit Go.BigFrame

/-- A field in new memory. -/
def CopyFRet (f : Fd) (w : World) (e : Ending) (w' : World) : Prop := ∃ v', e = .returned (fdV' ⟨f.k, f.p, f.fl, f.ms, v'⟩) ∧ Fd.Own w' w.heap.size ⟨f.k, f.p, f.fl, f.ms, v'⟩ ∧ Below w.heap.size w w'
set_option maxHeartbeats 8000000 in
theorem copyField_any (f : Fd) (w : World) (hf : f.In w w.heap.size) (hl : f.ms.length ≤ 1099511627776) :
    Calls Tryd.prog 20 #[fdV' f] w fun e w' => CopyFRet f w e w' := by
  obtain ⟨fk, fp, ffl, ms, mv⟩ := f
  obtain ⟨A3, c3, h3⟩ := SlR.shapeL hf
  dsimp only at h3 hl
  subst h3
  obtain ⟨i0, hi, hz0, hz1, hz2⟩ := info_parts infoMv
  obtain ⟨W, hW⟩ : ∃ W, W = (w.alloc (.cells #[.int .i64 fk, .int .i64 fp, .bool ffl, .slice A3 ms.length c3] 33)).alloc (.cells #[.int .i64 0, .int .i64 0, .bool false, .slice none 0 0] 33) := ⟨_, rfl⟩
  have hB : Below w.heap.size w W := by rw [hW]; exact Bel.grew (Bel.grew (Below.refl _ _) _) _
  have hC : Has W w.heap.size #[.int .i64 fk, .int .i64 fp, .bool ffl, .slice A3 ms.length c3] := by rw [hW]; exact (Has.new w _ _).grow _
  have hR : Has W (w.heap.size + 1) #[.int .i64 0, .int .i64 0, .bool false, .slice none 0 0] := by rw [hW]; exact Has.new1 _ _ _ (by simp)
  have hfr : ∀ b o, w.heap.size ≤ b → W.frozen? ⟨b, o, none⟩ = false := by
    intro b o hb
    rw [hW]
    rcases Nat.lt_trichotomy b (w.heap.size + 1) with h | h | h
    · have : b = w.heap.size := by omega
      subst this; simp [go_sem]
    · subst h; simp [go_sem]
    · have : (((w.alloc (.cells #[.int .i64 fk, .int .i64 fp, .bool ffl, .slice A3 ms.length c3] 33)).alloc (.cells #[.int .i64 0, .int .i64 0, .bool false, .slice none 0 0] 33)).heap)[b]? = none := Array.getElem?_eq_none (by simp; omega)
      simp [World.frozen?, this]
  have hsz : W.heap.size = w.heap.size + 1 + 1 := by rw [hW]; simp
  have HM2 : Hid (SlR 4 W W.heap.size (.slice A3 ms.length c3) (ms.map Mv.cells)) := Lib.hid (SlR.later hf hB)
  have HSZ := Lib.hid hsz
  have HB := Lib.hid hB
  have HW := Lib.hid hW
  have HC := Lib.hid hC
  have HR := Lib.hid hR
  have HFR := Lib.hid hfr
  have hmsl : (ms.length : Int) ≤ 1099511627776 := by omega
  clear hB hW hC hR hfr hsz hf hl
  go_enter Tryd.func20, Tryd.ntmps20
  go_wp2_with fail
  rw [← HW.out]
  clear HW
  go_loopw [3, 4] (fun t i wr => ∃ k : Nat, k ≤ ms.length ∧ i = .int .i64 k ∧ wr.ownsRow W.heap.size 39 4 t k (((ms.take k).map Mv.cells).flatten) ∧ Below W.heap.size W wr) (fun _ i _ => ms.length - (intOf i).toNat)
  case atStart => exact ⟨0, Nat.zero_le _, rfl, World.ownsRow_nil _ _ _ _, Below.refl _ _⟩
  case round =>
    obtain ⟨k, hk, rfl, hown, hb⟩ := hrel
    have hvr := (HC.out.later hb).2
    have hvrl := (HC.out.later hb).1
    by_cases hlt : k < ms.length
    · obtain ⟨mo, hmo⟩ : ∃ mo, ms[k]? = some mo := ⟨_, List.getElem?_eq_getElem hlt⟩
      have HT := Lib.hid (take_flat hmo)
      obtain ⟨b3, off3, rfl, hb3, hcap3, hcz⟩ := (SlR.later HM2.out hb).at hmo
      have hz0' := hcz 0 _ rfl
      have hz1' := hcz 1 _ rfl
      have hz2' := hcz 2 _ rfl
      have hz3' := hcz 3 _ rfl
      rw [Nat.add_zero] at hz0'
      try dsimp only at hz0' hz1' hz2' hz3'
      have hkI : (k : Int) < (ms.length : Int) := by omega
      obtain ⟨m0, m1, m2, m3⟩ := mo
      dsimp only at hz0' hz1' hz2' hz3' HT
      clear hcz hmo
      go_wp2_with (at_builtin; refine wpList_append_own _ rfl _ _ 31 rfl W.heap.size 39 i0 _ 4 32 Tryd.underlying31 hi hz0 hz1 hz2 rfl (by decide) _ _ _ rfl (hown.alloc _) ⟨wr.heap.size, 0, none⟩ 1 1 [.int .i64 m0, .int .i64 m1, .int .i64 m2, .int .i64 m3] rfl rfl (cells_newL _ _ _) (by intro u hu; simp at hu; rcases hu with rfl | rfl | rfl | rfl <;> rfl) (by unfold maxLen; omega) (by omega) (by have := hb.size; simp; omega) ?_; intro v' w1 hown' hgrow _)
      go_roundw
      case rel =>
        refine ⟨k + 1, by omega, by go_num, ?_, (hb.alloc hb.size _).grown hgrow (by have := hb.size; simp; omega) (own_base hown)⟩
        rw [HT.out]
        exact hown'
      case measure => simp [intOf]; omega
    · have hk' : k = ms.length := by omega
      subst hk'
      obtain ⟨A4, c4, h4⟩ := SlR.shapeL (c := Mv.cells) (l := ms) (OwnR.sl (sz := 4) (e := 39) (rows := ms.map Mv.cells) ⟨mv_rows ms, by simpa using hown⟩)
      subst h4
      have hO : OwnR 4 39 wr W.heap.size (.slice A4 ms.length c4) (ms.map Mv.cells) := ⟨mv_rows ms, by simpa using hown⟩
      have hv3f : ∀ o, wr.frozen? ⟨w.heap.size, o, none⟩ = false := fun o => (hb.frozen (p := ⟨w.heap.size, o, none⟩) HC.out.1).trans (HFR.out _ o (Nat.le_refl _))
      have hr3 := (HR.out.later hb).2
      have hr3l := (HR.out.later hb).1
      have hr3f : ∀ o, wr.frozen? ⟨w.heap.size + 1, o, none⟩ = false := fun o => (hb.frozen (p := ⟨w.heap.size + 1, o, none⟩) HR.out.1).trans (HFR.out _ o (by omega))
      have HB3 := Lib.hid (Bel.then HB.out hb)
      have HO3 := Lib.hid (hO.setOther (q := w.heap.size) (by have := HSZ.out; omega) 3 (.slice A4 ms.length c4))
      have HLT : Hid (w.heap.size + 1 < W.heap.size) := Lib.hid (by have := HSZ.out; omega)
      have HR3 : Hid (∀ o, o < 4 → ∃ u, (wr.setCell ⟨w.heap.size, 3, none⟩ (.slice A4 ms.length c4)).cell? ⟨w.heap.size + 1, o, none⟩ = some u) := Lib.hid fun o ho => by
        rw [World.cell?_setCell_other wr ⟨w.heap.size, 3, none⟩ ⟨w.heap.size + 1, o, none⟩ _ (by simp), hr3 o]
        exact ⟨_, Array.getElem?_eq_getElem ho⟩
      clear hown hb hO
      go_wp2_with fail
      change bodyPost _ _ _ _ _ (store4 (wr.setCell ⟨w.heap.size, 3, none⟩ (.slice A4 ms.length c4)) (w.heap.size + 1) (.int .i64 fk) (.int .i64 fp) (.bool ffl) (.slice A4 ms.length c4))
      obtain ⟨wf, hwf⟩ : ∃ wf, wf = store4 (wr.setCell ⟨w.heap.size, 3, none⟩ (.slice A4 ms.length c4)) (w.heap.size + 1) (.int .i64 fk) (.int .i64 fp) (.bool ffl) (.slice A4 ms.length c4) := ⟨_, rfl⟩
      rw [← hwf]
      have hBf : Below w.heap.size w wf := by rw [hwf]; exact Below.store4 (HB3.out.setCell (by show w.heap.size ≤ w.heap.size; omega) _) (by omega) _ _ _ _
      have hOf : OwnR 4 39 wf w.heap.size (.slice A4 ms.length c4) (ms.map Mv.cells) := by
        rw [hwf]
        exact ((((HO3.out.setOther HLT.out 0 _).setOther HLT.out 1 _).setOther HLT.out 2 _).setOther HLT.out 3 _).down (by have := HLT.out; omega)
      obtain ⟨k0, k1, k2, k3⟩ := store4_cells (fun o ho => HR3.out o ho) (.int .i64 fk) (.int .i64 fp) (.bool ffl) (.slice A4 ms.length c4)
      rw [← hwf] at k0 k1 k2 k3
      clear hwf hvr hr3 hv3f hr3f
      simp [bodyPost, results, Tryd.results20, go_sem, k0, k1, k2, k3]
      exact ⟨_, rfl, hOf, hBf⟩

set_option maxHeartbeats 8000000 in
theorem sameField_eq (f g : Fd) (w : World) (hf : f.In w w.heap.size) (hg : g.In w w.heap.size) (he : f.pl = g.pl) (hl : f.ms.length ≤ 1099511627776) :
    Calls Tryd.prog 14 #[fdV' f, fdV' g] w fun e w' => e = .returned (.bool true) ∧ Below w.heap.size w w' := by
  obtain ⟨fk, fp, ffl, ms, mv⟩ := f
  obtain ⟨gk, gp, gfl, gs, gv⟩ := g
  unfold Fd.pl at he
  injection he with e1 e2 e3 e4
  dsimp only at e1 e2 e3 e4 hl
  subst e1 e2 e3 e4
  obtain ⟨A3, c3, h3⟩ := SlR.shapeL hf
  obtain ⟨A4, c4, h4⟩ := SlR.shapeL hg
  dsimp only at h3 h4
  subst h3 h4
  obtain ⟨W, hW⟩ : ∃ W, W = (w.alloc (.cells #[.int .i64 fk, .int .i64 fp, .bool ffl, .slice A3 ms.length c3] 33)).alloc (.cells #[.int .i64 fk, .int .i64 fp, .bool ffl, .slice A4 ms.length c4] 33) := ⟨_, rfl⟩
  have hB : Below w.heap.size w W := by rw [hW]; exact Bel.grew (Bel.grew (Below.refl _ _) _) _
  have hC : Has W w.heap.size #[.int .i64 fk, .int .i64 fp, .bool ffl, .slice A3 ms.length c3] := by rw [hW]; exact (Has.new w _ _).grow _
  have hR : Has W (w.heap.size + 1) #[.int .i64 fk, .int .i64 fp, .bool ffl, .slice A4 ms.length c4] := by rw [hW]; exact Has.new1 _ _ _ (by simp)
  have HM1 : Hid (SlR 4 W W.heap.size (.slice A3 ms.length c3) (ms.map Mv.cells)) := Lib.hid (SlR.later hf hB)
  have HM2 : Hid (SlR 4 W W.heap.size (.slice A4 ms.length c4) (ms.map Mv.cells)) := Lib.hid (SlR.later hg hB)
  have HB := Lib.hid hB
  have HW := Lib.hid hW
  have HC := Lib.hid hC
  have HR := Lib.hid hR
  have hmsl : (ms.length : Int) ≤ 1099511627776 := by omega
  clear hB hW hC hR hf hg hl
  go_enter Tryd.func14, Tryd.ntmps14
  go_wp2_with fail
  rw [← HW.out]
  clear HW
  go_loopw [5] (fun i wr => ∃ k : Nat, k ≤ ms.length ∧ i = .int .i64 k ∧ Below W.heap.size W wr) (fun i _ => ms.length - (intOf i).toNat)
  case atStart => exact ⟨0, Nat.zero_le _, rfl, Below.refl _ _⟩
  case round =>
    obtain ⟨k, hk, rfl, hb⟩ := hrel
    have hvr := (HC.out.later hb).2
    have hvrl := (HC.out.later hb).1
    have hur := (HR.out.later hb).2
    have hurl := (HR.out.later hb).1
    by_cases hlt : k < ms.length
    · obtain ⟨mo, hmo⟩ : ∃ mo, ms[k]? = some mo := ⟨_, List.getElem?_eq_getElem hlt⟩
      obtain ⟨b3, off3, rfl, hb3, hcap3, hcz⟩ := (SlR.later HM1.out hb).at hmo
      obtain ⟨b4, off4, rfl, hb4, hcap4, hcy⟩ := (SlR.later HM2.out hb).at hmo
      have hz0' := hcz 0 _ rfl
      have hz1' := hcz 1 _ rfl
      have hz2' := hcz 2 _ rfl
      have hz3' := hcz 3 _ rfl
      have hy0' := hcy 0 _ rfl
      have hy1' := hcy 1 _ rfl
      have hy2' := hcy 2 _ rfl
      have hy3' := hcy 3 _ rfl
      rw [Nat.add_zero] at hz0' hy0'
      have hkI : (k : Int) < (ms.length : Int) := by omega
      obtain ⟨m0, m1, m2, m3⟩ := mo
      dsimp only at hz0' hz1' hz2' hz3' hy0' hy1' hy2' hy3'
      clear hcz hmo hcy
      go_wp2_with fail
      go_quiet (fail)
      go_wp2_with fail
      go_roundw
      case rel => exact ⟨k + 1, by omega, by go_num, Bel.drewN hb _⟩
      case measure => simp [intOf]; omega
    · have hk' : k = ms.length := by omega
      subst hk'
      have HBf := Lib.hid (Bel.then HB.out hb)
      clear hb
      go_wp2_with fail
      go_ret
      exact ⟨rfl, HBf.out⟩
end Go.Proofs.YtamnligooelmgaaDoor
