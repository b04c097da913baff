/- schema.many. -/
import Derived.Test.YtamnligooelmgaaDoorSKit
set_option maxRecDepth 100000
set_option linter.unusedVariables false
set_option linter.unusedSimpArgs false
namespace Go.Proofs.YtamnligooelmgaaDoor
open Go.RowKit Go.BigFrame

def ManyF (f : Fd) : Prop := (f.k = 4 ∧ ¬ (1 ≤ (f.ms.length : Int) ∧ (f.ms.length : Int) ≤ 16)) ∨ (f.k ≠ 4 ∧ 0 < f.ms.length)
def ManyT (t : Ty) : Prop := ¬ (1 ≤ (t.fs.length : Int) ∧ (t.fs.length : Int) ≤ 8) ∨ ∃ f ∈ t.fs, ManyF f
def ManyP (D : Dc) : Prop := ¬ (1 ≤ (D.ts.length : Int) ∧ (D.ts.length : Int) ≤ 8) ∨ 8 < D.ps.length ∨ ∃ t ∈ D.ts, ManyT t
theorem take_snoc {α : Type} {l : List α} {k : Nat} {x : α} (h : l[k]? = some x) : l.take (k + 1) = l.take k ++ [x] := by
  obtain ⟨hlt, he⟩ := List.getElem?_eq_some_iff.1 h
  rw [List.take_succ_eq_append_getElem hlt, he]
theorem all_snoc {α : Type} {l : List α} {x : α} {P : α → Prop} (h : ∀ y ∈ l, P y) (hx : P x) : ∀ y ∈ l ++ [x], P y := by
  intro y hy
  rcases List.mem_append.1 hy with hy | hy
  · exact h y hy
  · have : y = x := by simpa using hy
    rw [this]; exact hx

set_option maxHeartbeats 8000000 in
theorem many_any (D : Dc) (w : World) (hD : D.In w w.heap.size) :
    Calls Tryd.prog 21 #[declV D] w fun e w' => BRet (ManyP D) w e w' := by
  obtain ⟨ts, ps, tv, pv⟩ := D
  obtain ⟨A, c, h1⟩ := hD.1.shapeL
  obtain ⟨A', c', h2⟩ := hD.2.2.shapeL
  dsimp only at h1 h2
  subst h1 h2
  obtain ⟨W, hW⟩ : ∃ W, W = w.alloc (.cells #[.slice A ts.length c, .slice A' ps.length c'] 25) := ⟨_, rfl⟩
  have hB : Below w.heap.size w W := by rw [hW]; exact Bel.grew (Below.refl _ _) _
  have hC := Has.new w #[.slice A ts.length c, .slice A' ps.length c'] 25
  rw [← hW] at hC
  have HD := Lib.hid (hD.later hB)
  have HB := Lib.hid hB
  have hc := hC.2
  have HW := Lib.hid hW
  clear hD hB hC hW
  by_cases h1 : 1 ≤ (ts.length : Int) ∧ (ts.length : Int) ≤ 8
  rotate_left
  · go_enter Tryd.func21, Tryd.ntmps21
    go_wp2_with fail
    rw [← HW.out]
    refine (within_no _ 1 8 _ h1).mono ?_
    rintro e w2 ⟨rfl, rfl⟩
    go_wp2_with fail
    go_ret
    exact BRet.yes HB.out (.inl h1)
  by_cases h2 : 8 < (ps.length : Int)
  · go_enter Tryd.func21, Tryd.ntmps21
    go_wp2_with fail
    rw [← HW.out]
    refine (within_yes _ 1 8 _ h1).mono ?_
    rintro e w2 ⟨rfl, rfl⟩
    go_wp2_with fail
    go_ret
    exact BRet.yes HB.out (.inr (.inl (by show 8 < ps.length; omega)))
  go_enter Tryd.func21, Tryd.ntmps21
  go_wp2_with fail
  rw [← HW.out]
  refine (within_yes _ 1 8 _ h1).mono ?_
  rintro e w2 ⟨rfl, rfl⟩
  have H1 := Lib.hid h1
  have h1l := h1.2
  clear HW h1
  go_wp2_with fail
  go_loopw [22] (fun i wr => ∃ k : Nat, k ≤ ts.length ∧ i = .int .i64 k ∧ Below W.heap.size W wr ∧ Hid (∀ t ∈ ts.take k, ¬ ManyT t)) (fun i _ => ts.length - (intOf i).toNat)
  case atStart => exact ⟨0, Nat.zero_le _, rfl, Below.refl _ _, Lib.hid (by simp)⟩
  case round =>
    obtain ⟨k, hk, rfl, hb, HS⟩ := hrel
    have HBw := Lib.hid hb
    clear hb
    by_cases hlt : k < ts.length
    · obtain ⟨t, ht⟩ : ∃ t, ts[k]? = some t := ⟨_, List.getElem?_eq_getElem hlt⟩
      have htm := List.mem_of_getElem? ht
      have HT := Lib.hid (take_snoc ht)
      obtain ⟨b, off, rfl, hbb, hcap, hcx⟩ := (HD.out.later HBw.out).1.at ht
      have hti := (HD.out.later HBw.out).2.1 t htm
      have HTM := Lib.hid htm
      obtain ⟨fs, fv⟩ := t
      obtain ⟨A2, c2, h2⟩ := hti.1.shapeL
      dsimp only at h2
      subst h2
      have hct := hcx 0 _ rfl
      rw [Nat.mul_one, Nat.add_zero] at hct
      have hkI : (k : Int) < (ts.length : Int) := by omega
      have HTI := Lib.hid hti
      dsimp only at hct
      clear hcx hti htm ht
      have hgr : Below wr.heap.size wr (wr.alloc (.cells #[.slice A2 fs.length c2] 45)) := Bel.grew (Below.refl _ _) _
      by_cases hf : 1 ≤ (fs.length : Int) ∧ (fs.length : Int) ≤ 8
      rotate_left
      · go_wp2_with fail
        refine (within_no _ 1 8 _ hf).mono ?_
        rintro e w2 ⟨rfl, rfl⟩
        go_wp2_with fail
        go_ret
        exact BRet.yes (Bel.then HB.out (Bel.then HBw.out hgr)) (.inr (.inr ⟨_, HTM.out, .inl hf⟩))
      · obtain ⟨W2, hW2⟩ : ∃ W2, W2 = wr.alloc (.cells #[.slice A2 fs.length c2] 45) := ⟨_, rfl⟩
        rw [← hW2] at hgr
        have HW2 := Lib.hid hW2
        have HBt := Lib.hid (Bel.then HBw.out hgr)
        have HTJ := Lib.hid (HTI.out.later hgr)
        clear hW2 hgr HTI
        go_wp2_with fail
        rw [← HW2.out]
        refine (within_yes _ 1 8 _ hf).mono ?_
        rintro e w2 ⟨rfl, rfl⟩
        have hc2 : W2.cell? ⟨wr.heap.size, 0, none⟩ = some (.slice A2 fs.length c2) := by rw [HW2.out]; simp [go_sem]
        clear HW2
        go_wp2_with fail
        go_loopw [34] (fun i wr => ∃ j : Nat, j ≤ fs.length ∧ i = .int .i64 j ∧ Below W2.heap.size W2 wr ∧ Hid (∀ f ∈ fs.take j, ¬ ManyF f)) (fun i _ => fs.length - (intOf i).toNat)
        case atStart => exact ⟨0, Nat.zero_le _, rfl, Below.refl _ _, Lib.hid (by simp)⟩
        case round =>
          obtain ⟨j, hj, rfl, hb3, HF⟩ := hrel
          have HB3 := Lib.hid hb3
          clear hb3
          by_cases hjl : j < fs.length
          · obtain ⟨f, hfj⟩ : ∃ f, fs[j]? = some f := ⟨_, List.getElem?_eq_getElem hjl⟩
            have hfm := List.mem_of_getElem? hfj
            have HFT := Lib.hid (take_snoc hfj)
            have HFM := Lib.hid hfm
            obtain ⟨b2, off2, rfl, hb2, hcap2, hcy⟩ := (HTJ.out.later HB3.out).1.at hfj
            have hfi := (HTJ.out.later HB3.out).2 f hfm
            obtain ⟨fk, fp, ffl, ms, mv⟩ := f
            obtain ⟨A3, c3, h3⟩ := SlR.shapeL hfi
            dsimp only at h3
            subst h3
            have hf0 := hcy 0 _ rfl
            have hf1 := hcy 1 _ rfl
            have hf2 := hcy 2 _ rfl
            have hf3 := hcy 3 _ rfl
            rw [Nat.add_zero] at hf0
            have hjI : (j : Int) < (fs.length : Int) := by omega
            dsimp only at hf0 hf1 hf2 hf3
            clear hcy hfi hfm hfj
            have hgr3 : Below wr.heap.size wr (wr.alloc (.cells #[.int .i64 fk, .int .i64 fp, .bool ffl, .slice A3 ms.length c3] 33)) := Bel.grew (Below.refl _ _) _
            have HWF := Lib.hid (Bel.then HB.out (Bel.then HBt.out (Bel.then HB3.out hgr3)))
            clear hgr3
            by_cases h4 : fk = 4
            · have h4b : (fk == 4) = true := by simp [h4]
              have H4 := Lib.hid h4
              clear h4
              by_cases hm : 1 ≤ (ms.length : Int) ∧ (ms.length : Int) ≤ 16
              · go_wp2_with fail
                refine (within_yes _ 1 16 _ hm).mono ?_
                rintro e w3 ⟨rfl, rfl⟩
                go_wp2_with fail
                go_roundw
                case rel =>
                  refine ⟨j + 1, by omega, by go_num, Bel.grew HB3.out _, ?_⟩
                  rw [HFT.out]
                  refine Lib.hid (all_snoc HF.out ?_)
                  rintro (⟨_, h⟩ | ⟨h, _⟩)
                  · exact h hm
                  · exact h H4.out
                case measure => simp [intOf]; omega
              · go_wp2_with fail
                refine (within_no _ 1 16 _ hm).mono ?_
                rintro e w3 ⟨rfl, rfl⟩
                go_wp2_with fail
                go_ret
                exact BRet.yes HWF.out (.inr (.inr ⟨_, HTM.out, .inr ⟨_, HFM.out, .inl ⟨H4.out, hm⟩⟩⟩))
            · have h4b : (fk == 4) = false := by simp [h4]
              have H4 := Lib.hid h4
              clear h4
              by_cases hm : 0 < (ms.length : Int)
              · go_wp2_with fail
                go_ret
                exact BRet.yes HWF.out (.inr (.inr ⟨_, HTM.out, .inr ⟨_, HFM.out, .inr ⟨H4.out, by show 0 < ms.length; omega⟩⟩⟩))
              · go_wp2_with fail
                go_roundw
                case rel =>
                  refine ⟨j + 1, by omega, by go_num, Bel.grew HB3.out _, ?_⟩
                  rw [HFT.out]
                  refine Lib.hid (all_snoc HF.out ?_)
                  rintro (⟨h, _⟩ | ⟨_, h⟩)
                  · exact H4.out h
                  · dsimp only at h; omega
                case measure => simp [intOf]; omega
          · have hj4 : j = fs.length := by omega
            subst hj4
            rw [List.take_length] at HF
            go_wp2_with fail
            go_roundw
            case rel =>
              refine ⟨k + 1, by omega, by go_num, Bel.then HBt.out HB3.out, ?_⟩
              rw [HT.out]
              refine Lib.hid (all_snoc HS.out ?_)
              rintro (h | ⟨f, hf, h⟩)
              · exact h (by dsimp only; omega)
              · exact HF.out f hf h
            case measure => simp [intOf]; omega
    · have hk4 : k = ts.length := by omega
      subst hk4
      rw [List.take_length] at HS
      go_wp2_with fail
      go_ret
      refine BRet.no (Bel.then HB.out HBw.out) ?_
      rintro (h | h | ⟨t, ht, h⟩)
      · exact h H1.out
      · dsimp only at h; omega
      · exact HS.out t ht h
end Go.Proofs.YtamnligooelmgaaDoor
