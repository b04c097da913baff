/- Long: declarations that a statement goes through are short. -/
import Derived.Test.YtamnligooelmgaaDoorDecl
set_option maxRecDepth 100000
set_option linter.unusedVariables false
set_option linter.unusedSimpArgs false
namespace Go.Proofs.YtamnligooelmgaaDoor
open Go.RowKit Go.BigFrame

def ShortT (t : Ty) : Prop := t.fs.length ≤ 20 ∧ ∀ f ∈ t.fs, f.ms.length ≤ 40
def ShortD (D : Dc) (m : Nat) : Prop := D.ts.length ≤ 20 ∧ D.ps.length ≤ m ∧ ∀ t ∈ D.ts, ShortT t
/-- Too long, or short. -/
def LongRet (D : Dc) (m : Nat) (w : World) (e : Ending) (w' : World) : Prop := ∃ b : Bool, e = .returned (.bool b) ∧ (b = false → ShortD D m) ∧ Below w.heap.size w w'
theorem LongRet.yes {D : Dc} {m : Nat} {w w' : World} (h : Below w.heap.size w w') : LongRet D m w (.returned (.bool true)) w' := ⟨true, rfl, (fun h => by cases h), h⟩
theorem LongRet.no {D : Dc} {m : Nat} {w w' : World} (h : Below w.heap.size w w') (hs : ShortD D m) : LongRet D m w (.returned (.bool false)) w' := ⟨false, rfl, fun _ => hs, h⟩

set_option maxHeartbeats 8000000 in
theorem long06_any (D : Dc) (w : World) (hD : D.In w w.heap.size) :
    Calls Tryd.prog 7 #[declV D] w fun e w' => LongRet D 40 w e w' := by
  obtain ⟨ts, ps, tv, pv⟩ := D
  obtain ⟨A, c, h1⟩ := hD.1.shapeL
  obtain ⟨A', c', h2⟩ := hD.2.2.shapeL
  dsimp only at h1 h2
  subst h1 h2
  have hB : Below w.heap.size w (w.alloc (.cells #[.slice A ts.length c, .slice A' ps.length c'] 25)) := Bel.grew (Below.refl _ _) _
  by_cases hbig : 20 < (ts.length : Int) ∨ ((ts.length : Int) ≤ 20 ∧ 40 < (ps.length : Int))
  · have HB := Lib.hid hB
    clear hB hD
    rcases hbig with h | ⟨h, h'⟩
    all_goals
      go_enter Tryd.func7, Tryd.ntmps7
      go_wp2_with fail
      go_ret
      exact LongRet.yes HB.out
  · have hl1 : (ts.length : Int) ≤ 20 := by omega
    have hl2 : (ps.length : Int) ≤ 40 := by omega
    obtain ⟨W, hW⟩ : ∃ W, W = w.alloc (.cells #[.slice A ts.length c, .slice A' ps.length c'] 25) := ⟨_, rfl⟩
    have hC := Has.new w #[.slice A ts.length c, .slice A' ps.length c'] 25
    rw [← hW] at hC hB
    have HD := Lib.hid (hD.later hB)
    have HB := Lib.hid hB
    have hc := hC.2
    have HW := Lib.hid hW
    clear hD hB hC hW hbig
    go_enter Tryd.func7, Tryd.ntmps7
    go_wp2_with fail
    rw [← HW.out]
    clear HW
    go_loopw [3] (fun i wr => ∃ k : Nat, k ≤ ts.length ∧ i = .int .i64 k ∧ wr = W ∧ Hid (∀ t ∈ ts.take k, ShortT t)) (fun i _ => ts.length - (intOf i).toNat)
    case atStart => exact ⟨0, Nat.zero_le _, rfl, rfl, Lib.hid (by simp)⟩
    case round =>
      obtain ⟨k, hk, rfl, rfl, HS⟩ := hrel
      by_cases hlt : k < ts.length
      · obtain ⟨t, ht⟩ : ∃ t, ts[k]? = some t := ⟨_, List.getElem?_eq_getElem hlt⟩
        have htm := List.mem_of_getElem? ht
        have HT : Hid (ts.take (k + 1) = ts.take k ++ [t]) := by
          rw [List.take_succ_eq_append_getElem hlt]
          rw [List.getElem?_eq_getElem hlt] at ht
          injection ht with ht
          rw [ht]; exact Lib.hid rfl
        obtain ⟨b, off, rfl, hb, hcap, hcx⟩ := HD.out.1.at ht
        have hti := HD.out.2.1 t htm
        obtain ⟨fs, fv⟩ := t
        obtain ⟨A2, c2, h2⟩ := hti.1.shapeL
        dsimp only at h2
        subst h2
        have hct := hcx 0 _ rfl
        rw [Nat.mul_one, Nat.add_zero] at hct
        have hkI : (k : Int) < (ts.length : Int) := by omega
        have HTI := Lib.hid hti
        dsimp only at hct
        clear hcx hti htm ht
        by_cases hf : 20 < (fs.length : Int)
        · go_wp2_with fail
          go_ret
          exact LongRet.yes HB.out
        · have hf' : (fs.length : Int) ≤ 20 := by omega
          obtain ⟨W0, rfl⟩ : ∃ W, W = wr := ⟨_, rfl⟩
          go_wp2_with fail
          go_goals
          go_loopw [4] (fun i wr => ∃ j : Nat, j ≤ fs.length ∧ i = .int .i64 j ∧ wr = W0 ∧ Hid (∀ f ∈ fs.take j, f.ms.length ≤ 40)) (fun i _ => fs.length - (intOf i).toNat)
          case atStart => exact ⟨0, Nat.zero_le _, rfl, rfl, Lib.hid (by simp)⟩
          case round =>
            obtain ⟨j, hj, rfl, rfl, HF⟩ := hrel
            by_cases hjl : j < fs.length
            · obtain ⟨f, hfj⟩ : ∃ f, fs[j]? = some f := ⟨_, List.getElem?_eq_getElem hjl⟩
              have hfm := List.mem_of_getElem? hfj
              have HFT : Hid (fs.take (j + 1) = fs.take j ++ [f]) := by
                rw [List.take_succ_eq_append_getElem hjl]
                rw [List.getElem?_eq_getElem hjl] at hfj
                injection hfj with hfj
                rw [hfj]; exact Lib.hid rfl
              obtain ⟨b2, off2, rfl, hb2, hcap2, hcy⟩ := HTI.out.1.at hfj
              have hfi := HTI.out.2 f hfm
              obtain ⟨fk, fp, ffl, ms, mv⟩ := f
              obtain ⟨A3, c3, h3⟩ := SlR.shapeL hfi
              dsimp only at h3
              subst h3
              have hcf := hcy 3 _ rfl
              have hjI : (j : Int) < (fs.length : Int) := by omega
              dsimp only at hcf
              clear hcy hfi hfm hfj
              by_cases hm : 40 < (ms.length : Int)
              · go_wp2_with fail
                go_ret
                exact LongRet.yes HB.out
              · have hm' : (ms.length : Int) ≤ 40 := by omega
                go_wp2_with fail
                go_roundw
                case rel =>
                  refine ⟨j + 1, by omega, by go_num, trivial, ?_⟩
                  rw [HFT.out]
                  refine Lib.hid fun g hg => ?_
                  rcases List.mem_append.1 hg with hg | hg
                  · exact HF.out g hg
                  · have : g = _ := List.mem_singleton.1 hg
                    subst this
                    show ms.length ≤ 40
                    omega
                case measure => simp [intOf]; omega
            · have hj4 : j = fs.length := by omega
              subst hj4
              rw [List.take_length] at HF
              go_wp2_with fail
              go_roundw
              case rel =>
                refine ⟨k + 1, by omega, by go_num, trivial, ?_⟩
                rw [HT.out]
                refine Lib.hid fun g hg => ?_
                rcases List.mem_append.1 hg with hg | hg
                · exact HS.out g hg
                · have : g = _ := List.mem_singleton.1 hg
                  subst this
                  exact ⟨by show fs.length ≤ 20; omega, HF.out⟩
              case measure => simp [intOf]; omega
      · have hk4 : k = ts.length := by omega
        subst hk4
        rw [List.take_length] at HS
        go_wp2_with fail
        go_ret
        exact LongRet.no HB.out ⟨by show ts.length ≤ 20; omega, by show ps.length ≤ 40; omega, HS.out⟩
end Go.Proofs.YtamnligooelmgaaDoor
