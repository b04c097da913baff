/- Is a list longer than so many? -/
import Derived.Test.YtjcocahhpjgbhaaMzDeclP
set_option maxRecDepth 100000
set_option maxRecDepth 100000
set_option maxRecDepth 100000
set_option linter.unusedVariables false
set_option linter.unusedSimpArgs false
namespace Go.Proofs.Ytjcocahhpjgbhaa
open Go.RowKit Go.BigFrame

def bigF (m : Nat) (f : PF) : Bool := decide (m < f.ms.length)
def bigT (f m : Nat) (t : List PF) : Bool := decide (f < t.length) || t.any (bigF m)
def bigD (t p f m : Nat) (D : PD) : Bool := decide (t < D.ts.length) || decide (p < D.ps.length) || D.ts.any (bigT f m)
theorem many_big (D : PD) : manyDc D = bigD 8 8 8 16 D := rfl
def BigRet (t p f m : Nat) (D : Dc) (w : World) (e : Ending) (w' : World) : Prop := e = .returned (.bool (bigD t p f m D.pl)) ∧ Below w.heap.size w w'
theorem BigRet.yes {t p f m : Nat} {D : Dc} {w w' : World} (h : Below w.heap.size w w') (hs : bigD t p f m D.pl = true) : BigRet t p f m D w (.returned (.bool true)) w' := ⟨by rw [hs], h⟩
theorem BigRet.no {t p f m : Nat} {D : Dc} {w w' : World} (h : Below w.heap.size w w') (hs : bigD t p f m D.pl = false) : BigRet t p f m D w (.returned (.bool false)) w' := ⟨by rw [hs], h⟩
def SmF (m : Nat) (f : Fd) : Prop := f.ms.length ≤ m
def SmT (f m : Nat) (t : Ty) : Prop := t.fs.length ≤ f ∧ ∀ g ∈ t.fs, SmF m g
theorem big_t {t p f m : Nat} {D : Dc} (h : t < D.ts.length) : bigD t p f m D.pl = true := by
  unfold bigD Dc.pl
  simp [h]
theorem big_p {t p f m : Nat} {D : Dc} (h : p < D.ps.length) : bigD t p f m D.pl = true := by
  unfold bigD Dc.pl
  simp [h]
theorem big_f {t p f m : Nat} {D : Dc} {x : Ty} (hx : x ∈ D.ts) (h : f < x.fs.length) : bigD t p f m D.pl = true := by
  unfold bigD Dc.pl
  rw [Bool.or_eq_true]
  right
  rw [List.any_eq_true]
  exact ⟨x.pl, List.mem_map_of_mem hx, by unfold bigT Ty.pl; simp [h]⟩
theorem big_m {t p f m : Nat} {D : Dc} {x : Ty} {y : Fd} (hx : x ∈ D.ts) (hy : y ∈ x.fs) (h : m < y.ms.length) : bigD t p f m D.pl = true := by
  unfold bigD Dc.pl
  rw [Bool.or_eq_true]
  right
  rw [List.any_eq_true]
  refine ⟨x.pl, List.mem_map_of_mem hx, ?_⟩
  unfold bigT
  rw [Bool.or_eq_true]
  right
  rw [List.any_eq_true]
  refine ⟨y.pl, by unfold Ty.pl; exact List.mem_map_of_mem hy, ?_⟩
  unfold bigF Fd.pl
  exact decide_eq_true h
theorem big_no {t p f m : Nat} {D : Dc} (h1 : D.ts.length ≤ t) (h2 : D.ps.length ≤ p) (h3 : ∀ x ∈ D.ts, SmT f m x) : bigD t p f m D.pl = false := by
  unfold bigD Dc.pl
  simp only [Bool.or_eq_false_iff, decide_eq_false_iff_not, List.any_eq_false, List.length_map]
  refine ⟨⟨by omega, by omega⟩, fun x hx => ?_⟩
  obtain ⟨y, hy, rfl⟩ := List.mem_map.1 hx
  unfold bigT
  rw [Bool.not_eq_true]
  simp only [Bool.or_eq_false_iff, decide_eq_false_iff_not, List.any_eq_false]
  refine ⟨by unfold Ty.pl; rw [List.length_map]; have := (h3 y hy).1; omega, fun z hz => ?_⟩
  unfold Ty.pl at hz
  obtain ⟨g, hg, rfl⟩ := List.mem_map.1 hz
  have := (h3 y hy).2 g hg
  unfold SmF at this
  unfold bigF Fd.pl
  rw [decide_eq_true_iff]
  dsimp only
  omega
set_option maxHeartbeats 8000000 in
theorem long07_any (D : Dc) (w : World) (hD : D.In w w.heap.size) :
    Calls Try.prog 7 #[declV D] w fun e w' => BigRet 20 20 20 40 D w e w' := by
  obtain ⟨ts, ps, tv, pv⟩ := D
  obtain ⟨A, c, h1⟩ := hD.1.shapeL
  obtain ⟨A', c', h2⟩ := hD.2.2.shapeL
  dsimp only at h1 h2
  subst h1 h2
  have hB : Below w.heap.size w (w.alloc (.cells #[.slice A ts.length c, .slice A' ps.length c'] 25)) := Bel.grew (Below.refl _ _) _
  by_cases hbig : 20 < (ts.length : Int) ∨ ((ts.length : Int) ≤ 20 ∧ 20 < (ps.length : Int))
  · have HB := Lib.hid hB
    have HBIG : Hid (bigD 20 20 20 40 (Dc.pl ⟨ts, ps, .slice A ts.length c, .slice A' ps.length c'⟩) = true) := Lib.hid (by
      rcases hbig with h | ⟨_, h⟩
      · exact big_t (by show 20 < ts.length; omega)
      · exact big_p (by show 20 < ps.length; omega))
    clear hB hD
    rcases hbig with h | ⟨h, h'⟩
    all_goals
      go_enter Try.func7, Try.ntmps7
      go_wp2_with fail
      go_ret
      exact BigRet.yes HB.out HBIG.out
  · have hl1 : (ts.length : Int) ≤ 20 := by omega
    have hl2 : (ps.length : Int) ≤ 20 := by omega
    obtain ⟨W, hW⟩ : ∃ W, W = w.alloc (.cells #[.slice A ts.length c, .slice A' ps.length c'] 25) := ⟨_, rfl⟩
    have hC := Has.new w #[.slice A ts.length c, .slice A' ps.length c'] 25
    rw [← hW] at hC hB
    have HD := Lib.hid (hD.later hB)
    have HB := Lib.hid hB
    have hc := hC.2
    have HW := Lib.hid hW
    clear hD hB hC hW hbig
    go_enter Try.func7, Try.ntmps7
    go_wp2_with fail
    rw [← HW.out]
    clear HW
    go_loopw [3] (fun i wr => ∃ k : Nat, k ≤ ts.length ∧ i = .int .i64 k ∧ wr = W ∧ Hid (∀ t ∈ ts.take k, SmT 20 40 t)) (fun i _ => ts.length - (intOf i).toNat)
    case atStart => exact ⟨0, Nat.zero_le _, rfl, rfl, Lib.hid (by simp)⟩
    case round =>
      obtain ⟨k, hk, rfl, rfl, HS⟩ := hrel
      by_cases hlt : k < ts.length
      · obtain ⟨t, ht⟩ : ∃ t, ts[k]? = some t := ⟨_, List.getElem?_eq_getElem hlt⟩
        have htm := List.mem_of_getElem? ht
        have HTM := Lib.hid htm
        have HT : Hid (ts.take (k + 1) = ts.take k ++ [t]) := by
          rw [List.take_succ_eq_append_getElem hlt]
          rw [List.getElem?_eq_getElem hlt] at ht
          injection ht with ht
          rw [ht]; exact Lib.hid rfl
        obtain ⟨b, off, rfl, hb, hcap, hcx⟩ := HD.out.1.at ht
        have hti := HD.out.2.1 t htm
        obtain ⟨fs, fv⟩ := t
        obtain ⟨A2, c2, h2⟩ := hti.1.shapeL
        dsimp only at h2
        subst h2
        have hct := hcx 0 _ rfl
        rw [Nat.mul_one, Nat.add_zero] at hct
        have hkI : (k : Int) < (ts.length : Int) := by omega
        have HTI := Lib.hid hti
        dsimp only at hct
        clear hcx hti htm ht
        by_cases hf : 20 < (fs.length : Int)
        · have HBIG : Hid (∀ tv pv, bigD 20 20 20 40 (Dc.pl ⟨ts, ps, tv, pv⟩) = true) := Lib.hid (fun tv pv => big_f HTM.out (by show 20 < fs.length; omega))
          go_wp2_with fail
          go_ret
          exact BigRet.yes HB.out (HBIG.out _ _)
        · have hf' : (fs.length : Int) ≤ 20 := by omega
          obtain ⟨W0, rfl⟩ : ∃ W, W = wr := ⟨_, rfl⟩
          go_wp2_with fail
          go_goals
          go_loopw [4] (fun i wr => ∃ j : Nat, j ≤ fs.length ∧ i = .int .i64 j ∧ wr = W0 ∧ Hid (∀ f ∈ fs.take j, SmF 40 f)) (fun i _ => fs.length - (intOf i).toNat)
          case atStart => exact ⟨0, Nat.zero_le _, rfl, rfl, Lib.hid (by simp)⟩
          case round =>
            obtain ⟨j, hj, rfl, rfl, HF⟩ := hrel
            by_cases hjl : j < fs.length
            · obtain ⟨f, hfj⟩ : ∃ f, fs[j]? = some f := ⟨_, List.getElem?_eq_getElem hjl⟩
              have hfm := List.mem_of_getElem? hfj
              have HFM := Lib.hid hfm
              have HFT : Hid (fs.take (j + 1) = fs.take j ++ [f]) := by
                rw [List.take_succ_eq_append_getElem hjl]
                rw [List.getElem?_eq_getElem hjl] at hfj
                injection hfj with hfj
                rw [hfj]; exact Lib.hid rfl
              obtain ⟨b2, off2, rfl, hb2, hcap2, hcy⟩ := HTI.out.1.at hfj
              have hfi := HTI.out.2 f hfm
              obtain ⟨fk, fp, ffl, ms, mv⟩ := f
              obtain ⟨A3, c3, h3⟩ := SlR.shapeL hfi
              dsimp only at h3
              subst h3
              have hcf := hcy 3 _ rfl
              have hjI : (j : Int) < (fs.length : Int) := by omega
              dsimp only at hcf
              clear hcy hfi hfm hfj
              by_cases hm : 40 < (ms.length : Int)
              · have HBIG : Hid (∀ tv pv, bigD 20 20 20 40 (Dc.pl ⟨ts, ps, tv, pv⟩) = true) := Lib.hid (fun tv pv => big_m HTM.out HFM.out (by show 40 < ms.length; omega))
                go_wp2_with fail
                go_ret
                exact BigRet.yes HB.out (HBIG.out _ _)
              · have hm' : (ms.length : Int) ≤ 40 := by omega
                go_wp2_with fail
                go_roundw
                case rel =>
                  refine ⟨j + 1, by omega, by go_num, trivial, ?_⟩
                  rw [HFT.out]
                  refine Lib.hid fun g hg => ?_
                  rcases List.mem_append.1 hg with hg | hg
                  · exact HF.out g hg
                  · have : g = _ := List.mem_singleton.1 hg
                    subst this
                    show ms.length ≤ 40
                    omega
                case measure => simp [intOf]; omega
            · have hj4 : j = fs.length := by omega
              subst hj4
              rw [List.take_length] at HF
              go_wp2_with fail
              go_roundw
              case rel =>
                refine ⟨k + 1, by omega, by go_num, trivial, ?_⟩
                rw [HT.out]
                refine Lib.hid fun g hg => ?_
                rcases List.mem_append.1 hg with hg | hg
                · exact HS.out g hg
                · have : g = _ := List.mem_singleton.1 hg
                  subst this
                  exact ⟨by show fs.length ≤ 20; omega, HF.out⟩
              case measure => simp [intOf]; omega
      · have hk4 : k = ts.length := by omega
        subst hk4
        rw [List.take_length] at HS
        go_wp2_with fail
        go_ret
        exact BigRet.no HB.out (big_no (by show ts.length ≤ 20; omega) (by show ps.length ≤ 20; omega) HS.out)
set_option maxHeartbeats 8000000 in
theorem rmany07_any (D : Dc) (w : World) (hD : D.In w w.heap.size) :
    Calls Try.prog 22 #[declV D] w fun e w' => BigRet 8 8 8 16 D w e w' := by
  obtain ⟨ts, ps, tv, pv⟩ := D
  obtain ⟨A, c, h1⟩ := hD.1.shapeL
  obtain ⟨A', c', h2⟩ := hD.2.2.shapeL
  dsimp only at h1 h2
  subst h1 h2
  have hB : Below w.heap.size w (w.alloc (.cells #[.slice A ts.length c, .slice A' ps.length c'] 25)) := Bel.grew (Below.refl _ _) _
  by_cases hbig : 8 < (ts.length : Int) ∨ ((ts.length : Int) ≤ 8 ∧ 8 < (ps.length : Int))
  · have HB := Lib.hid hB
    have HBIG : Hid (bigD 8 8 8 16 (Dc.pl ⟨ts, ps, .slice A ts.length c, .slice A' ps.length c'⟩) = true) := Lib.hid (by
      rcases hbig with h | ⟨_, h⟩
      · exact big_t (by show 8 < ts.length; omega)
      · exact big_p (by show 8 < ps.length; omega))
    clear hB hD
    rcases hbig with h | ⟨h, h'⟩
    all_goals
      go_enter Try.func22, Try.ntmps22
      go_wp2_with fail
      go_ret
      exact BigRet.yes HB.out HBIG.out
  · have hl1 : (ts.length : Int) ≤ 8 := by omega
    have hl2 : (ps.length : Int) ≤ 8 := by omega
    obtain ⟨W, hW⟩ : ∃ W, W = w.alloc (.cells #[.slice A ts.length c, .slice A' ps.length c'] 25) := ⟨_, rfl⟩
    have hC := Has.new w #[.slice A ts.length c, .slice A' ps.length c'] 25
    rw [← hW] at hC hB
    have HD := Lib.hid (hD.later hB)
    have HB := Lib.hid hB
    have hc := hC.2
    have HW := Lib.hid hW
    clear hD hB hC hW hbig
    go_enter Try.func22, Try.ntmps22
    go_wp2_with fail
    rw [← HW.out]
    clear HW
    go_loopw [3] (fun i wr => ∃ k : Nat, k ≤ ts.length ∧ i = .int .i64 k ∧ wr = W ∧ Hid (∀ t ∈ ts.take k, SmT 8 16 t)) (fun i _ => ts.length - (intOf i).toNat)
    case atStart => exact ⟨0, Nat.zero_le _, rfl, rfl, Lib.hid (by simp)⟩
    case round =>
      obtain ⟨k, hk, rfl, rfl, HS⟩ := hrel
      by_cases hlt : k < ts.length
      · obtain ⟨t, ht⟩ : ∃ t, ts[k]? = some t := ⟨_, List.getElem?_eq_getElem hlt⟩
        have htm := List.mem_of_getElem? ht
        have HTM := Lib.hid htm
        have HT : Hid (ts.take (k + 1) = ts.take k ++ [t]) := by
          rw [List.take_succ_eq_append_getElem hlt]
          rw [List.getElem?_eq_getElem hlt] at ht
          injection ht with ht
          rw [ht]; exact Lib.hid rfl
        obtain ⟨b, off, rfl, hb, hcap, hcx⟩ := HD.out.1.at ht
        have hti := HD.out.2.1 t htm
        obtain ⟨fs, fv⟩ := t
        obtain ⟨A2, c2, h2⟩ := hti.1.shapeL
        dsimp only at h2
        subst h2
        have hct := hcx 0 _ rfl
        rw [Nat.mul_one, Nat.add_zero] at hct
        have hkI : (k : Int) < (ts.length : Int) := by omega
        have HTI := Lib.hid hti
        dsimp only at hct
        clear hcx hti htm ht
        by_cases hf : 8 < (fs.length : Int)
        · have HBIG : Hid (∀ tv pv, bigD 8 8 8 16 (Dc.pl ⟨ts, ps, tv, pv⟩) = true) := Lib.hid (fun tv pv => big_f HTM.out (by show 8 < fs.length; omega))
          go_wp2_with fail
          go_ret
          exact BigRet.yes HB.out (HBIG.out _ _)
        · have hf' : (fs.length : Int) ≤ 8 := by omega
          obtain ⟨W0, rfl⟩ : ∃ W, W = wr := ⟨_, rfl⟩
          go_wp2_with fail
          go_goals
          go_loopw [4] (fun i wr => ∃ j : Nat, j ≤ fs.length ∧ i = .int .i64 j ∧ wr = W0 ∧ Hid (∀ f ∈ fs.take j, SmF 16 f)) (fun i _ => fs.length - (intOf i).toNat)
          case atStart => exact ⟨0, Nat.zero_le _, rfl, rfl, Lib.hid (by simp)⟩
          case round =>
            obtain ⟨j, hj, rfl, rfl, HF⟩ := hrel
            by_cases hjl : j < fs.length
            · obtain ⟨f, hfj⟩ : ∃ f, fs[j]? = some f := ⟨_, List.getElem?_eq_getElem hjl⟩
              have hfm := List.mem_of_getElem? hfj
              have HFM := Lib.hid hfm
              have HFT : Hid (fs.take (j + 1) = fs.take j ++ [f]) := by
                rw [List.take_succ_eq_append_getElem hjl]
                rw [List.getElem?_eq_getElem hjl] at hfj
                injection hfj with hfj
                rw [hfj]; exact Lib.hid rfl
              obtain ⟨b2, off2, rfl, hb2, hcap2, hcy⟩ := HTI.out.1.at hfj
              have hfi := HTI.out.2 f hfm
              obtain ⟨fk, fp, ffl, ms, mv⟩ := f
              obtain ⟨A3, c3, h3⟩ := SlR.shapeL hfi
              dsimp only at h3
              subst h3
              have hcf := hcy 3 _ rfl
              have hjI : (j : Int) < (fs.length : Int) := by omega
              dsimp only at hcf
              clear hcy hfi hfm hfj
              by_cases hm : 16 < (ms.length : Int)
              · have HBIG : Hid (∀ tv pv, bigD 8 8 8 16 (Dc.pl ⟨ts, ps, tv, pv⟩) = true) := Lib.hid (fun tv pv => big_m HTM.out HFM.out (by show 16 < ms.length; omega))
                go_wp2_with fail
                go_ret
                exact BigRet.yes HB.out (HBIG.out _ _)
              · have hm' : (ms.length : Int) ≤ 16 := by omega
                go_wp2_with fail
                go_roundw
                case rel =>
                  refine ⟨j + 1, by omega, by go_num, trivial, ?_⟩
                  rw [HFT.out]
                  refine Lib.hid fun g hg => ?_
                  rcases List.mem_append.1 hg with hg | hg
                  · exact HF.out g hg
                  · have : g = _ := List.mem_singleton.1 hg
                    subst this
                    show ms.length ≤ 16
                    omega
                case measure => simp [intOf]; omega
            · have hj4 : j = fs.length := by omega
              subst hj4
              rw [List.take_length] at HF
              go_wp2_with fail
              go_roundw
              case rel =>
                refine ⟨k + 1, by omega, by go_num, trivial, ?_⟩
                rw [HT.out]
                refine Lib.hid fun g hg => ?_
                rcases List.mem_append.1 hg with hg | hg
                · exact HS.out g hg
                · have : g = _ := List.mem_singleton.1 hg
                  subst this
                  exact ⟨by show fs.length ≤ 8; omega, HF.out⟩
              case measure => simp [intOf]; omega
      · have hk4 : k = ts.length := by omega
        subst hk4
        rw [List.take_length] at HS
        go_wp2_with fail
        go_ret
        exact BigRet.no HB.out (big_no (by show ts.length ≤ 8; omega) (by show ps.length ≤ 8; omega) HS.out)
end Go.Proofs.Ytjcocahhpjgbhaa
