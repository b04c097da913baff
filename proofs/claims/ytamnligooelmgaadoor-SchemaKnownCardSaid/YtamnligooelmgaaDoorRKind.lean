/- quaysideref06.kind, quaysideref06.many. -/
import Derived.Test.YtamnligooelmgaaDoorPl
set_option maxRecDepth 100000
set_option maxRecDepth 100000
set_option linter.unusedVariables false
set_option linter.unusedSimpArgs false
namespace Go.Proofs.YtamnligooelmgaaDoor
open Go.RowKit Go.BigFrame

set_option maxHeartbeats 4000000 in
theorem rkind_any (t : Ty) (i : Int) (w : World) (ht : t.In w w.heap.size) (hl : t.fs.length ≤ 1099511627776) :
    Calls Tryd.prog 28 #[tyV t, .int .i64 i] w fun e w' => e = .returned (.int .i64 ((kindP t.pl i).getD 0)) ∧ Below w.heap.size w w' := by
  obtain ⟨fs, tv⟩ := t
  obtain ⟨A, c, h1⟩ := ht.1.shapeL
  dsimp only at h1 hl
  subst h1
  have hB : ∀ o, Below w.heap.size w (w.alloc o) := fun o => Bel.grew (Below.refl _ _) _
  rcases (show i < 0 ∨ (0 ≤ i ∧ (fs.length : Int) ≤ i) ∨ (0 ≤ i ∧ i < (fs.length : Int)) from by omega) with h | ⟨h, h'⟩ | ⟨h, h'⟩
  · have hv : (kindP (Ty.pl ⟨fs, .slice A fs.length c⟩) i).getD 0 = 0 := by unfold kindP; rw [if_neg (by omega)]; rfl
    rw [hv]
    clear hv ht
    go_enter Tryd.func28, Tryd.ntmps28
    go_wp2_with fail
    go_ret
    exact ⟨rfl, hB _⟩
  · have hv : (kindP (Ty.pl ⟨fs, .slice A fs.length c⟩) i).getD 0 = 0 := by
      unfold kindP Ty.pl
      rw [if_pos h, List.getElem?_eq_none (by rw [List.length_map]; show fs.length ≤ _; omega)]; rfl
    rw [hv]
    clear hv ht
    go_enter Tryd.func28, Tryd.ntmps28
    go_wp2_with fail
    go_ret
    exact ⟨rfl, hB _⟩
  · obtain ⟨n, rfl⟩ := Int.eq_ofNat_of_zero_le h
    have hn : n < fs.length := by omega
    obtain ⟨f, hf⟩ : ∃ f, fs[n]? = some f := ⟨_, List.getElem?_eq_getElem hn⟩
    have hv : (kindP (Ty.pl ⟨fs, .slice A fs.length c⟩) n).getD 0 = f.k := by
      unfold kindP Ty.pl
      rw [if_pos h, Int.toNat_natCast, List.getElem?_map, hf]; rfl
    rw [hv]
    obtain ⟨b, off, rfl, hb, hcap, hcx⟩ := ht.1.at hf
    have h0 := hcx 0 _ rfl
    rw [Nat.add_zero] at h0
    clear hv ht hcx hf
    go_enter Tryd.func28, Tryd.ntmps28
    go_wp2_with fail
    go_ret
    exact ⟨rfl, hB _⟩
/-- Whether a field's moves are too many, or too few: the ways. -/
def ManyWay (fk : Int) (n : Nat) (b : Bool) : Prop := ((fk == 4) = true ∧ (fk != 4) = false ∧ (((n : Int) == 0) = true ∧ b = true ∨ ((n : Int) == 0) = false ∧ 16 < (n : Int) ∧ b = true ∨ ((n : Int) == 0) = false ∧ (n : Int) ≤ 16 ∧ b = false)) ∨ ((fk == 4) = false ∧ (fk != 4) = true ∧ (((n : Int) != 0) = true ∧ b = true ∨ ((n : Int) != 0) = false ∧ b = false))
theorem manyWay (f : Fd) : ∃ b, ManyWay f.k f.ms.length b ∧ (b = true ↔ ManyF f) := by
  unfold ManyWay ManyF
  by_cases hk : f.k = 4
  · by_cases h0 : f.ms.length = 0
    · exact ⟨true, .inl ⟨by simp [hk], by simp [hk], .inl ⟨by simp [h0], rfl⟩⟩, ⟨fun _ => .inl ⟨hk, by omega⟩, fun _ => rfl⟩⟩
    · by_cases h16 : f.ms.length ≤ 16
      · exact ⟨false, .inl ⟨by simp [hk], by simp [hk], .inr (.inr ⟨beq_eq_false_iff_ne.2 (by omega), by omega, rfl⟩)⟩, ⟨(fun h => by cases h), fun h => by omega⟩⟩
      · exact ⟨true, .inl ⟨by simp [hk], by simp [hk], .inr (.inl ⟨beq_eq_false_iff_ne.2 (by omega), by omega, rfl⟩)⟩, ⟨fun _ => .inl ⟨hk, by omega⟩, fun _ => rfl⟩⟩
  · by_cases h0 : f.ms.length = 0
    · exact ⟨false, .inr ⟨by simp [hk], by simp [hk], .inr ⟨by simp [h0], rfl⟩⟩, ⟨(fun h => by cases h), fun h => by omega⟩⟩
    · exact ⟨true, .inr ⟨by simp [hk], by simp [hk], .inl ⟨bne_iff_ne.2 (by omega), rfl⟩⟩, ⟨fun _ => .inr ⟨hk, by omega⟩, fun _ => rfl⟩⟩
set_option maxHeartbeats 16000000 in
theorem rmany_any (D : Dc) (w : World) (hD : D.In w w.heap.size) :
    Calls Tryd.prog 26 #[declV D] w fun e w' => BRet (ManyP D) w e w' := by
  obtain ⟨ts, ps, tv, pv⟩ := D
  obtain ⟨A, c, h1⟩ := hD.1.shapeL
  obtain ⟨A', c', h2⟩ := hD.2.2.shapeL
  dsimp only at h1 h2
  subst h1 h2
  obtain ⟨n, hn⟩ : ∃ n, n = ts.length := ⟨_, rfl⟩
  obtain ⟨m, hm⟩ : ∃ m, m = ps.length := ⟨_, rfl⟩
  obtain ⟨P, hP⟩ : ∃ P, P = ManyP ⟨ts, ps, .slice A ts.length c, .slice A' ps.length c'⟩ := ⟨_, rfl⟩
  have HP : Hid (P ↔ (¬ (1 ≤ (n : Int) ∧ (n : Int) ≤ 8) ∨ 8 < m ∨ ∃ t ∈ ts, ManyT t)) := by rw [hP, hn, hm]; exact Lib.hid Iff.rfl
  rw [← hP]
  dsimp only [declV]
  rw [← hn, ← hm] at hD ⊢
  have HN := Lib.hid hn
  clear hP hn hm
  have hB : Below w.heap.size w (w.alloc (.cells #[.slice A n c, .slice A' m c'] 25)) := Bel.grew (Below.refl _ _) _
  by_cases hbig : ((n : Int) == 0) = true ∨ (((n : Int) == 0) = false ∧ 8 < (n : Int)) ∨ (((n : Int) == 0) = false ∧ (n : Int) ≤ 8 ∧ 8 < (m : Int))
  · have HB := Lib.hid hB
    have HPT : Hid P := Lib.hid (HP.out.2 (by
      rcases hbig with h | ⟨_, h⟩ | ⟨_, _, h⟩
      · have : (n : Int) = 0 := by simpa using h
        exact .inl (by omega)
      · exact .inl (by omega)
      · exact .inr (.inl (by omega))))
    clear hB hD
    rcases hbig with h | ⟨h, h'⟩ | ⟨h, h', h''⟩
    all_goals
      go_enter Tryd.func26, Tryd.ntmps26
      go_wp2_with fail
      go_ret
      exact BRet.yes HB.out HPT.out
  · have h0 : ((n : Int) == 0) = false := by
      cases h : ((n : Int) == 0) with
      | true => exact absurd (.inl h) hbig
      | false => rfl
    have hn8 : (n : Int) ≤ 8 := by
      rcases Int.lt_or_le 8 (n : Int) with h | h
      · exact absurd (.inr (.inl ⟨h0, h⟩)) hbig
      · exact h
    have hm8 : (m : Int) ≤ 8 := by
      rcases Int.lt_or_le 8 (m : Int) with h | h
      · exact absurd (.inr (.inr ⟨h0, hn8, h⟩)) hbig
      · exact h
    have hn0 : (n : Int) ≠ 0 := by simpa using h0
    have HP2 : Hid (P ↔ ∃ t ∈ ts, ManyT t) := Lib.hid ⟨fun h => by
      rcases HP.out.1 h with h | h | h
      · omega
      · omega
      · exact h, fun h => HP.out.2 (.inr (.inr h))⟩
    obtain ⟨W, hW⟩ : ∃ W, W = w.alloc (.cells #[.slice A n c, .slice A' m c'] 25) := ⟨_, rfl⟩
    have hC := Has.new w #[.slice A n c, .slice A' m c'] 25
    rw [← hW] at hC hB
    have HD1 : Hid (SlR 1 W W.heap.size (.slice A n c) (ts.map Ty.cells)) := Lib.hid (SlR.later hD.1 hB)
    have HD2 : Hid (∀ t ∈ ts, t.In W W.heap.size) := Lib.hid fun t ht => (hD.2.1 t ht).later hB
    have HB := Lib.hid hB
    have hc := hC.2
    have hcl := hC.1
    have HW := Lib.hid hW
    clear hD hB hC hW hbig hn0
    go_enter Tryd.func26, Tryd.ntmps26
    go_wp2_with fail
    rw [← HW.out]
    clear HW
    go_loopw [3] (fun i wr => ∃ k : Nat, k ≤ n ∧ i = .int .i64 k ∧ wr = W ∧ Hid (∀ t ∈ ts.take k, ¬ ManyT t)) (fun i _ => n - (intOf i).toNat)
    case atStart => exact ⟨0, Nat.zero_le _, rfl, rfl, Lib.hid (by simp)⟩
    case round =>
      obtain ⟨k, hk, rfl, rfl, HS⟩ := hrel
      by_cases hlt : k < n
      · obtain ⟨t, ht⟩ : ∃ t, ts[k]? = some t := ⟨_, List.getElem?_eq_getElem (by rw [← HN.out]; exact hlt)⟩
        have htm := List.mem_of_getElem? ht
        have HTS := Lib.hid (take_snoc ht)
        have HTM := Lib.hid htm
        obtain ⟨b, off, rfl, hb, hcap, hcx⟩ := HD1.out.at ht
        have hti := HD2.out t htm
        obtain ⟨fs, fv⟩ := t
        obtain ⟨A2, c2, h2⟩ := hti.1.shapeL
        dsimp only at h2
        subst h2
        obtain ⟨l, hl⟩ : ∃ l, l = fs.length := ⟨_, rfl⟩
        have hti1 := hti.1
        dsimp only at hti1
        have hct := hcx 0 _ rfl
        rw [Nat.mul_one, Nat.add_zero] at hct
        dsimp only at hct
        rw [← hl] at hct hti1
        have HTI1 := Lib.hid hti1
        have HTI2 : Hid (∀ f ∈ fs, f.In wr wr.heap.size) := Lib.hid hti.2
        obtain ⟨T, hT⟩ : ∃ T : Ty, T = ⟨fs, .slice A2 fs.length c2⟩ := ⟨_, rfl⟩
        have HMT : Hid (ManyT T ↔ (¬ (1 ≤ (l : Int) ∧ (l : Int) ≤ 8) ∨ ∃ f ∈ fs, ManyF f)) := by rw [hT, hl]; exact Lib.hid Iff.rfl
        rw [← hT] at HTS HTM
        have HL := Lib.hid hl
        have hkI : (k : Int) < (n : Int) := by omega
        clear hcx hti htm ht hl hti1 hT
        by_cases hf : ((l : Int) == 0) = true ∨ (((l : Int) == 0) = false ∧ 8 < (l : Int))
        · have HPT : Hid P := Lib.hid (HP2.out.2 ⟨T, HTM.out, HMT.out.2 (.inl (by
            rcases hf with h | ⟨_, h⟩
            · have : (l : Int) = 0 := by simpa using h
              omega
            · omega))⟩)
          rcases hf with h | ⟨h, h'⟩
          all_goals
            go_wp2_with fail
            go_ret
            exact BRet.yes HB.out HPT.out
        · have l0 : ((l : Int) == 0) = false := by
            cases h : ((l : Int) == 0) with
            | true => exact absurd (.inl h) hf
            | false => rfl
          have l8 : (l : Int) ≤ 8 := by
            rcases Int.lt_or_le 8 (l : Int) with h | h
            · exact absurd (.inr ⟨l0, h⟩) hf
            · exact h
          have hl0 : (l : Int) ≠ 0 := by simpa using l0
          have HMT2 : Hid (ManyT T ↔ ∃ f ∈ fs, ManyF f) := Lib.hid ⟨fun h => by
            rcases HMT.out.1 h with h | h
            · omega
            · exact h, fun h => HMT.out.2 (.inr h)⟩
          clear hf hl0
          obtain ⟨W0, rfl⟩ : ∃ W, W = wr := ⟨_, rfl⟩
          go_wp2_with fail
          go_loopw [5] (fun i wr => ∃ j : Nat, j ≤ l ∧ i = .int .i64 j ∧ wr = W0 ∧ Hid (∀ f ∈ fs.take j, ¬ ManyF f)) (fun i _ => l - (intOf i).toNat)
          case atStart => exact ⟨0, Nat.zero_le _, rfl, rfl, Lib.hid (by simp)⟩
          case round =>
            obtain ⟨j, hj, rfl, rfl, HF⟩ := hrel
            by_cases hjl : j < l
            · obtain ⟨f, hfj⟩ : ∃ f, fs[j]? = some f := ⟨_, List.getElem?_eq_getElem (by rw [← HL.out]; exact hjl)⟩
              have hfm := List.mem_of_getElem? hfj
              have HFT := Lib.hid (take_snoc hfj)
              have HFM := Lib.hid hfm
              obtain ⟨b2, off2, rfl, hb2, hcap2, hcy⟩ := HTI1.out.at hfj
              have hfi := HTI2.out f hfm
              obtain ⟨bw, hway, hbw⟩ := manyWay f
              have HBWI := Lib.hid hbw
              obtain ⟨A3, c3, h3⟩ := SlR.shapeL hfi
              obtain ⟨F, hF⟩ : ∃ F, F = f := ⟨_, rfl⟩
              rw [← hF] at HFT HFM HBWI
              obtain ⟨fk, fp, ffl, ms, mv⟩ := f
              dsimp only at h3 hway
              subst h3
              have hf0 := hcy 0 _ rfl
              have hcf := hcy 3 _ rfl
              rw [Nat.add_zero] at hf0
              have hjI : (j : Int) < (l : Int) := by omega
              dsimp only at hf0 hcf
              obtain ⟨q, hq⟩ : ∃ q, q = ms.length := ⟨_, rfl⟩
              rw [← hq] at hcf hway
              have HWAY := Lib.hid hway
              unfold ManyWay at HWAY
              clear hcy hfi hfm hfj hq hF hway hbw
              rcases HWAY.out with ⟨k1, k2, ⟨k3, rfl⟩ | ⟨k3, k4, rfl⟩ | ⟨k3, k4, rfl⟩⟩ | ⟨k1, k2, ⟨k3, rfl⟩ | ⟨k3, rfl⟩⟩
              · have HPT : Hid P := Lib.hid (HP2.out.2 ⟨T, HTM.out, HMT2.out.2 ⟨F, HFM.out, HBWI.out.1 rfl⟩⟩)
                clear HWAY
                go_wp2_with fail
                go_ret
                exact BRet.yes HB.out HPT.out
              · have HPT : Hid P := Lib.hid (HP2.out.2 ⟨T, HTM.out, HMT2.out.2 ⟨F, HFM.out, HBWI.out.1 rfl⟩⟩)
                clear HWAY
                go_wp2_with fail
                go_ret
                exact BRet.yes HB.out HPT.out
              · have HNF : Hid (¬ ManyF F) := Lib.hid fun h => by have := HBWI.out.2 h; cases this
                clear HWAY
                go_wp2_with fail
                go_roundw
                case rel =>
                  refine ⟨j + 1, by omega, by go_num, trivial, ?_⟩
                  rw [HFT.out]
                  exact Lib.hid (all_snoc HF.out HNF.out)
                case measure => simp [intOf]; omega
              · have HPT : Hid P := Lib.hid (HP2.out.2 ⟨T, HTM.out, HMT2.out.2 ⟨F, HFM.out, HBWI.out.1 rfl⟩⟩)
                clear HWAY
                go_wp2_with fail
                go_ret
                exact BRet.yes HB.out HPT.out
              · have HNF : Hid (¬ ManyF F) := Lib.hid fun h => by have := HBWI.out.2 h; cases this
                clear HWAY
                go_wp2_with fail
                go_roundw
                case rel =>
                  refine ⟨j + 1, by omega, by go_num, trivial, ?_⟩
                  rw [HFT.out]
                  exact Lib.hid (all_snoc HF.out HNF.out)
                case measure => simp [intOf]; omega
            · have hj4 : j = l := by omega
              subst hj4
              rw [HL.out, List.take_length] at HF
              have HNT : Hid (¬ ManyT T) := Lib.hid fun h => by
                obtain ⟨f, hf1, hf2⟩ := HMT2.out.1 h
                exact HF.out f hf1 hf2
              go_wp2_with fail
              go_roundw
              case rel =>
                refine ⟨k + 1, by omega, by go_num, trivial, ?_⟩
                rw [HTS.out]
                exact Lib.hid (all_snoc HS.out HNT.out)
              case measure => simp [intOf]; omega
      · have hk4 : k = n := by omega
        subst hk4
        rw [HN.out, List.take_length] at HS
        have HNP : Hid (¬ P) := Lib.hid fun h => by
          obtain ⟨t, h1, h2⟩ := HP2.out.1 h
          exact HS.out t h1 h2
        go_wp2_with fail
        go_ret
        exact BRet.no HB.out HNP.out
end Go.Proofs.YtamnligooelmgaaDoor
