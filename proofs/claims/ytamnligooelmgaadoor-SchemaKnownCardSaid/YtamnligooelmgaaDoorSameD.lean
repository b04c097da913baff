/- SameDecl, of two that are alike. -/
import Derived.Test.YtamnligooelmgaaDoorCopyF
set_option maxRecDepth 100000
set_option maxRecDepth 100000
set_option linter.unusedVariables false
set_option linter.unusedSimpArgs false
namespace Go.Proofs.YtamnligooelmgaaDoor
open Go.RowKit Go.BigFrame

theorem map_at {α β : Type} {p : α → β} {l l' : List α} (h : l.map p = l'.map p) {k : Nat} {x : α} (hx : l[k]? = some x) : ∃ y, l'[k]? = some y ∧ p x = p y := by
  have e := congrArg (fun l => l[k]?) h
  simp only [List.getElem?_map, hx] at e
  cases hy : l'[k]? with
  | none => rw [hy] at e; simp at e
  | some y => rw [hy] at e; exact ⟨y, rfl, by simpa using e⟩
set_option maxHeartbeats 16000000 in
theorem sameDecl_eq (D E : Dc) (w : World) (hD : D.In w w.heap.size) (hE : E.In w w.heap.size) (he : D.pl = E.pl) (hL : LenD D) (hp : D.ps.length ≤ 1099511627776) :
    Calls Tryd.prog 17 #[declV D, declV E] w fun e w' => e = .returned (.bool true) ∧ Below w.heap.size w w' := by
  obtain ⟨ts, ps, tv, pv⟩ := D
  obtain ⟨es, qs, ev, qv⟩ := E
  unfold Dc.pl at he
  injection he with he1 he2
  dsimp only at he1 he2 hp
  subst he2
  have hlen : es.length = ts.length := by have := congrArg List.length he1; simpa using this.symm
  obtain ⟨A, c, h1⟩ := hD.1.shapeL
  obtain ⟨A', c', h2⟩ := hD.2.2.shapeL
  obtain ⟨B, d, h3⟩ := hE.1.shapeL
  obtain ⟨B', d', h4⟩ := hE.2.2.shapeL
  dsimp only at h1 h2 h3 h4
  rw [hlen] at h3
  subst h1 h2 h3 h4
  obtain ⟨W, hW⟩ : ∃ W, W = (w.alloc (.cells #[.slice A ts.length c, .slice A' ps.length c'] 25)).alloc (.cells #[.slice B ts.length d, .slice B' ps.length d'] 25) := ⟨_, rfl⟩
  have hB : Below w.heap.size w W := by rw [hW]; exact Bel.grew (Bel.grew (Below.refl _ _) _) _
  have hC : Has W w.heap.size #[.slice A ts.length c, .slice A' ps.length c'] := by rw [hW]; exact (Has.new w _ _).grow _
  have hR : Has W (w.heap.size + 1) #[.slice B ts.length d, .slice B' ps.length d'] := by rw [hW]; exact Has.new1 _ _ _ (by simp)
  have HD := Lib.hid (hD.later hB)
  have HE := Lib.hid (hE.later hB)
  have HB := Lib.hid hB
  have HW := Lib.hid hW
  have HC := Lib.hid hC
  have HR := Lib.hid hR
  have HL := Lib.hid hL
  have HE1 := Lib.hid he1
  have htl : (ts.length : Int) ≤ 1099511627776 := by have := hL.1; dsimp only at this; omega
  have hpl : (ps.length : Int) ≤ 1099511627776 := by omega
  clear hD hE hB hW hC hR hL he1 hlen
  go_enter Tryd.func17, Tryd.ntmps17
  go_wp2_with fail
  rw [← HW.out]
  clear HW
  go_loopw [5] (fun i wr => ∃ k : Nat, k ≤ ts.length ∧ i = .int .i64 k ∧ Below W.heap.size W wr) (fun i _ => ts.length - (intOf i).toNat)
  case atStart => exact ⟨0, Nat.zero_le _, rfl, Below.refl _ _⟩
  case round =>
    obtain ⟨k, hk, rfl, hb⟩ := hrel
    have HBk := Lib.hid hb
    have hc := (HC.out.later hb).2
    have hcl := (HC.out.later hb).1
    have hr := (HR.out.later hb).2
    have hrl := (HR.out.later hb).1
    by_cases hlt : k < ts.length
    · obtain ⟨t, ht⟩ : ∃ t, ts[k]? = some t := ⟨_, List.getElem?_eq_getElem hlt⟩
      obtain ⟨t', ht', htt⟩ := map_at HE1.out ht
      have hD3 := HD.out.later hb
      have hE3 := HE.out.later hb
      obtain ⟨b, off, rfl, hbb, hcap, hcx⟩ := hD3.1.at ht
      obtain ⟨b', off', rfl, hbb', hcap', hcy⟩ := hE3.1.at ht'
      have hti := hD3.2.1 t (List.mem_of_getElem? ht)
      have hti' := hE3.2.1 t' (List.mem_of_getElem? ht')
      have htl2 := HL.out.2 t (List.mem_of_getElem? ht)
      obtain ⟨fs, fv⟩ := t
      obtain ⟨fs', fv'⟩ := t'
      unfold Ty.pl at htt
      dsimp only at htt htl2
      have hlen2 : fs'.length = fs.length := by have := congrArg List.length htt; simpa using this.symm
      obtain ⟨A2, c2, h2⟩ := hti.1.shapeL
      obtain ⟨A3, c3, h3⟩ := hti'.1.shapeL
      dsimp only at h2 h3
      rw [hlen2] at h3
      subst h2 h3
      have hct := hcx 0 _ rfl
      have hct' := hcy 0 _ rfl
      rw [Nat.mul_one, Nat.add_zero] at hct hct'
      dsimp only at hct hct'
      have hkI : (k : Int) < (ts.length : Int) := by omega
      have hfl : (fs.length : Int) ≤ 1099511627776 := by have := htl2.1; omega
      have HTI := Lib.hid hti
      have HTI' := Lib.hid hti'
      have HTT := Lib.hid htt
      have HTL2 := Lib.hid htl2
      have HCT := Lib.hid hct
      have HCT' := Lib.hid hct'
      clear hD3 hE3 hcx hcy hti hti' htt htl2 ht ht' hlen2 hb
      go_wp2_with fail
      go_quiet (fail)
      obtain ⟨W0, hW0⟩ : ∃ W0, W0 = wr.drewN nq := ⟨_, rfl⟩
      have hb0 : Below wr.heap.size wr W0 := by rw [hW0]; exact Bel.drewN (Below.refl _ _) _
      rw [← hW0]
      have HB0 := Lib.hid hb0
      have HW0 := Lib.hid (And.intro (HC.out.later HBk.out |>.later hb0) (HR.out.later HBk.out |>.later hb0))
      clear hW0 hb0 hc hr hct hct'
      have hc := HW0.out.1.2
      have hcl2 := HW0.out.1.1
      have hr := HW0.out.2.2
      have hrl2 := HW0.out.2.1
      go_wp2_with fail
      go_loopw [6] (fun i wq => ∃ j : Nat, j ≤ fs.length ∧ i = .int .i64 j ∧ Below W0.heap.size W0 wq) (fun i _ => fs.length - (intOf i).toNat)
      case atStart => exact ⟨0, Nat.zero_le _, rfl, Below.refl _ _⟩
      case round =>
        obtain ⟨j, hj, rfl, hb⟩ := hrel
        have HBj := Lib.hid hb
        have hb2 := Bel.then HB0.out hb
        have hc := (HW0.out.1.later hb).2
        have hcl2 := (HW0.out.1.later hb).1
        have hr := (HW0.out.2.later hb).2
        have hrl2 := (HW0.out.2.later hb).1
        have hct := (hb2.cell (p := ⟨b, off + k, none⟩) hbb).trans HCT.out
        have hct' := (hb2.cell (p := ⟨b', off' + k, none⟩) hbb').trans HCT'.out
        have hbw : b < wr.heap.size := by have := hb2.size; omega
        have hbw' : b' < wr.heap.size := by have := hb2.size; omega
        by_cases hjl : j < fs.length
        · obtain ⟨f, hf⟩ : ∃ f, fs[j]? = some f := ⟨_, List.getElem?_eq_getElem hjl⟩
          obtain ⟨f', hf', hff⟩ := map_at HTT.out hf
          have hT3 := HTI.out.later hb2
          have hT4 := HTI'.out.later hb2
          obtain ⟨b2, off2, rfl, hb2b, hcap2, hcx2⟩ := hT3.1.at hf
          obtain ⟨b4, off4, rfl, hb4b, hcap4, hcx4⟩ := hT4.1.at hf'
          have hfi := hT3.2 f (List.mem_of_getElem? hf)
          have hfi' := hT4.2 f' (List.mem_of_getElem? hf')
          have hms := HTL2.out.2 f (List.mem_of_getElem? hf)
          obtain ⟨fk, fp, ffl, ms, mv⟩ := f
          obtain ⟨gk, gp, gfl, gs, gv⟩ := f'
          have hf0 := hcx2 0 _ rfl
          have hf1 := hcx2 1 _ rfl
          have hf2 := hcx2 2 _ rfl
          have hf3 := hcx2 3 _ rfl
          have hg0 := hcx4 0 _ rfl
          have hg1 := hcx4 1 _ rfl
          have hg2 := hcx4 2 _ rfl
          have hg3 := hcx4 3 _ rfl
          rw [Nat.add_zero] at hf0 hg0
          obtain ⟨A5, c5, h5⟩ := SlR.shapeL hfi
          obtain ⟨A6, c6, h6⟩ := SlR.shapeL hfi'
          dsimp only at h5 h6 hms
          subst h5 h6
          dsimp only at hf0 hf1 hf2 hf3 hg0 hg1 hg2 hg3
          have hjI : (j : Int) < (fs.length : Int) := by omega
          have HFI := Lib.hid hfi
          have HFI' := Lib.hid hfi'
          have HFF := Lib.hid hff
          obtain ⟨ng, hng⟩ : ∃ n, n = gs.length := ⟨_, rfl⟩
          rw [← hng] at hg3 HFI' HFF
          clear hT3 hT4 hcx2 hcx4 hfi hfi' hff hb hf hf' hng
          go_wp2_with fail
          refine wp_region_later (by kernel_rfl) (by kernel_rfl) ?_
          repeat (any_goals (first | go_big_quiet_step ((go_at_call 14; have hC := sameField_eq ⟨fk, fp, ffl, ms, .slice A5 ms.length c5⟩ ⟨gk, gp, gfl, gs, .slice A6 ng c6⟩ (Later.w ‹_›) (HFI.out.later (Later.h ‹_›)) (HFI'.out.later (Later.h ‹_›)) HFF.out hms; with_reducible exact Later.call hC))))
          refine wpQuiet_nil ?_
          intro x
          obtain ⟨w4, hb4⟩ := x
          dsimp only
          have HB4 := Lib.hid (Bel.then HBj.out hb4)
          clear hb4 hf0 hf1 hf2 hf3 hg0 hg1 hg2 hg3 hct hct' hc hr
          go_wp2_with fail
          go_roundw
          case rel => exact ⟨j + 1, by omega, by go_num, HB4.out⟩
          case measure => simp [intOf]; omega
        · have hj4 : j = fs.length := by omega
          subst hj4
          have HBf := Lib.hid (Bel.then HBk.out hb2)
          clear hb hb2
          go_wp2_with fail
          go_roundw
          case rel => exact ⟨k + 1, by omega, by go_num, HBf.out⟩
          case measure => simp [intOf]; omega
    · have hk' : k = ts.length := by omega
      subst hk'
      obtain ⟨W5, hW5⟩ : ∃ W5, W5 = wr := ⟨_, rfl⟩
      rw [← hW5] at HBk hb hc hcl hr hrl ⊢
      clear hW5 hb
      go_wp2_with fail
      clear hc hr
      go_loopw [7] (fun i wq => ∃ j : Nat, j ≤ ps.length ∧ i = .int .i64 j ∧ Below W.heap.size W wq) (fun i _ => ps.length - (intOf i).toNat)
      case atStart => exact ⟨0, Nat.zero_le _, rfl, HBk.out⟩
      case round =>
        obtain ⟨j, hj, rfl, hb⟩ := hrel
        have HBj := Lib.hid hb
        have hc := (HC.out.later hb).2
        have hcl2 := (HC.out.later hb).1
        have hr := (HR.out.later hb).2
        have hrl2 := (HR.out.later hb).1
        by_cases hjl : j < ps.length
        · obtain ⟨p, hpj⟩ : ∃ p, ps[j]? = some p := ⟨_, List.getElem?_eq_getElem hjl⟩
          obtain ⟨b, off, rfl, hbb, hcap, hcx⟩ := (HD.out.later hb).2.2.at hpj
          obtain ⟨b', off', rfl, hbb', hcap', hcy⟩ := (HE.out.later hb).2.2.at hpj
          obtain ⟨p0, p1, p2, p3, p4⟩ := p
          have h0 := hcx 0 _ rfl
          have h1 := hcx 1 _ rfl
          have h2 := hcx 2 _ rfl
          have h3 := hcx 3 _ rfl
          have h4 := hcx 4 _ rfl
          have g0 := hcy 0 _ rfl
          have g1 := hcy 1 _ rfl
          have g2 := hcy 2 _ rfl
          have g3 := hcy 3 _ rfl
          have g4 := hcy 4 _ rfl
          rw [Nat.add_zero] at h0 g0
          dsimp only at h0 h1 h2 h3 h4 g0 g1 g2 g3 g4
          have hjI : (j : Int) < (ps.length : Int) := by omega
          clear hcx hcy hpj hb
          go_wp2_with fail
          go_quiet (fail)
          go_wp2_with fail
          go_roundw
          case rel => exact ⟨j + 1, by omega, by go_num, Bel.drewN HBj.out _⟩
          case measure => simp [intOf]; omega
        · have hj4 : j = ps.length := by omega
          subst hj4
          have HBf := Lib.hid (Bel.then HB.out hb)
          clear hb
          go_wp2_with fail
          go_ret
          exact ⟨rfl, HBf.out⟩
end Go.Proofs.YtamnligooelmgaaDoor
