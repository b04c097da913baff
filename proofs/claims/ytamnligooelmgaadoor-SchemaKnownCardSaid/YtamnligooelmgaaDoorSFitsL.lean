/- SchemaFits: the walk. -/
import Derived.Test.YtamnligooelmgaaDoorSChecks
set_option maxRecDepth 100000
set_option maxRecDepth 100000
set_option linter.unusedVariables false
set_option linter.unusedSimpArgs false
namespace Go.Proofs.YtamnligooelmgaaDoor
open Go.RowKit Go.BigFrame

/-- How many of the operations before o fit a kind. -/
def cntK (k o : Int) : Int := (if k = 1 ∧ 1 < o then 1 else 0) + (if k = 2 ∧ 2 < o then 1 else 0) + (if k = 3 ∧ 3 < o then 1 else 0) + (if k = 3 ∧ 4 < o then 1 else 0) + (if k = 4 ∧ 5 < o then 1 else 0)
theorem cntK_step {f : PF} {o : Int} (h1 : 1 ≤ f.k) (h4 : f.k ≤ 4) : (opP f o = true ∧ cntK f.k (o + 1) = cntK f.k o + 1) ∨ (opP f o = false ∧ cntK f.k (o + 1) = cntK f.k o) := by
  obtain ⟨k, p, fl, ms⟩ := f
  dsimp only at h1 h4 ⊢
  unfold opP cntK
  rcases (show k = 1 ∨ k = 2 ∨ k = 3 ∨ k = 4 from by omega) with rfl | rfl | rfl | rfl
  · by_cases h : o = 1
    · subst h; exact .inl ⟨by simp, by decide⟩
    · right
      refine ⟨by simp [h], ?_⟩
      by_cases h' : 1 < o
      · simp [h', show (1 : Int) < o + 1 from by omega]
      · simp [h', show ¬ (1 : Int) < o + 1 from by omega]
  · by_cases h : o = 2
    · subst h; exact .inl ⟨by simp, by decide⟩
    · right
      refine ⟨by simp [h], ?_⟩
      by_cases h' : 2 < o
      · simp [h', show (2 : Int) < o + 1 from by omega]
      · simp [h', show ¬ (2 : Int) < o + 1 from by omega]
  · by_cases h : o = 3
    · subst h; exact .inl ⟨by simp, by decide⟩
    · by_cases h5 : o = 4
      · subst h5; exact .inl ⟨by simp, by decide⟩
      · right
        refine ⟨by simp [h, h5], ?_⟩
        by_cases h' : 4 < o
        · simp [h', show (4 : Int) < o + 1 from by omega, show (3 : Int) < o from by omega, show (3 : Int) < o + 1 from by omega]
        · simp [h', show ¬ (4 : Int) < o + 1 from by omega, show ¬ (3 : Int) < o from by omega, show ¬ (3 : Int) < o + 1 from by omega]
  · by_cases h : o = 5
    · subst h; exact .inl ⟨by simp, by decide⟩
    · right
      refine ⟨by simp [h], ?_⟩
      by_cases h' : 5 < o
      · simp [h', show (5 : Int) < o + 1 from by omega]
      · simp [h', show ¬ (5 : Int) < o + 1 from by omega]
theorem cntK_end {k : Int} (h1 : 1 ≤ k) (h4 : k ≤ 4) : ((k == 3) = true ∧ (k != 3) = false ∧ cntK k 8 = 2) ∨ ((k == 3) = false ∧ (k != 3) = true ∧ cntK k 8 = 1) := by
  rcases (show k = 1 ∨ k = 2 ∨ k = 3 ∨ k = 4 from by omega) with rfl | rfl | rfl | rfl
  · right; decide
  · right; decide
  · left; decide
  · right; decide
theorem cntK_lo (k : Int) : 0 ≤ cntK k (-1) ∧ cntK k (-1) = 0 := by
  unfold cntK
  simp
theorem cntK_in (k o : Int) : 0 ≤ cntK k o ∧ cntK k o ≤ 5 := by
  unfold cntK
  by_cases h1 : k = 1 ∧ 1 < o <;> by_cases h2 : k = 2 ∧ 2 < o <;> by_cases h3 : k = 3 ∧ 3 < o <;> by_cases h4 : k = 3 ∧ 4 < o <;> by_cases h5 : k = 4 ∧ 5 < o <;> simp only [h1, h2, h3, h4, h5, if_true, if_false] <;> omega
/-- The ways of one operation: what both answers are, and what is asked. -/
def FitWay (op arg : Int) (n : Nat) (r1 r2 : Int) : Prop := (r1 = 0 ∨ r1 = 1) ∧ (r2 = 1 ∨ (r2 = 0 ∧ (op == 1) = true ∧ (op == 5) = false ∧ (arg == 0) = false) ∨ (r2 = 0 ∧ (op == 1) = false ∧ (op == 5) = true ∧ 0 ≤ arg ∧ arg < (n : Int)) ∨ (r2 = 0 ∧ (op == 1) = false ∧ (op == 5) = false))
theorem argP_iff (f : PF) (op arg : Int) : argP f op arg = true ↔ (op = 1 ∧ arg = 0) ∨ (op = 5 ∧ ¬ (0 ≤ arg ∧ arg ≤ (f.ms.length : Int) - 1)) := by
  unfold argP
  exact decide_eq_true_iff
def fitV (f : PF) (op arg : Int) : Int := if argP f op arg = true then 1 else 0
theorem fitsP_yes {d : PD} {ti fi : Int} {f : PF} (hf : fldP d ti fi = some f) {op : Int} (arg : Int) (ho : opP f op = true) : fitsP d ti fi op arg = fitV f op arg := by
  unfold fitsP fitV
  rw [hf]
  simp [ho]
theorem fitWay {d : PD} {ti fi : Int} {f : PF} (hf : fldP d ti fi = some f) {op : Int} (arg : Int) (ho : opP f op = true) : FitWay op arg f.ms.length (fitsP d ti fi op 0) (fitsP d ti fi op arg) := by
  rw [fitsP_yes hf 0 ho, fitsP_yes hf arg ho]
  unfold FitWay fitV
  constructor
  · by_cases h : argP f op 0 = true
    · exact .inr (if_pos h)
    · exact .inl (if_neg h)
  by_cases h1 : op = 1
  · by_cases h2 : arg = 0
    · exact .inl (if_pos ((argP_iff f op arg).2 (.inl ⟨h1, h2⟩)))
    · exact .inr (.inl ⟨if_neg (fun h => by rcases (argP_iff f op arg).1 h with ⟨_, h⟩ | ⟨h, _⟩; exact h2 h; omega), beqt h1, beqf (by omega), beqf h2⟩)
  · by_cases h5 : op = 5
    · by_cases h6 : 0 ≤ arg ∧ arg ≤ (f.ms.length : Int) - 1
      · exact .inr (.inr (.inl ⟨if_neg (fun h => by rcases (argP_iff f op arg).1 h with ⟨h, _⟩ | ⟨_, h⟩; exact h1 h; exact h h6), beqf h1, beqt h5, h6.1, by omega⟩))
      · exact .inl (if_pos ((argP_iff f op arg).2 (.inr ⟨h5, h6⟩)))
    · exact .inr (.inr (.inr ⟨if_neg (fun h => by rcases (argP_iff f op arg).1 h with ⟨h, _⟩ | ⟨h, _⟩; exact h1 h; exact h5 h), beqf h1, beqf h5⟩))
theorem fitNo {d : PD} {ti fi : Int} {f : PF} (hf : fldP d ti fi = some f) {op : Int} (arg : Int) (ho : opP f op = false) : fitsP d ti fi op arg = 2 := by
  unfold fitsP
  rw [hf]
  dsimp only
  rw [if_pos ho]
theorem chk_kinds {D : Dc} (h : ChkRel D 0) : ∀ t ∈ D.ts, ∀ f ∈ t.fs, 1 ≤ f.k ∧ f.k ≤ 4 := by
  intro t ht f hf
  have hz : FirstRel TypeRel D.ts 0 := by
    rcases h with ⟨_, h⟩ | ⟨_, ⟨h, _⟩ | ⟨h, _⟩⟩
    · cases h
    · exact absurd rfl h
    · exact h
  have ht0 : TypeRel t 0 := by
    rcases hz with ⟨_, h⟩ | ⟨h, _⟩
    · exact h t ht
    · exact absurd rfl h
  have hf0 : WrongRel t f 0 := by
    rcases ht0 with ⟨_, h⟩ | ⟨h, _⟩
    · exact h f hf
    · exact absurd rfl h
  rcases hf0 with ⟨_, h⟩ | ⟨h, _⟩ | ⟨h, _⟩ | ⟨h, _⟩ | ⟨h, _⟩
  · cases h
  all_goals exact h
set_option maxHeartbeats 16000000 in
theorem schemaFits_any (D : Dc) (arg : Int) (w : World) (hD : D.In w w.heap.size) (hT : Tab w) :
    Calls Tryd.prog 5 #[declV D, .int .i64 arg] w fun e w' => e = .returned (.bool true) ∧ Below w.heap.size w w' := by
  obtain ⟨A, c, h1⟩ := hD.1.shapeL
  obtain ⟨A', c', h2⟩ := hD.2.2.shapeL
  obtain ⟨nt, hnt⟩ : ∃ n, n = D.ts.length := ⟨_, rfl⟩
  obtain ⟨np, hnp⟩ : ∃ n, n = D.ps.length := ⟨_, rfl⟩
  rw [← hnt] at h1
  rw [← hnp] at h2
  dsimp only [declV]
  rw [h1, h2]
  have HTV := Lib.hid h1
  have HPV := Lib.hid h2
  have HNT := Lib.hid hnt
  clear hnp h1 h2 hnt
  obtain ⟨W, hW⟩ : ∃ W, W = w.alloc (.cells #[.slice A nt c, .slice A' np c'] 25) := ⟨_, rfl⟩
  have hB : Below w.heap.size w W := by rw [hW]; exact Bel.grew (Below.refl _ _) _
  have hC := Has.new w #[.slice A nt c, .slice A' np c'] 25
  rw [← hW] at hC
  have HD := Lib.hid (hD.later hB)
  have HT := Lib.hid (hT.later hB)
  have HB := Lib.hid hB
  have HC := Lib.hid hC
  have HW := Lib.hid hW
  clear hD hT hB hC hW
  go_enter Tryd.func5, Tryd.ntmps5
  go_wp2_with fail
  rw [← HW.out]
  clear HW
  have hlong := long06_any D W HD.out
  dsimp only [declV] at hlong
  rw [HTV.out, HPV.out] at hlong
  refine hlong.mono ?_
  clear hlong
  rintro e1 w2 ⟨bl, rfl, hsh, hb⟩
  have HB2 := Lib.hid (Bel.then HB.out hb)
  have HC2 := Lib.hid (HC.out.later hb)
  have HD2 := Lib.hid (HD.out.later hb)
  have HT2 := Lib.hid (HT.out.later hb)
  clear hb HB HC HD HT
  cases bl
  rotate_left
  · clear hsh
    go_wp2_with fail
    refine (works06_any _ HT2.out).mono ?_
    rintro e2 w3 ⟨rfl, hb⟩
    have HB3 := Lib.hid (Bel.then HB2.out hb)
    clear hb
    go_wp2_with fail
    go_ret
    exact ⟨rfl, HB3.out⟩
  have HL := Lib.hid (hsh rfl).len_
  clear hsh
  have hc := HC2.out.2
  have hcl := HC2.out.1
  go_wp2_with fail
  have hchk := check_any D w2 HD2.out HT2.out HL.out
  dsimp only [declV] at hchk
  rw [HTV.out, HPV.out] at hchk
  refine hchk.mono ?_
  clear hchk
  rintro e2 w3 ⟨ck, rfl, hck, hb⟩
  have HB3 := Lib.hid (Bel.then HB2.out hb)
  have HC3 := Lib.hid (HC2.out.later hb)
  have HD3 := Lib.hid (HD2.out.later hb)
  have HT3 := Lib.hid (HT2.out.later hb)
  clear hb HB2 HC2 HD2 HT2 hc hcl
  by_cases hk0 : ck = 0
  rotate_left
  · have hkb : (ck != 0) = true := by simp [hk0]
    clear hk0 hck
    go_wp2_with fail
    refine (works06_any _ HT3.out).mono ?_
    rintro e2 w4 ⟨rfl, hb⟩
    have HB4 := Lib.hid (Bel.then HB3.out hb)
    clear hb
    go_wp2_with fail
    go_ret
    exact ⟨rfl, HB4.out⟩
  subst hk0
  have HK := Lib.hid (chk_kinds hck)
  clear hck
  have htl : (nt : Int) ≤ 1099511627776 := by have := HL.out.1; have := HNT.out; omega
  go_wp2_with fail
  go_loopw [5] (fun i wr => ∃ k : Nat, k ≤ nt ∧ i = .int .i64 k ∧ Below w3.heap.size w3 wr) (fun i _ => nt - (intOf i).toNat)
  case atStart => exact ⟨0, Nat.zero_le _, rfl, Below.refl _ _⟩
  case round =>
    obtain ⟨k, hk, rfl, hb⟩ := hrel
    have HBk := Lib.hid hb
    have hc := (HC3.out.later hb).2
    have hcl := (HC3.out.later hb).1
    by_cases hlt : k < nt
    · obtain ⟨t, ht⟩ : ∃ t, D.ts[k]? = some t := ⟨_, List.getElem?_eq_getElem (by rw [← HNT.out]; exact hlt)⟩
      have HTE := Lib.hid ht
      have htm := List.mem_of_getElem? ht
      have hD4 := HD3.out.later hb
      have hD41 := hD4.1
      rw [HTV.out] at hD41
      obtain ⟨b, off, rfl, hbb, hcap, hcx⟩ := hD41.at ht
      have hti := hD4.2.1 t htm
      have htl2 := HL.out.2 t htm
      have hkf := HK.out t htm
      obtain ⟨T, hT⟩ : ∃ T, T = t := ⟨_, rfl⟩
      rw [← hT] at HTE
      have HTT := Lib.hid hT
      obtain ⟨fs, fv⟩ := t
      obtain ⟨A2, c2, h2⟩ := hti.1.shapeL
      dsimp only at h2 htl2 hkf
      subst h2
      have hct := hcx 0 _ rfl
      rw [Nat.mul_one, Nat.add_zero] at hct
      dsimp only at hct
      have hkI : (k : Int) < (nt : Int) := by omega
      have hfl : (fs.length : Int) ≤ 1099511627776 := by have := htl2.1; omega
      have HTI := Lib.hid hti
      have HTL := Lib.hid htl2
      have HKF := Lib.hid hkf
      have HCT := Lib.hid hct
      have HBB := Lib.hid hbb
      obtain ⟨W4, rfl⟩ : ∃ W, W = wr := ⟨_, rfl⟩
      clear hD4 hD41 hcx hti htl2 htm ht hb hkf hT
      go_wp2_with fail
      clear hc hcl hct
      go_loopw [6] (fun i wq => ∃ j : Nat, j ≤ fs.length ∧ i = .int .i64 j ∧ Below W4.heap.size W4 wq) (fun i _ => fs.length - (intOf i).toNat)
      case atStart => exact ⟨0, Nat.zero_le _, rfl, Below.refl _ _⟩
      case round =>
        obtain ⟨j, hj, rfl, hb3⟩ := hrel
        have HB5 := Lib.hid (Bel.then HBk.out hb3)
        have HBJ := Lib.hid hb3
        have hc := (HC3.out.later (Bel.then HBk.out hb3)).2
        have hcl := (HC3.out.later (Bel.then HBk.out hb3)).1
        have hct := (hb3.cell (p := ⟨b, off + k, none⟩) HBB.out).trans HCT.out
        have hbw : b < wr.heap.size := by have := hb3.size; omega
        by_cases hjl : j < fs.length
        · obtain ⟨f, hfj⟩ : ∃ f, fs[j]? = some f := ⟨_, List.getElem?_eq_getElem hjl⟩
          have hfm := List.mem_of_getElem? hfj
          have HFLD : Hid (FldAt D k j f) := Lib.hid ⟨T, by omega, by rw [Int.toNat_natCast]; exact HTE.out, by omega, by rw [Int.toNat_natCast, HTT.out]; exact hfj⟩
          have HFP := Lib.hid (fldAt_pl HFLD.out)
          have hkk := HKF.out f hfm
          have hms := HTL.out.2 f hfm
          have HFJ := Lib.hid hfj
          have hjI : (j : Int) < (fs.length : Int) := by omega
          clear hfm hfj hb3
          go_wp2_with fail
          have hfd := field_any D k j wr (HD3.out.later HB5.out) HL.out
          dsimp only [declV] at hfd
          rw [HTV.out, HPV.out] at hfd
          refine hfd.mono ?_
          clear hfd
          rintro e5 w6 (⟨t', f', v', q0, q1, q2, q3, rfl, hown, hb6⟩ | ⟨hno, _, _⟩)
          rotate_left
          · obtain ⟨t', h⟩ := HFLD.out
            exact absurd ⟨t', f, h⟩ hno
          have hff : f' = f := FldAt.one (D := D) ⟨t', q0, q1, q2, q3⟩ HFLD.out
          subst hff
          obtain ⟨A5, c5, h5⟩ := SlR.shapeL hown.sl
          subst h5
          obtain ⟨W7, hW7⟩ : ∃ W7, W7 = w6.alloc (.cells #[.int .i64 f'.k, .int .i64 f'.p, .bool f'.fl, .slice A5 f'.ms.length c5] 33) := ⟨_, rfl⟩
          have hgr7 : Below w6.heap.size w6 W7 := by rw [hW7]; exact Bel.grew (Below.refl _ _) _
          have hf7 : Has W7 w6.heap.size #[.int .i64 f'.k, .int .i64 f'.p, .bool f'.fl, .slice A5 f'.ms.length c5] := by rw [hW7]; exact Has.new _ _ _
          have hb67 := Bel.then hb6 hgr7
          have HF7 := Lib.hid hf7
          have HO7 := Lib.hid ((hown.later hgr7).sl)
          have HB7 := Lib.hid (Bel.then HB5.out hb67)
          have HBJ7 := Lib.hid (Bel.then HBJ.out hb67)
          have hT7 := HTI.out.later (Bel.then HBJ.out hb67)
          obtain ⟨b2, off2, rfl, hb2, hcap2, hcy⟩ := hT7.1.at HFJ.out
          have hfi := hT7.2 f' (List.mem_of_getElem? HFJ.out)
          obtain ⟨FF, hFF⟩ : ∃ FF, FF = f' := ⟨_, rfl⟩
          rw [← hFF] at HFP HFLD
          obtain ⟨fk, fp, ffl, ms, mv⟩ := f'
          obtain ⟨A3, c3, h3⟩ := SlR.shapeL hfi
          dsimp only at h3 hms hkk hf7 HF7 HO7
          subst h3
          have hg0 := hcy 0 _ rfl
          have hg1 := hcy 1 _ rfl
          have hg2 := hcy 2 _ rfl
          have hg3 := hcy 3 _ rfl
          rw [Nat.add_zero] at hg0
          dsimp only at hg0 hg1 hg2 hg3
          have HFI := Lib.hid hfi
          have HPF : Hid (FF.pl = ⟨fk, fp, ffl, ms⟩) := by rw [hFF]; exact Lib.hid rfl
          have HW7 := Lib.hid hW7
          have hcw := (HC3.out.later HB7.out).2
          have hclw := (HC3.out.later HB7.out).1
          have hctw := (HBJ7.out.cell (p := ⟨b, off + k, none⟩) HBB.out).trans HCT.out
          have hbw7 : b < W7.heap.size := by have := HBJ7.out.size; have := HBB.out; omega
          have hfc := HF7.out.2
          have hfcl := HF7.out.1
          clear hown hb6 hgr7 hb67 hT7 hcy hfi hFF hW7 q0 q1 q2 q3 hc hcl hct hbw hf7
          go_wp2_with fail
          rw [← HW7.out]
          clear HW7
          refine wp_region_later (by kernel_rfl) (by kernel_rfl) ?_
          repeat (any_goals (first | go_big_quiet_step ((go_at_call 14; have hC := sameField_eq ⟨fk, fp, ffl, ms, .slice A5 ms.length c5⟩ ⟨fk, fp, ffl, ms, .slice A3 ms.length c3⟩ (Later.w ‹_›) (HO7.out.later (Later.h ‹_›)) (HFI.out.later (Later.h ‹_›)) rfl hms; with_reducible exact Later.call hC))))
          refine wpQuiet_nil ?_
          intro x
          obtain ⟨w8, hb8⟩ := x
          dsimp only
          have HB8 := Lib.hid (Bel.then HB7.out hb8)
          have HBJ8 := Lib.hid (Bel.then HBJ7.out hb8)
          have HF8 := Lib.hid (HF7.out.later hb8)
          clear hb8 hg0 hg1 hg2 hg3 hcw hclw hctw hbw7 hfc hfcl
          go_wp2_with fail
          go_loopw [9, 10] (fun n i wq => ∃ o : Int, -1 ≤ o ∧ o ≤ 8 ∧ i = .int .i64 o ∧ n = .int .i64 (cntK fk o) ∧ Below w8.heap.size w8 wq) (fun _ i _ => (8 - intOf i).toNat)
          case atStart => exact ⟨-1, by omega, by omega, rfl, by rw [(cntK_lo fk).2], Below.refl _ _⟩
          case round =>
            obtain ⟨o, ho0, ho1, rfl, rfl, hb9⟩ := hrel
            have HB9 := Lib.hid (Bel.then HB8.out hb9)
            have HBJ9 := Lib.hid hb9
            have hc := (HC3.out.later HB9.out).2
            have hcl := (HC3.out.later HB9.out).1
            have hfc := (HF8.out.later hb9).2
            have hfcl := (HF8.out.later hb9).1
            clear hb9
            by_cases hlast : o ≤ 7
            · have hwo : IntKind.i64.wrap (o + 1) = o + 1 := IntWalk.i64_in _ (by omega)
              obtain ⟨cn, hcn⟩ : ∃ n, n = cntK fk o := ⟨_, rfl⟩
              have hci := cntK_in fk o
              rw [← hcn] at hci ⊢
              have hwc : IntKind.i64.wrap (cn + 1) = cn + 1 := IntWalk.i64_in _ (by omega)
              have hst := cntK_step (f := ⟨fk, fp, ffl, ms⟩) (o := o) hkk.1 hkk.2
              dsimp only at hst
              rw [← hcn] at hst
              obtain ⟨r1, hr1⟩ : ∃ r, r = fitsP D.pl k j o 0 := ⟨_, rfl⟩
              obtain ⟨r2, hr2⟩ : ∃ r, r = fitsP D.pl k j o arg := ⟨_, rfl⟩
              have HR1 := Lib.hid hr1
              have HR2 := Lib.hid hr2
              have HFP2 : Hid (fldP D.pl k j = some ⟨fk, fp, ffl, ms⟩) := Lib.hid (by rw [HFP.out, HPF.out])
              rcases hst with ⟨hop, hn⟩ | ⟨hop, hn⟩
              · have hway := fitWay HFP2.out arg hop
                dsimp only at hway
                rw [← hr1, ← hr2] at hway
                have HWAY := Lib.hid hway
                have HN := Lib.hid hn
                unfold FitWay at HWAY
                clear hway hn hop hr1 hr2 hcn hci
                rcases HWAY.out.1 with h1 | h1 <;> rcases HWAY.out.2 with h2 | ⟨h2, k1, k2, k3⟩ | ⟨h2, k1, k2, k3, k4⟩ | ⟨h2, k1, k2⟩
                all_goals
                  clear HWAY
                  subst h1 h2
                  go_wp2_with fail
                  refine (fits_is' D k j o 0 _ HR1.out.symm _ _ HTV.out HPV.out wr (HD3.out.later HB9.out) (HT3.out.later HB9.out) HL.out).mono ?_
                  rintro e10 w10 ⟨rfl, hb10⟩
                  have HB10 := Lib.hid (Bel.then HB9.out hb10)
                  have HBJ10 := Lib.hid (Bel.then HBJ9.out hb10)
                  clear hc hcl hfc hfcl
                  have hc := (HC3.out.later HB10.out).2
                  have hcl := (HC3.out.later HB10.out).1
                  clear hb10
                  go_wp2_with fail
                  refine (fits_is' D k j o arg _ HR2.out.symm _ _ HTV.out HPV.out w10 (HD3.out.later HB10.out) (HT3.out.later HB10.out) HL.out).mono ?_
                  rintro e11 w11 ⟨rfl, hb11⟩
                  have HB11 := Lib.hid (Bel.then HB10.out hb11)
                  have HBJ11 := Lib.hid (Bel.then HBJ10.out hb11)
                  clear hc hcl
                  have hfc := (HF8.out.later HBJ11.out).2
                  have hfcl := (HF8.out.later HBJ11.out).1
                  clear hb11
                  go_wp2_with fail
                  all_goals
                    go_roundw
                    case rel => exact ⟨o + 1, by omega, by omega, congrArg (Value.int IntKind.i64) (by omega), by rw [HN.out], HBJ11.out⟩
                    case measure => simp [intOf]; omega
              · have h1 := fitNo HFP2.out 0 hop
                have h2 := fitNo HFP2.out arg hop
                rw [← hr1] at h1
                rw [← hr2] at h2
                have HN := Lib.hid hn
                clear hn hop hr1 hr2 hcn hci
                subst h1 h2
                go_wp2_with fail
                refine (fits_is' D k j o 0 _ HR1.out.symm _ _ HTV.out HPV.out wr (HD3.out.later HB9.out) (HT3.out.later HB9.out) HL.out).mono ?_
                rintro e10 w10 ⟨rfl, hb10⟩
                have HB10 := Lib.hid (Bel.then HB9.out hb10)
                have HBJ10 := Lib.hid (Bel.then HBJ9.out hb10)
                clear hc hcl hfc hfcl
                have hc := (HC3.out.later HB10.out).2
                have hcl := (HC3.out.later HB10.out).1
                clear hb10
                go_wp2_with fail
                refine (fits_is' D k j o arg _ HR2.out.symm _ _ HTV.out HPV.out w10 (HD3.out.later HB10.out) (HT3.out.later HB10.out) HL.out).mono ?_
                rintro e11 w11 ⟨rfl, hb11⟩
                have HB11 := Lib.hid (Bel.then HB10.out hb11)
                have HBJ11 := Lib.hid (Bel.then HBJ10.out hb11)
                clear hc hcl
                have hfc := (HF8.out.later HBJ11.out).2
                have hfcl := (HF8.out.later HBJ11.out).1
                clear hb11
                have h51 : (o == 5 && ((2 : Int) == 0)) = false := by simp
                go_wp2_with fail
                all_goals
                  go_roundw
                  case rel => exact ⟨o + 1, by omega, by omega, congrArg (Value.int IntKind.i64) (by omega), by rw [HN.out], HBJ11.out⟩
                  case measure => simp [intOf]; omega
            · have ho8 : o = 8 := by omega
              subst ho8
              have HBend := Lib.hid (Bel.then HBJ8.out HBJ9.out)
              rcases cntK_end hkk.1 hkk.2 with ⟨k1, k2, k3⟩ | ⟨k1, k2, k3⟩
              all_goals
                rw [k3]
                clear k3
                go_wp2_with fail
                go_roundw
                case rel => exact ⟨j + 1, by omega, by go_num, HBend.out⟩
                case measure => simp [intOf]; omega
        · have hj4 : j = fs.length := by omega
          subst hj4
          clear hb3
          go_wp2_with fail
          go_roundw
          case rel => exact ⟨k + 1, by omega, by go_num, HB5.out⟩
          case measure => simp [intOf]; omega
    · have hk4 : k = nt := by omega
      subst hk4
      clear hb
      go_wp2_with fail
      refine (works06_any _ (HT3.out.later HBk.out)).mono ?_
      rintro e2 w4 ⟨rfl, hb⟩
      have HB4 := Lib.hid (Bel.then HB3.out (Bel.then HBk.out hb))
      clear hb
      go_wp2_with fail
      go_ret
      exact ⟨rfl, HB4.out⟩
end Go.Proofs.YtamnligooelmgaaDoor
