/- SchemaParts: the walk. -/
import Derived.Test.YtamnligooelmgaaDoorSChecks
import Derived.Test.YtamnligooelmgaaDoorPlParts
import Derived.Test.YtamnligooelmgaaDoorPick
import Derived.Deep.Cut
set_option maxRecDepth 100000
set_option maxRecDepth 100000
set_option linter.unusedVariables false
set_option linter.unusedSimpArgs false
namespace Go.Proofs.YtamnligooelmgaaDoor
open Go.RowKit Go.BigFrame

theorem run_oneT (A : Option Addr) (L c n : Nat) (h : n + 1 ≤ c) (W : World) :
    (Instr.sliceAt 22 (.slice A L c) (some (.int .i64 (n : Int))) (some (.int .i64 ((n : Int) + 1))) none).run Tryd.prog W = .ok (sliced A n (n + 1) c 1) W := by
  obtain ⟨i0, hi, hz0, hz1, hz2⟩ := info_parts infoTy
  have hu : Tryd.prog.underlying 22 = some (.slice (Tryd.prog.elem 22)) := by kernel_rfl
  have he : Tryd.prog.elem 22 = 45 := by kernel_rfl
  rw [run_sliceAt_slice (h := hu), run_slice_lh (ht := hu) (h0 := by omega) (h1 := by omega) (h2 := by omega), he]
  rw [show ((n : Int)).toNat = n from by omega, show ((n : Int) + 1).toNat = n + 1 from by omega]
  simp [sizeOf, typeInfo, hi, hz1, Result.andThen]
theorem run_upP (A : Option Addr) (L c m : Nat) (h : m ≤ c) (W : World) :
    (Instr.sliceAt 23 (.slice A L c) none (some (.int .i64 (m : Int))) none).run Tryd.prog W = .ok (sliced A 0 m c 5) W := by
  obtain ⟨i0, hi, hz0, hz1, hz2⟩ := info_parts infoPj
  have hu : Tryd.prog.underlying 23 = some (.slice (Tryd.prog.elem 23)) := by kernel_rfl
  have he : Tryd.prog.elem 23 = 47 := by kernel_rfl
  rw [run_sliceAt_slice (h := hu), run_slice_h (ht := hu) (h0 := by omega) (h2 := by omega), he]
  rw [show ((m : Int)).toNat = m from by omega]
  simp [sizeOf, typeInfo, hi, hz1, Result.andThen]
/-- One type out of a slice of types. -/
theorem cut_one {w : World} {B L c n : Nat} {A : Option Addr} {ts : List Ty} {t : Ty} (h : SlR 1 w B (.slice A L c) (ts.map Ty.cells)) (ht : ts[n]? = some t) :
    ∃ AY cY, n + 1 ≤ c ∧ sliced A n (n + 1) c 1 = .slice AY 1 cY ∧ SlR 1 w B (.slice AY 1 cY) ([t].map Ty.cells) := by
  obtain ⟨b, off, rfl, hb, hc, hx⟩ := h.at ht
  have hn := (List.getElem?_eq_some_iff.1 ht).1
  have e : (⟨b, off, none⟩ : Addr).add (n * 1) = ⟨b, off + n, none⟩ := by
    unfold Addr.add
    split
    · rename_i h0; have : n = 0 := by omega
      subst this; rfl
    · simp
  refine ⟨some ⟨b, off + n, none⟩, c - n, by omega, ?_, ?_⟩
  · unfold sliced
    rw [if_neg (by omega), Option.map_some, e, show n + 1 - n = 1 by omega]
  · refine .inr ⟨b, off + n, c - n, rfl, hb, by simp; omega, fun i r hr j u hu => ?_⟩
    cases i with
    | zero =>
      have : r = t.cells := by simpa using hr.symm
      subst this
      have := hx j u hu
      rw [Nat.mul_one] at this
      rw [Nat.zero_mul, Nat.add_zero]
      exact this
    | succ i => simp at hr
/-- The beginning of a row of projections. -/
theorem cut_row {w : World} {lo L c m : Nat} {A : Option Addr} {e : TypeId} {xs : List Value} (h : w.ownsRow lo e 5 (.slice A L c) L xs) (hm : m ≤ L) (hL : 0 < L) :
    ∃ AP cP, m ≤ c ∧ sliced A 0 m c 5 = .slice AP m cP ∧ w.ownsRow lo e 5 (.slice AP m cP) m (xs.take (m * 5)) ∧ AP = A := by
  rcases h.2 with ⟨_, h0⟩ | ⟨g, cap, cur, hv, hg, hh, hn, hcm, hcs, hx⟩
  · omega
  · injection hv with h1 h2 h3
    subst h1 h3
    have e0 : (⟨g, 0, none⟩ : Addr).add (0 * 5) = ⟨g, 0, none⟩ := by unfold Addr.add; simp
    refine ⟨some ⟨g, 0, none⟩, c, by omega, ?_, ⟨by rw [List.length_take, h.1]; omega, .inr ⟨g, c, cur, rfl, hg, hh, by omega, hcm, hcs, ?_⟩⟩, rfl⟩
    · unfold sliced
      rw [if_neg (by omega), Option.map_some, e0, Nat.sub_zero, Nat.sub_zero]
    · rw [← hx, List.take_take, show min (m * 5) (L * 5) = m * 5 by omega]
theorem OwnR.apart {sz sz' : Nat} {e e' : TypeId} {w : World} {lo lo' : Nat} {v u : Value} {rows rows' : List (List Value)} (h : OwnR sz e w lo v rows) (h' : OwnR sz' e' w lo' u rows') (hne : e ≠ e') {a : Nat} (ha : v.ownBlock = some a) : u.ownBlock ≠ some a := by
  intro hb
  rcases h.2.2 with ⟨h1, _⟩ | ⟨g, cap, cur, h1, _, h2, _⟩
  · rw [h1] at ha; simp [Value.ownBlock] at ha
  · rcases h'.2.2 with ⟨h3, _⟩ | ⟨g', cap', cur', h3, _, h4, _⟩
    · rw [h3] at hb; simp [Value.ownBlock] at hb
    · rw [h1] at ha
      rw [h3] at hb
      have e1 : g = a := by simpa [Value.ownBlock] using ha
      have e2 : g' = a := by simpa [Value.ownBlock] using hb
      subst e1 e2
      rw [h2] at h4
      injection h4 with h4
      injection h4 with _ h5
      exact hne h5
theorem OwnR.setNe {sz : Nat} {e : TypeId} {w : World} {lo q : Nat} {v : Value} {rows : List (List Value)} (h : OwnR sz e w lo v rows) (hq : v.ownBlock ≠ some q) (o : Nat) (x : Value) : OwnR sz e (w.setCell ⟨q, o, none⟩ x) lo v rows := by
  refine ⟨h.1, h.2.1, ?_⟩
  rcases h.2.2 with h2 | ⟨b, cap, cur, hv, hg, hh, r⟩
  · exact .inl h2
  · refine .inr ⟨b, cap, cur, hv, hg, (Below.heap_setCell _ _ _ _ ?_).trans hh, r⟩
    intro hb
    have : b = q := hb
    subst this
    exact hq (by rw [hv]; rfl)
/-- The first field's kind written over. -/
theorem set_first {w : World} {B L c g : Nat} {f : Fd} {r : List Fd} (h : SlR 4 w B (.slice (some ⟨g, 0, none⟩) L c) ((f :: r).map Fd.cells)) (x : Int) : SlR 4 (w.setCell ⟨g, 0, none⟩ (.int .i64 x)) B (.slice (some ⟨g, 0, none⟩) L c) (((⟨x, f.p, f.fl, f.ms, f.v⟩ : Fd) :: r).map Fd.cells) := by
  rcases h with ⟨A, c', hv, hr⟩ | ⟨b, off, c', hv, hb, hc, hx⟩
  · simp at hr
  · injection hv with h1 h2 h3
    injection h1 with h1
    injection h1 with h1 h4
    subst h1 h3 h4
    refine .inr ⟨g, 0, c, by rw [h2]; simp, hb, by simpa using hc, fun i row hi j u hu => ?_⟩
    cases i with
    | zero =>
      have hrow : row = Fd.cells ⟨x, f.p, f.fl, f.ms, f.v⟩ := by simpa using hi.symm
      subst hrow
      have h0 := hx 0 f.cells rfl
      cases j with
      | zero =>
        have : u = .int .i64 x := by simpa using hu.symm
        subst this
        exact World.cell?_setCell_same _ _ _ (h0 0 _ rfl)
      | succ j =>
        rw [World.cell?_setCell_other w ⟨g, 0, none⟩ ⟨g, 0 + 0 * 4 + (j + 1), none⟩ _ (by simp)]
        exact h0 (j + 1) u (by simpa using hu)
    | succ i =>
      rw [World.cell?_setCell_other w ⟨g, 0, none⟩ ⟨g, 0 + (i + 1) * 4 + j, none⟩ _ (by simp)]
      exact hx (i + 1) row (by simpa using hi) j u hu
/-- Declarations whose type n has another first kind. -/
theorem own_set {w : World} {lo n g : Nat} {F : Dc} (h : F.Own w lo) (hr : Rise F.ts) {f : Fd} {r : List Fd} {L c : Nat} (ht : F.ts[n]? = some ⟨f :: r, .slice (some ⟨g, 0, none⟩) L c⟩) (x : Int) :
    (⟨F.ts.set n ⟨⟨x, f.p, f.fl, f.ms, f.v⟩ :: r, .slice (some ⟨g, 0, none⟩) L c⟩, F.ps, F.tv, F.pv⟩ : Dc).In (w.setCell ⟨g, 0, none⟩ (.int .i64 x)) (w.setCell ⟨g, 0, none⟩ (.int .i64 x)).heap.size := by
  have hs : (w.setCell ⟨g, 0, none⟩ (.int .i64 x)).heap.size = w.heap.size := by simp [World.setCell]
  have hn := (List.getElem?_eq_some_iff.1 ht).1
  have htm := List.mem_of_getElem? ht
  have hg : (Value.slice (some ⟨g, 0, none⟩) L c).ownBlock = some g := rfl
  have hrow := (h.2.1 _ htm).1
  have hmv : ∀ (u : Ty) (k : Fd), u ∈ F.ts → k ∈ u.fs → k.In (w.setCell ⟨g, 0, none⟩ (.int .i64 x)) (w.setCell ⟨g, 0, none⟩ (.int .i64 x)).heap.size := fun u k hu hk =>
    (OwnR.setNe ((h.2.1 u hu).2 k hk) (OwnR.apart hrow ((h.2.1 u hu).2 k hk) (by decide) hg) 0 _).sl
  have hsame : (F.ts.set n ⟨⟨x, f.p, f.fl, f.ms, f.v⟩ :: r, .slice (some ⟨g, 0, none⟩) L c⟩).map Ty.cells = F.ts.map Ty.cells := by
    rw [List.map_set]
    refine List.ext_getElem? fun i => ?_
    by_cases hi : i = n
    · subst hi
      rw [List.getElem?_set_self (by simpa using hn), List.getElem?_map, ht]
      rfl
    · rw [List.getElem?_set_ne (fun h => hi h.symm)]
  refine ⟨?_, ?_, (OwnR.setNe h.2.2 (OwnR.apart hrow h.2.2 (by decide) hg) 0 _).sl⟩
  · dsimp only
    rw [hsame]
    exact (OwnR.setNe h.1 (OwnR.apart hrow h.1 (by decide) hg) 0 _).sl
  · intro u hu
    dsimp only at hu
    obtain ⟨i, hi⟩ := List.mem_iff_getElem?.1 hu
    by_cases hin : i = n
    · subst hin
      rw [List.getElem?_set_self hn] at hi
      have : u = ⟨⟨x, f.p, f.fl, f.ms, f.v⟩ :: r, .slice (some ⟨g, 0, none⟩) L c⟩ := by simpa using hi.symm
      subst this
      refine ⟨?_, fun k hk => ?_⟩
      · rw [hs]; exact set_first hrow.sl x
      · rcases List.mem_cons.1 hk with rfl | hk
        · exact hmv _ f htm (by simp)
        · exact hmv _ k htm (List.mem_cons_of_mem _ hk)
    · rw [List.getElem?_set_ne (fun h => hin h.symm)] at hi
      have hum := List.mem_of_getElem? hi
      refine ⟨(OwnR.setNe (h.2.1 u hum).1 (fun hb => ?_) 0 _).sl, fun k hk => hmv u k hum hk⟩
      rcases Nat.lt_or_ge i n with hlt | hge
      · have := hr i n _ _ g g hlt hi ht hb hg
        omega
      · have := hr n i _ _ g g (by omega) ht hi hg hb
        omega
/-- A row of the old blocks stays where a row of another type grows and a newer block is written. -/
theorem OwnR.stays {sz sz' n B q : Nat} {e e' : TypeId} {w4 w w' : World} {lo : Nat} {v u : Value} {rows : List (List Value)} {cs : List Value} (h : OwnR sz e w4 lo v rows) (hb : Below w4.heap.size w4 w) (hr : w.ownsRow B e' sz' u n cs) (hne : e ≠ e') (hg : w.grownBy w' u.ownBlock) (hq : w4.heap.size ≤ q) (o : Nat) (x : Value) : OwnR sz e (w'.setCell ⟨q, o, none⟩ x) lo v rows :=
  ((h.later hb).grown hr hne hg).setNe (fun he => by have := (World.ownsRow.lt h.2 q he).2; omega) o x
theorem Ty.Own.stays {n B q : Nat} {w4 w w' : World} {lo : Nat} {t : Ty} {u : Value} {cs : List Value} (h : t.Own w4 lo) (hb : Below w4.heap.size w4 w) (hr : w.ownsRow B 47 5 u n cs) (hg : w.grownBy w' u.ownBlock) (hq : w4.heap.size ≤ q) (o : Nat) (x : Value) : t.Own (w'.setCell ⟨q, o, none⟩ x) lo :=
  ⟨h.1.stays hb hr (by decide) hg hq o x, fun f hf => OwnR.stays (h.2 f hf) hb hr (by decide) hg hq o x⟩
theorem len_set {D F : Dc} (hL : LenD F) {n : Nat} {f : Fd} {r : List Fd} {v tv pv : Value} {ps : List Pj} (ht : F.ts[n]? = some ⟨f :: r, v⟩) (x : Int) : LenD ⟨F.ts.set n ⟨⟨x, f.p, f.fl, f.ms, f.v⟩ :: r, v⟩, ps, tv, pv⟩ := by
  have h0 := hL.2 _ (List.mem_of_getElem? ht)
  refine ⟨by simpa using hL.1, fun t htm => ?_⟩
  rcases List.mem_or_eq_of_mem_set htm with h | rfl
  · exact hL.2 t h
  · refine ⟨h0.1, fun k hk => ?_⟩
    rcases List.mem_cons.1 hk with rfl | hk
    · exact h0.2 f (by simp)
    · exact h0.2 k (List.mem_cons_of_mem _ hk)
set_option maxHeartbeats 16000000 in
theorem schemaParts_any (D : Dc) (ti op arg : Int) (w : World) (hD : D.In w w.heap.size) (hT : Tab w) (hi0 : -9223372036854775808 ≤ ti) (hi1 : ti ≤ 9223372036854775807) :
    Calls Tryd.prog 4 #[declV D, .int .i64 ti, .int .i64 op, .int .i64 arg] w fun e w' => e = .returned (.bool true) ∧ Below w.heap.size w w' := by
  obtain ⟨i0, hi, hz0, hz1, hz2⟩ := info_parts infoPj
  obtain ⟨A, c, h1⟩ := hD.1.shapeL
  obtain ⟨A', c', h2⟩ := hD.2.2.shapeL
  obtain ⟨nt, hnt⟩ : ∃ n, n = D.ts.length := ⟨_, rfl⟩
  obtain ⟨np, hnp⟩ : ∃ n, n = D.ps.length := ⟨_, rfl⟩
  rw [← hnt] at h1
  rw [← hnp] at h2
  dsimp only [declV]
  rw [h1, h2]
  have HTV := Lib.hid h1
  have HPV := Lib.hid h2
  have HNT := Lib.hid hnt
  have HNP := Lib.hid hnp
  clear hnp h1 h2 hnt
  obtain ⟨W, hW⟩ : ∃ W, W = w.alloc (.cells #[.slice A nt c, .slice A' np c'] 25) := ⟨_, rfl⟩
  have hB : Below w.heap.size w W := by rw [hW]; exact Bel.grew (Below.refl _ _) _
  have hC := Has.new w #[.slice A nt c, .slice A' np c'] 25
  rw [← hW] at hC
  have HD := Lib.hid (hD.later hB)
  have HT := Lib.hid (hT.later hB)
  have HB := Lib.hid hB
  have HC := Lib.hid hC
  have HW := Lib.hid hW
  clear hD hT hB hC hW
  go_enter Tryd.func4, Tryd.ntmps4
  go_wp2_with fail
  rw [← HW.out]
  clear HW
  have hlong := long06_any D W HD.out
  dsimp only [declV] at hlong
  rw [HTV.out, HPV.out] at hlong
  refine hlong.mono ?_
  clear hlong
  rintro e1 w2 ⟨bl, rfl, hsh, hb⟩
  have HB2 := Lib.hid (Bel.then HB.out hb)
  have HC2 := Lib.hid (HC.out.later hb)
  have HD2 := Lib.hid (HD.out.later hb)
  have HT2 := Lib.hid (HT.out.later hb)
  clear hb HB HC HD HT
  cases bl
  rotate_left
  · clear hsh
    go_wp2_with fail
    refine (check_is' emptyD 3 rfl _ _ rfl rfl _ ⟨SlR.none_, (by intro t ht; simp [emptyD] at ht), SlR.none_⟩ HT2.out ⟨by simp [emptyD], by simp [emptyD]⟩).mono ?_
    rintro e0 w0 ⟨rfl, hb0⟩
    have HB0 := Lib.hid (Bel.then HB2.out hb0)
    have HT0 := Lib.hid (HT2.out.later hb0)
    clear hb0
    go_wp2_with fail
    refine (works06_any _ HT0.out).mono ?_
    rintro e2 w3 ⟨rfl, hb⟩
    have HB3 := Lib.hid (Bel.then HB0.out hb)
    clear hb
    go_wp2_with fail
    go_ret
    exact ⟨rfl, HB3.out⟩
  have HL := Lib.hid (hsh rfl).len_
  clear hsh
  have hc := HC2.out.2
  have hcl := HC2.out.1
  go_wp2_with fail
  have hchk := check_any D w2 HD2.out HT2.out HL.out
  dsimp only [declV] at hchk
  rw [HTV.out, HPV.out] at hchk
  refine hchk.mono ?_
  clear hchk
  rintro e2 w3 ⟨ck, rfl, hck, hb⟩
  have HB3 := Lib.hid (Bel.then HB2.out hb)
  have HC3 := Lib.hid (HC2.out.later hb)
  have HD3 := Lib.hid (HD2.out.later hb)
  have HT3 := Lib.hid (HT2.out.later hb)
  clear hb HB2 HC2 HD2 HT2 hc hcl
  by_cases hk0 : ck = 0
  rotate_left
  · have hkb : (ck != 0) = true := by simp [hk0]
    clear hk0 hck
    go_wp2_with fail
    refine (check_is' emptyD 3 rfl _ _ rfl rfl _ ⟨SlR.none_, (by intro t ht; simp [emptyD] at ht), SlR.none_⟩ HT3.out ⟨by simp [emptyD], by simp [emptyD]⟩).mono ?_
    rintro e0 w0 ⟨rfl, hb0⟩
    have HB0 := Lib.hid (Bel.then HB3.out hb0)
    have HT0 := Lib.hid (HT3.out.later hb0)
    clear hb0
    go_wp2_with fail
    refine (works06_any _ HT0.out).mono ?_
    rintro e2 w3 ⟨rfl, hb⟩
    have HB5 := Lib.hid (Bel.then HB0.out hb)
    clear hb
    go_wp2_with fail
    go_ret
    exact ⟨rfl, HB5.out⟩
  subst hk0
  have HZ : Hid (chkP D.pl = 0) := Lib.hid hck.val.symm
  have hmany := (many_false.1 (chk0 HZ.out).1)
  have hlt1 : 1 ≤ nt := by
    have h1 := hmany.1.1
    have h2 : D.pl.ts.length = D.ts.length := List.length_map _
    have := HNT.out
    omega
  have hpl8 : np ≤ 8 := by
    have h1 := hmany.2.1
    have h2 : D.pl.ps = D.ps := rfl
    rw [h2] at h1
    have := HNP.out
    omega
  have hmt : ∀ t ∈ D.ts, 1 ≤ t.fs.length := fun t ht => by
    have h1 := hmany.2.2 t.pl (List.mem_map_of_mem ht)
    unfold manyTP at h1
    rw [Bool.or_eq_false_iff, decide_eq_false_iff_not] at h1
    have h2 := (Classical.not_not.1 h1.1).1
    have h3 : t.pl.length = t.fs.length := List.length_map _
    omega
  have HMT := Lib.hid hmt
  clear hck hmany hmt
  have hnt0 : ((nt : Int) == 0) = false := beqf (by omega)
  have htl : (nt : Int) ≤ 1099511627776 := by have := HL.out.1; have := HNT.out; omega
  have HLP : Hid (D.ps.length ≤ 1099511627776) := Lib.hid (by have := HNP.out; omega)
  have hc := HC3.out.2
  have hcl := HC3.out.1
  go_wp2_with fail
  have hcopy := copyDecl_any D w3 HD3.out HL.out HLP.out
  dsimp only [declV] at hcopy
  rw [HTV.out, HPV.out] at hcopy
  refine hcopy.mono ?_
  clear hcopy
  rintro e3 w4 ⟨E, rfl, hE, hpl, _, hb⟩
  dsimp only [declV]
  obtain ⟨B, d, h3⟩ := hE.inn.1.shapeL
  obtain ⟨B', d', h4⟩ := hE.inn.2.2.shapeL
  have hpe : E.ps = D.ps := congrArg PD.ps hpl
  have hte : E.ts.length = D.ts.length := by have := congrArg (fun p => p.ts.length) hpl; unfold Dc.pl at this; simpa using this
  rw [hte, ← HNT.out] at h3
  rw [hpe, ← HNP.out] at h4
  rw [h3, h4]
  have HEV := Lib.hid h3
  have HQV := Lib.hid h4
  have HPL := Lib.hid hpl
  have HPE := Lib.hid hpe
  obtain ⟨W4, hW4⟩ : ∃ W4, W4 = w4.alloc (.cells #[.slice B nt d, .slice B' np d'] 25) := ⟨_, rfl⟩
  have hgr4 : Below w4.heap.size w4 W4 := by rw [hW4]; exact Bel.grew (Below.refl _ _) _
  have hx4 : Has W4 w4.heap.size #[.slice B nt d, .slice B' np d'] := by rw [hW4]; exact Has.new _ _ _
  have hxf4 : ∀ o, W4.frozen? ⟨w4.heap.size, o, none⟩ = false := by intro o; rw [hW4]; simp [go_sem]
  have hb34 := Bel.then hb hgr4
  have HB34 := Lib.hid hb34
  have HE4 := Lib.hid (hE.later hgr4)
  have HEW : Hid (E.Own w4 w3.heap.size) := Lib.hid hE
  have HGR4 := Lib.hid hgr4
  have HPLT : Hid (∀ a, (Value.slice B' np d').ownBlock = some a → a < w4.heap.size) := Lib.hid fun a ha => by
    have := World.ownsRow.lt hE.2.2.2 a (by rw [h4]; exact ha)
    exact this.2
  have HX4 := Lib.hid hx4
  have HXF4 := Lib.hid hxf4
  have HDT : Hid (W4.heap[w4.heap.size]? = some (.cells #[.slice B nt d, .slice B' np d'] 25 (0, 0))) := by rw [hW4]; exact Lib.hid (heap_alloc_new w4 _)
  have HW4 := Lib.hid hW4
  have hs34 : w3.heap.size ≤ w4.heap.size := hb.size
  have HS34 := Lib.hid hs34
  have hc4 := (HC3.out.later hb34).2
  have hc4l := (HC3.out.later hb34).1
  have hx4c := hx4.2
  have hx4l := hx4.1
  clear hE hpl hb h3 h4 hpe hte hgr4 hx4 hxf4 hW4 hc hcl hb34 hs34
  go_upto_region 4 with fail
  rw [← HW4.out]
  clear HW4
  obtain ⟨m, hm⟩ : ∃ m, m = np - 1 := ⟨_, rfl⟩
  have hrowE : W4.ownsRow w3.heap.size 47 5 (.slice B' np d') np ((D.ps.map Pj.cells).flatten) := by
    have h := HE4.out.2.2.2
    rw [HPE.out, HQV.out, List.length_map, ← HNP.out] at h
    exact h
  have HRE := Lib.hid hrowE
  have hmp : (np = 0 ∧ m = 0) ∨ (0 < np ∧ np = m + 1) := by omega
  have HM8 : Hid (m + 1 ≤ 8 ∧ m ≤ D.ps.length) := Lib.hid (by have := HNP.out; omega)
  clear hrowE hm
  have hcase : ∃ (BP : Option Addr) (dP : Nat) (W5 : World), W5.ownsRow w3.heap.size 47 5 (.slice BP m dP) m (((D.ps.take m).map Pj.cells).flatten) ∧ Has W5 w4.heap.size #[.slice B nt d, .slice BP m dP] ∧ (∀ o, W5.frozen? ⟨w4.heap.size, o, none⟩ = false) ∧ Below w4.heap.size W4 W5 ∧ W5.heap.size = W4.heap.size ∧ (∀ a, (Value.slice BP m dP).ownBlock = some a → a < w4.heap.size) ∧
      ((np = 0 ∧ W5 = W4) ∨ (0 < np ∧ np = m + 1 ∧ m ≤ d' ∧ sliced B' 0 m d' 5 = .slice BP m dP ∧ W5 = W4.setCell ⟨w4.heap.size, 1, none⟩ (.slice BP m dP))) := by
    rcases hmp with ⟨h0, rfl⟩ | ⟨h0, h1⟩
    · subst h0
      have hnil : D.ps = [] := List.eq_nil_of_length_eq_zero HNP.out.symm
      refine ⟨B', d', W4, ?_, HX4.out, HXF4.out, Below.refl _ _, rfl, HPLT.out, .inl ⟨rfl, rfl⟩⟩
      have := HRE.out
      rw [hnil] at this ⊢
      exact this
    · obtain ⟨AP, cP, k1, k2, k3, k4⟩ := cut_row (m := m) HRE.out (by omega) h0
      refine ⟨AP, cP, W4.setCell ⟨w4.heap.size, 1, none⟩ (.slice AP m cP), ?_, HX4.out.set_ (o := 1) (show 1 < 2 by decide) _, fun o => by rw [World.frozen?_setCell]; exact HXF4.out o, Below.setCell (p := ⟨w4.heap.size, 1, none⟩) (Below.refl _ _) (Nat.le_refl _) _, by simp [World.setCell], fun a ha => HPLT.out a (by rw [← ha, k4]; cases B' <;> rfl), .inr ⟨h0, h1, k1, k2, rfl⟩⟩
      have e : ((D.ps.map Pj.cells).flatten).take (m * 5) = ((D.ps.take m).map Pj.cells).flatten := by
        have hsp : (D.ps.map Pj.cells).flatten = ((D.ps.take m).map Pj.cells).flatten ++ ((D.ps.drop m).map Pj.cells).flatten := by
          rw [← List.flatten_append, ← List.map_append, List.take_append_drop]
        rw [hsp, List.take_left']
        rw [flat_len (pj_rows _), List.length_map, List.length_take]
        have := HM8.out.2
        omega
      rw [e] at k3
      have hne : (Value.slice AP m cP).ownBlock ≠ some w4.heap.size := fun hb => by
        have := HPLT.out w4.heap.size (by rw [← hb, k4]; cases B' <;> rfl)
        omega
      have := OwnR.setNe (sz := 5) (rows := (D.ps.take m).map Pj.cells) ⟨pj_rows _, by rw [List.length_map, List.length_take, Nat.min_eq_left HM8.out.2]; exact k3⟩ hne 1 (.slice AP m cP)
      have := this.2
      rw [List.length_map, List.length_take, Nat.min_eq_left HM8.out.2] at this
      exact this
  obtain ⟨BP, dP, W5, hrow5, hx5, hxf5, hb45, hs45, hblt, hway⟩ := hcase
  have HBLT := Lib.hid hblt
  clear hblt
  have HR5 := Lib.hid hrow5
  have HX5 := Lib.hid hx5
  have HXF5 := Lib.hid hxf5
  have HB45 := Lib.hid hb45
  have HS45 := Lib.hid hs45
  have HWAY := Lib.hid hway
  have hnpI : (np : Int) ≤ 8 := by omega
  clear hrow5 hx5 hxf5 hb45 hs45 hway hmp
  rcases HWAY.out with ⟨h0, hw5⟩ | ⟨h0, h1, h2, h3, hw5⟩
  case' inl =>
    have hq : (np : Int) ≤ 0 := by omega
    have HW5 := Lib.hid hw5
    clear hw5 h0
    go_upto_region 6 with fail
    rw [← HW5.out]
    clear HW5 hq HWAY hc4 hc4l hx4c hx4l
  case' inr =>
    have hq : 0 < (np : Int) := by omega
    have hwm : IntKind.i64.wrap ((np : Int) - 1) = (m : Int) := by rw [IntWalk.i64_in _ (by omega)]; omega
    have hcut := fun W => run_upP B' np d' m h2 W
    rw [h3] at hcut
    have hxf4 := HXF4.out
    have HW5 := Lib.hid hw5
    clear hw5 h0 h1 h2 h3
    go_upto_region 6 with fail
    rw [← HW5.out]
    clear HW5 hq HWAY hc4 hc4l hx4c hx4l hwm hcut hxf4
  all_goals
    have HB35 := Lib.hid (HB34.out.trans (HB45.out.mono HS34.out))
    have HC5 := Lib.hid (HC3.out.later HB35.out)
    have HD5 := Lib.hid (HD3.out.later HB35.out)
    have HT5 := Lib.hid (HT3.out.later HB35.out)
    have HE5 := Lib.hid (HEW.out.later (HGR4.out.trans HB45.out))
    have hd5 := HC5.out.2
    have hd5l := HC5.out.1
    go_wp2_with fail
    refine (pick_any ti nt W5 hi0 hi1 (by omega) (by omega)).mono ?_
    rintro e6 w6 ⟨tn, rfl, p0, p1, rfl⟩
    obtain ⟨n, rfl⟩ := Int.eq_ofNat_of_zero_le p0
    have hn : n < nt := by omega
    obtain ⟨t, ht⟩ : ∃ t, D.ts[n]? = some t := ⟨_, List.getElem?_eq_getElem (by rw [← HNT.out]; exact hn)⟩
    have htm := List.mem_of_getElem? ht
    have hD51 := HD5.out.1
    rw [HTV.out] at hD51
    obtain ⟨AY, cY, hy1, hy2, hy3⟩ := cut_one hD51 ht
    have hcutY := fun W => run_oneT A nt c n hy1 W
    rw [hy2] at hcutY
    have hwn : IntKind.i64.wrap ((n : Int) + 1) = (n : Int) + 1 := IntWalk.i64_in _ (by omega)
    have HTE := Lib.hid ht
    have HTIN := Lib.hid (HD5.out.2.1 t htm)
    have HTLN := Lib.hid (HL.out.2 t htm)
    have HTM := Lib.hid (HMT.out t htm)
    have HTMM := Lib.hid htm
    obtain ⟨W6, hW6⟩ : ∃ W6, W6 = W5.alloc (.cells #[.slice AY 1 cY, .slice none 0 0] 25) := ⟨_, rfl⟩
    have hgr6 : Below W5.heap.size W5 W6 := by rw [hW6]; exact Bel.grew (Below.refl _ _) _
    have hy6 : Has W6 W5.heap.size #[.slice AY 1 cY, .slice none 0 0] := by rw [hW6]; exact Has.new _ _ _
    have HW6 := Lib.hid hW6
    have HY6 := Lib.hid hy6
    have HYS := Lib.hid (SlR.later hy3 hgr6)
    have HB56 := Lib.hid hgr6
    have hx5c := HX5.out.2
    have hx5l := HX5.out.1
    clear hD51 ht htm hy1 hy2 hy3 hW6 hgr6 hy6 p0
    go_upto_region 8 with fail
    rw [← HW6.out]
    clear HW6 hd5 hd5l hx5c hx5l hcutY
    have HX6 := Lib.hid (HX5.out.later HB56.out)
    have HC6 := Lib.hid (HC5.out.later HB56.out)
    have HD6 := Lib.hid (HD5.out.later HB56.out)
    have HT6 := Lib.hid (HT5.out.later HB56.out)
    have HE6 := Lib.hid (HE5.out.later HB56.out)
    have HR6 := Lib.hid (row_later HR5.out HB56.out)
    have HLE : Hid (LenD E) := Lib.hid (HL.out.pl HPL.out)
    have hets : E.ts.map Ty.pl = D.ts.map Ty.pl := congrArg PD.ts HPL.out
    have HETS := Lib.hid hets
    have HPSL : Hid ((D.ps.take m).length = m) := Lib.hid (by rw [List.length_take]; exact Nat.min_eq_left HM8.out.2)
    have hxin : (⟨E.ts, D.ps.take m, .slice B nt d, .slice BP m dP⟩ : Dc).In W6 W6.heap.size := by
      refine ⟨?_, HE6.out.inn.2.1, OwnR.sl (sz := 5) (e := 47) (B := w3.heap.size) ⟨pj_rows _, by rw [List.length_map, HPSL.out]; exact HR6.out⟩⟩
      have := HE6.out.inn.1
      rw [HEV.out] at this
      exact this
    have HXIN := Lib.hid hxin
    have HYIN : Hid ((⟨[t], [], .slice AY 1 cY, .slice none 0 0⟩ : Dc).In W6 W6.heap.size) := Lib.hid ⟨HYS.out, fun u hu => by
      have : u = t := by simpa using hu
      subst this
      exact HTIN.out.later HB56.out, SlR.none_⟩
    have HXC : Hid (chkP (Dc.pl ⟨E.ts, D.ps.take m, .slice B nt d, .slice BP m dP⟩) = 0) := Lib.hid (by
      have := chk_fewer (ts := D.ts.map Ty.pl) (ps := D.ps) HZ.out m
      unfold Dc.pl
      dsimp only
      rw [HETS.out]
      exact this)
    have HYC : Hid (chkP (Dc.pl ⟨[t], [], .slice AY 1 cY, .slice none 0 0⟩) = 0) := Lib.hid (chk_one (ts := D.ts.map Ty.pl) (ps := D.ps) HZ.out (List.mem_map_of_mem HTMM.out))
    have HYL : Hid (LenD ⟨[t], [], .slice AY 1 cY, .slice none 0 0⟩) := Lib.hid ⟨by simp, fun u hu => by
      have : u = t := by simpa using hu
      subst this
      exact HTLN.out⟩
    have hx6 := HX6.out.2
    have hx6l := HX6.out.1
    clear hets hxin
    go_wp2_with fail
    refine (check_is' ⟨E.ts, D.ps.take m, .slice B nt d, .slice BP m dP⟩ 0 HXC.out _ _ rfl rfl W6 HXIN.out HT6.out HLE.out).mono ?_
    rintro e7 w7 ⟨rfl, hb7⟩
    have HB7 := Lib.hid hb7
    have hy7 := (HY6.out.later hb7).2
    have hy7l := (HY6.out.later hb7).1
    clear hb7 hx6 hx6l
    go_wp2_with fail
    refine (check_is' ⟨[t], [], .slice AY 1 cY, .slice none 0 0⟩ 0 HYC.out _ _ rfl rfl w7 (HYIN.out.later HB7.out) (HT6.out.later HB7.out) HYL.out).mono ?_
    rintro e8 w8 ⟨rfl, hb8⟩
    have HB68 := Lib.hid (Bel.then HB7.out hb8)
    clear hb8 hy7 hy7l HB7
    go_wp2_with fail
    -- the loop
    have hD61 := HD6.out.1
    rw [HTV.out] at hD61
    obtain ⟨b, off, rfl, hbb, hcap, hcx⟩ := hD61.at HTE.out
    obtain ⟨A2, c2, hfv⟩ := HTIN.out.1.shapeL
    obtain ⟨nf, hnf⟩ : ∃ n, n = t.fs.length := ⟨_, rfl⟩
    rw [← hnf] at hfv
    have hct := hcx 0 t.v rfl
    rw [Nat.mul_one, Nat.add_zero, hfv] at hct
    have HCT := Lib.hid hct
    have HBB := Lib.hid hbb
    have HFV := Lib.hid hfv
    have HNF := Lib.hid hnf
    have hfl : (nf : Int) ≤ 1099511627776 := by have := HTLN.out.1; omega
    have hf1 : 1 ≤ nf := by have := HTM.out; omega
    have hnI : (n : Int) < (nt : Int) := by omega
    clear hD61 hcap hcx hct hfv hbb hnf
    go_loopw [11] (fun i wr => ∃ o : Int, -1 ≤ o ∧ o ≤ (nf : Int) + 1 ∧ i = .int .i64 o ∧ Below w8.heap.size w8 wr) (fun i _ => ((nf : Int) + 1 - intOf i).toNat)
    case atStart => exact ⟨-1, by omega, by omega, rfl, Below.refl _ _⟩
    case round =>
      obtain ⟨o, ho0, ho1, rfl, hb9⟩ := hrel
      have HBJ := Lib.hid hb9
      have HB9 := Lib.hid (Bel.then HB68.out hb9)
      have HC9 := Lib.hid (HC6.out.later HB9.out)
      have HX9 := Lib.hid (HX6.out.later HB9.out)
      have HD9 := Lib.hid (HD6.out.later HB9.out)
      have HT9 := Lib.hid (HT6.out.later HB9.out)
      have hc := HC9.out.2
      have hcl := HC9.out.1
      have hct := (HB9.out.cell (p := ⟨b, off + n, none⟩) HBB.out).trans HCT.out
      have hbw : b < wr.heap.size := by have := HBB.out; have := HB9.out.size; omega
      clear hb9
      by_cases hlast : o ≤ (nf : Int)
      · have hy := (HY6.out.later HB9.out).2
        have hyl := (HY6.out.later HB9.out).1
        obtain ⟨r, hr⟩ : ∃ r, r = fitsP D.pl n o op arg := ⟨_, rfl⟩
        have HR1 := Lib.hid hr
        have HR2 : Hid (fitsP (Dc.pl ⟨[t], [], .slice AY 1 cY, .slice none 0 0⟩) 0 o op arg = r) := Lib.hid (by
          rw [hr]
          exact fits_one (ts := D.ts.map Ty.pl) (ps := D.ps) (by rw [List.getElem?_map, HTE.out]; rfl) o op arg)
        have hwo : IntKind.i64.wrap (o + 1) = o + 1 := IntWalk.i64_in _ (by omega)
        have HYI := Lib.hid (HYIN.out.later HB9.out)
        clear hr
        go_wp2_with fail
        refine wp_region_later (by kernel_rfl) (by kernel_rfl) ?_
        repeat (any_goals (first | go_big_quiet_step (first
          | (go_at_call 15; have hC := fits_is' D n o op arg r HR1.out.symm _ _ HTV.out HPV.out (Later.w ‹_›) (HD9.out.later (Later.h ‹_›)) (HT9.out.later (Later.h ‹_›)) HL.out; with_reducible exact Later.call hC)
          | (go_at_call 15; have hC := fits_is' ⟨[t], [], .slice AY 1 cY, .slice none 0 0⟩ 0 o op arg r HR2.out _ _ rfl rfl (Later.w ‹_›) (HYI.out.later (Later.h ‹_›)) (HT9.out.later (Later.h ‹_›)) HYL.out; with_reducible exact Later.call hC))))
        refine wpQuiet_nil ?_
        intro x
        obtain ⟨w10, hb10⟩ := x
        dsimp only
        have HBJ10 := Lib.hid (Bel.then HBJ.out hb10)
        clear hb10 hc hcl hct hbw hy hyl
        go_wp2_with fail
        go_roundw
        case rel => exact ⟨o + 1, by omega, by omega, congrArg (Value.int IntKind.i64) (by omega), HBJ10.out⟩
        case measure => simp [intOf]; omega
      · have ho8 : o = (nf : Int) + 1 := by omega
        subst ho8
        obtain ⟨W9, rfl⟩ : ∃ W, W = wr := ⟨_, rfl⟩
        have hx := HX9.out.2
        have hxl := HX9.out.1
        have hxf : ∀ o, W9.frozen? ⟨w4.heap.size, o, none⟩ = false := fun o => ((Bel.then HB56.out HB9.out).frozen (p := ⟨w4.heap.size, o, none⟩) HX5.out.1).trans (HXF5.out o)
        have HXF9 := Lib.hid hxf
        go_upto_region 15 with fail
        clear hct hbw
        obtain ⟨xs, hxs⟩ : ∃ xs, xs = ((D.ps.take m).map Pj.cells).flatten := ⟨_, rfl⟩
        have hrow9 : W9.ownsRow w3.heap.size 47 5 (.slice BP m dP) m xs := by
          rw [hxs]
          exact row_later HR6.out HB9.out
        have HXS := Lib.hid hxs
        have HR9 := Lib.hid hrow9
        have hmx : m + 1 ≤ 8 := HM8.out.1
        have hsz9 : w4.heap.size < W9.heap.size := HX9.out.1
        have HS9 : Hid (w3.heap.size ≤ W9.heap.size) := Lib.hid (by have := HS34.out; omega)
        have hne9 : w4.heap.size ≠ W9.heap.size := by omega
        have HFAR : Hid (some w4.heap.size ≠ (Value.slice BP m dP).ownBlock) := Lib.hid (fun he => by have := HBLT.out w4.heap.size he.symm; omega)
        clear hrow9 hxs
        go_upto_region 16 with (at_builtin; (refine wpList_append_lies _ rfl _ _ 23 rfl w3.heap.size 47 i0 _ 5 40 Tryd.underlying23 hi hz0 hz1 hz2 rfl (by decide) (.slice BP m dP) m xs rfl (HR9.out.alloc _) ⟨W9.heap.size, 0, none⟩ 1 1 [.int .i64 nt, .int .i64 0, .int .i64 1, .int .i64 0, .int .i64 2] rfl rfl (cells_newL _ _ _) (by intro u hu; simp at hu; rcases hu with rfl | rfl | rfl | rfl | rfl <;> rfl) (by omega) (by unfold maxLen; omega) (by omega) (by rw [World.size_alloc]; exact Nat.le_succ_of_le HS9.out) (W9.heap.size + 1) (by simp) ?_); (intro gU cU w10 hown10 hgrow10 hat10 hlt10; have a0 : w10.cell? ⟨w4.heap.size, 0, none⟩ = some (.slice B nt d) := (hgrow10.cell_far ⟨w4.heap.size, 0, none⟩ (by rw [World.size_alloc]; exact Nat.lt_succ_of_lt hsz9) HFAR.out).trans ((World.cell?_alloc_past _ _ _ hsz9).trans (hx 0)); have a1 : w10.cell? ⟨w4.heap.size, 1, none⟩ = some (.slice BP m dP) := (hgrow10.cell_far ⟨w4.heap.size, 1, none⟩ (by rw [World.size_alloc]; exact Nat.lt_succ_of_lt hsz9) HFAR.out).trans ((World.cell?_alloc_past _ _ _ hsz9).trans (hx 1)); have hxf10 : ∀ o, w10.frozen? ⟨w4.heap.size, o, none⟩ = false := fun o => (hgrow10.frozen_far ⟨w4.heap.size, o, none⟩ (by rw [World.size_alloc]; exact Nat.lt_succ_of_lt hsz9) HFAR.out).trans ((frozen?_alloc_cells _ _ _ _).trans (hxf o)); have HOW := Lib.hid hown10; have HGR := Lib.hid hgrow10; have HAT := Lib.hid hat10; have HA0 := Lib.hid a0; have HA1 := Lib.hid a1; have HAO : Hid (∀ o, w10.cell? ⟨w4.heap.size, o, none⟩ = #[Value.slice B nt d, Value.slice BP m dP][o]?) := Lib.hid (fun o => (hgrow10.cell_far ⟨w4.heap.size, o, none⟩ (by rw [World.size_alloc]; exact Nat.lt_succ_of_lt hsz9) HFAR.out).trans ((World.cell?_alloc_past _ _ _ hsz9).trans (hx o))); clear hown10 hgrow10 hat10 hlt10))
        obtain ⟨W10, hW10⟩ : ∃ W, W = w10.setCell ⟨w4.heap.size, 1, none⟩ (.slice (some ⟨gU, 0, none⟩) (m + 1) cU) := ⟨_, rfl⟩
        rw [← hW10]
        obtain ⟨WA, hWA⟩ : ∃ W, W = W9.alloc (.cells #[.int .i64 nt, .int .i64 0, .int .i64 1, .int .i64 0, .int .i64 2] 47) := ⟨_, rfl⟩
        have hgA : Below W9.heap.size W9 WA := by rw [hWA]; exact Bel.grew (Below.refl _ _) _
        have hrA : WA.ownsRow w3.heap.size 47 5 (.slice BP m dP) m xs := by rw [hWA]; exact HR9.out.alloc _
        have hgr : WA.grownBy w10 (Value.slice BP m dP).ownBlock := by rw [hWA]; exact HGR.out
        have hb49 : Below w4.heap.size w4 WA := Bel.then (HGR4.out.trans HB45.out) (Bel.then HB56.out (Bel.then HB9.out hgA))
        have hb3A : Below w3.heap.size w3 WA := Bel.then HB35.out (Bel.then HB56.out (Bel.then HB9.out hgA))
        have hsA : w3.heap.size ≤ WA.heap.size := hb3A.size
        have hb310 : Below w3.heap.size w3 W10 := by
          rw [hW10]
          exact (hb3A.grown hgr hsA (own_base hrA)).setCell (p := ⟨w4.heap.size, 1, none⟩) HS34.out _
        have HB310 := Lib.hid hb310
        have hTS : OwnR 1 45 W10 w3.heap.size (.slice B nt d) (E.ts.map Ty.cells) := by
          have h := HEW.out.1
          rw [HEV.out] at h
          rw [hW10]
          exact h.stays hb49 hrA (by decide) hgr (Nat.le_refl _) 1 _
        have hTT : ∀ u ∈ E.ts, u.In W10 W10.heap.size := fun u hu => by
          have h := HEW.out.2.1 u hu
          rw [hW10]
          exact (h.stays hb49 hrA hgr (Nat.le_refl _) 1 _).inn
        have hPP : OwnR 5 47 W10 w3.heap.size (.slice (some ⟨gU, 0, none⟩) (m + 1) cU) ((D.ps.take m ++ [(⟨nt, 0, 1, 0, 2⟩ : Pj)]).map Pj.cells) := by
          have hne : (Value.slice (some ⟨gU, 0, none⟩) (m + 1) cU).ownBlock ≠ some w4.heap.size := fun he => by
            have e : gU = w4.heap.size := by simpa [Value.ownBlock] using he
            rcases HAT.out with h | h
            · exact HFAR.out (by rw [h, e])
            · omega
          have h : OwnR 5 47 w10 w3.heap.size (.slice (some ⟨gU, 0, none⟩) (m + 1) cU) ((D.ps.take m ++ [(⟨nt, 0, 1, 0, 2⟩ : Pj)]).map Pj.cells) := by
            refine ⟨pj_rows _, ?_⟩
            have h2 := HOW.out
            rw [HXS.out] at h2
            rw [List.map_append, List.length_append, List.length_map, HPSL.out, List.flatten_append]
            exact h2
          rw [hW10]
          exact h.setNe hne 1 _
        have hX10 : Has W10 w4.heap.size #[.slice B nt d, .slice (some ⟨gU, 0, none⟩) (m + 1) cU] := by
          refine ⟨by rw [hW10]; have := hgr.size; have := hgA.size; simp [World.setCell]; omega, fun o => ?_⟩
          rw [hW10]
          match o with
          | 0 => exact (World.cell?_setCell_other _ ⟨w4.heap.size, 1, none⟩ ⟨w4.heap.size, 0, none⟩ _ (by simp)).trans HA0.out
          | 1 => exact World.cell?_setCell_same _ _ _ HA1.out
          | o + 2 => exact (World.cell?_setCell_other _ ⟨w4.heap.size, 1, none⟩ ⟨w4.heap.size, o + 2, none⟩ _ (by simp)).trans (HAO.out (o + 2))
        have HXX : Hid ((⟨E.ts, D.ps.take m ++ [⟨nt, 0, 1, 0, 2⟩], .slice B nt d, .slice (some ⟨gU, 0, none⟩) (m + 1) cU⟩ : Dc).In W10 W10.heap.size) := Lib.hid ⟨OwnR.sl hTS, hTT, OwnR.sl hPP⟩
        have HX10 := Lib.hid hX10
        have HXFAR : Hid (chkP (Dc.pl ⟨E.ts, D.ps.take m ++ [⟨nt, 0, 1, 0, 2⟩], .slice B nt d, .slice (some ⟨gU, 0, none⟩) (m + 1) cU⟩) = 8) := Lib.hid (by
          have := chk_far (ts := D.ts.map Ty.pl) (ps := D.ps) HZ.out (m := m) HM8.out.1 HM8.out.2 ⟨nt, 0, 1, 0, 2⟩ (by rw [List.length_map, HNT.out])
          unfold Dc.pl
          dsimp only
          rw [HETS.out]
          exact this)
        have HXLEN : Hid (LenD ⟨E.ts, D.ps.take m ++ [⟨nt, 0, 1, 0, 2⟩], .slice B nt d, .slice (some ⟨gU, 0, none⟩) (m + 1) cU⟩) := Lib.hid ⟨HLE.out.1, HLE.out.2⟩
        have HD10 := Lib.hid (HD3.out.later hb310)
        have HT10 := Lib.hid (HT3.out.later hb310)
        have HC10 := Lib.hid (HC3.out.later hb310)
        clear hTS hTT hPP hX10 hb310 hsA hb3A hb49 hgr hrA hgA hWA hW10 a0 a1 hxf10 hx hxl hxf hsz9 hne9 hc hcl HOW HGR HAT HA0 HA1 HAO
        have hc := HC10.out.2
        have hcl := HC10.out.1
        go_wp2_with fail
        have hcopy := copyDecl_any D W10 HD10.out HL.out HLP.out
        dsimp only [declV] at hcopy
        rw [HTV.out, HPV.out] at hcopy
        refine hcopy.mono ?_
        clear hcopy
        rintro e11 w11 ⟨F, rfl, hF, hfp, hri, hb11⟩
        dsimp only [declV]
        obtain ⟨BF, dF, h3⟩ := hF.inn.1.shapeL
        obtain ⟨BG, dG, h4⟩ := hF.inn.2.2.shapeL
        have hpe : F.ps = D.ps := congrArg PD.ps hfp
        have hte : F.ts.length = D.ts.length := by have := congrArg (fun p => p.ts.length) hfp; unfold Dc.pl at this; simpa using this
        rw [hte, ← HNT.out] at h3
        rw [hpe, ← HNP.out] at h4
        rw [h3, h4]
        obtain ⟨W11, hW11⟩ : ∃ W, W = w11.alloc (.cells #[.slice BF nt dF, .slice BG np dG] 25) := ⟨_, rfl⟩
        have hgr11 : Below w11.heap.size w11 W11 := by rw [hW11]; exact Bel.grew (Below.refl _ _) _
        have hz11 : Has W11 w11.heap.size #[.slice BF nt dF, .slice BG np dG] := by rw [hW11]; exact Has.new _ _ _
        have HW11 := Lib.hid hW11
        have HFV2 := Lib.hid h3
        have HGV := Lib.hid h4
        have HFP := Lib.hid hfp
        have HFPE := Lib.hid hpe
        have HRI := Lib.hid hri
        have HFW := Lib.hid (hF.later hgr11)
        have HFW0 := Lib.hid hF
        have HB1011 := Lib.hid (Bel.then hb11 hgr11)
        have HZ11 := Lib.hid hz11
        have hcb := (HC10.out.later hb11).2
        clear hF hfp hri hb11 h3 h4 hpe hte hgr11 hz11 hW11 hc hcl
        go_upto_region 17 with fail
        rw [← HW11.out]
        clear HW11 hcb
        have hpf : F.ts.map Ty.pl = D.ts.map Ty.pl := congrArg PD.ts HFP.out
        have hnF : n < F.ts.length := by have := congrArg List.length hpf; rw [List.length_map, List.length_map] at this; rw [this, ← HNT.out]; exact hn
        obtain ⟨u, hu⟩ : ∃ u, F.ts[n]? = some u := ⟨_, List.getElem?_eq_getElem hnF⟩
        have hupl : u.pl = t.pl := by
          have h1 : (F.ts.map Ty.pl)[n]? = some u.pl := by rw [List.getElem?_map, hu]; rfl
          have h2 : (D.ts.map Ty.pl)[n]? = some t.pl := by rw [List.getElem?_map, HTE.out]; rfl
          rw [hpf] at h1
          exact Option.some.inj (h1.symm.trans h2)
        obtain ⟨us, uv⟩ := u
        have hul : us.length = nf := by
          have h1 := congrArg List.length hupl
          unfold Ty.pl at h1
          rw [List.length_map, List.length_map] at h1
          rw [h1, HNF.out]
        obtain ⟨f, r, rfl⟩ : ∃ f r, us = f :: r := by
          cases us with
          | nil => simp at hul; omega
          | cons f r => exact ⟨f, r, rfl⟩
        have huo := HFW.out.2.1 _ (List.mem_of_getElem? hu)
        obtain ⟨AU, cU2, huv⟩ := huo.1.sl.shapeL
        dsimp only at huv
        subst huv
        obtain ⟨g, rfl⟩ := OwnR.some_ huo.1 (by simp)
        have hF1 := HFW.out.inn.1
        rw [HFV2.out] at hF1
        obtain ⟨bF, oF, rfl, hbF, hcF, hxF⟩ := hF1.at hu
        have hcu := hxF 0 _ rfl
        rw [Nat.mul_one, Nat.add_zero] at hcu
        dsimp only at hcu
        rw [hul] at hcu
        have huo1 := huo.1.sl
        dsimp only at huo1
        have hg0 : W11.cell? ⟨g, 0, none⟩ = some (.int .i64 f.k) := by
          obtain ⟨b', o', e', _, _, hx'⟩ := huo1.at (i := 0) (x := f) rfl
          injection e' with e'
          injection e' with e1 e2
          subst e1 e2
          have := hx' 0 _ rfl
          simpa using this
        have hgf : ∀ o, W11.frozen? ⟨g, o, none⟩ = false := fun o => by
          have h2 := huo.1.2
          dsimp only at h2
          rw [List.length_map] at h2
          exact World.ownsRow.frozenAt h2 o
        have hglt : g < w11.heap.size := (World.ownsRow.lt (HFW0.out.2.1 _ (List.mem_of_getElem? hu)).1.2 g rfl).2
        rw [hul] at huo1 hu
        have hz := HZ11.out.2
        have hzl := HZ11.out.1
        have hnf0 : ((nf : Int) == 0) = false := beqf (by omega)
        have hgW : g < W11.heap.size := by omega
        have HU := Lib.hid hu
        have HGL := Lib.hid hglt
        have hset := own_set HFW.out HRI.out hu 0
        have hlen := len_set (D := D) (HL.out.pl HFP.out) (tv := F.tv) (pv := F.pv) (ps := F.ps) hu 0
        have HSET := Lib.hid hset
        have HLEN := Lib.hid hlen
        have HUPL := Lib.hid hupl
        have HPF := Lib.hid hpf
        clear hset hlen hupl hpf huo huo1 hF1 hcF hxF hglt hu hnF
        go_upto_region 19 with fail
        go_upto_region 20 with fail
        obtain ⟨W12, hW12⟩ : ∃ W, W = W11.setCell ⟨g, 0, none⟩ (.int .i64 0) := ⟨_, rfl⟩
        rw [← hW12]
        have hgl : W10.heap.size ≤ g := own_base (HFW.out.2.1 _ (List.mem_of_getElem? HU.out)).1.2 g rfl
        have hb1012 : Below W10.heap.size W10 W12 := by rw [hW12]; exact HB1011.out.setCell (p := ⟨g, 0, none⟩) hgl _
        have hzin := HSET.out
        rw [← hW12] at hzin
        have hz12 : Has W12 w11.heap.size #[.slice (some ⟨bF, oF, none⟩) nt dF, .slice BG np dG] := by
          rw [hW12]
          exact HZ11.out.setOther_ (by have := HGL.out; omega) 0 _
        have hzk : chkP (Dc.pl ⟨F.ts.set n ⟨⟨0, f.p, f.fl, f.ms, f.v⟩ :: r, .slice (some ⟨g, 0, none⟩) nf cU2⟩, F.ps, F.tv, F.pv⟩) = 2 ∨ chkP (Dc.pl ⟨F.ts.set n ⟨⟨0, f.p, f.fl, f.ms, f.v⟩ :: r, .slice (some ⟨g, 0, none⟩) nf cU2⟩, F.ps, F.tv, F.pv⟩) = 3 := by
          have h := chk_none (ts := D.ts.map Ty.pl) (ps := D.ps) HZ.out (f := f.pl) (r := r.map Fd.pl) (n := n) (by rw [List.getElem?_map, HTE.out, Option.map_some, ← HUPL.out]; rfl)
          unfold Dc.pl
          dsimp only
          rw [HFPE.out, List.map_set, HPF.out]
          exact h
        obtain ⟨zk, hzq⟩ : ∃ k, k = chkP (Dc.pl ⟨F.ts.set n ⟨⟨0, f.p, f.fl, f.ms, f.v⟩ :: r, .slice (some ⟨g, 0, none⟩) nf cU2⟩, F.ps, F.tv, F.pv⟩) := ⟨_, rfl⟩
        rw [← hzq] at hzk
        have HZQ := Lib.hid hzq
        have HZIN := Lib.hid hzin
        have HB1012 := Lib.hid hb1012
        have HT12 := Lib.hid (HT10.out.later hb1012)
        have HZB := Lib.hid hz12
        have HX12 := Lib.hid (HX10.out.later hb1012)
        have HXX12 := Lib.hid (HXX.out.later hb1012)
        clear hW12 hgl hb1012 hzin hz12 hzq hz hzl hcu hg0 hgf hgW HSET
        have hz := HZB.out.2
        have hzl := HZB.out.1
        go_wp2_with fail
        refine (check_is' ⟨F.ts.set n ⟨⟨0, f.p, f.fl, f.ms, f.v⟩ :: r, .slice (some ⟨g, 0, none⟩) nf cU2⟩, F.ps, F.tv, F.pv⟩ zk HZQ.out.symm _ _ HFV2.out HGV.out W12 HZIN.out HT12.out HLEN.out).mono ?_
        rintro e13 w13 ⟨rfl, hb13⟩
        have HB13 := Lib.hid hb13
        have hx := (HX12.out.later hb13).2
        have hxl := (HX12.out.later hb13).1
        clear hb13 hz hzl
        rcases hzk with rfl | rfl
        all_goals
          go_wp2_with fail
          refine (check_is' ⟨E.ts, D.ps.take m ++ [⟨nt, 0, 1, 0, 2⟩], .slice B nt d, .slice (some ⟨gU, 0, none⟩) (m + 1) cU⟩ 8 HXFAR.out _ _ rfl rfl w13 (HXX12.out.later HB13.out) (HT12.out.later HB13.out) HXLEN.out).mono ?_
          rintro e14 w14 ⟨rfl, hb14⟩
          have HB14 := Lib.hid (Bel.then HB13.out hb14)
          clear hb14 hx hxl
          go_wp2_with fail
          refine (works06_any _ (HT12.out.later HB14.out)).mono ?_
          rintro e15 w15 ⟨rfl, hb15⟩
          have HB15 := Lib.hid (Bel.then HB3.out (Bel.then HB310.out (Bel.then HB1012.out (Bel.then HB14.out hb15))))
          clear hb15
          go_wp2_with fail
          go_ret
          exact ⟨rfl, HB15.out⟩
end Go.Proofs.YtamnligooelmgaaDoor
