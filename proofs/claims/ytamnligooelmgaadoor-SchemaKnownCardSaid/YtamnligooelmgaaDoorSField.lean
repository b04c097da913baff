/- schema.Field: a field, its moves in new memory. -/
import Derived.Test.YtamnligooelmgaaDoorSMany
import Derived.Test.YtamnligooelmgaaDoorKitD
set_option maxRecDepth 100000
set_option linter.unusedVariables false
set_option linter.unusedSimpArgs false
namespace Go.Proofs.YtamnligooelmgaaDoor
open Go.RowKit Go.BigFrame

/-- A row of structs that the call owns. -/
def OwnR (sz : Nat) (e : TypeId) (w : World) (B : Nat) (v : Value) (rows : List (List Value)) : Prop := (∀ r ∈ rows, r.length = sz) ∧ w.ownsRow B e sz v rows.length rows.flatten
theorem flat_get {sz : Nat} : ∀ {rows : List (List Value)}, (∀ r ∈ rows, r.length = sz) → ∀ (i : Nat) (r : List Value), rows[i]? = some r → ∀ (j : Nat) (u : Value), r[j]? = some u → rows.flatten[i * sz + j]? = some u
  | [], _, i, r, h, _, _, _ => by simp at h
  | x :: rows, hs, 0, r, h, j, u, hu => by
    have : x = r := by simpa using h
    subst this
    obtain ⟨hj, _⟩ := List.getElem?_eq_some_iff.1 hu
    rw [Nat.zero_mul, Nat.zero_add, List.flatten_cons, List.getElem?_append_left hj]
    exact hu
  | x :: rows, hs, i + 1, r, h, j, u, hu => by
    have hx := hs x (by simp)
    rw [List.flatten_cons, List.getElem?_append_right (by rw [hx, Nat.add_mul]; omega), hx, show (i + 1) * sz + j - sz = i * sz + j from by rw [Nat.add_mul]; omega]
    exact flat_get (fun r hr => hs r (by simp [hr])) i r (by simpa using h) j u hu
theorem flat_len {sz : Nat} : ∀ {rows : List (List Value)}, (∀ r ∈ rows, r.length = sz) → rows.flatten.length = rows.length * sz
  | [], _ => by simp
  | x :: rows, hs => by
    rw [List.flatten_cons, List.length_append, hs x (by simp), flat_len (fun r hr => hs r (by simp [hr])), List.length_cons, Nat.add_mul]; omega
theorem flat_split {sz : Nat} (h0 : 0 < sz) : ∀ {rows : List (List Value)}, (∀ r ∈ rows, r.length = sz) → ∀ (j : Nat) (u : Value), rows.flatten[j]? = some u → ∃ r, rows[j / sz]? = some r ∧ r[j % sz]? = some u
  | [], _, j, u, h => by simp at h
  | x :: rows, hs, j, u, h => by
    have hx := hs x (by simp)
    rw [List.flatten_cons] at h
    by_cases hj : j < sz
    · rw [List.getElem?_append_left (by omega)] at h
      exact ⟨x, by rw [Nat.div_eq_of_lt hj]; rfl, by rw [Nat.mod_eq_of_lt hj]; exact h⟩
    · rw [List.getElem?_append_right (by omega), hx] at h
      obtain ⟨r, h1, h2⟩ := flat_split h0 (fun r hr => hs r (by simp [hr])) (j - sz) u h
      refine ⟨r, ?_, ?_⟩
      · rw [show j / sz = (j - sz) / sz + 1 from by rw [Nat.div_eq_sub_div h0 (by omega)]]
        simpa using h1
      · rw [Nat.mod_eq_sub_mod (by omega)]
        exact h2
section
variable {sz : Nat} {e : TypeId} {w w' : World} {B : Nat} {v : Value} {rows : List (List Value)}
theorem OwnR.sl (h : OwnR sz e w B v rows) : SlR sz w w.heap.size v rows := by
  rcases h.2.2 with ⟨rfl, h2⟩ | ⟨g, cap, cur, rfl, hg, hh, hc, _⟩
  · have : rows = [] := List.eq_nil_of_length_eq_zero h2
    subst this
    exact .inl ⟨none, 0, rfl, rfl⟩
  · refine .inr ⟨g, 0, cap, rfl, ?_, hc, fun i r hr j u hu => ?_⟩
    · rcases Nat.lt_or_ge g w.heap.size with hlt | hge
      · exact hlt
      · rw [Array.getElem?_eq_none hge] at hh; cases hh
    · have hf := flat_get h.1 i r hr j u hu
      obtain ⟨hlt, _⟩ := List.getElem?_eq_some_iff.1 hf
      rw [Nat.zero_add, World.ownsRow.cellAt h.2 (i * sz + j) (by rw [flat_len h.1] at hlt; exact hlt), hf]
theorem OwnR.later (h : OwnR sz e w B v rows) (hb : Below w.heap.size w w') : OwnR sz e w' B v rows := by
  refine ⟨h.1, h.2.1, ?_⟩
  rcases h.2.2 with h2 | ⟨g, cap, cur, hv, hg, hh, r⟩
  · exact .inl h2
  · have hlt : g < w.heap.size := by
      rcases Nat.lt_or_ge g w.heap.size with hlt | hge
      · exact hlt
      · rw [Array.getElem?_eq_none hge] at hh; cases hh
    exact .inr ⟨g, cap, cur, hv, hg, (hb.block g hlt).trans hh, r⟩
theorem OwnR.nil_ (w : World) (B : Nat) : OwnR sz e w B (.slice none 0 0) [] := ⟨by simp, by simpa using World.ownsRow_nil w B e sz⟩
theorem OwnR.of_built {cs : List Value} {n cap : Nat} {t : TypeId} (w : World) : OwnR sz t (w.alloc (.cells #[] t)) w.heap.size (.slice (some ⟨w.heap.size, 0, none⟩) 0 0) [] := by
  refine ⟨by simp, by simp, .inr ⟨w.heap.size, 0, #[], rfl, Nat.le_refl _, heap_alloc_new w _, Nat.le_refl _, by unfold maxLen; omega, by simp, by simp⟩⟩
end
theorem infoMv : (Tryd.prog.info? 39).map (fun i => (i.zero, i.size, i.bytes)) = some (some (.agg #[.int .i64 0, .int .i64 0, .int .i64 0, .int .i64 0]), 4, 32) := by kernel_rfl
theorem mv_rows (ms : List Mv) : ∀ r ∈ ms.map Mv.cells, r.length = 4 := by
  intro r hr
  obtain ⟨m, _, rfl⟩ := List.mem_map.1 hr
  rfl
/-- slices.Clone of moves. -/
def CloneRet (ms : List Mv) (w : World) (e : Ending) (w' : World) : Prop := ∃ v', e = .returned v' ∧ OwnR 4 39 w' w.heap.size v' (ms.map Mv.cells) ∧ Below w.heap.size w w'
set_option maxHeartbeats 2000000 in
set_option maxRecDepth 100000 in
theorem clone_any (ms : List Mv) (v : Value) (w : World) (hx : SlR 4 w w.heap.size v (ms.map Mv.cells)) (hl : ms.length ≤ 1099511627776) :
    Calls Tryd.prog 25 #[v] w fun e w' => CloneRet ms w e w' := by
  obtain ⟨A, c, rfl⟩ := hx.shapeL
  have HX := Lib.hid hx
  have hn1 : ∀ (c : Nat) (w : World), (binOp BinOp.eql 31 (.slice none 0 c) (.slice none 0 0)).run Tryd.prog w = .ok (.bool true) w := fun c w => by first | rfl | kernel_rfl | simp [binOp, go_sem]
  have hn2 : ∀ (a : Addr) (n c : Nat) (w : World), (binOp BinOp.eql 31 (.slice (some a) n c) (.slice none 0 0)).run Tryd.prog w = .ok (.bool false) w := fun a n c w => by first | rfl | kernel_rfl | simp [binOp, go_sem]
  cases A with
  | none =>
    have hn : ms = [] := by
      rcases hx with ⟨A', c', hv, hr⟩ | ⟨b, off, c', hv, _⟩
      · simpa using hr
      · cases hv
    subst hn
    clear hx
    go_enter Tryd.func25, Tryd.ntmps25
    go_wp2_with fail
    go_ret
    exact ⟨_, rfl, OwnR.nil_ _ _, Below.refl _ _⟩
  | some a =>
    clear hx
    obtain ⟨i0, hi, hz0, hz1, hz2⟩ := info_parts infoMv
    have hcs : ∀ (j : Nat) (u : Value), ((ms.map Mv.cells).flatten)[j]? = some u → (w.alloc (.cells #[] 39)).cell? (a.add j) = some u := by
      intro j u hu
      obtain ⟨r, hr, hu2⟩ := flat_split (sz := 4) (by decide) (mv_rows ms) j u hu
      obtain ⟨b, off, hA, hb, hc, hx⟩ := (HX.out.later (Bel.grew (Below.refl _ _) (.cells #[] 39))).elem hr
      injection hA with hA
      subst hA
      have e : (⟨b, off, none⟩ : Addr).add j = ⟨b, off + j, none⟩ := by
        unfold Addr.add
        split
        · rename_i h0; subst h0; rfl
        · rfl
      rw [e]
      have := hx (j % 4) u hu2
      rw [show off + j / 4 * 4 + j % 4 = off + j from by omega] at this
      exact this
    have HCS := Lib.hid hcs
    clear hcs
    go_enter Tryd.func25, Tryd.ntmps25
    have h1 : ∀ u ∈ (ms.map Mv.cells).flatten, u.oneCell' = true := by
      intro u hu
      obtain ⟨r, hr, hu⟩ := List.mem_flatten.1 hu
      obtain ⟨m, _, rfl⟩ := List.mem_map.1 hr
      simp only [Mv.cells, List.mem_cons, List.not_mem_nil, or_false] at hu
      rcases hu with rfl | rfl | rfl | rfl <;> rfl
    have H1 := Lib.hid h1
    clear h1
    go_wp2_with (at_builtin; refine wpList_append_own _ rfl _ _ 31 rfl w.heap.size 39 i0 _ 4 32 Tryd.underlying31 hi hz0 hz1 hz2 rfl (by decide) _ 0 _ rfl (OwnR.of_built (cs := []) (n := 0) (cap := 0) (sz := 4) w).2 a ms.length c ((ms.map Mv.cells).flatten) rfl (by rw [flat_len (mv_rows ms), List.length_map]) HCS.out H1.out (by unfold maxLen; omega) (by omega) (by simp) ?_; intro v' w' ho hg hn; have HO : Hid (OwnR 4 39 w' w.heap.size v' (ms.map Mv.cells)) := Lib.hid ⟨mv_rows ms, by simpa using ho⟩; have HB : Hid (Below w.heap.size w w') := Lib.hid ((Bel.grew (Below.refl _ _) _).grown hg (by simp) (own_base (OwnR.of_built (cs := []) (n := 0) (cap := 0) (sz := 4) (t := 39) w).2)); clear ho hg hn)
    go_ret
    exact ⟨_, rfl, HO.out, HB.out⟩

/-- Four cells written. -/
abbrev store4 (w : World) (q : Nat) (a b c d : Value) : World := (((w.setCell ⟨q, 0, none⟩ a).setCell ⟨q, 1, none⟩ b).setCell ⟨q, 2, none⟩ c).setCell ⟨q, 3, none⟩ d
theorem store4_cells {w : World} {q : Nat} (h : ∀ o, o < 4 → ∃ u, w.cell? ⟨q, o, none⟩ = some u) (a b c d : Value) :
    (store4 w q a b c d).cell? ⟨q, 0, none⟩ = some a ∧ (store4 w q a b c d).cell? ⟨q, 1, none⟩ = some b ∧ (store4 w q a b c d).cell? ⟨q, 2, none⟩ = some c ∧ (store4 w q a b c d).cell? ⟨q, 3, none⟩ = some d := by
  have ne : ∀ (W : World) (i j : Nat) (v : Value), i ≠ j → (W.setCell ⟨q, i, none⟩ v).cell? ⟨q, j, none⟩ = W.cell? ⟨q, j, none⟩ := fun W i j v h => World.cell?_setCell_other W ⟨q, i, none⟩ ⟨q, j, none⟩ _ (by simp [Ne.symm h])
  obtain ⟨u0, h0⟩ := h 0 (by decide)
  obtain ⟨u1, h1⟩ := h 1 (by decide)
  obtain ⟨u2, h2⟩ := h 2 (by decide)
  obtain ⟨u3, h3⟩ := h 3 (by decide)
  refine ⟨?_, ?_, ?_, ?_⟩
  · rw [ne _ 3 0 _ (by decide), ne _ 2 0 _ (by decide), ne _ 1 0 _ (by decide)]
    exact World.cell?_setCell_same w _ _ h0
  · rw [ne _ 3 1 _ (by decide), ne _ 2 1 _ (by decide)]
    exact World.cell?_setCell_same _ _ _ ((ne _ 0 1 _ (by decide)).trans h1)
  · rw [ne _ 3 2 _ (by decide)]
    exact World.cell?_setCell_same _ _ _ ((ne _ 1 2 _ (by decide)).trans ((ne _ 0 2 _ (by decide)).trans h2))
  · exact World.cell?_setCell_same _ _ _ ((ne _ 2 3 _ (by decide)).trans ((ne _ 1 3 _ (by decide)).trans ((ne _ 0 3 _ (by decide)).trans h3)))
theorem Below.store4 {B : Nat} {a w : World} {q : Nat} (h : Below B a w) (hq : B ≤ q) (x y z u : Value) : Below B a (store4 w q x y z u) := (((h.setCell hq _).setCell hq _).setCell hq _).setCell hq _
theorem OwnR.setOther {sz : Nat} {e : TypeId} {w : World} {B q : Nat} {v : Value} {rows : List (List Value)} (h : OwnR sz e w B v rows) (hq : q < B) (o : Nat) (x : Value) : OwnR sz e (w.setCell ⟨q, o, none⟩ x) B v rows := by
  refine ⟨h.1, h.2.1, ?_⟩
  rcases h.2.2 with h2 | ⟨b, cap, cur, hv, hg, hh, r⟩
  · exact .inl h2
  · exact .inr ⟨b, cap, cur, hv, hg, (Below.heap_setCell _ _ _ _ (by simp; omega)).trans hh, r⟩
theorem OwnR.down {sz : Nat} {e : TypeId} {w : World} {B B' : Nat} {v : Value} {rows : List (List Value)} (h : OwnR sz e w B v rows) (hb : B' ≤ B) : OwnR sz e w B' v rows := by
  refine ⟨h.1, h.2.1, ?_⟩
  rcases h.2.2 with h2 | ⟨g, cap, cur, hv, hg, r⟩
  · exact .inl h2
  · exact .inr ⟨g, cap, cur, hv, by omega, r⟩

/-- schema.Field. -/
def FldRet (D : Dc) (ti fi : Int) (w : World) (e : Ending) (w' : World) : Prop :=
  (∃ (t : Ty) (f : Fd) (v' : Value), 0 ≤ ti ∧ D.ts[ti.toNat]? = some t ∧ 0 ≤ fi ∧ t.fs[fi.toNat]? = some f ∧ e = .returned (.tuple #[.agg #[.int .i64 f.k, .int .i64 f.p, .bool f.fl, v'], .bool true]) ∧ OwnR 4 39 w' w.heap.size v' (f.ms.map Mv.cells) ∧ Below w.heap.size w w') ∨
  ((¬ ∃ (t : Ty) (f : Fd), 0 ≤ ti ∧ D.ts[ti.toNat]? = some t ∧ 0 ≤ fi ∧ t.fs[fi.toNat]? = some f) ∧ e = .returned (.tuple #[.agg #[.int .i64 0, .int .i64 0, .bool false, .slice none 0 0], .bool false]) ∧ Below w.heap.size w w')
set_option maxRecDepth 100000 in
set_option maxHeartbeats 4000000 in
theorem field_any (D : Dc) (ti fi : Int) (w : World) (hD : D.In w w.heap.size) (hS : D.ts.length ≤ 1099511627776 ∧ ∀ t ∈ D.ts, t.fs.length ≤ 1099511627776 ∧ ∀ f ∈ t.fs, f.ms.length ≤ 1099511627776) :
    Calls Tryd.prog 11 #[declV D, .int .i64 ti, .int .i64 fi] w fun e w' => FldRet D ti fi w e w' := by
  obtain ⟨ts, ps, tv, pv⟩ := D
  obtain ⟨A, c, h1⟩ := hD.1.shapeL
  obtain ⟨A', c', h2⟩ := hD.2.2.shapeL
  dsimp only at h1 h2 hS
  subst h1 h2
  obtain ⟨W, hW⟩ : ∃ W, W = (w.alloc (.cells #[.slice A ts.length c, .slice A' ps.length c'] 25)).alloc (.cells #[.int .i64 0, .int .i64 0, .bool false, .slice none 0 0] 33) := ⟨_, rfl⟩
  have hB : Below w.heap.size w W := by rw [hW]; exact Bel.grew (Bel.grew (Below.refl _ _) _) _
  have hC : Has W w.heap.size #[.slice A ts.length c, .slice A' ps.length c'] := by rw [hW]; exact (Has.new w _ _).grow _
  have hR : Has W (w.heap.size + 1) #[.int .i64 0, .int .i64 0, .bool false, .slice none 0 0] := by rw [hW]; exact Has.new1 _ _ _ (by simp)
  have hf : ∀ o, W.frozen? ⟨w.heap.size + 1, o, none⟩ = false := by intro o; rw [hW]; simp [go_sem]
  have HD := Lib.hid (hD.later hB)
  have HB := Lib.hid hB
  have HW := Lib.hid hW
  have hc := hC.2
  have hr := hR.2
  have HR : Hid (∀ o, o < 4 → ∃ u, W.cell? ⟨w.heap.size + 1, o, none⟩ = some u) := Lib.hid fun o ho => by
    rw [hR.2 o]
    exact ⟨_, Array.getElem?_eq_getElem ho⟩
  have hw1 : IntKind.i64.wrap ((ts.length : Int) - 1) = (ts.length : Int) - 1 := IntWalk.i64_in _ (by omega)
  have HS := Lib.hid hS
  clear hD hB hW hC hR hS
  by_cases hti : 0 ≤ ti ∧ ti ≤ (ts.length : Int) - 1
  rotate_left
  · go_enter Tryd.func11, Tryd.ntmps11
    go_wp2_with fail
    rw [← HW.out]
    refine (within_no ti 0 _ _ hti).mono ?_
    rintro e w2 ⟨rfl, rfl⟩
    clear HW
    go_wp2_with fail
    change bodyPost _ _ _ _ _ (store4 W (w.heap.size + 1) (.int .i64 0) (.int .i64 0) (.bool false) (.slice none 0 0))
    obtain ⟨wf, hwf⟩ : ∃ wf, wf = store4 W (w.heap.size + 1) (.int .i64 0) (.int .i64 0) (.bool false) (.slice none 0 0) := ⟨_, rfl⟩
    rw [← hwf]
    have hBf : Below w.heap.size w wf := by rw [hwf]; exact Below.store4 HB.out (by omega) _ _ _ _
    obtain ⟨k0, k1, k2, k3⟩ := store4_cells (fun o ho => HR.out o ho) (.int .i64 0) (.int .i64 0) (.bool false) (.slice none 0 0)
    rw [← hwf] at k0 k1 k2 k3
    clear hwf
    simp [bodyPost, results, Tryd.results11, go_sem, k0, k1, k2, k3]
    exact .inr ⟨fun ⟨t, f, h0, h1, _⟩ => hti (by
      obtain ⟨hlt, _⟩ := List.getElem?_eq_some_iff.1 h1
      dsimp only at hlt
      omega), rfl, hBf⟩
  obtain ⟨n, rfl⟩ := Int.eq_ofNat_of_zero_le hti.1
  have hn : n < ts.length := by omega
  obtain ⟨t, ht⟩ : ∃ t, ts[n]? = some t := ⟨_, List.getElem?_eq_getElem hn⟩
  have htm := List.mem_of_getElem? ht
  obtain ⟨b, off, rfl, hb, hcap, hcx⟩ := HD.out.1.at ht
  have hti2 := HD.out.2.1 t htm
  have hts := HS.out.2 t htm
  have HTI := Lib.hid hti
  obtain ⟨fs, fv⟩ := t
  obtain ⟨A2, c2, h2⟩ := hti2.1.shapeL
  dsimp only at h2 hts
  subst h2
  have hct := hcx 0 _ rfl
  rw [Nat.mul_one, Nat.add_zero] at hct
  have hnI : (n : Int) < (ts.length : Int) := by omega
  have HT := Lib.hid hti2
  have HTE := Lib.hid ht
  have hw2 : IntKind.i64.wrap ((fs.length : Int) - 1) = (fs.length : Int) - 1 := IntWalk.i64_in _ (by omega)
  dsimp only at hct
  clear hcx hti2 htm ht
  by_cases hfi : 0 ≤ fi ∧ fi ≤ (fs.length : Int) - 1
  rotate_left
  · go_enter Tryd.func11, Tryd.ntmps11
    go_wp2_with fail
    rw [← HW.out]
    refine (within_yes (n : Int) 0 _ _ HTI.out).mono ?_
    rintro e w2 ⟨rfl, rfl⟩
    clear HW
    go_wp2_with fail
    refine (within_no fi 0 _ _ hfi).mono ?_
    rintro e w2 ⟨rfl, rfl⟩
    go_wp2_with fail
    change bodyPost _ _ _ _ _ (store4 W (w.heap.size + 1) (.int .i64 0) (.int .i64 0) (.bool false) (.slice none 0 0))
    obtain ⟨wf, hwf⟩ : ∃ wf, wf = store4 W (w.heap.size + 1) (.int .i64 0) (.int .i64 0) (.bool false) (.slice none 0 0) := ⟨_, rfl⟩
    rw [← hwf]
    have hBf : Below w.heap.size w wf := by rw [hwf]; exact Below.store4 HB.out (by omega) _ _ _ _
    obtain ⟨k0, k1, k2, k3⟩ := store4_cells (fun o ho => HR.out o ho) (.int .i64 0) (.int .i64 0) (.bool false) (.slice none 0 0)
    rw [← hwf] at k0 k1 k2 k3
    clear hwf
    simp [bodyPost, results, Tryd.results11, go_sem, k0, k1, k2, k3]
    exact .inr ⟨fun ⟨t, f, h0, h1, h2, h3⟩ => hfi (by
      rw [Int.toNat_natCast] at h1
      have := HTE.out.symm.trans h1
      injection this with this
      subst this
      obtain ⟨hlt, _⟩ := List.getElem?_eq_some_iff.1 h3
      dsimp only at hlt
      omega), rfl, hBf⟩
  obtain ⟨m, rfl⟩ := Int.eq_ofNat_of_zero_le hfi.1
  have hm : m < fs.length := by omega
  obtain ⟨f, hf2⟩ : ∃ f, fs[m]? = some f := ⟨_, List.getElem?_eq_getElem hm⟩
  have hfm := List.mem_of_getElem? hf2
  obtain ⟨b2, off2, rfl, hb2, hcap2, hcy⟩ := HT.out.1.at hf2
  have hfin := HT.out.2 f hfm
  have hms := hts.2 f hfm
  obtain ⟨fk, fp, ffl, ms, mv⟩ := f
  obtain ⟨A3, c3, h3⟩ := SlR.shapeL hfin
  dsimp only at h3 hms
  subst h3
  have hf0 := hcy 0 _ rfl
  have hf1 := hcy 1 _ rfl
  have hf2' := hcy 2 _ rfl
  have hf3 := hcy 3 _ rfl
  rw [Nat.add_zero] at hf0
  dsimp only at hf0 hf1 hf2' hf3
  have hmI : (m : Int) < (fs.length : Int) := by omega
  have HFI := Lib.hid hfin
  have HFE := Lib.hid hf2
  have HFJ := Lib.hid hfi
  clear hcy hfin hfm hf2
  go_enter Tryd.func11, Tryd.ntmps11
  go_wp2_with fail
  rw [← HW.out]
  refine (within_yes (n : Int) 0 _ _ HTI.out).mono ?_
  rintro e w2 ⟨rfl, rfl⟩
  clear HW
  go_wp2_with fail
  refine (within_yes (m : Int) 0 _ _ HFJ.out).mono ?_
  rintro e w2 ⟨rfl, rfl⟩
  go_wp2_with fail
  obtain ⟨W2, hW2⟩ : ∃ W2, W2 = W.alloc (.cells #[.int .i64 fk, .int .i64 fp, .bool ffl, .slice A3 ms.length c3] 33) := ⟨_, rfl⟩
  have hgr : Below W.heap.size W W2 := by rw [hW2]; exact Bel.grew (Below.refl _ _) _
  have hV := Has.new W #[.int .i64 fk, .int .i64 fp, .bool ffl, .slice A3 ms.length c3] 33
  have hfV : ∀ o, W2.frozen? ⟨W.heap.size, o, none⟩ = false := by intro o; rw [hW2]; simp [go_sem]
  rw [← hW2] at hV
  rw [← hW2]
  have hsW : w.heap.size + 1 < W.heap.size := by
    rcases Nat.lt_or_ge (w.heap.size + 1) W.heap.size with h | h
    · exact h
    · have := hr 0
      simp [World.cell?, Array.getElem?_eq_none h] at this
  refine (clone_any ms _ W2 (SlR.later HFI.out hgr) hms).mono ?_
  rintro e w3 ⟨v', rfl, hown, hb3⟩
  obtain ⟨A4, c4, h4⟩ := SlR.shapeL hown.sl
  subst h4
  have hB3 : Below W.heap.size W w3 := Bel.then hgr hb3
  have hv3 := (hV.later hb3).2
  have hv3l := (hV.later hb3).1
  have hv3f : ∀ o, w3.frozen? ⟨W.heap.size, o, none⟩ = false := fun o => (hb3.frozen (p := ⟨W.heap.size, o, none⟩) hV.1).trans (hfV o)
  have hr3 : ∀ o, w3.cell? ⟨w.heap.size + 1, o, none⟩ = #[.int .i64 0, .int .i64 0, .bool false, .slice none 0 0][o]? := fun o => (hB3.cell (p := ⟨w.heap.size + 1, o, none⟩) hsW).trans (hr o)
  have hr3f : ∀ o, w3.frozen? ⟨w.heap.size + 1, o, none⟩ = false := fun o => (hB3.frozen (p := ⟨w.heap.size + 1, o, none⟩) hsW).trans (hf o)
  have hne : W.heap.size ≠ w.heap.size + 1 := by omega
  have hne' : w.heap.size + 1 ≠ W.heap.size := by omega
  have HB3 := Lib.hid (Bel.then HB.out hB3)
  have HO3 := Lib.hid (hown.setOther (q := W.heap.size) (by have := hV.1; omega) 3 (.slice A4 ms.length c4))
  have HSZ : Hid (w.heap.size + 1 < W2.heap.size) := Lib.hid (by have := hV.1; omega)
  have HR3 : Hid (∀ o, o < 4 → ∃ u, (w3.setCell ⟨W.heap.size, 3, none⟩ (.slice A4 ms.length c4)).cell? ⟨w.heap.size + 1, o, none⟩ = some u) := Lib.hid fun o ho => by
    rw [World.cell?_setCell_other w3 ⟨W.heap.size, 3, none⟩ ⟨w.heap.size + 1, o, none⟩ _ (by simp [hne']), hr3 o]
    exact ⟨_, Array.getElem?_eq_getElem ho⟩
  clear hown hb3 hgr hW2 hV hfV hB3 hf0 hf1 hf2' hf3 hct hr hf HD HR
  go_wp2_with fail
  change bodyPost _ _ _ _ _ (store4 (w3.setCell ⟨W.heap.size, 3, none⟩ (.slice A4 ms.length c4)) (w.heap.size + 1) (.int .i64 fk) (.int .i64 fp) (.bool ffl) (.slice A4 ms.length c4))
  obtain ⟨wf, hwf⟩ : ∃ wf, wf = store4 (w3.setCell ⟨W.heap.size, 3, none⟩ (.slice A4 ms.length c4)) (w.heap.size + 1) (.int .i64 fk) (.int .i64 fp) (.bool ffl) (.slice A4 ms.length c4) := ⟨_, rfl⟩
  rw [← hwf]
  have hBf : Below w.heap.size w wf := by rw [hwf]; exact Below.store4 (HB3.out.setCell (by show w.heap.size ≤ W.heap.size; omega) _) (by omega) _ _ _ _
  have hOf : OwnR 4 39 wf w.heap.size (.slice A4 ms.length c4) (ms.map Mv.cells) := by
    rw [hwf]
    exact ((((HO3.out.setOther HSZ.out 0 _).setOther HSZ.out 1 _).setOther HSZ.out 2 _).setOther HSZ.out 3 _).down (by have := HSZ.out; omega)
  obtain ⟨k0, k1, k2, k3⟩ := store4_cells (fun o ho => HR3.out o ho) (.int .i64 fk) (.int .i64 fp) (.bool ffl) (.slice A4 ms.length c4)
  rw [← hwf] at k0 k1 k2 k3
  clear hwf hv3 hr3 hv3f hr3f
  simp [bodyPost, results, Tryd.results11, go_sem, k0, k1, k2, k3]
  exact .inl ⟨_, _, _, HTI.out.1, by rw [Int.toNat_natCast]; exact HTE.out, HFJ.out.1, by rw [Int.toNat_natCast]; exact HFE.out, rfl, hOf, hBf⟩
end Go.Proofs.YtamnligooelmgaaDoor
