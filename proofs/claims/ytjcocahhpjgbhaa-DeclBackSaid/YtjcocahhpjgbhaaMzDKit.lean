/- Declarations in memory, and what the call owns of them. -/
import Derived.Test.YtjcocahhpjgbhaaDecl
import Derived.Test.YtjcocahhpjgbhaaMg1
set_option maxRecDepth 100000
set_option maxRecDepth 100000
set_option maxRecDepth 100000
set_option linter.unusedVariables false
set_option linter.unusedSimpArgs false
namespace Go.Proofs.Ytjcocahhpjgbhaa
open Go.RowKit Go.BigFrame

theorem take_snoc {α : Type} {l : List α} {k : Nat} {x : α} (h : l[k]? = some x) : l.take (k + 1) = l.take k ++ [x] := by
  obtain ⟨hlt, he⟩ := List.getElem?_eq_some_iff.1 h
  rw [List.take_succ_eq_append_getElem hlt, he]
theorem all_snoc {α : Type} {l : List α} {x : α} {P : α → Prop} (h : ∀ y ∈ l, P y) (hx : P x) : ∀ y ∈ l ++ [x], P y := by
  intro y hy
  rcases List.mem_append.1 hy with hy | hy
  · exact h y hy
  · have : y = x := by simpa using hy
    rw [this]; exact hx

/-- A row of structs that the call owns. -/
def OwnR (sz : Nat) (e : TypeId) (w : World) (B : Nat) (v : Value) (rows : List (List Value)) : Prop := (∀ r ∈ rows, r.length = sz) ∧ w.ownsRow B e sz v rows.length rows.flatten
theorem flat_get {sz : Nat} : ∀ {rows : List (List Value)}, (∀ r ∈ rows, r.length = sz) → ∀ (i : Nat) (r : List Value), rows[i]? = some r → ∀ (j : Nat) (u : Value), r[j]? = some u → rows.flatten[i * sz + j]? = some u
  | [], _, i, r, h, _, _, _ => by simp at h
  | x :: rows, hs, 0, r, h, j, u, hu => by
    have : x = r := by simpa using h
    subst this
    obtain ⟨hj, _⟩ := List.getElem?_eq_some_iff.1 hu
    rw [Nat.zero_mul, Nat.zero_add, List.flatten_cons, List.getElem?_append_left hj]
    exact hu
  | x :: rows, hs, i + 1, r, h, j, u, hu => by
    have hx := hs x (by simp)
    rw [List.flatten_cons, List.getElem?_append_right (by rw [hx, Nat.add_mul]; omega), hx, show (i + 1) * sz + j - sz = i * sz + j from by rw [Nat.add_mul]; omega]
    exact flat_get (fun r hr => hs r (by simp [hr])) i r (by simpa using h) j u hu
theorem flat_len {sz : Nat} : ∀ {rows : List (List Value)}, (∀ r ∈ rows, r.length = sz) → rows.flatten.length = rows.length * sz
  | [], _ => by simp
  | x :: rows, hs => by
    rw [List.flatten_cons, List.length_append, hs x (by simp), flat_len (fun r hr => hs r (by simp [hr])), List.length_cons, Nat.add_mul]; omega
theorem flat_split {sz : Nat} (h0 : 0 < sz) : ∀ {rows : List (List Value)}, (∀ r ∈ rows, r.length = sz) → ∀ (j : Nat) (u : Value), rows.flatten[j]? = some u → ∃ r, rows[j / sz]? = some r ∧ r[j % sz]? = some u
  | [], _, j, u, h => by simp at h
  | x :: rows, hs, j, u, h => by
    have hx := hs x (by simp)
    rw [List.flatten_cons] at h
    by_cases hj : j < sz
    · rw [List.getElem?_append_left (by omega)] at h
      exact ⟨x, by rw [Nat.div_eq_of_lt hj]; rfl, by rw [Nat.mod_eq_of_lt hj]; exact h⟩
    · rw [List.getElem?_append_right (by omega), hx] at h
      obtain ⟨r, h1, h2⟩ := flat_split h0 (fun r hr => hs r (by simp [hr])) (j - sz) u h
      refine ⟨r, ?_, ?_⟩
      · rw [show j / sz = (j - sz) / sz + 1 from by rw [Nat.div_eq_sub_div h0 (by omega)]]
        simpa using h1
      · rw [Nat.mod_eq_sub_mod (by omega)]
        exact h2
section
variable {sz : Nat} {e : TypeId} {w w' : World} {B : Nat} {v : Value} {rows : List (List Value)}
theorem OwnR.sl (h : OwnR sz e w B v rows) : SlR sz w w.heap.size v rows := by
  rcases h.2.2 with ⟨rfl, h2⟩ | ⟨g, cap, cur, rfl, hg, hh, hc, _⟩
  · have : rows = [] := List.eq_nil_of_length_eq_zero h2
    subst this
    exact .inl ⟨none, 0, rfl, rfl⟩
  · refine .inr ⟨g, 0, cap, rfl, ?_, hc, fun i r hr j u hu => ?_⟩
    · rcases Nat.lt_or_ge g w.heap.size with hlt | hge
      · exact hlt
      · rw [Array.getElem?_eq_none hge] at hh; cases hh
    · have hf := flat_get h.1 i r hr j u hu
      obtain ⟨hlt, _⟩ := List.getElem?_eq_some_iff.1 hf
      rw [Nat.zero_add, World.ownsRow.cellAt h.2 (i * sz + j) (by rw [flat_len h.1] at hlt; exact hlt), hf]
theorem OwnR.later (h : OwnR sz e w B v rows) (hb : Below w.heap.size w w') : OwnR sz e w' B v rows := by
  refine ⟨h.1, h.2.1, ?_⟩
  rcases h.2.2 with h2 | ⟨g, cap, cur, hv, hg, hh, r⟩
  · exact .inl h2
  · have hlt : g < w.heap.size := by
      rcases Nat.lt_or_ge g w.heap.size with hlt | hge
      · exact hlt
      · rw [Array.getElem?_eq_none hge] at hh; cases hh
    exact .inr ⟨g, cap, cur, hv, hg, (hb.block g hlt).trans hh, r⟩
theorem OwnR.nil_ (w : World) (B : Nat) : OwnR sz e w B (.slice none 0 0) [] := ⟨by simp, by simpa using World.ownsRow_nil w B e sz⟩
end
theorem infoMv : (Try.prog.info? 76).map (fun i => (i.zero, i.size, i.bytes)) = some (some (.agg #[.int .i64 0, .int .i64 0, .int .i64 0, .int .i64 0]), 4, 32) := by kernel_rfl
theorem mv_rows (ms : List Mv) : ∀ r ∈ ms.map Mv.cells, r.length = 4 := by
  intro r hr
  obtain ⟨m, _, rfl⟩ := List.mem_map.1 hr
  rfl
/-- Four cells written. -/
abbrev store4 (w : World) (q : Nat) (a b c d : Value) : World := (((w.setCell ⟨q, 0, none⟩ a).setCell ⟨q, 1, none⟩ b).setCell ⟨q, 2, none⟩ c).setCell ⟨q, 3, none⟩ d
theorem store4_cells {w : World} {q : Nat} (h : ∀ o, o < 4 → ∃ u, w.cell? ⟨q, o, none⟩ = some u) (a b c d : Value) :
    (store4 w q a b c d).cell? ⟨q, 0, none⟩ = some a ∧ (store4 w q a b c d).cell? ⟨q, 1, none⟩ = some b ∧ (store4 w q a b c d).cell? ⟨q, 2, none⟩ = some c ∧ (store4 w q a b c d).cell? ⟨q, 3, none⟩ = some d := by
  have ne : ∀ (W : World) (i j : Nat) (v : Value), i ≠ j → (W.setCell ⟨q, i, none⟩ v).cell? ⟨q, j, none⟩ = W.cell? ⟨q, j, none⟩ := fun W i j v h => World.cell?_setCell_other W ⟨q, i, none⟩ ⟨q, j, none⟩ _ (by simp [Ne.symm h])
  obtain ⟨u0, h0⟩ := h 0 (by decide)
  obtain ⟨u1, h1⟩ := h 1 (by decide)
  obtain ⟨u2, h2⟩ := h 2 (by decide)
  obtain ⟨u3, h3⟩ := h 3 (by decide)
  refine ⟨?_, ?_, ?_, ?_⟩
  · rw [ne _ 3 0 _ (by decide), ne _ 2 0 _ (by decide), ne _ 1 0 _ (by decide)]
    exact World.cell?_setCell_same w _ _ h0
  · rw [ne _ 3 1 _ (by decide), ne _ 2 1 _ (by decide)]
    exact World.cell?_setCell_same _ _ _ ((ne _ 0 1 _ (by decide)).trans h1)
  · rw [ne _ 3 2 _ (by decide)]
    exact World.cell?_setCell_same _ _ _ ((ne _ 1 2 _ (by decide)).trans ((ne _ 0 2 _ (by decide)).trans h2))
  · exact World.cell?_setCell_same _ _ _ ((ne _ 2 3 _ (by decide)).trans ((ne _ 1 3 _ (by decide)).trans ((ne _ 0 3 _ (by decide)).trans h3)))
theorem Below.store4 {B : Nat} {a w : World} {q : Nat} (h : Below B a w) (hq : B ≤ q) (x y z u : Value) : Below B a (store4 w q x y z u) := (((h.setCell hq _).setCell hq _).setCell hq _).setCell hq _
theorem OwnR.setOther {sz : Nat} {e : TypeId} {w : World} {B q : Nat} {v : Value} {rows : List (List Value)} (h : OwnR sz e w B v rows) (hq : q < B) (o : Nat) (x : Value) : OwnR sz e (w.setCell ⟨q, o, none⟩ x) B v rows := by
  refine ⟨h.1, h.2.1, ?_⟩
  rcases h.2.2 with h2 | ⟨b, cap, cur, hv, hg, hh, r⟩
  · exact .inl h2
  · exact .inr ⟨b, cap, cur, hv, hg, (Below.heap_setCell _ _ _ _ (by simp; omega)).trans hh, r⟩
theorem OwnR.down {sz : Nat} {e : TypeId} {w : World} {B B' : Nat} {v : Value} {rows : List (List Value)} (h : OwnR sz e w B v rows) (hb : B' ≤ B) : OwnR sz e w B' v rows := by
  refine ⟨h.1, h.2.1, ?_⟩
  rcases h.2.2 with h2 | ⟨g, cap, cur, hv, hg, r⟩
  · exact .inl h2
  · exact .inr ⟨g, cap, cur, hv, by omega, r⟩

def LenD (D : Dc) : Prop := D.ts.length ≤ 1099511627776 ∧ ∀ t ∈ D.ts, t.fs.length ≤ 1099511627776 ∧ ∀ f ∈ t.fs, f.ms.length ≤ 1099511627776
structure PF where
  k : Int
  p : Int
  fl : Bool
  ms : List Mv
deriving DecidableEq
structure PD where
  ts : List (List PF)
  ps : List Pj
deriving DecidableEq
def Fd.pl (f : Fd) : PF := ⟨f.k, f.p, f.fl, f.ms⟩
def Ty.pl (t : Ty) : List PF := t.fs.map Fd.pl
def Dc.pl (D : Dc) : PD := ⟨D.ts.map Ty.pl, D.ps⟩
def Fd.Own (w : World) (lo : Nat) (f : Fd) : Prop := OwnR 4 76 w lo f.v (f.ms.map Mv.cells)
def Ty.Own (w : World) (lo : Nat) (t : Ty) : Prop := OwnR 4 45 w lo t.v (t.fs.map Fd.cells) ∧ ∀ f ∈ t.fs, f.Own w lo
def Dc.Own (w : World) (lo : Nat) (D : Dc) : Prop := OwnR 1 42 w lo D.tv (D.ts.map Ty.cells) ∧ (∀ t ∈ D.ts, t.Own w lo) ∧ OwnR 5 51 w lo D.pv (D.ps.map Pj.cells)
/-- A row stays where another one, of another type, has grown. -/
theorem OwnR.grown {sz sz' n : Nat} {e e' : TypeId} {w w' : World} {lo B : Nat} {v u : Value} {rows : List (List Value)} {cs : List Value} (h : OwnR sz e w lo v rows) (hu : w.ownsRow B e' sz' u n cs) (hne : e ≠ e') (hg : w.grownBy w' u.ownBlock) : OwnR sz e w' lo v rows := by
  refine ⟨h.1, h.2.1, ?_⟩
  rcases h.2.2 with h2 | ⟨g, cap, cur, hv, hgl, hh, r⟩
  · exact .inl h2
  · refine .inr ⟨g, cap, cur, hv, hgl, (hg.block g ?_ ?_).trans hh, r⟩
    · rcases Nat.lt_or_ge g w.heap.size with h | h
      · exact h
      · rw [Array.getElem?_eq_none h] at hh; cases hh
    · intro he
      rcases hu.2 with ⟨h3, _⟩ | ⟨g', cap', cur', h3, _, h4, _⟩
      · rw [h3] at he; simp [Value.ownBlock] at he
      · rw [h3] at he
        have : g = g' := by simpa [Value.ownBlock] using he
        subst this
        rw [hh] at h4
        injection h4 with h4
        injection h4 with h5 h6
        exact hne h6
section
variable {w w' : World} {lo lo' : Nat}
theorem Fd.Own.inn {f : Fd} (h : f.Own w lo) : f.In w w.heap.size := OwnR.sl h
theorem Fd.Own.later {f : Fd} (h : f.Own w lo) (hb : Below w.heap.size w w') : f.Own w' lo := OwnR.later h hb
theorem Fd.Own.down {f : Fd} (h : f.Own w lo) (hl : lo' ≤ lo) : f.Own w lo' := OwnR.down h hl
theorem Fd.Own.setOther {f : Fd} (h : f.Own w lo) {q : Nat} (hq : q < lo) (o : Nat) (x : Value) : f.Own (w.setCell ⟨q, o, none⟩ x) lo := OwnR.setOther h hq o x
theorem Ty.Own.inn {t : Ty} (h : t.Own w lo) : t.In w w.heap.size := ⟨OwnR.sl h.1, fun f hf => (h.2 f hf).inn⟩
theorem Ty.Own.later {t : Ty} (h : t.Own w lo) (hb : Below w.heap.size w w') : t.Own w' lo := ⟨OwnR.later h.1 hb, fun f hf => (h.2 f hf).later hb⟩
theorem Ty.Own.down {t : Ty} (h : t.Own w lo) (hl : lo' ≤ lo) : t.Own w lo' := ⟨OwnR.down h.1 hl, fun f hf => (h.2 f hf).down hl⟩
theorem Ty.Own.setOther {t : Ty} (h : t.Own w lo) {q : Nat} (hq : q < lo) (o : Nat) (x : Value) : t.Own (w.setCell ⟨q, o, none⟩ x) lo := ⟨OwnR.setOther h.1 hq o x, fun f hf => (h.2 f hf).setOther hq o x⟩
theorem Dc.Own.inn {D : Dc} (h : D.Own w lo) : D.In w w.heap.size := ⟨OwnR.sl h.1, fun t ht => (h.2.1 t ht).inn, OwnR.sl h.2.2⟩
theorem Dc.Own.later {D : Dc} (h : D.Own w lo) (hb : Below w.heap.size w w') : D.Own w' lo := ⟨OwnR.later h.1 hb, fun t ht => (h.2.1 t ht).later hb, OwnR.later h.2.2 hb⟩
theorem Dc.Own.down {D : Dc} (h : D.Own w lo) (hl : lo' ≤ lo) : D.Own w lo' := ⟨OwnR.down h.1 hl, fun t ht => (h.2.1 t ht).down hl, OwnR.down h.2.2 hl⟩
theorem Dc.Own.setOther {D : Dc} (h : D.Own w lo) {q : Nat} (hq : q < lo) (o : Nat) (x : Value) : D.Own (w.setCell ⟨q, o, none⟩ x) lo := ⟨OwnR.setOther h.1 hq o x, fun t ht => (h.2.1 t ht).setOther hq o x, OwnR.setOther h.2.2 hq o x⟩
end
theorem cells_newL (w : World) (cs : Array Value) (t : TypeId) : ∀ (j : Nat) (u : Value), cs.toList[j]? = some u → (w.alloc (.cells cs t)).cell? ((⟨w.heap.size, 0, none⟩ : Addr).add j) = some u := by
  intro j u hu
  have e : ((⟨w.heap.size, 0, none⟩ : Addr).add j) = ⟨w.heap.size, j, none⟩ := by
    unfold Addr.add
    split
    · rename_i h0; subst h0; rfl
    · simp
  rw [e, (Has.new w cs t).2 j]
  simpa using hu
theorem take_flat {ms : List Mv} {k : Nat} {m : Mv} (h : ms[k]? = some m) : (((ms.take (k + 1)).map Mv.cells).flatten) = (((ms.take k).map Mv.cells).flatten) ++ m.cells := by
  rw [take_snoc h]; simp
/-- A slice of structs that has just been built. -/
theorem SlR.built_ {sz : Nat} (w : World) (t : TypeId) (rows : List (List Value)) (hs : ∀ r ∈ rows, r.length = sz) (b : Nat) (hb : b = w.heap.size) (n : Nat) (hn : n = rows.length) :
    SlR sz (w.alloc (.cells rows.flatten.toArray t)) (w.alloc (.cells rows.flatten.toArray t)).heap.size (.slice (some ⟨b, 0, none⟩) n n) rows := by
  subst hb hn
  refine .inr ⟨w.heap.size, 0, _, rfl, by simp, Nat.le_refl _, fun i r hr j u hu => ?_⟩
  have hf := flat_get hs i r hr j u hu
  rw [Nat.zero_add, (Has.new w rows.flatten.toArray t).2]
  simpa using hf
theorem pj_rows (ms : List Pj) : ∀ r ∈ ms.map Pj.cells, r.length = 5 := by
  intro r hr
  obtain ⟨m, _, rfl⟩ := List.mem_map.1 hr
  rfl
theorem fd_rows (ms : List Fd) : ∀ r ∈ ms.map Fd.cells, r.length = 4 := by
  intro r hr
  obtain ⟨m, _, rfl⟩ := List.mem_map.1 hr
  rfl
theorem ty_rows (ms : List Ty) : ∀ r ∈ ms.map Ty.cells, r.length = 1 := by
  intro r hr
  obtain ⟨m, _, rfl⟩ := List.mem_map.1 hr
  rfl
theorem SlR.none_ {sz : Nat} {w : World} {B : Nat} : SlR sz w B (.slice none 0 0) [] := .inl ⟨none, 0, rfl, rfl⟩
theorem Has.set_ {w : World} {b : Nat} {cs : Array Value} (h : Has w b cs) {o : Nat} (ho : o < cs.size) (v : Value) : Has (w.setCell ⟨b, o, none⟩ v) b (cs.setIfInBounds o v) := by
  refine ⟨by have := h.1; simpa [World.setCell] using this, fun i => ?_⟩
  by_cases he : i = o
  · subst he
    rw [World.cell?_setCell_same w _ _ ((h.2 i).trans (Array.getElem?_eq_getElem ho))]
    simp [ho]
  · rw [World.cell?_setCell_other w ⟨b, o, none⟩ ⟨b, i, none⟩ _ (by simp [he]), h.2 i]
    simp [Array.getElem?_setIfInBounds, Ne.symm he]
theorem Has.setOther_ {w : World} {b q : Nat} {cs : Array Value} (h : Has w b cs) (hne : q ≠ b) (o : Nat) (v : Value) : Has (w.setCell ⟨q, o, none⟩ v) b cs :=
  ⟨by have := h.1; simpa [World.setCell] using this, fun i => (World.cell?_setCell_other w ⟨q, o, none⟩ ⟨b, i, none⟩ _ (by simp [Ne.symm hne])).trans (h.2 i)⟩
theorem SlR.of_has {sz : Nat} {w : World} {b n : Nat} {rows : List (List Value)} (h : Has w b rows.flatten.toArray) (hs : ∀ r ∈ rows, r.length = sz) (hn : n = rows.length) : SlR sz w w.heap.size (.slice (some ⟨b, 0, none⟩) n n) rows := by
  subst hn
  refine .inr ⟨b, 0, _, rfl, h.1, Nat.le_refl _, fun i r hr j u hu => ?_⟩
  have hf := flat_get hs i r hr j u hu
  rw [Nat.zero_add, h.2]
  simpa using hf
theorem LenD.pl {D E : Dc} (hL : LenD D) (h : E.pl = D.pl) : LenD E := by
  unfold Dc.pl at h
  injection h with h1 h2
  have hl : E.ts.length = D.ts.length := by have := congrArg List.length h1; simpa using this
  refine ⟨by rw [hl]; exact hL.1, fun t ht => ?_⟩
  have : t.pl ∈ D.ts.map Ty.pl := by rw [← h1]; exact List.mem_map_of_mem ht
  obtain ⟨t', ht', he⟩ := List.mem_map.1 this
  unfold Ty.pl at he
  have hl2 : t'.fs.length = t.fs.length := by have := congrArg List.length he; simpa using this
  refine ⟨by rw [← hl2]; exact (hL.2 t' ht').1, fun f hf => ?_⟩
  have : f.pl ∈ t'.fs.map Fd.pl := by rw [he]; exact List.mem_map_of_mem hf
  obtain ⟨f', hf', he'⟩ := List.mem_map.1 this
  have := (hL.2 t' ht').2 f' hf'
  unfold Fd.pl at he'
  injection he' with _ _ _ h4
  rw [← h4]; exact this
end Go.Proofs.Ytjcocahhpjgbhaa
