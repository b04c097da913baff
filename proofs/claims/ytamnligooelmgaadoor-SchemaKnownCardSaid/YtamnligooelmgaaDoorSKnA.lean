/- SchemaKnown: what it needs of memory. -/
import Derived.Test.YtamnligooelmgaaDoorSParts
import Derived.Laws.MakeOwn
set_option maxRecDepth 100000
set_option maxRecDepth 100000
set_option linter.unusedVariables false
set_option linter.unusedSimpArgs false
namespace Go.Proofs.YtamnligooelmgaaDoor
open Go.RowKit Go.BigFrame

/-- Integers four by four are moves. -/
theorem ints_mv : ∀ (i : Nat) (l : List Int), l.length = i * 4 → ∃ ms : List Mv, ms.length = i ∧ l.map (Value.int .i64) = (ms.map Mv.cells).flatten
  | 0, l, h => ⟨[], rfl, by
    have : l = [] := List.eq_nil_of_length_eq_zero (by omega)
    subst this; rfl⟩
  | i + 1, l, h => by
    match l, h with
    | a :: b :: c :: d :: r, h =>
      obtain ⟨ms, h1, h2⟩ := ints_mv i r (by simp at h; omega)
      exact ⟨⟨a, b, c, d⟩ :: ms, by simp [h1], by simp [h2]⟩
    | [], h => simp at h
    | [_], h => simp at h; omega
    | [_, _], h => simp at h; omega
    | [_, _, _], h => simp at h; omega
abbrev intsV (l : List Int) : Array Value := (l.map (Value.int .i64)).toArray
theorem ints_set (l : List Int) (o : Nat) (x : Int) : (intsV l).setIfInBounds o (.int .i64 x) = intsV (l.set o x) := by
  simp [List.map_set]
theorem made_mv (n : Nat) : madeCells #[.int .i64 0, .int .i64 0, .int .i64 0, .int .i64 0] (n * 4) = intsV (List.replicate (n * 4) 0) := by
  apply Array.ext
  · simp [madeCells]
  · intro j h1 h2
    have h3 : j % 4 < 4 := Nat.mod_lt _ (by omega)
    simp only [madeCells, Array.getElem_map, Array.getElem_range, List.getElem_toArray, List.map_replicate, List.getElem_replicate]
    have h4 : (#[Value.int .i64 0, .int .i64 0, .int .i64 0, .int .i64 0] : Array Value).size = 4 := rfl
    rw [h4]
    rcases (show j % 4 = 0 ∨ j % 4 = 1 ∨ j % 4 = 2 ∨ j % 4 = 3 from by omega) with h | h | h | h <;> rw [h] <;> rfl
theorem run_make_mv (n : Nat) (hn : n ≤ 1000) (w : World) :
    (Instr.makeSlice 31 (.int .i64 (n : Int)) (.int .i64 (n : Int))).run Tryd.prog w = .ok (.slice (some ⟨w.heap.size, 0, none⟩) n n) (w.alloc (.cells (intsV (List.replicate (n * 4) 0)) 39)) := by
  obtain ⟨i0, hi, hz0, hz1, hz2⟩ := info_parts infoMv
  have hr := run_make (P := Tryd.prog) w 31 39 i0 _ Tryd.underlying31 hi hz0 .i64 .i64 n n (by omega) (by omega) (by rw [hz2]; omega) (by omega)
  have e : (Value.agg #[.int .i64 0, .int .i64 0, .int .i64 0, .int .i64 0]).cells = #[.int .i64 0, .int .i64 0, .int .i64 0, .int .i64 0] := rfl
  simp only [Int.toNat_natCast, hz1, e, made_mv] at hr
  exact hr
/-- A make ahead of a store into the old. -/
theorem below_make (w : World) (o : Obj) (g j : Nat) (v : Value) (hg : g < w.heap.size) : Below w.heap.size (w.setCell ⟨g, j, none⟩ v) ((w.alloc o).setCell ⟨g, j, none⟩ v) := by
  refine ⟨rfl, rfl, rfl, by simp [World.setCell], fun k hk => ?_⟩
  by_cases h : k = g
  · subst h
    simp only [World.setCell, Array.getElem?_modify, if_true]
    rw [show (w.alloc o).heap[k]? = w.heap[k]? from (Below.alloc (Below.refl w.heap.size w) (Nat.le_refl _) o).block k hk]
  · rw [Below.heap_setCell _ _ _ _ (by exact h), Below.heap_setCell _ _ _ _ (by exact h)]
    exact (Below.alloc (Below.refl w.heap.size w) (Nat.le_refl _) o).block k hk
theorem mv_in {w : World} {b i : Nat} {l : List Int} (h : Has w b (intsV l)) (hl : l.length = i * 4) : ∃ ms : List Mv, ms.length = i ∧ SlR 4 w w.heap.size (.slice (some ⟨b, 0, none⟩) i i) (ms.map Mv.cells) := by
  obtain ⟨ms, h1, h2⟩ := ints_mv i l hl
  refine ⟨ms, h1, SlR.of_has ?_ (mv_rows ms) (by rw [List.length_map, h1])⟩
  unfold intsV at h
  rw [h2] at h
  exact h
/-- A field's moves written over. -/
theorem set_field {w : World} {B L c g j : Nat} {fs : List Fd} {f : Fd} (h : SlR 4 w B (.slice (some ⟨g, 0, none⟩) L c) (fs.map Fd.cells)) (hf : fs[j]? = some f) (ms : List Mv) (v : Value) : SlR 4 (w.setCell ⟨g, j * 4 + 3, none⟩ v) B (.slice (some ⟨g, 0, none⟩) L c) ((fs.set j ⟨f.k, f.p, f.fl, ms, v⟩).map Fd.cells) := by
  rcases h with ⟨A, c', hv, hr⟩ | ⟨b, off, c', hv, hb, hc, hx⟩
  · have : fs = [] := by simpa using hr
    subst this
    simp at hf
  · injection hv with h1 h2 h3
    injection h1 with h1
    injection h1 with h1 h4
    subst h1 h3 h4
    refine .inr ⟨g, 0, c, by rw [h2]; simp, hb, by simpa using hc, fun i row hi k u hu => ?_⟩
    rw [List.getElem?_map] at hi
    by_cases hij : i = j
    · subst hij
      rw [List.getElem?_set_self (List.getElem?_eq_some_iff.1 hf).1] at hi
      have hrow : row = Fd.cells ⟨f.k, f.p, f.fl, ms, v⟩ := by simpa using hi.symm
      subst hrow
      have h0 := hx i f.cells (by rw [List.getElem?_map, hf]; rfl)
      by_cases hk : k = 3
      · subst hk
        have : u = v := by simpa using hu.symm
        subst this
        rw [Nat.zero_add]
        have := h0 3 f.v rfl
        rw [Nat.zero_add] at this
        exact World.cell?_setCell_same _ _ _ this
      · rw [World.cell?_setCell_other w ⟨g, i * 4 + 3, none⟩ ⟨g, 0 + i * 4 + k, none⟩ _ (by simp <;> omega)]
        refine h0 k u ?_
        match k, hk, hu with
        | 0, _, hu => exact hu
        | 1, _, hu => exact hu
        | 2, _, hu => exact hu
        | k + 4, _, hu => simp at hu
    · rw [List.getElem?_set_ne (fun h => hij h.symm)] at hi
      have hrl : row.length = 4 := fd_rows fs row (by rw [← List.getElem?_map] at hi; exact List.mem_of_getElem? hi)
      have hk := (List.getElem?_eq_some_iff.1 hu).1
      rw [World.cell?_setCell_other w ⟨g, j * 4 + 3, none⟩ ⟨g, 0 + i * 4 + k, none⟩ _ (by simp <;> omega)]
      exact hx i row (by rw [List.getElem?_map]; exact hi) k u hu
/-- Declarations of one type, with other moves in one field. -/
theorem one_in {w w' : World} {lo L c g j : Nat} {E : Dc} {fs : List Fd} {f : Fd} (hE : E.Own w lo) (ht : E.ts = [⟨fs, .slice (some ⟨g, 0, none⟩) L c⟩]) (hf : fs[j]? = some f) {v : Value} {ms : List Mv}
    (hb : Below w.heap.size (w.setCell ⟨g, j * 4 + 3, none⟩ v) w') (hm : SlR 4 w' w'.heap.size v (ms.map Mv.cells)) :
    (⟨[⟨fs.set j ⟨f.k, f.p, f.fl, ms, v⟩, .slice (some ⟨g, 0, none⟩) L c⟩], E.ps, E.tv, E.pv⟩ : Dc).In w' w'.heap.size := by
  have hs : (w.setCell ⟨g, j * 4 + 3, none⟩ v).heap.size = w.heap.size := by simp [World.setCell]
  rw [← hs] at hb
  have hto := hE.2.1 ⟨fs, .slice (some ⟨g, 0, none⟩) L c⟩ (by rw [ht]; simp)
  have hrow := hto.1
  dsimp only at hrow
  have hg : (Value.slice (some ⟨g, 0, none⟩) L c).ownBlock = some g := rfl
  refine ⟨?_, ?_, ?_⟩
  · have h := ((OwnR.setNe hE.1 (OwnR.apart hrow hE.1 (by decide) hg) (j * 4 + 3) v).later hb).sl
    rw [ht] at h
    exact h
  · intro t htm
    have : t = ⟨fs.set j ⟨f.k, f.p, f.fl, ms, v⟩, .slice (some ⟨g, 0, none⟩) L c⟩ := by simpa using htm
    subst this
    refine ⟨?_, fun k hk => ?_⟩
    · have h := set_field (j := j) hrow.sl hf ms v
      rw [← hs] at h
      exact SlR.later h hb
    · dsimp only at hk
      rcases List.mem_or_eq_of_mem_set hk with hk | rfl
      · have hko := hto.2 k hk
        exact ((OwnR.setNe hko (OwnR.apart hrow hko (by decide) hg) (j * 4 + 3) v).later hb).sl
      · exact hm
  · exact ((OwnR.setNe hE.2.2 (OwnR.apart hrow hE.2.2 (by decide) hg) (j * 4 + 3) v).later hb).sl
/-- Declarations that grow: types T and projections P behind what was there. -/
structure GSt (w : World) (lo gb jt jp : Nat) (G : Dc) (T : Ty) (P : Pj) (tv pv : Value) : Prop where
  ts : OwnR 1 45 w lo tv ((G.ts ++ List.replicate jt T).map Ty.cells)
  own : ∀ t ∈ G.ts, t.Own w lo
  ps : OwnR 5 47 w lo pv ((G.ps ++ List.replicate jp P).map Pj.cells)
  nt : tv.ownBlock ≠ some gb
  np : pv.ownBlock ≠ some gb
def GNe (G : Dc) (gb : Nat) : Prop := ∀ t ∈ G.ts, t.v.ownBlock ≠ some gb ∧ ∀ f ∈ t.fs, f.v.ownBlock ≠ some gb
theorem GSt.later {w w' : World} {lo gb jt jp : Nat} {G : Dc} {T : Ty} {P : Pj} {tv pv : Value} (h : GSt w lo gb jt jp G T P tv pv) (hb : Below w.heap.size w w') : GSt w' lo gb jt jp G T P tv pv :=
  ⟨h.ts.later hb, fun t ht => (h.own t ht).later hb, h.ps.later hb, h.nt, h.np⟩
theorem Ty.Own.setNe {w : World} {lo q : Nat} {t : Ty} (h : t.Own w lo) (hq : t.v.ownBlock ≠ some q ∧ ∀ f ∈ t.fs, f.v.ownBlock ≠ some q) (o : Nat) (x : Value) : t.Own (w.setCell ⟨q, o, none⟩ x) lo :=
  ⟨OwnR.setNe h.1 hq.1 o x, fun f hf => OwnR.setNe (h.2 f hf) (hq.2 f hf) o x⟩
theorem GSt.addT {w w' : World} {lo gb jt jp n : Nat} {G : Dc} {T : Ty} {P : Pj} {tv tv' pv : Value} (h : GSt w lo gb jt jp G T P tv pv) (hn : GNe G gb) (hl : n = G.ts.length + jt) (hg : w.grownBy w' tv.ownBlock)
    (ho : w'.ownsRow lo 45 1 tv' (n + 1) (((G.ts ++ List.replicate jt T).map Ty.cells).flatten ++ T.cells)) (hne : tv'.ownBlock ≠ some gb) (o : Nat) (x : Value) : GSt (w'.setCell ⟨gb, o, none⟩ x) lo gb (jt + 1) jp G T P tv' pv := by
  subst hl
  have e : (G.ts ++ List.replicate (jt + 1) T).map Ty.cells = (G.ts ++ List.replicate jt T).map Ty.cells ++ [T.cells] := by
    rw [List.replicate_succ', ← List.append_assoc, List.map_append]; rfl
  have hr : OwnR 1 45 w' lo tv' ((G.ts ++ List.replicate (jt + 1) T).map Ty.cells) := by
    refine ⟨ty_rows _, ?_⟩
    rw [e, List.flatten_append, List.length_append, List.length_map, List.length_append, List.length_replicate]
    simpa using ho
  refine ⟨hr.setNe hne o x, fun t ht => ?_, (OwnR.grown h.ps h.ts.2 (by decide) hg).setNe h.np o x, hne, h.np⟩
  exact Ty.Own.setNe ((h.own t ht).grownT h.ts.2 hg) (hn t ht) o x
theorem GSt.addP {w w' : World} {lo gb jt jp n : Nat} {G : Dc} {T : Ty} {P : Pj} {tv pv pv' : Value} (h : GSt w lo gb jt jp G T P tv pv) (hn : GNe G gb) (hl : n = G.ps.length + jp) (hg : w.grownBy w' pv.ownBlock)
    (ho : w'.ownsRow lo 47 5 pv' (n + 1) (((G.ps ++ List.replicate jp P).map Pj.cells).flatten ++ P.cells)) (hne : pv'.ownBlock ≠ some gb) (o : Nat) (x : Value) : GSt (w'.setCell ⟨gb, o, none⟩ x) lo gb jt (jp + 1) G T P tv pv' := by
  subst hl
  have e : (G.ps ++ List.replicate (jp + 1) P).map Pj.cells = (G.ps ++ List.replicate jp P).map Pj.cells ++ [P.cells] := by
    rw [List.replicate_succ', ← List.append_assoc, List.map_append]; rfl
  have hr : OwnR 5 47 w' lo pv' ((G.ps ++ List.replicate (jp + 1) P).map Pj.cells) := by
    refine ⟨pj_rows _, ?_⟩
    rw [e, List.flatten_append, List.length_append, List.length_map, List.length_append, List.length_replicate]
    simpa using ho
  refine ⟨(OwnR.grown h.ts h.ps.2 (by decide) hg).setNe h.nt o x, fun t ht => ?_, hr.setNe hne o x, h.nt, hne⟩
  have h0 := h.own t ht
  exact Ty.Own.setNe ⟨OwnR.grown h0.1 h.ps.2 (by decide) hg, fun f hf => OwnR.grown (h0.2 f hf) h.ps.2 (by decide) hg⟩ (hn t ht) o x
theorem GSt.inn {w : World} {lo gb jt jp : Nat} {G : Dc} {T : Ty} {P : Pj} {tv pv : Value} (h : GSt w lo gb jt jp G T P tv pv) (hT : T.In w w.heap.size) : (⟨G.ts ++ List.replicate jt T, G.ps ++ List.replicate jp P, tv, pv⟩ : Dc).In w w.heap.size :=
  ⟨h.ts.sl, fun t ht => by
    rcases List.mem_append.1 ht with h1 | h1
    · exact (h.own t h1).inn
    · rw [List.eq_of_mem_replicate h1]; exact hT, h.ps.sl⟩
theorem GSt.first {w : World} {lo gb : Nat} {G : Dc} (h : G.Own w lo) (T : Ty) (P : Pj) (hg : w.heap.size ≤ gb) : GSt w lo gb 0 0 G T P G.tv G.pv ∧ GNe G gb := by
  have hlt : ∀ {sz : Nat} {e : TypeId} {v : Value} {rows : List (List Value)}, OwnR sz e w lo v rows → v.ownBlock ≠ some gb := fun hr he => by
    have := (World.ownsRow.lt hr.2 gb he).2; omega
  exact ⟨⟨by simpa using h.1, h.2.1, by simpa using h.2.2, hlt h.1, hlt h.2.2⟩, fun t ht => ⟨hlt (h.2.1 t ht).1, fun f hf => hlt ((h.2.1 t ht).2 f hf)⟩⟩
/-- A copy of declarations of one type, as it lies. -/
structure Cop (w : World) (E : Dc) (fs : List Fd) (f : Fd) (g cf tb tc : Nat) (A' : Option Addr) (c' : Nat) : Prop where
  ts : E.ts = [⟨fs, .slice (some ⟨g, 0, none⟩) 6 cf⟩]
  tv : E.tv = .slice (some ⟨tb, 0, none⟩) 1 tc
  pv : E.pv = .slice A' 3 c'
  ps : E.ps = shopPs
  f3 : fs[3]? = some f
  ct : w.cell? ⟨tb, 0, none⟩ = some (.slice (some ⟨g, 0, none⟩) 6 cf)
  cg : ∃ u, w.cell? ⟨g, 15, none⟩ = some u
  fg : ∀ o, w.frozen? ⟨g, o, none⟩ = false
  lg : g < w.heap.size
  lt : tb < w.heap.size
  ne : tb ≠ g
theorem cop_of {w : World} {lo b : Nat} {E : Dc} (hE : E.Own w lo) (hp : E.pl = (shopX b (shF b) shopPs).pl) : ∃ fs f g cf tb tc A' c', Cop w E fs f g cf tb tc A' c' := by
  obtain ⟨ts, ps, tv, pv⟩ := E
  unfold Dc.pl at hp
  injection hp with h1 h2
  dsimp only at h1 h2
  subst h2
  have hl : ts.length = 1 := by have := congrArg List.length h1; simpa using this
  obtain ⟨t, rfl⟩ : ∃ t, ts = [t] := List.length_eq_one_iff.1 hl
  obtain ⟨fs, v⟩ := t
  have hfl : fs.length = 6 := by
    have h3 : Ty.pl ⟨fs, v⟩ = Ty.pl ⟨shF b, .slice (some ⟨b + 1 + 1, 0, none⟩) 6 6⟩ := by simpa using h1
    have := congrArg List.length h3
    unfold Ty.pl at this
    simpa [shopFs] using this
  obtain ⟨A, tc, htv⟩ := hE.inn.1.shapeL
  obtain ⟨A', c', hpv⟩ := hE.inn.2.2.shapeL
  dsimp only at htv hpv
  have htv' : tv = .slice A 1 tc := htv
  have hpv' : pv = .slice A' 3 c' := hpv
  subst htv' hpv'
  obtain ⟨tb, rfl⟩ := OwnR.some_ hE.1 (by simp)
  have hto := hE.2.1 ⟨fs, v⟩ (by simp)
  obtain ⟨A2, cf, hv⟩ := hto.1.sl.shapeL
  dsimp only at hv
  rw [hfl] at hv
  subst hv
  obtain ⟨g, rfl⟩ := OwnR.some_ hto.1 (by rw [List.length_map]; dsimp only; omega)
  obtain ⟨f, hf⟩ : ∃ f, fs[3]? = some f := ⟨_, List.getElem?_eq_getElem (by omega)⟩
  have hrow := hto.1
  dsimp only at hrow
  refine ⟨fs, f, g, cf, tb, tc, A', c', rfl, rfl, rfl, rfl, hf, ?_, ?_, fun o => ?_, (World.ownsRow.lt hrow.2 g rfl).2, (World.ownsRow.lt hE.1.2 tb rfl).2, fun he => ?_⟩
  · obtain ⟨b', o', e', _, _, hx'⟩ := SlR.at (i := 0) hE.1.sl (x := ⟨fs, .slice (some ⟨g, 0, none⟩) 6 cf⟩) rfl
    injection e' with e'
    injection e' with e1 e2
    subst e1 e2
    have := hx' 0 _ rfl
    simpa using this
  · obtain ⟨b', o', e', _, _, hx'⟩ := SlR.at (i := 3) hrow.sl hf
    injection e' with e'
    injection e' with e1 e2
    subst e1 e2
    have := hx' 3 _ rfl
    exact ⟨_, by simpa using this⟩
  · have h2 := hrow.2
    rw [List.length_map, hfl] at h2
    exact World.ownsRow.frozenAt h2 o
  · subst he
    exact OwnR.apart hrow hE.1 (by decide) (a := tb) rfl rfl
end Go.Proofs.YtamnligooelmgaaDoor
