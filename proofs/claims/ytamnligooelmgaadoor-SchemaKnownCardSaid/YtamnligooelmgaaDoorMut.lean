/- The shop, with a number in it written over. -/
import Derived.Test.YtamnligooelmgaaDoorShop
import Derived.Test.YtamnligooelmgaaDoorPl
set_option maxRecDepth 100000
set_option maxRecDepth 100000
set_option linter.unusedVariables false
set_option linter.unusedSimpArgs false
namespace Go.Proofs.YtamnligooelmgaaDoor
open Go.RowKit Go.BigFrame

theorem Has.set_ {w : World} {b : Nat} {cs : Array Value} (h : Has w b cs) {o : Nat} (ho : o < cs.size) (v : Value) : Has (w.setCell ⟨b, o, none⟩ v) b (cs.setIfInBounds o v) := by
  refine ⟨by have := h.1; simpa [World.setCell] using this, fun i => ?_⟩
  by_cases he : i = o
  · subst he
    rw [World.cell?_setCell_same w _ _ ((h.2 i).trans (Array.getElem?_eq_getElem ho))]
    simp [ho]
  · rw [World.cell?_setCell_other w ⟨b, o, none⟩ ⟨b, i, none⟩ _ (by simp [he]), h.2 i]
    simp [Array.getElem?_setIfInBounds, Ne.symm he]
theorem Has.setOther_ {w : World} {b q : Nat} {cs : Array Value} (h : Has w b cs) (hne : q ≠ b) (o : Nat) (v : Value) : Has (w.setCell ⟨q, o, none⟩ v) b cs :=
  ⟨by have := h.1; simpa [World.setCell] using this, fun i => (World.cell?_setCell_other w ⟨q, o, none⟩ ⟨b, i, none⟩ _ (by simp [Ne.symm hne])).trans (h.2 i)⟩
theorem SlR.of_has {sz : Nat} {w : World} {b n : Nat} {rows : List (List Value)} (h : Has w b rows.flatten.toArray) (hs : ∀ r ∈ rows, r.length = sz) (hn : n = rows.length) : SlR sz w w.heap.size (.slice (some ⟨b, 0, none⟩) n n) rows := by
  subst hn
  refine .inr ⟨b, 0, _, rfl, h.1, Nat.le_refl _, fun i r hr j u hu => ?_⟩
  have hf := flat_get hs i r hr j u hu
  rw [Nat.zero_add, h.2]
  simpa using hf
/-- A shop whose fields and projections are these. -/
abbrev shopX (b : Nat) (fs : List Fd) (ps : List Pj) : Dc := ⟨[⟨fs, .slice (some ⟨b + 1 + 1, 0, none⟩) 6 6⟩], ps, .slice (some ⟨b + 1 + 1 + 1 + 1, 0, none⟩) 1 1, .slice (some ⟨b + 1 + 1 + 1, 0, none⟩) 3 3⟩
/-- It lies there. -/
structure ShopAt (w : World) (b : Nat) (fs : List Fd) (ms : List Mv) (ps : List Pj) : Prop where
  m : Has w (b + 1) (ms.map Mv.cells).flatten.toArray
  f : Has w (b + 1 + 1) (fs.map Fd.cells).flatten.toArray
  p : Has w (b + 1 + 1 + 1) (ps.map Pj.cells).flatten.toArray
  t : Has w (b + 1 + 1 + 1 + 1) (shopC5 b)
  lf : fs.length = 6
  lp : ps.length = 3
  mv : ∀ f ∈ fs, (f.ms = [] ∧ f.v = .slice none 0 0) ∨ (f.ms = ms ∧ f.v = .slice (some ⟨b + 1, 0, none⟩) ms.length ms.length)
theorem ShopAt.inn {w : World} {b : Nat} {fs : List Fd} {ms : List Mv} {ps : List Pj} (h : ShopAt w b fs ms ps) : (shopX b fs ps).In w w.heap.size := by
  refine ⟨SlR.of_has (rows := [[.slice (some ⟨b + 1 + 1, 0, none⟩) 6 6]]) h.t (by simp) rfl, ?_, SlR.of_has h.p (pj_rows _) (by rw [List.length_map, h.lp])⟩
  intro t ht
  have : t = ⟨fs, .slice (some ⟨b + 1 + 1, 0, none⟩) 6 6⟩ := by simpa using ht
  subst this
  refine ⟨SlR.of_has h.f (fd_rows _) (by rw [List.length_map, h.lf]), fun f hf => ?_⟩
  rcases h.mv f hf with ⟨h1, h2⟩ | ⟨h1, h2⟩
  · unfold Fd.In; rw [h1, h2]; exact SlR.none_
  · unfold Fd.In; rw [h1, h2]; exact SlR.of_has h.m (mv_rows _) (by rw [List.length_map])
theorem ShopAt.later {w w' : World} {b : Nat} {fs : List Fd} {ms : List Mv} {ps : List Pj} (h : ShopAt w b fs ms ps) (hb : Below w.heap.size w w') : ShopAt w' b fs ms ps :=
  ⟨h.m.later hb, h.f.later hb, h.p.later hb, h.t.later hb, h.lf, h.lp, h.mv⟩
theorem shopW_at (w : World) : ShopAt (shopW w) w.heap.size (shopFs (.slice (some ⟨w.heap.size + 1, 0, none⟩) 3 3)) shopMs shopPs := by
  obtain ⟨W1, h1⟩ : ∃ W1, W1 = w.alloc (.cells (shopC1 w.heap.size) 25) := ⟨_, rfl⟩
  obtain ⟨W2, h2⟩ : ∃ W2, W2 = W1.alloc (.cells shopC2 39) := ⟨_, rfl⟩
  obtain ⟨W3, h3⟩ : ∃ W3, W3 = W2.alloc (.cells (shopC3 w.heap.size) 33) := ⟨_, rfl⟩
  obtain ⟨W4, h4⟩ : ∃ W4, W4 = W3.alloc (.cells shopC4 47) := ⟨_, rfl⟩
  obtain ⟨W5, h5⟩ : ∃ W5, W5 = W4.alloc (.cells (shopC5 w.heap.size) 45) := ⟨_, rfl⟩
  have e : shopW w = W5 := by rw [h5, h4, h3, h2, h1]; rfl
  rw [e]
  have s1 : W1.heap.size = w.heap.size + 1 := by rw [h1]; simp
  have s2 : W2.heap.size = w.heap.size + 1 + 1 := by rw [h2]; simp [s1]
  have s3 : W3.heap.size = w.heap.size + 1 + 1 + 1 := by rw [h3]; simp [s2]
  have s4 : W4.heap.size = w.heap.size + 1 + 1 + 1 + 1 := by rw [h4]; simp [s3]
  have b3 : Below W2.heap.size W2 W3 := by rw [h3]; exact Bel.grew (Below.refl _ _) _
  have b4 : Below W3.heap.size W3 W4 := by rw [h4]; exact Bel.grew (Below.refl _ _) _
  have b5 : Below W4.heap.size W4 W5 := by rw [h5]; exact Bel.grew (Below.refl _ _) _
  have k2 : Has W2 (w.heap.size + 1) shopC2 := by rw [h2]; exact Has.new1 _ _ _ s1.symm
  have k3 : Has W3 (w.heap.size + 1 + 1) (shopC3 w.heap.size) := by rw [h3]; exact Has.new1 _ _ _ s2.symm
  have k4 : Has W4 (w.heap.size + 1 + 1 + 1) shopC4 := by rw [h4]; exact Has.new1 _ _ _ s3.symm
  have k5 : Has W5 (w.heap.size + 1 + 1 + 1 + 1) (shopC5 w.heap.size) := by rw [h5]; exact Has.new1 _ _ _ s4.symm
  refine ⟨k2.later (Bel.then b3 (Bel.then b4 b5)), k3.later (Bel.then b4 b5), k4.later b5, k5, rfl, rfl, fun f hf => ?_⟩
  simp only [shopFs, List.mem_cons, List.not_mem_nil, or_false] at hf
  rcases hf with rfl | rfl | rfl | rfl | rfl | rfl
  · exact .inl ⟨rfl, rfl⟩
  · exact .inl ⟨rfl, rfl⟩
  · exact .inl ⟨rfl, rfl⟩
  · exact .inr ⟨rfl, rfl⟩
  · exact .inl ⟨rfl, rfl⟩
  · exact .inl ⟨rfl, rfl⟩
/-- A field's number written over. -/
theorem ShopAt.setF {w : World} {b : Nat} {fs : List Fd} {ms : List Mv} {ps : List Pj} (h : ShopAt w b fs ms ps) {fs' : List Fd} {o : Nat} {v : Value} (ho : o < 24) (he : ((fs.map Fd.cells).flatten.toArray).setIfInBounds o v = (fs'.map Fd.cells).flatten.toArray) (hl : fs'.length = 6)
    (hm : ∀ f ∈ fs', (f.ms = [] ∧ f.v = .slice none 0 0) ∨ (f.ms = ms ∧ f.v = .slice (some ⟨b + 1, 0, none⟩) ms.length ms.length)) : ShopAt (w.setCell ⟨b + 1 + 1, o, none⟩ v) b fs' ms ps := by
  refine ⟨h.m.setOther_ (by omega) _ _, ?_, h.p.setOther_ (by omega) _ _, h.t.setOther_ (by omega) _ _, hl, h.lp, hm⟩
  rw [← he]
  refine Has.set_ h.f ?_ v
  have := flat_len (fd_rows fs)
  rw [List.length_map, h.lf] at this
  simpa [this] using ho
theorem ShopAt.setP {w : World} {b : Nat} {fs : List Fd} {ms : List Mv} {ps : List Pj} (h : ShopAt w b fs ms ps) {ps' : List Pj} {o : Nat} {v : Value} (ho : o < 15) (he : ((ps.map Pj.cells).flatten.toArray).setIfInBounds o v = (ps'.map Pj.cells).flatten.toArray) (hl : ps'.length = 3) : ShopAt (w.setCell ⟨b + 1 + 1 + 1, o, none⟩ v) b fs ms ps' := by
  refine ⟨h.m.setOther_ (by omega) _ _, h.f.setOther_ (by omega) _ _, ?_, h.t.setOther_ (by omega) _ _, h.lf, hl, h.mv⟩
  rw [← he]
  refine Has.set_ h.p ?_ v
  have := flat_len (pj_rows ps)
  rw [List.length_map, h.lp] at this
  simpa [this] using ho
theorem ShopAt.setM {w : World} {b : Nat} {fs fs' : List Fd} {ms ms' : List Mv} {ps : List Pj} (h : ShopAt w b fs ms ps) {o : Nat} {v : Value} (ho : o < ms.length * 4) (he : ((ms.map Mv.cells).flatten.toArray).setIfInBounds o v = (ms'.map Mv.cells).flatten.toArray)
    (hc : (fs.map Fd.cells) = (fs'.map Fd.cells)) (hm : ∀ f ∈ fs', (f.ms = [] ∧ f.v = .slice none 0 0) ∨ (f.ms = ms' ∧ f.v = .slice (some ⟨b + 1, 0, none⟩) ms'.length ms'.length)) : ShopAt (w.setCell ⟨b + 1, o, none⟩ v) b fs' ms' ps := by
  refine ⟨?_, ?_, h.p.setOther_ (by omega) _ _, h.t.setOther_ (by omega) _ _, ?_, h.lp, hm⟩
  · rw [← he]
    refine Has.set_ h.m ?_ v
    have := flat_len (mv_rows ms)
    rw [List.length_map] at this
    simpa [this] using ho
  · rw [← hc]; exact h.f.setOther_ (by omega) _ _
  · have := congrArg List.length hc
    rw [List.length_map, List.length_map, h.lf] at this
    exact this.symm
end Go.Proofs.YtamnligooelmgaaDoor
