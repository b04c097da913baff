/- CopyDecl. -/
import Derived.Test.YtamnligooelmgaaDoorCopyF
import Derived.Deep.RegionLaw
import Derived.Deep.AppendLies
set_option maxRecDepth 100000
set_option maxRecDepth 100000
set_option linter.unusedVariables false
set_option linter.unusedSimpArgs false
namespace Go.Proofs.YtamnligooelmgaaDoor
open Go.RowKit Go.BigFrame

theorem infoFd : (Tryd.prog.info? 33).map (fun i => (i.zero, i.size, i.bytes)) = some (some (.agg #[.int .i64 0, .int .i64 0, .bool false, .slice none 0 0]), 4, 48) := by kernel_rfl
theorem infoTy : (Tryd.prog.info? 45).map (fun i => (i.zero, i.size, i.bytes)) = some (some (.agg #[.slice none 0 0]), 1, 24) := by kernel_rfl
theorem infoPj : (Tryd.prog.info? 47).map (fun i => (i.zero, i.size, i.bytes)) = some (some (.agg #[.int .i64 0, .int .i64 0, .int .i64 0, .int .i64 0, .int .i64 0]), 5, 40) := by kernel_rfl
/-- Fields that have been copied. -/
def FsAt (w : World) (lo : Nat) (v : Value) (fs : List Fd) (pl : List PF) : Prop := w.ownsRow lo 33 4 v fs.length ((fs.map Fd.cells).flatten) ∧ (∀ f ∈ fs, f.Own w lo) ∧ fs.map Fd.pl = pl
/-- The types' rows of fields lie in blocks that rise. -/
def Rise (ts : List Ty) : Prop := ∀ (i j : Nat) (t u : Ty) (a b : Nat), i < j → ts[i]? = some t → ts[j]? = some u → t.v.ownBlock = some a → u.v.ownBlock = some b → a < b
theorem Rise.nil_ : Rise [] := fun i j t u a b _ h => by simp at h
theorem Rise.snoc {ts : List Ty} {t : Ty} (h : Rise ts) (m : Nat) (h1 : ∀ u ∈ ts, ∀ a, u.v.ownBlock = some a → a < m) (h2 : ∀ a, t.v.ownBlock = some a → m ≤ a) : Rise (ts ++ [t]) := by
  intro i j x y a b hij hx hy ha hb
  have hj : j < ts.length + 1 := by have := (List.getElem?_eq_some_iff.1 hy).1; simpa using this
  have hi : i < ts.length := by omega
  rw [List.getElem?_append_left hi] at hx
  by_cases hjl : j < ts.length
  · rw [List.getElem?_append_left hjl] at hy
    exact h i j x y a b hij hx hy ha hb
  · rw [List.getElem?_append_right (by omega)] at hy
    have hj0 : j - ts.length = 0 := by omega
    rw [hj0] at hy
    have hy : t = y := by simpa using hy
    subst hy
    have := h1 x (List.mem_of_getElem? hx) a ha
    have := h2 b hb
    omega
def TsAt (w : World) (lo : Nat) (v : Value) (ts : List Ty) (pl : List (List PF)) : Prop := w.ownsRow lo 45 1 v ts.length ((ts.map Ty.cells).flatten) ∧ (∀ t ∈ ts, t.Own w lo) ∧ ts.map Ty.pl = pl ∧ Rise ts
theorem FsAt.nil_ (w : World) (lo : Nat) : FsAt w lo (.slice none 0 0) [] [] := ⟨World.ownsRow_nil _ _ _ _, by simp, rfl⟩
theorem TsAt.nil_ (w : World) (lo : Nat) : TsAt w lo (.slice none 0 0) [] [] := ⟨World.ownsRow_nil _ _ _ _, by simp, rfl, Rise.nil_⟩
theorem row_later {w w' : World} {lo sz n : Nat} {e : TypeId} {v : Value} {xs : List Value} (h : w.ownsRow lo e sz v n xs) (hb : Below w.heap.size w w') : w'.ownsRow lo e sz v n xs := by
  refine ⟨h.1, ?_⟩
  rcases h.2 with h2 | ⟨g, cap, cur, hv, hg, hh, r⟩
  · exact .inl h2
  · have hlt : g < w.heap.size := by
      rcases Nat.lt_or_ge g w.heap.size with hlt | hge
      · exact hlt
      · rw [Array.getElem?_eq_none hge] at hh; cases hh
    exact .inr ⟨g, cap, cur, hv, hg, (hb.block g hlt).trans hh, r⟩
theorem row_set {w : World} {lo sz n q : Nat} {e : TypeId} {v : Value} {xs : List Value} (h : w.ownsRow lo e sz v n xs) (hq : q < lo) (o : Nat) (x : Value) : (w.setCell ⟨q, o, none⟩ x).ownsRow lo e sz v n xs := by
  refine ⟨h.1, ?_⟩
  rcases h.2 with h2 | ⟨b, cap, cur, hv, hg, hh, r⟩
  · exact .inl h2
  · exact .inr ⟨b, cap, cur, hv, hg, (Below.heap_setCell _ _ _ _ (by simp; omega)).trans hh, r⟩
theorem row_down {w : World} {lo lo' sz n : Nat} {e : TypeId} {v : Value} {xs : List Value} (h : w.ownsRow lo e sz v n xs) (hl : lo' ≤ lo) : w.ownsRow lo' e sz v n xs := by
  refine ⟨h.1, ?_⟩
  rcases h.2 with h2 | ⟨b, cap, cur, hv, hg, r⟩
  · exact .inl h2
  · exact .inr ⟨b, cap, cur, hv, by omega, r⟩
theorem FsAt.later {w w' : World} {lo : Nat} {v : Value} {fs : List Fd} {pl : List PF} (h : FsAt w lo v fs pl) (hb : Below w.heap.size w w') : FsAt w' lo v fs pl := ⟨row_later h.1 hb, fun f hf => (h.2.1 f hf).later hb, h.2.2⟩
theorem TsAt.later {w w' : World} {lo : Nat} {v : Value} {ts : List Ty} {pl : List (List PF)} (h : TsAt w lo v ts pl) (hb : Below w.heap.size w w') : TsAt w' lo v ts pl := ⟨row_later h.1 hb, fun f hf => (h.2.1 f hf).later hb, h.2.2⟩
theorem FsAt.set {w : World} {lo q : Nat} {v : Value} {fs : List Fd} {pl : List PF} (h : FsAt w lo v fs pl) (hq : q < lo) (o : Nat) (x : Value) : FsAt (w.setCell ⟨q, o, none⟩ x) lo v fs pl := ⟨row_set h.1 hq o x, fun f hf => (h.2.1 f hf).setOther hq o x, h.2.2⟩
theorem TsAt.set {w : World} {lo q : Nat} {v : Value} {ts : List Ty} {pl : List (List PF)} (h : TsAt w lo v ts pl) (hq : q < lo) (o : Nat) (x : Value) : TsAt (w.setCell ⟨q, o, none⟩ x) lo v ts pl := ⟨row_set h.1 hq o x, fun f hf => (h.2.1 f hf).setOther hq o x, h.2.2⟩
/-- One more field. -/
theorem FsAt.snoc {w w' : World} {lo : Nat} {v v' : Value} {fs : List Fd} {pl : List PF} {f : Fd} (h : FsAt w lo v fs pl) (hf : f.Own w lo) (hg : w.grownBy w' v.ownBlock) (ho : w'.ownsRow lo 33 4 v' (fs.length + 1) ((fs.map Fd.cells).flatten ++ f.cells)) : FsAt w' lo v' (fs ++ [f]) (pl ++ [f.pl]) := by
  refine ⟨by simpa using ho, fun g hg' => ?_, by rw [List.map_append, h.2.2]; rfl⟩
  rcases List.mem_append.1 hg' with h1 | h1
  · exact OwnR.grown (h.2.1 g h1) h.1 (by decide) hg
  · have : g = f := by simpa using h1
    subst this
    exact OwnR.grown hf h.1 (by decide) hg
theorem Ty.Own.grownT {w w' : World} {lo B n : Nat} {t : Ty} {u : Value} {cs : List Value} (h : t.Own w lo) (hu : w.ownsRow B 45 1 u n cs) (hg : w.grownBy w' u.ownBlock) : t.Own w' lo :=
  ⟨OwnR.grown h.1 hu (by decide) hg, fun f hf => OwnR.grown (h.2 f hf) hu (by decide) hg⟩
theorem TsAt.snoc {w w' : World} {lo : Nat} {v v' : Value} {ts : List Ty} {pl : List (List PF)} {t : Ty} (h : TsAt w lo v ts pl) (hri : Rise (ts ++ [t])) (hf : t.Own w lo) (hg : w.grownBy w' v.ownBlock) (ho : w'.ownsRow lo 45 1 v' (ts.length + 1) ((ts.map Ty.cells).flatten ++ t.cells)) : TsAt w' lo v' (ts ++ [t]) (pl ++ [t.pl]) := by
  refine ⟨by simpa using ho, fun g hg' => ?_, by rw [List.map_append, h.2.2.1]; rfl, hri⟩
  rcases List.mem_append.1 hg' with h1 | h1
  · exact Ty.Own.grownT (h.2.1 g h1) h.1 hg
  · have : g = t := by simpa using h1
    subst this
    exact Ty.Own.grownT hf h.1 hg
theorem FsAt.own {w : World} {lo : Nat} {v : Value} {fs : List Fd} {pl : List PF} (h : FsAt w lo v fs pl) : (⟨fs, v⟩ : Ty).Own w lo := ⟨⟨fun r hr => by obtain ⟨m, _, rfl⟩ := List.mem_map.1 hr; rfl, by simpa using h.1⟩, h.2.1⟩
theorem row_shape {w : World} {lo sz n : Nat} {e : TypeId} {v : Value} {xs : List Value} (h : w.ownsRow lo e sz v n xs) : ∃ A m c, v = .slice A m c := by
  rcases h.2 with ⟨rfl, rfl⟩ | ⟨b, cap, cur, hv, _⟩
  · exact ⟨none, 0, 0, rfl⟩
  · exact ⟨_, _, _, hv⟩
theorem row_slice {w : World} {lo sz n : Nat} {e : TypeId} {v : Value} {xs : List Value} (h : w.ownsRow lo e sz v n xs) : ∃ A c, v = .slice A n c := by
  rcases h.2 with ⟨rfl, rfl⟩ | ⟨b, cap, cur, hv, _⟩
  · exact ⟨none, 0, rfl⟩
  · exact ⟨_, _, hv⟩
theorem TsAt.grownP {w w' : World} {lo B n : Nat} {v u : Value} {ts : List Ty} {pl : List (List PF)} {cs : List Value} (h : TsAt w lo v ts pl) (hu : w.ownsRow B 47 5 u n cs) (hg : w.grownBy w' u.ownBlock) : TsAt w' lo v ts pl := by
  have hr : OwnR 1 45 w lo v (ts.map Ty.cells) := ⟨fun r hr => by obtain ⟨m, _, rfl⟩ := List.mem_map.1 hr; rfl, by simpa using h.1⟩
  have hr' := OwnR.grown hr hu (by decide) hg
  refine ⟨by simpa using hr'.2, fun t ht => ⟨OwnR.grown (h.2.1 t ht).1 hu (by decide) hg, fun f hf => OwnR.grown ((h.2.1 t ht).2 f hf) hu (by decide) hg⟩, h.2.2⟩
theorem take_flatP {ps : List Pj} {k : Nat} {m : Pj} (h : ps[k]? = some m) : (((ps.take (k + 1)).map Pj.cells).flatten) = (((ps.take k).map Pj.cells).flatten) ++ m.cells := by
  rw [take_snoc h]; simp
/-- A cell below a row that grows. -/
theorem cell_grown {w w' : World} {lo sz n q : Nat} {e : TypeId} {v : Value} {xs : List Value} (hr : w.ownsRow lo e sz v n xs) (hg : w.grownBy w' v.ownBlock) (hq : q < lo) (hs : q < w.heap.size) (o : Nat) : w'.cell? ⟨q, o, none⟩ = w.cell? ⟨q, o, none⟩ ∧ w'.frozen? ⟨q, o, none⟩ = w.frozen? ⟨q, o, none⟩ := by
  have h : w'.heap[q]? = w.heap[q]? := hg.block q hs (fun he => by have := own_base hr q he.symm; omega)
  exact ⟨World.cell?_of_block (a := ⟨q, o, none⟩) h, World.frozen?_of_block (a := ⟨q, o, none⟩) h⟩
/-- Declarations in new memory. -/
def CopyDRet (D : Dc) (w : World) (e : Ending) (w' : World) : Prop := ∃ E : Dc, e = .returned (declV E) ∧ E.Own w' w.heap.size ∧ E.pl = D.pl ∧ Rise E.ts ∧ Below w.heap.size w w'
set_option maxHeartbeats 16000000 in
theorem copyDecl_any (D : Dc) (w : World) (hD : D.In w w.heap.size) (hL : LenD D) (hp : D.ps.length ≤ 1099511627776) :
    Calls Tryd.prog 9 #[declV D] w fun e w' => CopyDRet D w e w' := by
  obtain ⟨ts, ps, tv, pv⟩ := D
  obtain ⟨A, c, h1⟩ := hD.1.shapeL
  obtain ⟨A', c', h2⟩ := hD.2.2.shapeL
  dsimp only at h1 h2 hp
  subst h1 h2
  obtain ⟨i0, hi, hz0, hz1, hz2⟩ := info_parts infoFd
  obtain ⟨j0, hj, hy0, hy1, hy2⟩ := info_parts infoTy
  obtain ⟨k0, hk, hx0, hx1, hx2⟩ := info_parts infoPj
  obtain ⟨W, hW⟩ : ∃ W, W = ((w.alloc (.cells #[.slice A ts.length c, .slice A' ps.length c'] 25)).alloc (.cells #[.slice none 0 0, .slice none 0 0] 25)).alloc (.cells #[.slice none 0 0, .slice none 0 0] 25) := ⟨_, rfl⟩
  have hB : Below w.heap.size w W := by rw [hW]; exact Bel.grew (Bel.grew (Bel.grew (Below.refl _ _) _) _) _
  have hC : Has W w.heap.size #[.slice A ts.length c, .slice A' ps.length c'] := by rw [hW]; exact ((Has.new w _ _).grow _).grow _
  have hR : Has W (w.heap.size + 1) #[.slice none 0 0, .slice none 0 0] := by rw [hW]; exact (Has.new1 _ _ _ (by simp)).grow _
  have hO : Has W (w.heap.size + 1 + 1) #[.slice none 0 0, .slice none 0 0] := by rw [hW]; exact Has.new1 _ _ _ (by simp)
  have hf1 : ∀ o, W.frozen? ⟨w.heap.size + 1, o, none⟩ = false := by intro o; rw [hW]; simp [go_sem]
  have hf2 : ∀ o, W.frozen? ⟨w.heap.size + 1 + 1, o, none⟩ = false := by intro o; rw [hW]; simp [go_sem]
  have hsz : W.heap.size = w.heap.size + 1 + 1 + 1 := by rw [hW]; simp
  have HD := Lib.hid (hD.below hB)
  have HSZ := Lib.hid hsz
  have HB := Lib.hid hB
  have HW := Lib.hid hW
  have HC := Lib.hid hC
  have HR := Lib.hid hR
  have HO := Lib.hid hO
  have HF1 := Lib.hid hf1
  have HF2 := Lib.hid hf2
  have HL := Lib.hid hL
  have htl : (ts.length : Int) ≤ 1099511627776 := by have := hL.1; dsimp only at this; omega
  have hpl : (ps.length : Int) ≤ 1099511627776 := by omega
  clear hD hB hW hC hR hO hf1 hf2 hsz hL
  go_enter Tryd.func9, Tryd.ntmps9
  go_wp2_with fail
  rw [← HW.out]
  clear HW
  go_loopw [4] (fun i wr => ∃ k : Nat, k ≤ ts.length ∧ i = .int .i64 k ∧ ∃ (ts' : List Ty) (v : Value), Hid (TsAt wr W.heap.size v ts' ((ts.take k).map Ty.pl)) ∧ Hid (ts'.length = k) ∧ wr.cell? ⟨w.heap.size + 1 + 1, 0, none⟩ = some v ∧ wr.cell? ⟨w.heap.size + 1 + 1, 1, none⟩ = some (.slice none 0 0) ∧ (∀ o, wr.frozen? ⟨w.heap.size + 1 + 1, o, none⟩ = false) ∧ Hid (Below (w.heap.size + 1 + 1) W wr ∧ W.heap.size ≤ wr.heap.size)) (fun i _ => ts.length - (intOf i).toNat)
  case atStart => exact ⟨0, Nat.zero_le _, rfl, [], .slice none 0 0, Lib.hid (TsAt.nil_ _ _), Lib.hid rfl, HO.out.2 0, HO.out.2 1, HF2.out, Lib.hid ⟨Below.refl _ _, Nat.le_refl _⟩⟩
  case round =>
    obtain ⟨k, hkl, rfl, ts', v, HTS, HTL, ho0, ho1, hof, HBW⟩ := hrel
    have hdc : ∀ o, wr.cell? ⟨w.heap.size, o, none⟩ = #[Value.slice A ts.length c, .slice A' ps.length c'][o]? := fun o => (HBW.out.1.cell (p := ⟨w.heap.size, o, none⟩) (by show w.heap.size < _; omega)).trans (HC.out.2 o)
    have hdl : w.heap.size < wr.heap.size := by have := HBW.out.2; have := HSZ.out; omega
    have hol : w.heap.size + 1 + 1 < wr.heap.size := by have := HBW.out.2; have := HSZ.out; omega
    by_cases hlt : k < ts.length
    · obtain ⟨t, ht⟩ : ∃ t, ts[k]? = some t := ⟨_, List.getElem?_eq_getElem hlt⟩
      have htm := List.mem_of_getElem? ht
      have HTE := Lib.hid (congrArg (List.map Ty.pl) (take_snoc ht))
      have hD3 := HD.out.below (HBW.out.1.mono (by omega))
      obtain ⟨b, off, rfl, hbb, hcap, hcx⟩ := hD3.1.at ht
      have hti := hD3.2.1 t htm
      have htl2 := HL.out.2 t htm
      obtain ⟨fs, fv⟩ := t
      obtain ⟨A2, c2, h2⟩ := hti.1.shapeL
      dsimp only at h2 htl2
      subst h2
      have hct := hcx 0 _ rfl
      rw [Nat.mul_one, Nat.add_zero] at hct
      dsimp only at hct
      have hkI : (k : Int) < (ts.length : Int) := by omega
      have hfl : (fs.length : Int) ≤ 1099511627776 := by have := htl2.1; omega
      have HTI := Lib.hid hti
      have HTL2 := Lib.hid htl2
      obtain ⟨W0, hW0⟩ : ∃ W0, W0 = wr := ⟨_, rfl⟩
      rw [← hW0] at hct ho0 ho1 hof HBW hdc hdl hol HTS HTI ⊢
      obtain ⟨W1, hW1⟩ : ∃ W1, W1 = W0.alloc (.cells #[.slice none 0 0] 45) := ⟨_, rfl⟩
      have hs1 : W1.heap.size = W0.heap.size + 1 := by rw [hW1]; simp
      have hb1 : Below W0.heap.size W0 W1 := by rw [hW1]; exact Bel.grew (Below.refl _ _) _
      have ht1 : Has W1 W0.heap.size #[.slice none 0 0] := by rw [hW1]; exact Has.new _ _ _
      have htf : ∀ o, W1.frozen? ⟨W0.heap.size, o, none⟩ = false := by intro o; rw [hW1]; simp [go_sem]
      have HS1 := Lib.hid hs1
      have HB1 := Lib.hid hb1
      have HT1 := Lib.hid ht1
      have HTF := Lib.hid htf
      have HW1 := Lib.hid hW1
      have HCT := Lib.hid hct
      have HDC := Lib.hid (And.intro hdl hdc)
      have HOC := Lib.hid (And.intro hol (And.intro ho0 (And.intro ho1 hof)))
      have HBB := Lib.hid hbb
      clear hW0 hs1 hb1 ht1 htf hW1 hD3 hcx hti htl2 htm ht ho0 ho1 hof
      go_wp2_with fail
      rw [← HW1.out]
      clear HW1 hct hdc hdl hol hbb
      go_loopw [6] (fun i wr => ∃ j : Nat, j ≤ fs.length ∧ i = .int .i64 j ∧ ∃ (fs' : List Fd) (u : Value), Hid (FsAt wr W1.heap.size u fs' ((fs.take j).map Fd.pl)) ∧ Hid (fs'.length = j) ∧ wr.cell? ⟨W0.heap.size, 0, none⟩ = some u ∧ (∀ o, wr.frozen? ⟨W0.heap.size, o, none⟩ = false) ∧ Hid (Below W0.heap.size W0 wr ∧ W1.heap.size ≤ wr.heap.size)) (fun i _ => fs.length - (intOf i).toNat)
      case atStart => exact ⟨0, Nat.zero_le _, rfl, [], .slice none 0 0, Lib.hid (FsAt.nil_ _ _), Lib.hid rfl, HT1.out.2 0, HTF.out, Lib.hid ⟨HB1.out, Nat.le_refl _⟩⟩
      case round =>
        obtain ⟨j, hjl, rfl, fs', u, HFS, HFL, hu, huf, HBQ⟩ := hrel
        have hdl : w.heap.size < W0.heap.size := HDC.out.1
        have hdc : ∀ o, wr.cell? ⟨w.heap.size, o, none⟩ = #[Value.slice (some ⟨b, off, none⟩) ts.length c, .slice A' ps.length c'][o]? := fun o => (HBQ.out.1.cell (p := ⟨w.heap.size, o, none⟩) hdl).trans (HDC.out.2 o)
        have hbW : b < W0.heap.size := by have := HBB.out; omega
        have hct : wr.cell? ⟨b, off + k, none⟩ = some (.slice A2 fs.length c2) := (HBQ.out.1.cell (p := ⟨b, off + k, none⟩) hbW).trans HCT.out
        have hqs : W0.heap.size < wr.heap.size := by have := HBQ.out.2; have := HS1.out; omega
        have hdl2 : w.heap.size < wr.heap.size := by omega
        by_cases hjlt : j < fs.length
        · obtain ⟨f, hfj⟩ : ∃ f, fs[j]? = some f := ⟨_, List.getElem?_eq_getElem hjlt⟩
          have hfm := List.mem_of_getElem? hfj
          have HFE := Lib.hid (congrArg (List.map Fd.pl) (take_snoc hfj))
          have hTI := (HTI.out.below (HBQ.out.1.mono (by omega : w.heap.size ≤ W0.heap.size)))
          obtain ⟨b2, off2, rfl, hb2, hcap2, hcy⟩ := hTI.1.at hfj
          have hfi := hTI.2 f hfm
          have hms := HTL2.out.2 f hfm
          obtain ⟨fk, fp, ffl, ms, mv⟩ := f
          obtain ⟨A3, c3, h3⟩ := SlR.shapeL hfi
          dsimp only at h3 hms
          subst h3
          have hf0 := hcy 0 _ rfl
          have hf1 := hcy 1 _ rfl
          have hf2 := hcy 2 _ rfl
          have hf3 := hcy 3 _ rfl
          rw [Nat.add_zero] at hf0
          dsimp only at hf0 hf1 hf2 hf3
          have hjI : (j : Int) < (fs.length : Int) := by omega
          have hkI : (k : Int) < (ts.length : Int) := by omega
          have HFI := Lib.hid (Fd.In.more hfi (by omega : w.heap.size ≤ wr.heap.size))
          clear hTI hcy hfi hfm hfj
          have hd0 := hdc 0
          have hbr : b < wr.heap.size := by omega
          have hb2r : b2 < wr.heap.size := by omega
          have hloW : W0.heap.size < W1.heap.size := by have := HS1.out; omega
          have hnb : b ≠ W0.heap.size := by omega
          have hnb' : W0.heap.size ≠ b := by omega
          have hnb2 : b2 ≠ W0.heap.size := by omega
          have hnb2' : W0.heap.size ≠ b2 := by omega
          have hnw : w.heap.size ≠ W0.heap.size := by omega
          have hnw' : W0.heap.size ≠ w.heap.size := by omega
          have hfsl : fs'.length ≤ 1099511627776 := by have := HFL.out; omega
          have hs3r : W1.heap.size ≤ wr.heap.size := HBQ.out.2
          go_wp2_with fail
          go_region_law (first
            | (refine step_append_lies _ (by rfl) _ _ _ (by rfl) W1.heap.size 33 i0 _ 4 48 Tryd.underlying43 hi hz0 hz1 hz2 rfl (by decide) u fs'.length _ (by rfl) (HRW.out.alloc _) ⟨w3.heap.size, 0, none⟩ 1 1 [.int .i64 fk, .int .i64 fp, .bool ffl, .slice A4 ms.length c4] (by rfl) (by rfl) (cells_newL _ _ _) (by intro u hu; simp at hu; rcases hu with rfl | rfl | rfl | rfl <;> rfl) (by omega) (by unfold maxLen; omega) (by omega) (by rw [World.size_alloc]; omega) (w3.heap.size + 1) (by simp) ?_; intro gU cU w4 hown4 hgrow4 hat4 hlt4; have a0 : w4.cell? ⟨W0.heap.size, 0, none⟩ = some (u) := (World.cell?_of_block (a := ⟨W0.heap.size, 0, none⟩) (hgrow4.block W0.heap.size (by rw [World.size_alloc]; omega) (fun he => by have := own_base HRW.out W0.heap.size he.symm; omega))).trans ((World.cell?_alloc_past _ _ _ (by omega)).trans t0); have a1 : w4.cell? ⟨w.heap.size, 0, none⟩ = some (.slice (some ⟨b, off, none⟩) ts.length c) := (World.cell?_of_block (a := ⟨w.heap.size, 0, none⟩) (hgrow4.block w.heap.size (by rw [World.size_alloc]; omega) (fun he => by have := own_base HRW.out w.heap.size he.symm; omega))).trans ((World.cell?_alloc_past _ _ _ (by omega)).trans t1); have a2 : w4.cell? ⟨b, off + k, none⟩ = some (.slice (some ⟨b2, off2, none⟩) fs.length c2) := (World.cell?_of_block (a := ⟨b, off + k, none⟩) (hgrow4.block b (by rw [World.size_alloc]; omega) (fun he => by have := own_base HRW.out b he.symm; omega))).trans ((World.cell?_alloc_past _ _ _ (by omega)).trans t2); have a3 : w4.cell? ⟨b2, off2 + j * 4, none⟩ = some (.int .i64 fk) := (World.cell?_of_block (a := ⟨b2, off2 + j * 4, none⟩) (hgrow4.block b2 (by rw [World.size_alloc]; omega) (fun he => by have := own_base HRW.out b2 he.symm; omega))).trans ((World.cell?_alloc_past _ _ _ (by omega)).trans t3); have a4 : w4.cell? ⟨b2, off2 + j * 4 + 1, none⟩ = some (.int .i64 fp) := (World.cell?_of_block (a := ⟨b2, off2 + j * 4 + 1, none⟩) (hgrow4.block b2 (by rw [World.size_alloc]; omega) (fun he => by have := own_base HRW.out b2 he.symm; omega))).trans ((World.cell?_alloc_past _ _ _ (by omega)).trans t4); have a5 : w4.cell? ⟨b2, off2 + j * 4 + 2, none⟩ = some (.bool ffl) := (World.cell?_of_block (a := ⟨b2, off2 + j * 4 + 2, none⟩) (hgrow4.block b2 (by rw [World.size_alloc]; omega) (fun he => by have := own_base HRW.out b2 he.symm; omega))).trans ((World.cell?_alloc_past _ _ _ (by omega)).trans t5); have a6 : w4.cell? ⟨b2, off2 + j * 4 + 3, none⟩ = some (.slice A3 ms.length c3) := (World.cell?_of_block (a := ⟨b2, off2 + j * 4 + 3, none⟩) (hgrow4.block b2 (by rw [World.size_alloc]; omega) (fun he => by have := own_base HRW.out b2 he.symm; omega))).trans ((World.cell?_alloc_past _ _ _ (by omega)).trans t6); have huf4 : ∀ o, w4.frozen? ⟨W0.heap.size, o, none⟩ = false := fun o => (World.frozen?_of_block (a := ⟨W0.heap.size, o, none⟩) (hgrow4.block W0.heap.size (by rw [World.size_alloc]; omega) (fun he => by have := own_base HRW.out W0.heap.size he.symm; omega))).trans ((frozen?_alloc_cells _ _ _ _).trans (huf3 o)); have HOW4 := Lib.hid hown4; have HG4 := Lib.hid hgrow4; clear hown4 hgrow4)
            | (go_simp; go_at_call 20; refine (copyField_any ⟨fk, fp, ffl, ms, .slice A3 ms.length c3⟩ _ (HFI.out.later (Below.drew (Below.refl _ _))) hms).mono ?_; rintro e w3 ⟨v', rfl, hown, hb3⟩; obtain ⟨A4, c4, h4⟩ := SlR.shapeL (OwnR.sl hown); dsimp only at h4; subst h4; have hb23 : Below wr.heap.size wr w3 := Bel.then (Below.drew (Below.refl _ _)) hb3; have t0 : w3.cell? ⟨W0.heap.size, 0, none⟩ = some (u) := (hb23.cell (p := ⟨W0.heap.size, 0, none⟩) hqs).trans hu; have t1 : w3.cell? ⟨w.heap.size, 0, none⟩ = some (.slice (some ⟨b, off, none⟩) ts.length c) := (hb23.cell (p := ⟨w.heap.size, 0, none⟩) hdl2).trans hd0; have t2 : w3.cell? ⟨b, off + k, none⟩ = some (.slice (some ⟨b2, off2, none⟩) fs.length c2) := (hb23.cell (p := ⟨b, off + k, none⟩) hbr).trans hct; have t3 : w3.cell? ⟨b2, off2 + j * 4, none⟩ = some (.int .i64 fk) := (hb23.cell (p := ⟨b2, off2 + j * 4, none⟩) hb2r).trans hf0; have t4 : w3.cell? ⟨b2, off2 + j * 4 + 1, none⟩ = some (.int .i64 fp) := (hb23.cell (p := ⟨b2, off2 + j * 4 + 1, none⟩) hb2r).trans hf1; have t5 : w3.cell? ⟨b2, off2 + j * 4 + 2, none⟩ = some (.bool ffl) := (hb23.cell (p := ⟨b2, off2 + j * 4 + 2, none⟩) hb2r).trans hf2; have t6 : w3.cell? ⟨b2, off2 + j * 4 + 3, none⟩ = some (.slice A3 ms.length c3) := (hb23.cell (p := ⟨b2, off2 + j * 4 + 3, none⟩) hb2r).trans hf3; have huf3 : ∀ o, w3.frozen? ⟨W0.heap.size, o, none⟩ = false := fun o => (hb23.frozen (p := ⟨W0.heap.size, o, none⟩) hqs).trans (huf o); have hsz3 := hb23.size; have hlt3 : W0.heap.size < w3.heap.size := (by omega); have hne3 : W0.heap.size ≠ w3.heap.size := (by omega); have hne3' : w3.heap.size ≠ W0.heap.size := (by omega); have HB23 := Lib.hid hb23; have HOW : Hid (OwnR 4 39 w3 wr.heap.size (.slice A4 ms.length c4) (ms.map Mv.cells)) := Lib.hid hown; have HRW : Hid (w3.ownsRow W1.heap.size 33 4 u fs'.length ((fs'.map Fd.cells).flatten)) := Lib.hid (row_later HFS.out.1 hb23); clear hown hb3 hb23))
          all_goals
            go_wp2_with fail
            go_roundw
            case rel =>
              have hb3a : Below w3.heap.size w3 (w3.alloc (.cells #[.int .i64 fk, .int .i64 fp, .bool ffl, .slice A4 ms.length c4] 33)) := Bel.grew (Below.refl _ _) _
              have hfs := (HFS.out.later HB23.out).later hb3a
              have hnew : Fd.Own (w3.alloc (.cells #[.int .i64 fk, .int .i64 fp, .bool ffl, .slice A4 ms.length c4] 33)) W1.heap.size ⟨fk, fp, ffl, ms, .slice A4 ms.length c4⟩ := (OwnR.later HOW.out hb3a).down hs3r
              have hsn := hfs.snoc hnew HG4.out HOW4.out
              refine ⟨j + 1, by omega, by go_num, fs' ++ [⟨fk, fp, ffl, ms, .slice A4 ms.length c4⟩], .slice (some ⟨gU, 0, none⟩) (fs'.length + 1) cU, ?_, Lib.hid (by rw [List.length_append, HFL.out]; rfl), World.cell?_setCell_same _ _ _ a0, fun o => by rw [World.frozen?_setCell]; exact huf4 o, Lib.hid ⟨?_, ?_⟩⟩
              · rw [HFE.out, List.map_append]
                exact Lib.hid (hsn.set (by have := HS1.out; omega) 0 (.slice (some ⟨gU, 0, none⟩) (fs'.length + 1) cU))
              · exact (((HBQ.out.1.trans (HB23.out.mono (by omega))).alloc (by omega) _).grown HG4.out (by rw [World.size_alloc]; omega) (fun g hg => by have := own_base HRW.out g hg; have := HS1.out; omega)).setCell (Nat.le_refl _) _
              · have := HG4.out.size
                rw [World.size_alloc] at this
                simp only [World.setCell] at this ⊢
                first | omega | (simp; omega)
            case measure => simp [intOf]; omega
        · have hj4 : j = fs.length := by omega
          subst hj4
          rw [List.take_length] at HFS
          obtain ⟨AU, nU, cU, rfl⟩ := row_shape HFS.out.1
          have hobl : w.heap.size + 1 + 1 < W0.heap.size := HOC.out.1
          have ho0 : wr.cell? ⟨w.heap.size + 1 + 1, 0, none⟩ = some v := (HBQ.out.1.cell (p := ⟨w.heap.size + 1 + 1, 0, none⟩) hobl).trans HOC.out.2.1
          have ho1 : wr.cell? ⟨w.heap.size + 1 + 1, 1, none⟩ = some (.slice none 0 0) := (HBQ.out.1.cell (p := ⟨w.heap.size + 1 + 1, 1, none⟩) hobl).trans HOC.out.2.2.1
          have hof : ∀ o, wr.frozen? ⟨w.heap.size + 1 + 1, o, none⟩ = false := fun o => (HBQ.out.1.frozen (p := ⟨w.heap.size + 1 + 1, o, none⟩) hobl).trans (HOC.out.2.2.2 o)
          have hqs3 : w.heap.size + 1 + 1 < wr.heap.size := by omega
          have hts : TsAt wr W.heap.size v ts' ((ts.take k).map Ty.pl) := HTS.out.later HBQ.out.1
          have hrow := hts.1
          have hfsl : ts'.length ≤ 1099511627776 := by have := HTL.out; omega
          have hs3 : W.heap.size ≤ wr.heap.size := by have := HBW.out.2; omega
          have HRW := Lib.hid hrow
          have HTS3 := Lib.hid hts
          clear hts
          go_wp2_with (at_builtin; refine wpList_append_own _ rfl _ _ 22 rfl W.heap.size 45 j0 _ 1 24 Tryd.underlying22 hj hy0 hy1 hy2 rfl (by decide) v ts'.length _ rfl (hrow.alloc _) ⟨wr.heap.size, 0, none⟩ 1 1 [.slice AU nU cU] rfl rfl (cells_newL _ _ _) (by intro u hu; simp at hu; subst hu; rfl) (by unfold maxLen; omega) (by omega) (by simp; omega) ?_; intro v' w4 hown4 hgrow4 _; obtain ⟨AV, nV, cV, rfl⟩ := row_shape hown4; have hcg := cell_grown (q := w.heap.size + 1 + 1) (HRW.out.alloc _) hgrow4 (by have := HSZ.out; omega) (by simp; omega); have hu4 : w4.cell? ⟨w.heap.size + 1 + 1, 0, none⟩ = some v := (hcg 0).1.trans ((World.cell?_alloc_past _ _ _ hqs3).trans ho0); have hu5 : w4.cell? ⟨w.heap.size + 1 + 1, 1, none⟩ = some (.slice none 0 0) := (hcg 1).1.trans ((World.cell?_alloc_past _ _ _ hqs3).trans ho1); have huf4 : ∀ o, w4.frozen? ⟨w.heap.size + 1 + 1, o, none⟩ = false := fun o => (hcg o).2.trans ((frozen?_alloc_cells _ _ _ _).trans (hof o)); have HOW4 := Lib.hid hown4; have HG4 := Lib.hid hgrow4; clear hown4 hgrow4 hcg)
          go_roundw
          case rel =>
            have hb3a : Below wr.heap.size wr (wr.alloc (.cells #[.slice AU nU cU] 45)) := Bel.grew (Below.refl _ _) _
            have hnew : Ty.Own (wr.alloc (.cells #[.slice AU nU cU] 45)) W.heap.size ⟨fs', .slice AU nU cU⟩ := (HFS.out.own.later hb3a).down (by have := HBW.out.2; have := HS1.out; omega)
            have hri : Rise (ts' ++ [⟨fs', .slice AU nU cU⟩]) := by
              refine Rise.snoc HTS3.out.2.2.2 W0.heap.size (fun u hu a ha => ?_) (fun a ha => ?_)
              · exact (World.ownsRow.lt (HTS.out.2.1 u hu).1.2 a ha).2
              · have := own_base HFS.out.1 a ha
                have := HS1.out
                omega
            have hsn := (HTS3.out.later hb3a).snoc hri hnew HG4.out HOW4.out
            refine ⟨k + 1, by omega, by go_num, ts' ++ [⟨fs', .slice AU nU cU⟩], .slice AV nV cV, ?_, Lib.hid (by rw [List.length_append, HTL.out]; rfl), World.cell?_setCell_same _ _ _ hu4, (World.cell?_setCell_other w4 ⟨w.heap.size + 1 + 1, 0, none⟩ ⟨w.heap.size + 1 + 1, 1, none⟩ _ (by simp)).trans hu5, fun o => by rw [World.frozen?_setCell]; exact huf4 o, Lib.hid ⟨?_, ?_⟩⟩
            · rw [HTE.out, List.map_append]
              have he : Ty.pl ⟨fs', .slice AU nU cU⟩ = fs.map Fd.pl := HFS.out.2.2
              rw [he] at hsn
              exact Lib.hid (hsn.set (by have := HSZ.out; omega) 0 (.slice AV nV cV))
            · exact (((HBW.out.1.trans (HBQ.out.1.mono (by omega))).alloc (by omega) _).grown HG4.out (by simp; omega) (fun g hg => by have := own_base HRW.out g hg; have := HSZ.out; omega)).setCell (Nat.le_refl _) _
            · have := HG4.out.size
              simp [World.setCell] at this ⊢
              omega
          case measure => simp [intOf]; omega
    · have hk4 : k = ts.length := by omega
      subst hk4
      rw [List.take_length] at HTS
      obtain ⟨W5, hW5⟩ : ∃ W5, W5 = wr := ⟨_, rfl⟩
      rw [← hW5] at HTS ho0 ho1 hof HBW hdc hdl hol ⊢
      have HDC := Lib.hid (And.intro hdl hdc)
      clear hW5
      obtain ⟨AT, nT, cT, rfl⟩ := row_shape HTS.out.1
      go_wp2_with fail
      clear hdc hdl
      go_loopw [7] (fun i wr => ∃ j : Nat, j ≤ ps.length ∧ i = .int .i64 j ∧ ∃ u : Value, wr.ownsRow W.heap.size 47 5 u j (((ps.take j).map Pj.cells).flatten) ∧ Hid (TsAt wr W.heap.size (.slice AT nT cT) ts' (ts.map Ty.pl)) ∧ wr.cell? ⟨w.heap.size + 1 + 1, 0, none⟩ = some (.slice AT nT cT) ∧ wr.cell? ⟨w.heap.size + 1 + 1, 1, none⟩ = some u ∧ (∀ o, wr.frozen? ⟨w.heap.size + 1 + 1, o, none⟩ = false) ∧ Hid (Below (w.heap.size + 1 + 1) W wr ∧ W.heap.size ≤ wr.heap.size)) (fun i _ => ps.length - (intOf i).toNat)
      case atStart => exact ⟨0, Nat.zero_le _, rfl, .slice none 0 0, World.ownsRow_nil _ _ _ _, HTS, ho0, ho1, hof, HBW⟩
      case round =>
        obtain ⟨j, hjl, rfl, u, hrow, HTQ, hq0, hq1, hqf, HBQ⟩ := hrel
        have hdc : ∀ o, wr.cell? ⟨w.heap.size, o, none⟩ = #[Value.slice A ts.length c, .slice A' ps.length c'][o]? := fun o => (HBQ.out.1.cell (p := ⟨w.heap.size, o, none⟩) (by show w.heap.size < _; omega)).trans (HC.out.2 o)
        have hdl2 : w.heap.size < wr.heap.size := by have := HBQ.out.2; have := HSZ.out; omega
        have hqs3 : w.heap.size + 1 + 1 < wr.heap.size := by have := HBQ.out.2; have := HSZ.out; omega
        have hs3 : W.heap.size ≤ wr.heap.size := HBQ.out.2
        obtain ⟨AU, nU, cU, rfl⟩ := row_shape hrow
        by_cases hjlt : j < ps.length
        · obtain ⟨pj, hpj⟩ : ∃ pj, ps[j]? = some pj := ⟨_, List.getElem?_eq_getElem hjlt⟩
          have HPE := Lib.hid (take_flatP hpj)
          have hD3 := HD.out.below (HBQ.out.1.mono (by omega : w.heap.size ≤ w.heap.size + 1 + 1))
          obtain ⟨b, off, rfl, hbb, hcap, hcx⟩ := hD3.2.2.at hpj
          obtain ⟨p0, p1, p2, p3, p4⟩ := pj
          have h0 := hcx 0 _ rfl
          have h1 := hcx 1 _ rfl
          have h2 := hcx 2 _ rfl
          have h3 := hcx 3 _ rfl
          have h4 := hcx 4 _ rfl
          rw [Nat.add_zero] at h0
          dsimp only at h0 h1 h2 h3 h4 HPE
          have hjI : (j : Int) < (ps.length : Int) := by omega
          have hbr : b < wr.heap.size := by omega
          have hd1 := hdc 1
          have hne : w.heap.size + 1 + 1 ≠ wr.heap.size := by omega
          have hne' : wr.heap.size ≠ w.heap.size + 1 + 1 := by omega
          have HRW := Lib.hid (row_later hrow (Below.drew (Below.refl wr.heap.size wr)))
          clear hD3 hcx hpj hrow
          go_wp2_with fail
          go_region_law (first
            | (refine step_append_lies _ (by rfl) _ _ _ (by rfl) W.heap.size 47 k0 _ 5 40 Tryd.underlying23 hk hx0 hx1 hx2 rfl (by decide) (.slice AU nU cU) j _ (by rfl) (HRW.out.alloc _) ⟨wr.heap.size, 0, none⟩ 1 1 [.int .i64 p0, .int .i64 p1, .int .i64 p2, .int .i64 p3, .int .i64 p4] (by rfl) (by rfl) (cells_newL wr.drew _ _) (by intro u hu; simp at hu; rcases hu with rfl | rfl | rfl | rfl | rfl <;> rfl) (by omega) (by unfold maxLen; omega) (by omega) (by show W.heap.size ≤ (wr.alloc _).heap.size; rw [World.size_alloc]; exact Nat.le_succ_of_le hs3) (wr.heap.size + 1) (by simp) ?_; intro gU cG w4 hown4 hgrow4 hat4 hlt4; have hcg := cell_grown (q := w.heap.size + 1 + 1) (HRW.out.alloc _) hgrow4 (by have := HSZ.out; omega) (by show w.heap.size + 1 + 1 < (wr.alloc _).heap.size; rw [World.size_alloc]; exact Nat.lt_succ_of_lt hqs3); have a0 : w4.cell? ⟨w.heap.size + 1 + 1, 0, none⟩ = some (.slice AT nT cT) := (hcg 0).1.trans ((show (wr.alloc (.cells #[.int .i64 p0, .int .i64 p1, .int .i64 p2, .int .i64 p3, .int .i64 p4] 47)).cell? ⟨w.heap.size + 1 + 1, 0, none⟩ = _ from World.cell?_alloc_past _ _ _ hqs3).trans hq0); have a1 : w4.cell? ⟨w.heap.size + 1 + 1, 1, none⟩ = some (.slice AU nU cU) := (hcg 1).1.trans ((show (wr.alloc (.cells #[.int .i64 p0, .int .i64 p1, .int .i64 p2, .int .i64 p3, .int .i64 p4] 47)).cell? ⟨w.heap.size + 1 + 1, 1, none⟩ = _ from World.cell?_alloc_past _ _ _ hqs3).trans hq1); have huf4 : ∀ o, w4.frozen? ⟨w.heap.size + 1 + 1, o, none⟩ = false := fun o => (hcg o).2.trans ((show (wr.alloc (.cells #[.int .i64 p0, .int .i64 p1, .int .i64 p2, .int .i64 p3, .int .i64 p4] 47)).frozen? ⟨w.heap.size + 1 + 1, o, none⟩ = _ from frozen?_alloc_cells _ _ _ _).trans (hqf o)); have HOW4 := Lib.hid hown4; have HG4 := Lib.hid hgrow4; clear hown4 hgrow4 hcg))
          all_goals
            go_wp2_with fail
            go_roundw
            case rel =>
              have hb3a : Below wr.heap.size wr (wr.alloc (.cells #[.int .i64 p0, .int .i64 p1, .int .i64 p2, .int .i64 p3, .int .i64 p4] 47)).drew := Below.drew (Bel.grew (Below.refl _ _) _)
              have hts := (HTQ.out.later hb3a).grownP (HRW.out.alloc _) HG4.out
              have hq : w.heap.size + 1 + 1 < W.heap.size := by have := HSZ.out; omega
              refine ⟨j + 1, by omega, by go_num, .slice (some ⟨gU, 0, none⟩) (j + 1) cG, ?_, Lib.hid (hts.set hq 1 _), (World.cell?_setCell_other w4 ⟨w.heap.size + 1 + 1, 1, none⟩ ⟨w.heap.size + 1 + 1, 0, none⟩ _ (by simp)).trans a0, World.cell?_setCell_same _ _ _ a1, fun o => by rw [World.frozen?_setCell]; exact huf4 o, Lib.hid ⟨?_, ?_⟩⟩
              · rw [HPE.out]
                exact row_set HOW4.out hq 1 _
              · exact ((HBQ.out.1.trans (hb3a.mono (by omega))).grown HG4.out (by show _ ≤ (wr.alloc _).heap.size; rw [World.size_alloc]; omega) (fun g hg => by have := own_base HRW.out g hg; omega)).setCell (Nat.le_refl _) _
              · have h5 : (wr.alloc (.cells #[.int .i64 p0, .int .i64 p1, .int .i64 p2, .int .i64 p3, .int .i64 p4] 47)).heap.size ≤ w4.heap.size := HG4.out.size
                rw [World.size_alloc] at h5
                simp only [World.setCell] at h5 ⊢
                first | omega | (simp; omega)
            case measure => simp [intOf]; omega
        · have hj4 : j = ps.length := by omega
          subst hj4
          rw [List.take_length] at hrow
          have hrl : w.heap.size + 1 < w.heap.size + 1 + 1 := by omega
          have hr0 : wr.cell? ⟨w.heap.size + 1, 0, none⟩ = some (.slice none 0 0) := (HBQ.out.1.cell (p := ⟨w.heap.size + 1, 0, none⟩) hrl).trans (HR.out.2 0)
          have hr1 : wr.cell? ⟨w.heap.size + 1, 1, none⟩ = some (.slice none 0 0) := (HBQ.out.1.cell (p := ⟨w.heap.size + 1, 1, none⟩) hrl).trans (HR.out.2 1)
          have hrf : ∀ o, wr.frozen? ⟨w.heap.size + 1, o, none⟩ = false := fun o => (HBQ.out.1.frozen (p := ⟨w.heap.size + 1, o, none⟩) hrl).trans (HF1.out o)
          have HRW := Lib.hid hrow
          have hd1 := hdc 1
          clear hrow
          go_wp2_with fail
          change bodyPost _ _ _ _ _ ((wr.setCell ⟨w.heap.size + 1, 0, none⟩ (.slice AT nT cT)).setCell ⟨w.heap.size + 1, 1, none⟩ (.slice AU nU cU))
          obtain ⟨wf, hwf⟩ : ∃ wf, wf = (wr.setCell ⟨w.heap.size + 1, 0, none⟩ (.slice AT nT cT)).setCell ⟨w.heap.size + 1, 1, none⟩ (.slice AU nU cU) := ⟨_, rfl⟩
          rw [← hwf]
          have hq : w.heap.size + 1 < W.heap.size := by have := HSZ.out; omega
          have hE : Dc.Own wf W.heap.size ⟨ts', ps, .slice AT nT cT, .slice AU nU cU⟩ := by
            have hts := (HTQ.out.set hq 0 (.slice AT nT cT)).set hq 1 (.slice AU nU cU)
            have hrw := row_set (row_set HRW.out hq 0 (.slice AT nT cT)) hq 1 (.slice AU nU cU)
            rw [← hwf] at hts hrw
            exact ⟨⟨fun r hr => by obtain ⟨m, _, rfl⟩ := List.mem_map.1 hr; rfl, by simpa using hts.1⟩, hts.2.1, ⟨fun r hr => by obtain ⟨m, _, rfl⟩ := List.mem_map.1 hr; rfl, by simpa using hrw⟩⟩
          have hBf : Below w.heap.size w wf := by
            rw [hwf]
            exact ((HB.out.trans (HBQ.out.1.mono (by omega))).setCell (p := ⟨w.heap.size + 1, 0, none⟩) (by show w.heap.size ≤ w.heap.size + 1; omega) _).setCell (p := ⟨w.heap.size + 1, 1, none⟩) (by show w.heap.size ≤ w.heap.size + 1; omega) _
          have k0 : wf.cell? ⟨w.heap.size + 1, 0, none⟩ = some (.slice AT nT cT) := by
            rw [hwf]
            exact (World.cell?_setCell_other _ ⟨w.heap.size + 1, 1, none⟩ ⟨w.heap.size + 1, 0, none⟩ _ (by simp)).trans (World.cell?_setCell_same _ _ _ hr0)
          have k1 : wf.cell? ⟨w.heap.size + 1, 1, none⟩ = some (.slice AU nU cU) := by
            rw [hwf]
            exact World.cell?_setCell_same _ _ _ ((World.cell?_setCell_other _ ⟨w.heap.size + 1, 0, none⟩ ⟨w.heap.size + 1, 1, none⟩ _ (by simp)).trans hr1)
          have hpl : Dc.pl ⟨ts', ps, .slice AT nT cT, .slice AU nU cU⟩ = ⟨ts.map Ty.pl, ps⟩ := by unfold Dc.pl; rw [HTQ.out.2.2.1]
          have HE := Lib.hid hE
          have HPL := Lib.hid hpl
          have HBF := Lib.hid hBf
          clear hwf hr0 hr1 hrf hq0 hq1 hqf hdc hd1 hE hpl hBf
          simp [bodyPost, results, Tryd.results9, go_sem, k0, k1]
          exact ⟨⟨ts', ps, .slice AT nT cT, .slice AU nU cU⟩, rfl, HE.out.down (by have := HB.out.size; omega), HPL.out, HTQ.out.2.2.2, HBF.out⟩
end Go.Proofs.YtamnligooelmgaaDoor
