/- SchemaChecks: the walk. -/
import Derived.Test.YtamnligooelmgaaDoorCopyD
import Derived.Test.YtamnligooelmgaaDoorSameD
import Derived.Test.YtamnligooelmgaaDoorRChk
import Derived.Test.YtamnligooelmgaaDoorRFits
import Derived.Test.YtamnligooelmgaaDoorWorks06
import Derived.Test.YtamnligooelmgaaDoorDLong
set_option maxRecDepth 100000
set_option maxRecDepth 100000
set_option linter.unusedVariables false
set_option linter.unusedSimpArgs false
namespace Go.Proofs.YtamnligooelmgaaDoor
open Go.RowKit Go.BigFrame

def fldG (d : PD) (ti fi : Int) : PF := (fldP d ti fi).getD ⟨0, 0, false, []⟩
/-- A field's answer, by the plain data. -/
def FldPl (d : PD) (ti fi : Int) (w : World) (e : Ending) (w' : World) : Prop := ∃ v', e = .returned (.tuple #[.agg #[.int .i64 (fldG d ti fi).k, .int .i64 (fldG d ti fi).p, .bool (fldG d ti fi).fl, v'], .bool (fldP d ti fi).isSome]) ∧
  OwnR 4 39 w' w.heap.size v' ((fldG d ti fi).ms.map Mv.cells) ∧ Below w.heap.size w w'
theorem FldRet.pl {D : Dc} {ti fi : Int} {w w' : World} {e : Ending} (h : FldRet D ti fi w e w') : FldPl D.pl ti fi w e w' := by
  rcases h with ⟨t, f, v', q0, q1, q2, q3, he, ho, hb⟩ | ⟨hno, he, hb⟩
  · have hp := fldAt_pl (D := D) (ti := ti) (fi := fi) (f := f) ⟨t, q0, q1, q2, q3⟩
    unfold FldPl fldG
    rw [hp]
    exact ⟨v', he, ho, hb⟩
  · have hp := noFld_pl (D := D) (ti := ti) (fi := fi) (fun ⟨f, t, q⟩ => hno ⟨t, f, q⟩)
    unfold FldPl fldG
    rw [hp]
    exact ⟨.slice none 0 0, he, OwnR.nil_ _ _, hb⟩
theorem fldG_len {D : Dc} (hL : LenD D) (ti fi : Int) : (fldG D.pl ti fi).ms.length ≤ 1099511627776 := by
  by_cases h : ∃ f, FldAt D ti fi f
  · obtain ⟨f, hf⟩ := h
    unfold fldG
    rw [fldAt_pl hf]
    obtain ⟨t, _, h1, _, h2⟩ := hf
    exact (hL.2 t (List.mem_of_getElem? h1)).2 f (List.mem_of_getElem? h2)
  · unfold fldG
    rw [noFld_pl h]
    exact Nat.zero_le _
theorem ShortD.len_ {D : Dc} {m : Nat} (h : ShortD D m) : LenD D := ⟨by have := h.1; omega, fun t ht => ⟨by have := (h.2.2 t ht).1; omega, fun f hf => by have := (h.2.2 t ht).2 f hf; omega⟩⟩
theorem LenD.pl {D E : Dc} (hL : LenD D) (h : E.pl = D.pl) : LenD E := by
  unfold Dc.pl at h
  injection h with h1 h2
  have hl : E.ts.length = D.ts.length := by have := congrArg List.length h1; simpa using this
  refine ⟨by rw [hl]; exact hL.1, fun t ht => ?_⟩
  have : t.pl ∈ D.ts.map Ty.pl := by rw [← h1]; exact List.mem_map_of_mem ht
  obtain ⟨t', ht', he⟩ := List.mem_map.1 this
  unfold Ty.pl at he
  have hl2 : t'.fs.length = t.fs.length := by have := congrArg List.length he; simpa using this
  refine ⟨by rw [← hl2]; exact (hL.2 t' ht').1, fun f hf => ?_⟩
  have : f.pl ∈ t'.fs.map Fd.pl := by rw [he]; exact List.mem_map_of_mem hf
  obtain ⟨f', hf', he'⟩ := List.mem_map.1 this
  have := (hL.2 t' ht').2 f' hf'
  unfold Fd.pl at he'
  injection he' with _ _ _ h4
  rw [← h4]; exact this
theorem rcheck_is' (D : Dc) (c : Int) (hc : chkP D.pl = c) (tv pv : Value) (h1 : D.tv = tv) (h2 : D.pv = pv) (w : World) (hD : D.In w w.heap.size) (hL : LenD D) (hp : D.ps.length ≤ 1099511627776) :
    Calls Tryd.prog 13 #[.agg #[tv, pv]] w fun e w' => e = .returned (.int .i64 c) ∧ Below w.heap.size w w' := by
  subst h1 h2
  exact (rcheck06_any D w hD hL hp).mono fun e w' ⟨x, he, hr, hb⟩ => ⟨by rw [he, hr.val, hc], hb⟩
theorem rfits_is' (D : Dc) (ti fi op arg c : Int) (hc : fitsP D.pl ti fi op arg = c) (tv pv : Value) (h1 : D.tv = tv) (h2 : D.pv = pv) (w : World) (hD : D.In w w.heap.size) (hL : LenD D) :
    Calls Tryd.prog 16 #[.agg #[tv, pv], .int .i64 ti, .int .i64 fi, .int .i64 op, .int .i64 arg] w fun e w' => e = .returned (.int .i64 c) ∧ Below w.heap.size w w' := by
  subst h1 h2
  exact (rfits_any D ti fi op arg w hD hL).mono fun e w' ⟨x, he, hr, hb⟩ => ⟨by rw [he, hr.val, hc], hb⟩
theorem field_is' (D : Dc) (ti fi : Int) (tv pv : Value) (h1 : D.tv = tv) (h2 : D.pv = pv) (w : World) (hD : D.In w w.heap.size) (hL : LenD D) :
    Calls Tryd.prog 11 #[.agg #[tv, pv], .int .i64 ti, .int .i64 fi] w fun e w' => FldPl D.pl ti fi w e w' := by
  subst h1 h2
  exact (field_any D ti fi w hD hL).mono fun e w' h => h.pl
theorem rfield_is' (D : Dc) (ti fi : Int) (tv pv : Value) (h1 : D.tv = tv) (h2 : D.pv = pv) (w : World) (hD : D.In w w.heap.size) (hL : LenD D) :
    Calls Tryd.prog 12 #[.agg #[tv, pv], .int .i64 ti, .int .i64 fi] w fun e w' => FldPl D.pl ti fi w e w' := by
  subst h1 h2
  exact (rfield_any D ti fi w hD hL).mono fun e w' h => h.pl
theorem sameDecl_is' (D E : Dc) (tv pv ev qv : Value) (h1 : D.tv = tv) (h2 : D.pv = pv) (h3 : E.tv = ev) (h4 : E.pv = qv) (w : World) (hD : D.In w w.heap.size) (hE : E.In w w.heap.size) (he : D.pl = E.pl) (hL : LenD D) (hp : D.ps.length ≤ 1099511627776) :
    Calls Tryd.prog 17 #[.agg #[tv, pv], .agg #[ev, qv]] w fun e w' => e = .returned (.bool true) ∧ Below w.heap.size w w' := by
  subst h1 h2 h3 h4
  exact sameDecl_eq D E w hD hE he hL hp
/-- The moves that were told may be written over. -/
def Wrt (w : World) (A : Option Addr) (n : Nat) : Prop := ∀ g, A = some ⟨g, 0, none⟩ → (∀ j, w.frozen? ⟨g, j, none⟩ = false) ∧ ∀ j, j < n * 4 → ∃ u, w.cell? ⟨g, j, none⟩ = some u
theorem OwnR.wrt {w : World} {lo n c : Nat} {e : TypeId} {A : Option Addr} {rows : List (List Value)} (h : OwnR 4 e w lo (.slice A n c) rows) (hn : n = rows.length) : Wrt w A n := by
  intro g hg
  subst hg hn
  refine ⟨fun j => World.ownsRow.frozenAt h.2 j, fun j hj => ?_⟩
  have hlt : j < rows.flatten.length := by rw [flat_len h.1]; exact hj
  exact ⟨_, (World.ownsRow.cellAt h.2 j hj).trans (List.getElem?_eq_getElem hlt)⟩
theorem OwnR.some_ {sz : Nat} {w : World} {lo n c : Nat} {e : TypeId} {A : Option Addr} {rows : List (List Value)} (h : OwnR sz e w lo (.slice A n c) rows) (hn : 0 < rows.length) : ∃ g, A = some ⟨g, 0, none⟩ := by
  rcases h.2.2 with ⟨_, h2⟩ | ⟨g, cap, cur, hv, _⟩
  · omega
  · injection hv with h1 _ _
    exact ⟨g, h1⟩
abbrev st4 (w : World) (g o : Nat) (a b c d : Value) : World := (((w.setCell ⟨g, o, none⟩ a).setCell ⟨g, o + 1, none⟩ b).setCell ⟨g, o + 2, none⟩ c).setCell ⟨g, o + 3, none⟩ d
theorem Wrt.st4 {w : World} {g n o : Nat} (h : Wrt w (some ⟨g, 0, none⟩) n) (a b c d : Value) : Wrt (st4 w g o a b c d) (some ⟨g, 0, none⟩) n := by
  intro g' hg
  injection hg with hg
  injection hg with hg
  subst hg
  obtain ⟨h1, h2⟩ := h g rfl
  refine ⟨fun j => by rw [World.frozen?_setCell, World.frozen?_setCell, World.frozen?_setCell, World.frozen?_setCell]; exact h1 j, fun j hj => ?_⟩
  obtain ⟨u, hu⟩ := h2 j hj
  obtain ⟨u1, hu1⟩ : ∃ u, (w.setCell ⟨g, o, none⟩ a).cell? ⟨g, j, none⟩ = some u := cell?_setCell_some hu
  obtain ⟨u2, hu2⟩ : ∃ u, ((w.setCell ⟨g, o, none⟩ a).setCell ⟨g, o + 1, none⟩ b).cell? ⟨g, j, none⟩ = some u := cell?_setCell_some hu1
  obtain ⟨u3, hu3⟩ : ∃ u, (((w.setCell ⟨g, o, none⟩ a).setCell ⟨g, o + 1, none⟩ b).setCell ⟨g, o + 2, none⟩ c).cell? ⟨g, j, none⟩ = some u := cell?_setCell_some hu2
  exact cell?_setCell_some hu3
theorem st4_other {w : World} {g o q i : Nat} (hne : g ≠ q) (a b c d : Value) : (st4 w g o a b c d).cell? ⟨q, i, none⟩ = w.cell? ⟨q, i, none⟩ := by
  have ne : ∀ (W : World) (j : Nat) (v : Value), (W.setCell ⟨g, j, none⟩ v).cell? ⟨q, i, none⟩ = W.cell? ⟨q, i, none⟩ := fun W j v => World.cell?_setCell_other W ⟨g, j, none⟩ ⟨q, i, none⟩ _ (by simp [Ne.symm hne])
  exact (ne _ _ _).trans ((ne _ _ _).trans ((ne _ _ _).trans (ne _ _ _)))
theorem Below.st4 {B : Nat} {a w : World} {g : Nat} (h : Below B a w) (hg : B ≤ g) (o : Nat) (x y z u : Value) : Below B a (st4 w g o x y z u) := (((h.setCell hg _).setCell hg _).setCell hg _).setCell hg _
set_option maxHeartbeats 16000000 in
theorem schemaChecks_any (D : Dc) (ti fi op arg : Int) (w : World) (hD : D.In w w.heap.size) (hT : Tab w) :
    Calls Tryd.prog 3 #[declV D, .int .i64 ti, .int .i64 fi, .int .i64 op, .int .i64 arg] w fun e w' => e = .returned (.bool true) ∧ Below w.heap.size w w' := by
  obtain ⟨tv, htv⟩ : ∃ tv, tv = D.tv := ⟨_, rfl⟩
  obtain ⟨pv, hpv⟩ : ∃ pv, pv = D.pv := ⟨_, rfl⟩
  obtain ⟨A, c, h1⟩ := hD.1.shapeL
  obtain ⟨A', c', h2⟩ := hD.2.2.shapeL
  obtain ⟨nt, hnt⟩ : ∃ n, n = D.ts.length := ⟨_, rfl⟩
  obtain ⟨np, hnp⟩ : ∃ n, n = D.ps.length := ⟨_, rfl⟩
  rw [← hnt] at h1
  rw [← hnp] at h2
  dsimp only [declV]
  rw [h1, h2]
  have HTV := Lib.hid h1
  have HPV := Lib.hid h2
  clear htv hpv hnt hnp h1 h2
  obtain ⟨W, hW⟩ : ∃ W, W = w.alloc (.cells #[.slice A nt c, .slice A' np c'] 25) := ⟨_, rfl⟩
  have hB : Below w.heap.size w W := by rw [hW]; exact Bel.grew (Below.refl _ _) _
  have hC := Has.new w #[.slice A nt c, .slice A' np c'] 25
  rw [← hW] at hC
  have HD := Lib.hid (hD.later hB)
  have HT := Lib.hid (hT.later hB)
  have HB := Lib.hid hB
  have HC := Lib.hid hC
  have HW := Lib.hid hW
  clear hD hT hB hC hW
  go_enter Tryd.func3, Tryd.ntmps3
  go_wp2_with fail
  rw [← HW.out]
  clear HW
  have hlong := long06_any D W HD.out
  dsimp only [declV] at hlong
  rw [HTV.out, HPV.out] at hlong
  refine hlong.mono ?_
  clear hlong
  rintro e1 w2 ⟨bl, rfl, hsh, hb⟩
  have HB2 := Lib.hid (Bel.then HB.out hb)
  have HC2 := Lib.hid (HC.out.later hb)
  have HD2 := Lib.hid (HD.out.later hb)
  have HT2 := Lib.hid (HT.out.later hb)
  clear hb HB HC HD HT
  cases bl
  rotate_left
  · clear hsh
    go_wp2_with fail
    refine (works06_any _ HT2.out).mono ?_
    rintro e2 w3 ⟨rfl, hb⟩
    have HB3 := Lib.hid (Bel.then HB2.out hb)
    clear hb
    go_wp2_with fail
    go_ret
    exact ⟨rfl, HB3.out⟩
  have HL := Lib.hid (hsh rfl).len_
  have HLP : Hid (D.ps.length ≤ 1099511627776) := Lib.hid (by have := (hsh rfl).2.1; omega)
  clear hsh
  have hc := HC2.out.2
  have hcl := HC2.out.1
  go_wp2_with fail
  have hcopy := copyDecl_any D w2 HD2.out HL.out HLP.out
  dsimp only [declV] at hcopy
  rw [HTV.out, HPV.out] at hcopy
  refine hcopy.mono ?_
  clear hcopy
  rintro e2 w3 ⟨E, rfl, hE, hpl, _, hb⟩
  dsimp only [declV]
  obtain ⟨B, d, h3⟩ := hE.inn.1.shapeL
  obtain ⟨B', d', h4⟩ := hE.inn.2.2.shapeL
  obtain ⟨mt, hmt⟩ : ∃ n, n = E.ts.length := ⟨_, rfl⟩
  obtain ⟨mp, hmp⟩ : ∃ n, n = E.ps.length := ⟨_, rfl⟩
  rw [← hmt] at h3
  rw [← hmp] at h4
  rw [h3, h4]
  have HEV := Lib.hid h3
  have HQV := Lib.hid h4
  have HPL := Lib.hid hpl
  have HLE := Lib.hid (HL.out.pl hpl)
  have HLEP : Hid (E.ps.length ≤ 1099511627776) := Lib.hid (by
    have : E.ps = D.ps := congrArg PD.ps hpl
    rw [this]; exact HLP.out)
  obtain ⟨W4, hW4⟩ : ∃ W4, W4 = w3.alloc (.cells #[.slice B mt d, .slice B' mp d'] 25) := ⟨_, rfl⟩
  have hgr4 : Below w3.heap.size w3 W4 := by rw [hW4]; exact Bel.grew (Below.refl _ _) _
  have hx4 : Has W4 w3.heap.size #[.slice B mt d, .slice B' mp d'] := by rw [hW4]; exact Has.new _ _ _
  have HB4 := Lib.hid (Bel.then (Bel.then HB2.out hb) hgr4)
  have HC4 := Lib.hid ((HC2.out.later hb).later hgr4)
  have HD4 := Lib.hid ((HD2.out.later hb).later hgr4)
  have HT4 := Lib.hid ((HT2.out.later hb).later hgr4)
  have HE4 := Lib.hid (hE.inn.later hgr4)
  have HX4 := Lib.hid hx4
  have HW4 := Lib.hid hW4
  clear hE hpl hb h3 h4 hmt hmp hgr4 hx4 hW4 hc hcl
  go_wp2_with fail
  rw [← HW4.out]
  clear HW4
  obtain ⟨r1, hr1⟩ : ∃ r, r = chkP D.pl := ⟨_, rfl⟩
  have HR1 := Lib.hid hr1
  obtain ⟨r2, hr2⟩ : ∃ r, r = fitsP D.pl ti fi op arg := ⟨_, rfl⟩
  have HR2 := Lib.hid hr2
  clear hr1 hr2
  refine (check_is' E r1 (by rw [HPL.out]; exact HR1.out.symm) _ _ HEV.out HQV.out W4 HE4.out HT4.out HLE.out).mono ?_
  rintro e3 w5 ⟨rfl, hb⟩
  have HB5 := Lib.hid (Bel.then HB4.out hb)
  have HC5 := Lib.hid (HC4.out.later hb)
  have HD5 := Lib.hid (HD4.out.later hb)
  have HT5 := Lib.hid (HT4.out.later hb)
  have HE5 := Lib.hid (HE4.out.later hb)
  have HX5 := Lib.hid (HX4.out.later hb)
  clear hb HB4 HC4 HD4 HT4 HE4 HX4
  have hc := HX5.out.2
  have hcl := HX5.out.1
  go_wp2_with fail
  obtain ⟨G, hG⟩ : ∃ G, G = fldG D.pl ti fi := ⟨_, rfl⟩
  obtain ⟨bi, hbi⟩ : ∃ b, b = (fldP D.pl ti fi).isSome := ⟨_, rfl⟩
  have HGL : Hid (G.ms.length ≤ 1099511627776) := by rw [hG]; exact Lib.hid (fldG_len HL.out ti fi)
  have hF1 : ∀ (W : World) (e : Ending) (w' : World), FldPl D.pl ti fi W e w' → ∃ v', e = .returned (.tuple #[.agg #[.int .i64 G.k, .int .i64 G.p, .bool G.fl, v'], .bool bi]) ∧ OwnR 4 39 w' W.heap.size v' (G.ms.map Mv.cells) ∧ Below W.heap.size W w' := fun W e w' h => by rw [hG, hbi]; exact h
  have HF1 := Lib.hid hF1
  clear hG hbi hF1
  have hfe := field_is' E ti fi _ _ HEV.out HQV.out w5 HE5.out HLE.out
  rw [HPL.out] at hfe
  refine (hfe.mono fun e w' h => HF1.out w5 e w' h).mono ?_
  clear hfe
  rintro e4 w6 ⟨v1, rfl, ho1, hb⟩
  obtain ⟨fk, fp, ffl, ms⟩ := G
  dsimp only at ho1 HGL HF1 ⊢
  obtain ⟨A1, c1, h5⟩ := SlR.shapeL ho1.sl
  subst h5
  obtain ⟨W7, hW7⟩ : ∃ W7, W7 = w6.alloc (.cells #[.int .i64 fk, .int .i64 fp, .bool ffl, .slice A1 ms.length c1] 33) := ⟨_, rfl⟩
  have hgr7 : Below w6.heap.size w6 W7 := by rw [hW7]; exact Bel.grew (Below.refl _ _) _
  have hf7 : Has W7 w6.heap.size #[.int .i64 fk, .int .i64 fp, .bool ffl, .slice A1 ms.length c1] := by rw [hW7]; exact Has.new _ _ _
  have hb57 := Bel.then hb hgr7
  have HB57 := Lib.hid hb57
  have HO7 := Lib.hid (ho1.later hgr7)
  have HF7 := Lib.hid hf7
  have HC7 := Lib.hid (HC5.out.later hb57)
  have HD7 := Lib.hid (HD5.out.later hb57)
  have HX7 := Lib.hid (HX5.out.later hb57)
  have HE7 := Lib.hid (HE5.out.later hb57)
  have HT7 := Lib.hid (HT5.out.later hb57)
  have HW7 := Lib.hid hW7
  have hs67 : w5.heap.size ≤ w6.heap.size := hb.size
  have HS67 := Lib.hid hs67
  have HG6 : Hid (∀ g, A1 = some ⟨g, 0, none⟩ → w5.heap.size ≤ g ∧ g < w6.heap.size) := Lib.hid fun g hg => World.ownsRow.lt ho1.2 g (by rw [hg]; rfl)
  have hd := HC7.out.2
  have hdl := HC7.out.1
  clear ho1 hb hgr7 hf7 hb57 hW7 hs67 hc hcl
  go_upto_region 6 with fail
  rw [← HW7.out]
  clear HW7
  go_wp2_with fail
  refine ((rfield_is' D ti fi _ _ HTV.out HPV.out W7 HD7.out HL.out).mono fun e w' h => HF1.out W7 e w' h).mono ?_
  rintro e5 w8 ⟨v2, rfl, ho2, hb⟩
  obtain ⟨A2, c2, h6⟩ := SlR.shapeL ho2.sl
  subst h6
  obtain ⟨W9, hW9⟩ : ∃ W9, W9 = w8.alloc (.cells #[.int .i64 fk, .int .i64 fp, .bool ffl, .slice A2 ms.length c2] 33) := ⟨_, rfl⟩
  have hgr9 : Below w8.heap.size w8 W9 := by rw [hW9]; exact Bel.grew (Below.refl _ _) _
  have hg9 : Has W9 w8.heap.size #[.int .i64 fk, .int .i64 fp, .bool ffl, .slice A2 ms.length c2] := by rw [hW9]; exact Has.new _ _ _
  have hb79 := Bel.then hb hgr9
  have HB79 := Lib.hid hb79
  have HO9 := Lib.hid (HO7.out.later hb79)
  have HQ9 := Lib.hid ((ho2.later hgr9).sl)
  have HW9 := Lib.hid hW9
  have HF9 := Lib.hid (HF7.out.later hb79)
  have HC9 := Lib.hid (HC7.out.later hb79)
  have HX9 := Lib.hid (HX7.out.later hb79)
  have HD9 := Lib.hid (HD7.out.later hb79)
  have HE9 := Lib.hid (HE7.out.later hb79)
  have HT9 := Lib.hid (HT7.out.later hb79)
  clear ho2 hb hgr9 hb79 hW9 hd hdl
  have hd := HC9.out.2
  have hdl := HC9.out.1
  have hx := HX9.out.2
  have hxl := HX9.out.1
  have hf := HF9.out.2
  have hfl := HF9.out.1
  have hg := hg9.2
  have hgl := hg9.1
  clear hg9
  obtain ⟨nm, hnm⟩ : ∃ n, n = ms.length := ⟨_, rfl⟩
  have HNM := Lib.hid hnm
  go_upto_region 7 with fail
  rw [← HW9.out]
  clear HW9 hnm
  refine wp_region_later (by kernel_rfl) (by kernel_rfl) ?_
  repeat (any_goals (first | go_big_quiet_step (first
    | (go_at_call 13; have hC := rcheck_is' D r1 HR1.out.symm _ _ HTV.out HPV.out (Later.w ‹_›) (HD9.out.later (Later.h ‹_›)) HL.out HLP.out; with_reducible exact Later.call hC)
    | (go_at_call 14; have hC := sameField_eq ⟨fk, fp, ffl, ms, .slice A1 ms.length c1⟩ ⟨fk, fp, ffl, ms, .slice A2 ms.length c2⟩ (Later.w ‹_›) (HO9.out.sl.later (Later.h ‹_›)) (HQ9.out.later (Later.h ‹_›)) rfl HGL.out; with_reducible exact Later.call hC)
    | (go_at_call 15; have hC := fits_is' E ti fi op arg r2 (by rw [HPL.out]; exact HR2.out.symm) _ _ HEV.out HQV.out (Later.w ‹_›) (HE9.out.later (Later.h ‹_›)) (HT9.out.later (Later.h ‹_›)) HLE.out; with_reducible exact Later.call hC)
    | (go_at_call 16; have hC := rfits_is' D ti fi op arg r2 HR2.out.symm _ _ HTV.out HPV.out (Later.w ‹_›) (HD9.out.later (Later.h ‹_›)) HL.out; with_reducible exact Later.call hC))))
  refine wpQuiet_nil ?_
  intro x
  obtain ⟨w10, hb10⟩ := x
  dsimp only
  have HO10 := Lib.hid (HO9.out.later hb10)
  have hf10 : ∀ o, w10.cell? ⟨w6.heap.size, o, none⟩ = #[Value.int .i64 fk, .int .i64 fp, .bool ffl, .slice A1 ms.length c1][o]? := fun o => (hb10.cell (p := ⟨w6.heap.size, o, none⟩) hfl).trans (hf o)
  have hfl10 : w6.heap.size < w10.heap.size := by have := hb10.size; omega
  have HB510 := Lib.hid (Bel.then (Bel.then HB57.out HB79.out) hb10)
  clear hb10 hd hdl hx hxl hf hfl hg hgl HF9 HC9 HX9 HD9 HE9 HT9 HO9 HQ9
  have hmI : (ms.length : Int) ≤ 1099511627776 := by have := HGL.out; omega
  go_wp2_with fail
  go_loopw [17] (fun i wr => ∃ k : Nat, k ≤ ms.length ∧ i = .int .i64 k ∧ (∀ o, wr.cell? ⟨w6.heap.size, o, none⟩ = #[Value.int .i64 fk, .int .i64 fp, .bool ffl, .slice A1 ms.length c1][o]?) ∧ w6.heap.size < wr.heap.size ∧ Hid (Below w5.heap.size w5 wr ∧ Wrt wr A1 ms.length)) (fun i _ => ms.length - (intOf i).toNat)
  case atStart => exact ⟨0, Nat.zero_le _, rfl, hf10, hfl10, Lib.hid ⟨HB510.out, OwnR.wrt HO10.out (by rw [List.length_map])⟩⟩
  case round =>
    obtain ⟨k, hk, rfl, hfr, hflr, HST⟩ := hrel
    by_cases hlt : k < ms.length
    · obtain ⟨g, hg⟩ := OwnR.some_ HO10.out (by rw [List.length_map]; omega)
      subst hg
      obtain ⟨hz, hcs⟩ := HST.out.2 g rfl
      obtain ⟨hg5, hg6⟩ := HG6.out g rfl
      obtain ⟨u0, hu0⟩ := hcs (k * 4) (by omega)
      obtain ⟨u1, hu1⟩ := hcs (k * 4 + 1) (by omega)
      obtain ⟨u2, hu2⟩ := hcs (k * 4 + 2) (by omega)
      obtain ⟨u3, hu3⟩ := hcs (k * 4 + 3) (by omega)
      have hkI : (k : Int) < (ms.length : Int) := by omega
      have hgl : g < wr.heap.size := by omega
      have HGN : Hid (g ≠ w6.heap.size ∧ w5.heap.size ≤ g) := Lib.hid ⟨by omega, hg5⟩
      have HFR := Lib.hid hfr
      clear hcs hg5 hg6
      go_wp2_with fail
      go_roundw
      case rel =>
        refine ⟨k + 1, by omega, by go_num, fun o => ?_, ?_, Lib.hid ⟨?_, ?_⟩⟩
        · exact (st4_other (o := k * 4) HGN.out.1 _ _ _ _).trans (HFR.out o)
        · have : (st4 wr g (k * 4) (.int .i64 77) (.int .i64 0) (.int .i64 0) (.int .i64 0)).heap.size = wr.heap.size := by simp [World.setCell]
          exact Nat.lt_of_lt_of_eq hflr this.symm
        · exact Below.st4 HST.out.1 HGN.out.2 (k * 4) _ _ _ _
        · exact HST.out.2.st4 _ _ _ _
      case measure => simp [intOf]; omega
    · have hk' : k = ms.length := by omega
      subst hk'
      have hb5 := HST.out.1
      have hx := (HX5.out.later hb5).2
      have hxl := (HX5.out.later hb5).1
      have hd := (HC5.out.later hb5).2
      have hdl := (HC5.out.later hb5).1
      have HBr := Lib.hid hb5
      clear hb5
      go_wp2_with fail
      refine (sameDecl_is' E D _ _ _ _ HEV.out HQV.out HTV.out HPV.out _ (HE5.out.later HBr.out) (HD5.out.later HBr.out) HPL.out HLE.out HLEP.out).mono ?_
      rintro e11 w11 ⟨rfl, hb11⟩
      have HB11 := Lib.hid (Bel.then HBr.out hb11)
      clear hb11 hx hd
      go_wp2_with fail
      refine (works06_any _ (HT5.out.later HB11.out)).mono ?_
      rintro e12 w12 ⟨rfl, hb12⟩
      have HB12 := Lib.hid (Bel.then HB5.out (Bel.then HB11.out hb12))
      clear hb12
      go_wp2_with fail
      go_ret
      exact ⟨rfl, HB12.out⟩
end Go.Proofs.YtamnligooelmgaaDoor
