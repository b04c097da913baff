/- known, DeclMany. -/
import Derived.Test.YtjcocahhpjgbhaaMzDRPut
import Derived.Test.YtjcocahhpjgbhaaMzDRGet2
import Derived.Test.YtjcocahhpjgbhaaMzDSameD
import Derived.Test.YtjcocahhpjgbhaaPick
import Derived.Laws.MakeOwn
set_option maxRecDepth 100000
set_option maxRecDepth 100000
set_option maxRecDepth 100000
set_option linter.unusedVariables false
set_option linter.unusedSimpArgs false
namespace Go.Proofs.Ytjcocahhpjgbhaa
open Go.RowKit Go.BigFrame

theorem dPut_is (D : Dc) (tv pv : Value) (h1 : D.tv = tv) (h2 : D.pv = pv) (w : World) (hD : D.In w w.heap.size) (h64 : i64D D.pl) (hL : LenD D) (hp : D.ps.length ≤ 1099511627776) :
    Calls Try.prog 10 #[.agg #[tv, pv]] w fun e w' => DPutRet D.pl w e w' := by
  subst h1 h2; exact dPut_any D w hD h64 hL hp
theorem sameD_is (D E : Dc) (tv pv ev qv : Value) (h1 : D.tv = tv) (h2 : D.pv = pv) (h3 : E.tv = ev) (h4 : E.pv = qv) (w : World) (hD : D.In w w.heap.size) (hE : E.In w w.heap.size) (he : D.pl = E.pl) (hL : LenD D) (hp : D.ps.length ≤ 1099511627776) :
    Calls Try.prog 13 #[.agg #[tv, pv], .agg #[ev, qv]] w fun e w' => e = .returned (.bool true) ∧ Below w.heap.size w w' := by
  subst h1 h2 h3 h4; exact sameDecl_eq D E w hD hE he hL hp
/-- Put, when it is known which way it goes. -/
def PutOk (D : PD) (w : World) (e : Ending) (w' : World) : Prop := ∃ A n c, n = (encs (nDc D)).length ∧ e = .returned (.tuple #[.slice A n c, .int .i64 0]) ∧ Sl .u8 w' w'.heap.size (.slice A n c) (encs (nDc D)) ∧ Below w.heap.size w w'
def PutNo (w : World) (e : Ending) (w' : World) : Prop := e = .returned (.tuple #[.slice none 0 0, .int .i64 3]) ∧ Below w.heap.size w w'
theorem DPutRet.ok {D : PD} {w : World} {e : Ending} {w' : World} (h : DPutRet D w e w') (hm : manyDc D = false) : PutOk D w e w' := by
  rcases h with ⟨h1, _⟩ | ⟨_, h⟩
  · rw [hm] at h1; cases h1
  · exact h
theorem DPutRet.no {D : PD} {w : World} {e : Ending} {w' : World} (h : DPutRet D w e w') (hm : manyDc D = true) : PutNo w e w' := by
  rcases h with ⟨_, h⟩ | ⟨h1, _⟩
  · exact h
  · rw [hm] at h1; cases h1
def PutCode (E : Int) (w : World) (e : Ending) (w' : World) : Prop := ∃ A n c, e = .returned (.tuple #[.slice A n c, .int .i64 E]) ∧ Below w.heap.size w w'
theorem DPutRet.code {D : PD} {w : World} {e : Ending} {w' : World} (h : DPutRet D w e w') {E : Int} (hE : (if manyDc D then (3 : Int) else 0) = E) : PutCode E w e w' := by
  subst hE
  rcases h with ⟨h1, h2, h3⟩ | ⟨h1, A, n, c, _, h2, _, h3⟩
  · rw [h1]; exact ⟨none, 0, 0, h2, h3⟩
  · rw [h1]; exact ⟨A, n, c, h2, h3⟩
abbrev knF : List Fd := [⟨1, 1, true, [], .slice none 0 0⟩]
abbrev knD (b : Nat) : Dc := ⟨[⟨knF, .slice (some ⟨b, 0, none⟩) 1 1⟩], [], .slice (some ⟨b + 1, 0, none⟩) 1 1, .slice none 0 0⟩
def knP : PD := ⟨[[⟨1, 1, true, []⟩]], []⟩
theorem knD_pl (b : Nat) : (knD b).pl = knP := rfl
theorem kn_bytes : encs (nDc knP) = [1, 1, 1, 1, 1, 1, 1, 1, 1, 1, 0, 0] := by decide +kernel
theorem kn_many : manyDc knP = false := by decide +kernel
theorem kn_64 : i64D knP := ⟨fun t ht f hf => by
  have h1 : t = [⟨1, 1, true, []⟩] := List.mem_singleton.1 ht
  subst h1
  have h2 : f = ⟨1, 1, true, []⟩ := List.mem_singleton.1 hf
  subst h2
  exact ⟨⟨by decide, by decide⟩, ⟨by decide, by decide⟩, fun m hm => by cases hm⟩, fun p hp => by cases hp⟩
theorem lenD_of {D : Dc} (h1 : D.ts.length ≤ 1099511627776) (h2 : ∀ t ∈ D.ts, t.fs.length ≤ 1099511627776 ∧ ∀ f ∈ t.fs, f.ms.length ≤ 1099511627776) : LenD D := ⟨h1, h2⟩
theorem lenD_v {D : Dc} (h : vDc D.pl) : LenD D ∧ D.ps.length ≤ 1099511627776 := by
  obtain ⟨⟨h1, h2⟩, h3, _⟩ := h
  unfold Dc.pl at h1 h2 h3
  dsimp only at h1 h2 h3
  rw [List.length_map] at h1
  refine ⟨⟨by omega, fun t ht => ?_⟩, by omega⟩
  have h4 := h2 t.pl (List.mem_map_of_mem ht)
  refine ⟨by have := h4.1; unfold Ty.pl at this; rw [List.length_map] at this; omega, fun f hf => ?_⟩
  have h5 := (h4.2 f.pl (by unfold Ty.pl; exact List.mem_map_of_mem hf)).2.2.2.1
  unfold Fd.pl at h5
  dsimp only at h5
  omega
set_option maxHeartbeats 8000000 in
theorem known07_any (w : World) : Calls Try.prog 8 #[] w fun e w' => e = .returned (.bool true) ∧ Below w.heap.size w w' := by
  obtain ⟨W1, hW1⟩ : ∃ W1, W1 = w.alloc (.cells #[.int .i64 1, .int .i64 1, .bool true, .slice none 0 0] 45) := ⟨_, rfl⟩
  obtain ⟨W2, hW2⟩ : ∃ W2, W2 = W1.alloc (.cells #[.slice (some ⟨w.heap.size, 0, none⟩) 1 1] 42) := ⟨_, rfl⟩
  obtain ⟨W, hW⟩ : ∃ W, W = W2.alloc (.cells #[.slice (some ⟨w.heap.size + 1, 0, none⟩) 1 1, .slice none 0 0] 25) := ⟨_, rfl⟩
  have s1 : W1.heap.size = w.heap.size + 1 := by rw [hW1]; simp
  have s2 : W2.heap.size = w.heap.size + 1 + 1 := by rw [hW2]; simp [s1]
  have b1 : Below w.heap.size w W1 := by rw [hW1]; exact Bel.grew (Below.refl _ _) _
  have b2 : Below W1.heap.size W1 W2 := by rw [hW2]; exact Bel.grew (Below.refl _ _) _
  have b3 : Below W2.heap.size W2 W := by rw [hW]; exact Bel.grew (Below.refl _ _) _
  have hF : SlR 4 W1 W1.heap.size (.slice (some ⟨w.heap.size, 0, none⟩) 1 1) (knF.map Fd.cells) := by rw [hW1]; exact SlR.built_ w 45 (knF.map Fd.cells) (fd_rows _) _ rfl 1 rfl
  have hT : SlR 1 W2 W2.heap.size (.slice (some ⟨w.heap.size + 1, 0, none⟩) 1 1) ((knD w.heap.size).ts.map Ty.cells) := by rw [hW2]; exact SlR.built_ W1 42 ((knD w.heap.size).ts.map Ty.cells) (ty_rows _) _ s1.symm 1 rfl
  have hC : Has W (w.heap.size + 1 + 1) #[.slice (some ⟨w.heap.size + 1, 0, none⟩) 1 1, .slice none 0 0] := by rw [hW]; exact Has.new1 _ _ _ s2.symm
  have hD : (knD w.heap.size).In W W.heap.size := by
    refine ⟨SlR.later hT b3, fun t ht => ?_, SlR.none_⟩
    have : t = ⟨knF, .slice (some ⟨w.heap.size, 0, none⟩) 1 1⟩ := List.mem_singleton.1 ht
    subst this
    refine ⟨SlR.later (SlR.later hF b2) b3, fun f hf => ?_⟩
    have : f = ⟨1, 1, true, [], .slice none 0 0⟩ := List.mem_singleton.1 hf
    subst this
    exact SlR.none_
  have HD := Lib.hid hD
  have HC := Lib.hid hC
  have HB := Lib.hid (Bel.then (Bel.then b1 b2) b3)
  have HW : Hid (W = ((w.alloc (.cells #[.int .i64 1, .int .i64 1, .bool true, .slice none 0 0] 45)).alloc (.cells #[.slice (some ⟨w.heap.size, 0, none⟩) 1 1] 42)).alloc (.cells #[.slice (some ⟨w.heap.size + 1, 0, none⟩) 1 1, .slice none 0 0] 25)) := by rw [hW, hW2, hW1]; exact Lib.hid rfl
  have hc := hC.2
  have hcl := hC.1
  clear hW1 hW2 hW s1 s2 b1 b2 b3 hF hT hC hD
  go_enter Try.func8, Try.ntmps8
  go_wp2_with fail
  rw [← HW.out]
  clear HW
  refine ((dPut_is (knD w.heap.size) _ _ rfl rfl W HD.out kn_64 (lenD_v (D := knD w.heap.size) (vDc_of (D := knP) kn_64 kn_many)).1 (Nat.zero_le _)).mono fun e w' h => DPutRet.ok h kn_many).mono ?_
  rintro e w1 ⟨A, n, c, hn, rfl, hs, hb1⟩
  rw [knD_pl, kn_bytes] at hn hs
  have hn12 : n = 12 := hn
  subst hn12
  have HS := Lib.hid hs
  have HB1 := Lib.hid hb1
  have HC1 := Lib.hid (HC.out.later hb1)
  have HD1 := Lib.hid (HD.out.later hb1)
  clear hs hb1 hn hc hcl
  go_wp2_with fail
  refine (dGet_any _ _ w1 HS.out (by decide) (by decide) knP 0 ?_ ?_).mono ?_
  · rw [← kn_bytes]; exact (dGet_back (vDc_of kn_64 kn_many)).2
  · rw [← kn_bytes]; exact (dGet_back (vDc_of kn_64 kn_many)).1
  rintro e w2 ⟨G, rfl, hG, hpl, hb2⟩
  obtain ⟨gt, hgt⟩ : ∃ v, v = G.tv := ⟨_, rfl⟩
  obtain ⟨gp, hgp⟩ : ∃ v, v = G.pv := ⟨_, rfl⟩
  obtain ⟨A1, c1, h1⟩ := hG.inn.1.shapeL
  obtain ⟨A2, c2, h2⟩ := hG.inn.2.2.shapeL
  have hl1 : G.ts.length = 1 := by have := congrArg (fun D => D.ts.length) hpl; simpa [Dc.pl, knP] using this
  have hl2 : G.ps.length = 0 := by have := congrArg (fun D => D.ps.length) hpl; simpa [Dc.pl, knP] using this
  rw [hl1] at h1
  rw [hl2] at h2
  dsimp only [declV]
  rw [h1, h2]
  obtain ⟨W3, hW3⟩ : ∃ W3, W3 = w2.alloc (.cells #[.slice A1 1 c1, .slice A2 0 c2] 25) := ⟨_, rfl⟩
  have hg3 : Below w2.heap.size w2 W3 := by rw [hW3]; exact Bel.grew (Below.refl _ _) _
  have hC3 : Has W3 w2.heap.size #[.slice A1 1 c1, .slice A2 0 c2] := by rw [hW3]; exact Has.new _ _ _
  have HGV := Lib.hid (And.intro h1 h2)
  have HPL := Lib.hid hpl
  have HW3 := Lib.hid hW3
  have HG3 := Lib.hid (hG.inn.later hg3)
  have HB23 := Lib.hid (Bel.then hb2 hg3)
  have HC3 := Lib.hid hC3
  clear hgt hgp h1 h2 hl1 hl2 hG hb2 hg3 hC3 hW3
  go_upto_region 4 with fail
  rw [← HW3.out]
  clear HW3
  obtain ⟨W4, hW4⟩ : ∃ W4, W4 = W3.alloc (.cells #[.int .u8 1, .int .u8 1, .int .u8 1, .int .u8 1, .int .u8 1, .int .u8 1, .int .u8 1, .int .u8 1, .int .u8 1, .int .u8 1, .int .u8 0, .int .u8 0] 5) := ⟨_, rfl⟩
  have hb4 : Below W3.heap.size W3 W4 := by rw [hW4]; exact Bel.grew (Below.refl _ _) _
  have hs4 : Sl .u8 W4 W4.heap.size (.slice (some ⟨W3.heap.size, 0, none⟩) 12 12) [1, 1, 1, 1, 1, 1, 1, 1, 1, 1, 0, 0] := by rw [hW4]; exact Sl.built W3 _ 5 _ 12 _ rfl rfl rfl
  have HS4 := Lib.hid hs4
  have HB4 := Lib.hid hb4
  have HW4 := Lib.hid hW4
  clear hs4 hb4 hW4
  go_wp2_with fail
  rw [← HW4.out]
  clear HW4
  have h14 := (HB23.out.trans (HB4.out.mono HB23.out.size))
  refine (sameBytes_is (b := true) (HS.out.later h14) HS4.out (by decide) (by decide)).mono ?_
  rintro e w5 ⟨rfl, hb5⟩
  have hb45 : Below W3.heap.size W3 w5 := Bel.then HB4.out hb5
  have hb15 : Below w1.heap.size w1 w5 := Bel.then HB23.out hb45
  have hx := (HC3.out.later hb45).2
  have hxl := (HC3.out.later hb45).1
  have hd := (HC1.out.later hb15).2
  have hdl := (HC1.out.later hb15).1
  have HB15 := Lib.hid hb15
  have HG5 := Lib.hid (HG3.out.later hb45)
  have HD5 := Lib.hid (HD1.out.later hb15)
  clear hb45 hb15 hb5 h14
  go_wp2_with fail
  refine (sameD_is G (knD w.heap.size) _ _ _ _ HGV.out.1 HGV.out.2 rfl rfl w5 HG5.out HD5.out (by rw [HPL.out]; rfl) ?_ ?_).mono ?_
  · exact (lenD_v (by rw [HPL.out]; exact vDc_of kn_64 kn_many)).1
  · exact (lenD_v (by rw [HPL.out]; exact vDc_of kn_64 kn_many)).2
  rintro e w6 ⟨rfl, hb6⟩
  have HB6 := Lib.hid (Bel.then HB.out (Bel.then HB1.out (Bel.then HB15.out hb6)))
  clear hb6 hx hxl hd hdl
  go_wp2_with fail
  go_ret
  exact ⟨rfl, HB6.out⟩
end Go.Proofs.Ytjcocahhpjgbhaa
