/- Declarations laid: fields, types; the whole. -/
import Derived.Test.YtjcocahhpjgbhaaMzDPut2
set_option maxRecDepth 100000
set_option maxRecDepth 100000
set_option maxRecDepth 100000
set_option linter.unusedVariables false
set_option linter.unusedSimpArgs false
namespace Go.Proofs.Ytjcocahhpjgbhaa
open Go.RowKit Go.BigFrame

set_option maxHeartbeats 8000000 in
theorem putsFd_any (l : List Fd) (v : Value) {p : Nat} {L : List Int} {m : Bool} {w : World} (hW : Wr w p L m) (hv : SlR 4 w p v (l.map Fd.cells)) (hin : ∀ x ∈ l, x.In w p ∧ x.ms.length ≤ 1099511627776) (h64 : ∀ x ∈ l, i64F x.pl) (hl : L.length ≤ 60000000) (hn : l.length ≤ 1099511627776) :
    Calls Try.prog 38 #[.pointer (some ⟨p, 0, none⟩), v, .int .i64 8, .func (.func 39) #[] #[]] w fun e w' => PutRet p (putS 8 wFd (l.map Fd.pl) (L, m)) w e w' := by
  obtain ⟨A, c, rfl⟩ := hv.shapeL
  have hc1 := hW.c1
  have hf1 := hW.fz 1
  have hpl := hW.lt
  have HW := Lib.hid hW
  have HV := Lib.hid hv
  have H64 := Lib.hid h64
  have HIN := Lib.hid hin
  have hnI : (l.length : Int) ≤ 1099511627776 := by omega
  clear hW hv h64 hin
  by_cases hmm : m = true ∨ 8 < l.length
  · have HR : Hid (putS 8 wFd (l.map Fd.pl) (L, m) = (L, true)) := Lib.hid (by unfold putS; rw [if_pos (by rw [List.length_map]; exact hmm)])
    have hWm := HW.out.setMany true
    have HWM := Lib.hid hWm
    clear hWm
    have hcase : m = true ∨ (m = false ∧ (8 : Int) < (l.length : Int)) := by
      cases m
      · exact .inr ⟨rfl, by rcases hmm with h | h; cases h; omega⟩
      · exact .inl rfl
    clear hmm
    rcases hcase with rfl | ⟨rfl, hbig⟩
    all_goals
      go_enter Try.func38, Try.ntmps38
      go_wp2_with fail
      go_end0
      refine ⟨rfl, (But.refl p w).store 1 _, ?_⟩
      rw [HR.out]
      exact HWM.out
  · obtain ⟨hm, hsm⟩ : m = false ∧ l.length ≤ 8 := ⟨by cases m; rfl; exact absurd (.inl rfl) hmm, by omega⟩
    subst hm
    clear hmm
    have HR : Hid (putS 8 wFd (l.map Fd.pl) (L, false) = putF wFd (l.map Fd.pl) (L ++ [(l.length : Int)], false)) := Lib.hid (by unfold putS; rw [if_neg (by rw [List.length_map]; simp; omega), List.length_map])
    have hsmI : ¬ (8 : Int) < (l.length : Int) := by omega
    obtain ⟨W, hWe⟩ : ∃ W, W = w.setCell ⟨p, 1, none⟩ (.bool false) := ⟨_, rfl⟩
    have hW1 : Wr W p L false := by rw [hWe]; exact HW.out.setMany false
    have hB1 : But p w W := by rw [hWe]; exact (But.refl p w).store 1 _
    have HW1 := Lib.hid hW1
    have HB1 := Lib.hid hB1
    have HWE := Lib.hid hWe
    clear hW1 hB1 hWe HW
    go_enter Try.func38, Try.ntmps38
    go_wp2_with fail
    rw [← HWE.out]
    have hsz : W.heap.size = w.heap.size := by rw [HWE.out]; simp [World.setCell]
    have HSZ := Lib.hid hsz
    clear HWE
    obtain ⟨W2, hW2⟩ : ∃ W2, W2 = W.alloc (.cells #[.int .i64 (l.length : Int)] 3) := ⟨_, rfl⟩
    rw [← hW2]
    have hb2 : Below W.heap.size W W2 := by rw [hW2]; exact Bel.grew (Below.refl _ _) _
    have hs : Sl .i64 W2 W2.heap.size (.slice (some ⟨w.heap.size, 0, none⟩) 1 1) [(l.length : Int)] := by rw [hW2]; exact Sl.one W 3 _ _ hsz.symm
    refine (wints_any (HW1.out.below hb2) hs (fun b o n c he => by
      injection he with h1 _ _
      injection h1 with h1
      injection h1 with h1
      omega) (fun n hn => by
        have := List.mem_singleton.1 hn
        subst this; omega) (by rw [List.length_cons, List.length_nil]; omega)).mono ?_
    rintro e w3 ⟨rfl, hb3, hw3⟩
    have HB3 := Lib.hid ((HB1.out.trans (But.of hb2)).trans hb3)
    have HW3 := Lib.hid hw3
    clear hb3 hw3 hb2 hs hW2 hsz HW1 HB1 hc1 hf1
    go_wp2_with fail
    go_loopw [34] (fun i wr => ∃ k : Nat, k ≤ l.length ∧ i = .int .i64 k ∧ But p w wr ∧ Wr wr p (putF wFd (((l.map Fd.pl)).take k) (L ++ [(l.length : Int)], false)).1 (putF wFd (((l.map Fd.pl)).take k) (L ++ [(l.length : Int)], false)).2) (fun i _ => l.length - (intOf i).toNat)
    case atStart => exact ⟨0, Nat.zero_le _, rfl, HB3.out, HW3.out⟩
    case round =>
      obtain ⟨k, hk, rfl, hb, hWr⟩ := hrel
      have HB := Lib.hid hb
      have HWr := Lib.hid hWr
      clear hb hWr
      by_cases hlt : k < l.length
      · obtain ⟨x, hx⟩ : ∃ x, l[k]? = some x := ⟨_, List.getElem?_eq_getElem hlt⟩
        obtain ⟨b, off, rfl, hbb, hcap, hcx⟩ := (HV.out.drop_p HB.out hpl).at hx
        have HX64 := Lib.hid (H64.out x (List.mem_of_getElem? hx))
        have hxi := Fd.In.below (HIN.out x (List.mem_of_getElem? hx)).1 (HB.out.below (Nat.le_refl _) (Nat.le_of_lt hpl))
        have hxm := (HIN.out x (List.mem_of_getElem? hx)).2
        have HST : Hid (putF wFd (((l.map Fd.pl)).take (k + 1)) (L ++ [(l.length : Int)], false) = wFd x.pl (putF wFd (((l.map Fd.pl)).take k) (L ++ [(l.length : Int)], false))) := Lib.hid (putF_succ _ (by rw [List.getElem?_map, hx]; rfl) _)
        have HLB : Hid ((putF wFd (((l.map Fd.pl)).take k) (L ++ [(l.length : Int)], false)).1.length ≤ L.length + 1 + 8 * 68) := Lib.hid (by
          have h := putF_len (one := wFd) (c := 68) (l := ((l.map Fd.pl)).take k) (fun y _ s => wFd_len y s) (L ++ [(l.length : Int)], false)
          dsimp only at h
          rw [List.length_append, List.length_cons, List.length_nil] at h
          have h2 : (((l.map Fd.pl)).take k).length ≤ 8 := by rw [List.length_take, List.length_map]; omega
          have h3 := Nat.mul_le_mul_right 68 h2
          omega)
        obtain ⟨S, hS⟩ : ∃ S, S = putF wFd (((l.map Fd.pl)).take k) (L ++ [(l.length : Int)], false) := ⟨_, rfl⟩
        rw [← hS] at HWr HST HLB
        obtain ⟨SL, SM⟩ := S
        dsimp only at HWr HLB
        obtain ⟨xk, xp, xfl, xms, xv⟩ := x
        obtain ⟨A3, c3, h3⟩ := SlR.shapeL hxi
        dsimp only at h3 hxm
        subst h3
        have h0 := hcx 0 _ rfl
        have h1 := hcx 1 _ rfl
        have h2 := hcx 2 _ rfl
        have h3 := hcx 3 _ rfl
        rw [Nat.add_zero] at h0
        dsimp only at h0 h1 h2 h3
        have HXI := Lib.hid hxi
        clear hxi
        have hbw : b < wr.heap.size := by have := HWr.out.lt; omega
        have hkI : (k : Int) < (l.length : Int) := by omega
        clear hcx hx hS
        go_wp2_with fail
        have hgr : Below wr.heap.size wr (wr.alloc (.cells #[.int .i64 xk, .int .i64 xp, .bool xfl, .slice A3 xms.length c3] 45)) := Bel.grew (Below.refl _ _) _
        have HGR := Lib.hid hgr
        clear hgr
        refine (putFd_any ⟨xk, xp, xfl, xms, .slice A3 xms.length c3⟩ (HWr.out.below HGR.out) (Fd.In.below HXI.out (HGR.out.mono (Nat.le_of_lt HWr.out.lt))) HX64.out (by have := HLB.out; omega) hxm).mono ?_
        rintro e w4 ⟨rfl, hb4, hw4⟩
        rw [← HST.out] at hw4
        have HB4 := Lib.hid ((HB.out.trans (But.of HGR.out)).trans hb4)
        have HW4 := Lib.hid hw4
        clear hb4 hw4 h0 h1 h2 h3
        go_wp2_with fail
        go_roundw
        case rel => exact ⟨k + 1, by omega, by go_num, HB4.out, HW4.out⟩
        case measure => simp [intOf]; omega
      · have hk' : k = l.length := by omega
        subst hk'
        go_wp2_with fail
        go_end0
        refine ⟨rfl, HB.out, ?_⟩
        rw [HR.out]
        have h := HWr.out
        rw [show ((l.map Fd.pl)).take l.length = (l.map Fd.pl) from List.take_of_length_le (by rw [List.length_map]; exact Nat.le_refl _)] at h
        exact h

def LenT (t : Ty) : Prop := t.fs.length ≤ 1099511627776 ∧ ∀ f ∈ t.fs, f.ms.length ≤ 1099511627776
set_option maxHeartbeats 4000000 in
theorem putTy_any (t : Ty) {p : Nat} {L : List Int} {m : Bool} {w : World} (hW : Wr w p L m) (ht : t.In w p) (h64 : ∀ f ∈ t.fs, i64F f.pl) (hl : L.length ≤ 50000000) (hn : LenT t) :
    Calls Try.prog 19 #[.pointer (some ⟨p, 0, none⟩), tyV t] w fun e w' => PutRet p (wTy t.pl (L, m)) w e w' := by
  obtain ⟨fs, tv⟩ := t
  obtain ⟨A, c, h3⟩ := SlR.shapeL ht.1
  dsimp only at h3
  subst h3
  obtain ⟨W, hWe⟩ : ∃ W, W = w.alloc (.cells #[.slice A fs.length c] 42) := ⟨_, rfl⟩
  have hgr : Below w.heap.size w W := by rw [hWe]; exact Bel.grew (Below.refl _ _) _
  have hc : Has W w.heap.size #[.slice A fs.length c] := by rw [hWe]; exact Has.new _ _ _
  have HW := Lib.hid (hW.below hgr)
  have HG := Lib.hid hgr
  have HWE := Lib.hid hWe
  have H64 := Lib.hid h64
  have HT := Lib.hid (Ty.In.below ht (hgr.mono (Nat.le_of_lt hW.lt)))
  have HN := Lib.hid hn
  have hcc := hc.2
  have hcl := hc.1
  have hpl := hW.lt
  clear hgr hW hWe hc h64 ht hn
  go_enter Try.func19, Try.ntmps19
  go_wp2_with fail
  rw [← HWE.out]
  clear HWE
  refine (putsFd_any fs _ HW.out HT.out.1 (fun f hf => ⟨HT.out.2 f hf, HN.out.2 f hf⟩) H64.out (by omega) HN.out.1).mono ?_
  rintro e w3 ⟨rfl, hb3, hw3⟩
  have HB3 := Lib.hid ((But.of HG.out : But p w W).trans hb3)
  have HW3 := Lib.hid hw3
  clear hb3 hw3 hcc
  go_wp2_with fail
  go_end0
  exact ⟨rfl, HB3.out, HW3.out⟩

set_option maxHeartbeats 8000000 in
theorem putsTy_any (l : List Ty) (v : Value) {p : Nat} {L : List Int} {m : Bool} {w : World} (hW : Wr w p L m) (hv : SlR 1 w p v (l.map Ty.cells)) (hin : ∀ x ∈ l, x.In w p ∧ LenT x) (h64 : ∀ x ∈ l, ∀ f ∈ x.fs, i64F f.pl) (hl : L.length ≤ 40000000) (hn : l.length ≤ 1099511627776) :
    Calls Try.prog 18 #[.pointer (some ⟨p, 0, none⟩), v, .int .i64 8, .func (.func 19) #[] #[]] w fun e w' => PutRet p (putS 8 wTy (l.map Ty.pl) (L, m)) w e w' := by
  obtain ⟨A, c, rfl⟩ := hv.shapeL
  have hc1 := hW.c1
  have hf1 := hW.fz 1
  have hpl := hW.lt
  have HW := Lib.hid hW
  have HV := Lib.hid hv
  have H64 := Lib.hid h64
  have HIN := Lib.hid hin
  have hnI : (l.length : Int) ≤ 1099511627776 := by omega
  clear hW hv h64 hin
  by_cases hmm : m = true ∨ 8 < l.length
  · have HR : Hid (putS 8 wTy (l.map Ty.pl) (L, m) = (L, true)) := Lib.hid (by unfold putS; rw [if_pos (by rw [List.length_map]; exact hmm)])
    have hWm := HW.out.setMany true
    have HWM := Lib.hid hWm
    clear hWm
    have hcase : m = true ∨ (m = false ∧ (8 : Int) < (l.length : Int)) := by
      cases m
      · exact .inr ⟨rfl, by rcases hmm with h | h; cases h; omega⟩
      · exact .inl rfl
    clear hmm
    rcases hcase with rfl | ⟨rfl, hbig⟩
    all_goals
      go_enter Try.func18, Try.ntmps18
      go_wp2_with fail
      go_end0
      refine ⟨rfl, (But.refl p w).store 1 _, ?_⟩
      rw [HR.out]
      exact HWM.out
  · obtain ⟨hm, hsm⟩ : m = false ∧ l.length ≤ 8 := ⟨by cases m; rfl; exact absurd (.inl rfl) hmm, by omega⟩
    subst hm
    clear hmm
    have HR : Hid (putS 8 wTy (l.map Ty.pl) (L, false) = putF wTy (l.map Ty.pl) (L ++ [(l.length : Int)], false)) := Lib.hid (by unfold putS; rw [if_neg (by rw [List.length_map]; simp; omega), List.length_map])
    have hsmI : ¬ (8 : Int) < (l.length : Int) := by omega
    obtain ⟨W, hWe⟩ : ∃ W, W = w.setCell ⟨p, 1, none⟩ (.bool false) := ⟨_, rfl⟩
    have hW1 : Wr W p L false := by rw [hWe]; exact HW.out.setMany false
    have hB1 : But p w W := by rw [hWe]; exact (But.refl p w).store 1 _
    have HW1 := Lib.hid hW1
    have HB1 := Lib.hid hB1
    have HWE := Lib.hid hWe
    clear hW1 hB1 hWe HW
    go_enter Try.func18, Try.ntmps18
    go_wp2_with fail
    rw [← HWE.out]
    have hsz : W.heap.size = w.heap.size := by rw [HWE.out]; simp [World.setCell]
    have HSZ := Lib.hid hsz
    clear HWE
    obtain ⟨W2, hW2⟩ : ∃ W2, W2 = W.alloc (.cells #[.int .i64 (l.length : Int)] 3) := ⟨_, rfl⟩
    rw [← hW2]
    have hb2 : Below W.heap.size W W2 := by rw [hW2]; exact Bel.grew (Below.refl _ _) _
    have hs : Sl .i64 W2 W2.heap.size (.slice (some ⟨w.heap.size, 0, none⟩) 1 1) [(l.length : Int)] := by rw [hW2]; exact Sl.one W 3 _ _ hsz.symm
    refine (wints_any (HW1.out.below hb2) hs (fun b o n c he => by
      injection he with h1 _ _
      injection h1 with h1
      injection h1 with h1
      omega) (fun n hn => by
        have := List.mem_singleton.1 hn
        subst this; omega) (by rw [List.length_cons, List.length_nil]; omega)).mono ?_
    rintro e w3 ⟨rfl, hb3, hw3⟩
    have HB3 := Lib.hid ((HB1.out.trans (But.of hb2)).trans hb3)
    have HW3 := Lib.hid hw3
    clear hb3 hw3 hb2 hs hW2 hsz HW1 HB1 hc1 hf1
    go_wp2_with fail
    go_loopw [34] (fun i wr => ∃ k : Nat, k ≤ l.length ∧ i = .int .i64 k ∧ But p w wr ∧ Wr wr p (putF wTy (((l.map Ty.pl)).take k) (L ++ [(l.length : Int)], false)).1 (putF wTy (((l.map Ty.pl)).take k) (L ++ [(l.length : Int)], false)).2) (fun i _ => l.length - (intOf i).toNat)
    case atStart => exact ⟨0, Nat.zero_le _, rfl, HB3.out, HW3.out⟩
    case round =>
      obtain ⟨k, hk, rfl, hb, hWr⟩ := hrel
      have HB := Lib.hid hb
      have HWr := Lib.hid hWr
      clear hb hWr
      by_cases hlt : k < l.length
      · obtain ⟨x, hx⟩ : ∃ x, l[k]? = some x := ⟨_, List.getElem?_eq_getElem hlt⟩
        obtain ⟨b, off, rfl, hbb, hcap, hcx⟩ := (HV.out.drop_p HB.out hpl).at hx
        have HX64 := Lib.hid (H64.out x (List.mem_of_getElem? hx))
        have hxi := Ty.In.below (HIN.out x (List.mem_of_getElem? hx)).1 (HB.out.below (Nat.le_refl _) (Nat.le_of_lt hpl))
        have hxm := (HIN.out x (List.mem_of_getElem? hx)).2
        have HST : Hid (putF wTy (((l.map Ty.pl)).take (k + 1)) (L ++ [(l.length : Int)], false) = wTy x.pl (putF wTy (((l.map Ty.pl)).take k) (L ++ [(l.length : Int)], false))) := Lib.hid (putF_succ _ (by rw [List.getElem?_map, hx]; rfl) _)
        have HLB : Hid ((putF wTy (((l.map Ty.pl)).take k) (L ++ [(l.length : Int)], false)).1.length ≤ L.length + 1 + 8 * 545) := Lib.hid (by
          have h := putF_len (one := wTy) (c := 545) (l := ((l.map Ty.pl)).take k) (fun y _ s => wTy_len y s) (L ++ [(l.length : Int)], false)
          dsimp only at h
          rw [List.length_append, List.length_cons, List.length_nil] at h
          have h2 : (((l.map Ty.pl)).take k).length ≤ 8 := by rw [List.length_take, List.length_map]; omega
          have h3 := Nat.mul_le_mul_right 545 h2
          omega)
        obtain ⟨S, hS⟩ : ∃ S, S = putF wTy (((l.map Ty.pl)).take k) (L ++ [(l.length : Int)], false) := ⟨_, rfl⟩
        rw [← hS] at HWr HST HLB
        obtain ⟨SL, SM⟩ := S
        dsimp only at HWr HLB
        obtain ⟨xfs, xv⟩ := x
        obtain ⟨A3, c3, h3⟩ := SlR.shapeL hxi.1
        dsimp only at h3
        subst h3
        have h0 := hcx 0 _ rfl
        rw [Nat.add_zero, Nat.mul_one] at h0
        dsimp only at h0
        have HXI := Lib.hid hxi
        have HXM := Lib.hid hxm
        clear hxi hxm
        have hbw : b < wr.heap.size := by have := HWr.out.lt; omega
        have hkI : (k : Int) < (l.length : Int) := by omega
        clear hcx hx hS
        go_wp2_with fail
        have hgr : Below wr.heap.size wr (wr.alloc (.cells #[.slice A3 xfs.length c3] 42)) := Bel.grew (Below.refl _ _) _
        have HGR := Lib.hid hgr
        clear hgr
        refine (putTy_any ⟨xfs, .slice A3 xfs.length c3⟩ (HWr.out.below HGR.out) (Ty.In.below HXI.out (HGR.out.mono (Nat.le_of_lt HWr.out.lt))) HX64.out (by have := HLB.out; omega) HXM.out).mono ?_
        rintro e w4 ⟨rfl, hb4, hw4⟩
        rw [← HST.out] at hw4
        have HB4 := Lib.hid ((HB.out.trans (But.of HGR.out)).trans hb4)
        have HW4 := Lib.hid hw4
        clear hb4 hw4 h0
        go_wp2_with fail
        go_roundw
        case rel => exact ⟨k + 1, by omega, by go_num, HB4.out, HW4.out⟩
        case measure => simp [intOf]; omega
      · have hk' : k = l.length := by omega
        subst hk'
        go_wp2_with fail
        go_end0
        refine ⟨rfl, HB.out, ?_⟩
        rw [HR.out]
        have h := HWr.out
        rw [show ((l.map Ty.pl)).take l.length = (l.map Ty.pl) from List.take_of_length_le (by rw [List.length_map]; exact Nat.le_refl _)] at h
        exact h
end Go.Proofs.Ytjcocahhpjgbhaa
