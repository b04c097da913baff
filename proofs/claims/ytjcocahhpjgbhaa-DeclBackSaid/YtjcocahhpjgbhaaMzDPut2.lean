/- Declarations laid: moves, fields, types, projections; lists of them. -/
import Derived.Test.YtjcocahhpjgbhaaMzDPut
import Derived.Deep.RegionLaw
set_option maxRecDepth 100000
set_option maxRecDepth 100000
set_option maxRecDepth 100000
set_option linter.unusedVariables false
set_option linter.unusedSimpArgs false
namespace Go.Proofs.Ytjcocahhpjgbhaa
open Go.RowKit Go.BigFrame

/-- What the writer has laid; whether there were too many. -/
abbrev WS := List Int × Bool
def putF {α : Type} (one : α → WS → WS) (l : List α) (s : WS) : WS := l.foldl (fun s x => one x s) s
def putS {α : Type} (most : Nat) (one : α → WS → WS) (l : List α) (s : WS) : WS := if s.2 = true ∨ most < l.length then (s.1, true) else putF one l (s.1 ++ [(l.length : Int)], false)
theorem putF_succ {α : Type} (one : α → WS → WS) {l : List α} {k : Nat} {x : α} (h : l[k]? = some x) (s : WS) : putF one (l.take (k + 1)) s = one x (putF one (l.take k) s) := by
  unfold putF; rw [take_snoc h, List.foldl_append]; rfl
theorem putF_len {α : Type} {one : α → WS → WS} {c : Nat} : ∀ {l : List α}, (∀ x ∈ l, ∀ s, (one x s).1.length ≤ s.1.length + c) → ∀ s, (putF one l s).1.length ≤ s.1.length + l.length * c
  | [], _, s => by simp [putF]
  | x :: l, h, s => by
    have h1 := h x (by simp) s
    have h2 := putF_len (l := l) (fun y hy => h y (by simp [hy])) (one x s)
    have e : putF one (x :: l) s = putF one l (one x s) := rfl
    rw [e, List.length_cons, Nat.add_mul]; omega
theorem putS_len {α : Type} {one : α → WS → WS} {c most : Nat} {l : List α} (h : ∀ x ∈ l, ∀ s, (one x s).1.length ≤ s.1.length + c) (s : WS) : (putS most one l s).1.length ≤ s.1.length + 1 + most * c := by
  unfold putS
  split
  · dsimp only; omega
  · rename_i hn
    have h1 := putF_len h (s.1 ++ [(l.length : Int)], false)
    dsimp only at h1
    rw [List.length_append, List.length_cons, List.length_nil] at h1
    have h2 : l.length * c ≤ most * c := Nat.mul_le_mul_right c (by omega)
    omega
def wMv (m : Mv) (s : WS) : WS := (s.1 ++ nMv m, s.2)
def wPj (p : Pj) (s : WS) : WS := (s.1 ++ nPj p, s.2)
def wFd (f : PF) (s : WS) : WS := putS 16 wMv f.ms (s.1 ++ [f.k, f.p, bI f.fl], s.2)
def wTy (t : List PF) (s : WS) : WS := putS 8 wFd t s
theorem wMv_len (m : Mv) (s : WS) : (wMv m s).1.length ≤ s.1.length + 4 := by simp [wMv, nMv]
theorem wPj_len (p : Pj) (s : WS) : (wPj p s).1.length ≤ s.1.length + 5 := by simp [wPj, nPj]
theorem wFd_len (f : PF) (s : WS) : (wFd f s).1.length ≤ s.1.length + 68 := by
  unfold wFd
  have := putS_len (most := 16) (l := f.ms) (fun m _ s => wMv_len m s) (s.1 ++ [f.k, f.p, bI f.fl], s.2)
  dsimp only at this
  rw [List.length_append, List.length_cons, List.length_cons, List.length_cons, List.length_nil] at this
  omega
theorem wTy_len (t : List PF) (s : WS) : (wTy t s).1.length ≤ s.1.length + 545 := by
  unfold wTy
  have := putS_len (most := 8) (l := t) (fun m _ s => wFd_len m s) s
  omega
/-- What a laying leaves. -/
def PutRet (p : Nat) (s : WS) (w : World) (e : Ending) (w' : World) : Prop := e = .returned (.tuple #[]) ∧ But p w w' ∧ Wr w' p s.1 s.2
theorem SlR.drop_p {sz p : Nat} {w w' : World} {v : Value} {rows : List (List Value)} (h : SlR sz w p v rows) (hb : But p w w') (hp : p < w.heap.size) : SlR sz w' p v rows := h.below (hb.below (Nat.le_refl _) (Nat.le_of_lt hp))

set_option maxHeartbeats 4000000 in
theorem putMv_any (x : Mv) {p : Nat} {L : List Int} {m : Bool} {w : World} (hW : Wr w p L m) (h64 : vMv x) (hl : L.length ≤ 90000000) :
    Calls Try.prog 51 #[.pointer (some ⟨p, 0, none⟩), mvV x] w fun e w' => PutRet p (wMv x (L, m)) w e w' := by
  obtain ⟨W, hWe⟩ : ∃ W, W = w.alloc (.cells #[.int .i64 x.a, .int .i64 x.b, .int .i64 x.c, .int .i64 x.d] 76) := ⟨_, rfl⟩
  have hgr : Below w.heap.size w W := by rw [hWe]; exact Bel.grew (Below.refl _ _) _
  have hc : Has W w.heap.size #[.int .i64 x.a, .int .i64 x.b, .int .i64 x.c, .int .i64 x.d] := by rw [hWe]; exact Has.new _ _ _
  have HW := Lib.hid (hW.below hgr)
  have HG := Lib.hid hgr
  have HWE := Lib.hid hWe
  have H64 := Lib.hid h64
  have hcc := hc.2
  have hcl := hc.1
  have hpl := hW.lt
  clear hgr hW hWe hc h64
  go_enter Try.func51, Try.ntmps51
  go_wp2_with fail
  rw [← HWE.out]
  have hsz : W.heap.size = w.heap.size + 1 := by rw [HWE.out]; simp
  clear HWE
  obtain ⟨W2, hW2⟩ : ∃ W2, W2 = W.alloc (.cells #[.int .i64 x.a, .int .i64 x.b, .int .i64 x.c, .int .i64 x.d] 3) := ⟨_, rfl⟩
  rw [← hW2]
  have hb2 : Below W.heap.size W W2 := by rw [hW2]; exact Bel.grew (Below.refl _ _) _
  have hs : Sl .i64 W2 W2.heap.size (.slice (some ⟨w.heap.size + 1, 0, none⟩) 4 4) (nMv x) := by rw [hW2]; exact Sl.built W _ 3 (nMv x) 4 _ rfl rfl hsz.symm
  refine (wints_any (HW.out.below hb2) hs (fun b o n c he => by
    injection he with h1 _ _
    injection h1 with h1
    injection h1 with h1
    omega) (fun n hn => by
      have h := H64.out
      unfold vMv at h
      simp only [nMv, List.mem_cons, List.not_mem_nil, or_false] at hn
      rcases hn with rfl | rfl | rfl | rfl
      · exact h.1
      · exact h.2.1
      · exact h.2.2.1
      · exact h.2.2.2) (by simp [nMv]; omega)).mono ?_
  rintro e w3 ⟨rfl, hb3, hw3⟩
  have HB3 := Lib.hid (((But.of HG.out : But p w W).trans (But.of hb2)).trans hb3)
  have HW3 := Lib.hid hw3
  clear hb3 hw3 hb2 hs hW2 hcc hsz
  go_wp2_with fail
  go_end0
  exact ⟨rfl, HB3.out, HW3.out⟩

set_option maxHeartbeats 4000000 in
theorem putPj_any (x : Pj) {p : Nat} {L : List Int} {m : Bool} {w : World} (hW : Wr w p L m) (h64 : vPj x) (hl : L.length ≤ 90000000) :
    Calls Try.prog 21 #[.pointer (some ⟨p, 0, none⟩), pjV x] w fun e w' => PutRet p (wPj x (L, m)) w e w' := by
  obtain ⟨W, hWe⟩ : ∃ W, W = w.alloc (.cells #[.int .i64 x.t, .int .i64 x.f, .int .i64 x.g, .int .i64 x.b, .int .i64 x.m] 51) := ⟨_, rfl⟩
  have hgr : Below w.heap.size w W := by rw [hWe]; exact Bel.grew (Below.refl _ _) _
  have hc : Has W w.heap.size #[.int .i64 x.t, .int .i64 x.f, .int .i64 x.g, .int .i64 x.b, .int .i64 x.m] := by rw [hWe]; exact Has.new _ _ _
  have HW := Lib.hid (hW.below hgr)
  have HG := Lib.hid hgr
  have HWE := Lib.hid hWe
  have H64 := Lib.hid h64
  have hcc := hc.2
  have hcl := hc.1
  have hpl := hW.lt
  clear hgr hW hWe hc h64
  go_enter Try.func21, Try.ntmps21
  go_wp2_with fail
  rw [← HWE.out]
  have hsz : W.heap.size = w.heap.size + 1 := by rw [HWE.out]; simp
  clear HWE
  obtain ⟨W2, hW2⟩ : ∃ W2, W2 = W.alloc (.cells #[.int .i64 x.t, .int .i64 x.f, .int .i64 x.g, .int .i64 x.b, .int .i64 x.m] 3) := ⟨_, rfl⟩
  rw [← hW2]
  have hb2 : Below W.heap.size W W2 := by rw [hW2]; exact Bel.grew (Below.refl _ _) _
  have hs : Sl .i64 W2 W2.heap.size (.slice (some ⟨w.heap.size + 1, 0, none⟩) 5 5) (nPj x) := by rw [hW2]; exact Sl.built W _ 3 (nPj x) 5 _ rfl rfl hsz.symm
  refine (wints_any (HW.out.below hb2) hs (fun b o n c he => by
    injection he with h1 _ _
    injection h1 with h1
    injection h1 with h1
    omega) (fun n hn => by
      have h := H64.out
      unfold vPj at h
      simp only [nPj, List.mem_cons, List.not_mem_nil, or_false] at hn
      rcases hn with rfl | rfl | rfl | rfl | rfl
      · exact h.1
      · exact h.2.1
      · exact h.2.2.1
      · exact h.2.2.2.1
      · exact h.2.2.2.2) (by simp [nPj]; omega)).mono ?_
  rintro e w3 ⟨rfl, hb3, hw3⟩
  have HB3 := Lib.hid (((But.of HG.out : But p w W).trans (But.of hb2)).trans hb3)
  have HW3 := Lib.hid hw3
  clear hb3 hw3 hb2 hs hW2 hcc hsz
  go_wp2_with fail
  go_end0
  exact ⟨rfl, HB3.out, HW3.out⟩

set_option maxHeartbeats 8000000 in
theorem putsMv_any (l : List Mv) (v : Value) {p : Nat} {L : List Int} {m : Bool} {w : World} (hW : Wr w p L m) (hv : SlR 4 w p v (l.map Mv.cells)) (h64 : ∀ x ∈ l, vMv x) (hl : L.length ≤ 80000000) (hn : l.length ≤ 1099511627776) :
    Calls Try.prog 50 #[.pointer (some ⟨p, 0, none⟩), v, .int .i64 16, .func (.func 51) #[] #[]] w fun e w' => PutRet p (putS 16 wMv l (L, m)) w e w' := by
  obtain ⟨A, c, rfl⟩ := hv.shapeL
  have hc1 := hW.c1
  have hf1 := hW.fz 1
  have hpl := hW.lt
  have HW := Lib.hid hW
  have HV := Lib.hid hv
  have H64 := Lib.hid h64
  skip
  have hnI : (l.length : Int) ≤ 1099511627776 := by omega
  clear hW hv h64 
  by_cases hmm : m = true ∨ 16 < l.length
  · have HR : Hid (putS 16 wMv l (L, m) = (L, true)) := Lib.hid (by unfold putS; rw [if_pos (by rw [show l.length = l.length from rfl]; exact hmm)])
    have hWm := HW.out.setMany true
    have HWM := Lib.hid hWm
    clear hWm
    have hcase : m = true ∨ (m = false ∧ (16 : Int) < (l.length : Int)) := by
      cases m
      · exact .inr ⟨rfl, by rcases hmm with h | h; cases h; omega⟩
      · exact .inl rfl
    clear hmm
    rcases hcase with rfl | ⟨rfl, hbig⟩
    all_goals
      go_enter Try.func50, Try.ntmps50
      go_wp2_with fail
      go_end0
      refine ⟨rfl, (But.refl p w).store 1 _, ?_⟩
      rw [HR.out]
      exact HWM.out
  · obtain ⟨hm, hsm⟩ : m = false ∧ l.length ≤ 16 := ⟨by cases m; rfl; exact absurd (.inl rfl) hmm, by omega⟩
    subst hm
    clear hmm
    have HR : Hid (putS 16 wMv l (L, false) = putF wMv l (L ++ [(l.length : Int)], false)) := Lib.hid (by unfold putS; rw [if_neg (by rw [show l.length = l.length from rfl]; simp; omega), show l.length = l.length from rfl])
    have hsmI : ¬ (16 : Int) < (l.length : Int) := by omega
    obtain ⟨W, hWe⟩ : ∃ W, W = w.setCell ⟨p, 1, none⟩ (.bool false) := ⟨_, rfl⟩
    have hW1 : Wr W p L false := by rw [hWe]; exact HW.out.setMany false
    have hB1 : But p w W := by rw [hWe]; exact (But.refl p w).store 1 _
    have HW1 := Lib.hid hW1
    have HB1 := Lib.hid hB1
    have HWE := Lib.hid hWe
    clear hW1 hB1 hWe HW
    go_enter Try.func50, Try.ntmps50
    go_wp2_with fail
    rw [← HWE.out]
    have hsz : W.heap.size = w.heap.size := by rw [HWE.out]; simp [World.setCell]
    have HSZ := Lib.hid hsz
    clear HWE
    obtain ⟨W2, hW2⟩ : ∃ W2, W2 = W.alloc (.cells #[.int .i64 (l.length : Int)] 3) := ⟨_, rfl⟩
    rw [← hW2]
    have hb2 : Below W.heap.size W W2 := by rw [hW2]; exact Bel.grew (Below.refl _ _) _
    have hs : Sl .i64 W2 W2.heap.size (.slice (some ⟨w.heap.size, 0, none⟩) 1 1) [(l.length : Int)] := by rw [hW2]; exact Sl.one W 3 _ _ hsz.symm
    refine (wints_any (HW1.out.below hb2) hs (fun b o n c he => by
      injection he with h1 _ _
      injection h1 with h1
      injection h1 with h1
      omega) (fun n hn => by
        have := List.mem_singleton.1 hn
        subst this; omega) (by rw [List.length_cons, List.length_nil]; omega)).mono ?_
    rintro e w3 ⟨rfl, hb3, hw3⟩
    have HB3 := Lib.hid ((HB1.out.trans (But.of hb2)).trans hb3)
    have HW3 := Lib.hid hw3
    clear hb3 hw3 hb2 hs hW2 hsz HW1 HB1 hc1 hf1
    go_wp2_with fail
    go_loopw [34] (fun i wr => ∃ k : Nat, k ≤ l.length ∧ i = .int .i64 k ∧ But p w wr ∧ Wr wr p (putF wMv ((l).take k) (L ++ [(l.length : Int)], false)).1 (putF wMv ((l).take k) (L ++ [(l.length : Int)], false)).2) (fun i _ => l.length - (intOf i).toNat)
    case atStart => exact ⟨0, Nat.zero_le _, rfl, HB3.out, HW3.out⟩
    case round =>
      obtain ⟨k, hk, rfl, hb, hWr⟩ := hrel
      have HB := Lib.hid hb
      have HWr := Lib.hid hWr
      clear hb hWr
      by_cases hlt : k < l.length
      · obtain ⟨x, hx⟩ : ∃ x, l[k]? = some x := ⟨_, List.getElem?_eq_getElem hlt⟩
        obtain ⟨b, off, rfl, hbb, hcap, hcx⟩ := (HV.out.drop_p HB.out hpl).at hx
        have HX64 := Lib.hid (H64.out x (List.mem_of_getElem? hx))
        skip
        have HST : Hid (putF wMv ((l).take (k + 1)) (L ++ [(l.length : Int)], false) = wMv x (putF wMv ((l).take k) (L ++ [(l.length : Int)], false))) := Lib.hid (putF_succ _ (by exact hx) _)
        have HLB : Hid ((putF wMv ((l).take k) (L ++ [(l.length : Int)], false)).1.length ≤ L.length + 1 + 16 * 4) := Lib.hid (by
          have h := putF_len (one := wMv) (c := 4) (l := (l).take k) (fun y _ s => wMv_len y s) (L ++ [(l.length : Int)], false)
          dsimp only at h
          rw [List.length_append, List.length_cons, List.length_nil] at h
          have h2 : ((l).take k).length ≤ 16 := by rw [List.length_take, show l.length = l.length from rfl]; omega
          have h3 := Nat.mul_le_mul_right 4 h2
          omega)
        obtain ⟨S, hS⟩ : ∃ S, S = putF wMv ((l).take k) (L ++ [(l.length : Int)], false) := ⟨_, rfl⟩
        rw [← hS] at HWr HST HLB
        obtain ⟨SL, SM⟩ := S
        dsimp only at HWr HLB
        obtain ⟨x0, x1, x2, x3⟩ := x
        have h0 := hcx 0 _ rfl
        have h1 := hcx 1 _ rfl
        have h2 := hcx 2 _ rfl
        have h3 := hcx 3 _ rfl
        rw [Nat.add_zero] at h0
        dsimp only at h0 h1 h2 h3
        have hbw : b < wr.heap.size := by have := HWr.out.lt; omega
        have hkI : (k : Int) < (l.length : Int) := by omega
        clear hcx hx hS
        go_wp2_with fail
        have hgr : Below wr.heap.size wr (wr.alloc (.cells #[.int .i64 x0, .int .i64 x1, .int .i64 x2, .int .i64 x3] 76)) := Bel.grew (Below.refl _ _) _
        have HGR := Lib.hid hgr
        clear hgr
        refine (putMv_any ⟨x0, x1, x2, x3⟩ (HWr.out.below HGR.out) HX64.out (by have := HLB.out; omega)).mono ?_
        rintro e w4 ⟨rfl, hb4, hw4⟩
        rw [← HST.out] at hw4
        have HB4 := Lib.hid ((HB.out.trans (But.of HGR.out)).trans hb4)
        have HW4 := Lib.hid hw4
        clear hb4 hw4 h0 h1 h2 h3
        go_wp2_with fail
        go_roundw
        case rel => exact ⟨k + 1, by omega, by go_num, HB4.out, HW4.out⟩
        case measure => simp [intOf]; omega
      · have hk' : k = l.length := by omega
        subst hk'
        go_wp2_with fail
        go_end0
        refine ⟨rfl, HB.out, ?_⟩
        rw [HR.out]
        have h := HWr.out
        rw [show (l).take l.length = l from List.take_of_length_le (by rw [show l.length = l.length from rfl]; exact Nat.le_refl _)] at h
        exact h

set_option maxHeartbeats 8000000 in
theorem putsPj_any (l : List Pj) (v : Value) {p : Nat} {L : List Int} {m : Bool} {w : World} (hW : Wr w p L m) (hv : SlR 5 w p v (l.map Pj.cells)) (h64 : ∀ x ∈ l, vPj x) (hl : L.length ≤ 80000000) (hn : l.length ≤ 1099511627776) :
    Calls Try.prog 20 #[.pointer (some ⟨p, 0, none⟩), v, .int .i64 8, .func (.func 21) #[] #[]] w fun e w' => PutRet p (putS 8 wPj l (L, m)) w e w' := by
  obtain ⟨A, c, rfl⟩ := hv.shapeL
  have hc1 := hW.c1
  have hf1 := hW.fz 1
  have hpl := hW.lt
  have HW := Lib.hid hW
  have HV := Lib.hid hv
  have H64 := Lib.hid h64
  skip
  have hnI : (l.length : Int) ≤ 1099511627776 := by omega
  clear hW hv h64 
  by_cases hmm : m = true ∨ 8 < l.length
  · have HR : Hid (putS 8 wPj l (L, m) = (L, true)) := Lib.hid (by unfold putS; rw [if_pos (by rw [show l.length = l.length from rfl]; exact hmm)])
    have hWm := HW.out.setMany true
    have HWM := Lib.hid hWm
    clear hWm
    have hcase : m = true ∨ (m = false ∧ (8 : Int) < (l.length : Int)) := by
      cases m
      · exact .inr ⟨rfl, by rcases hmm with h | h; cases h; omega⟩
      · exact .inl rfl
    clear hmm
    rcases hcase with rfl | ⟨rfl, hbig⟩
    all_goals
      go_enter Try.func20, Try.ntmps20
      go_wp2_with fail
      go_end0
      refine ⟨rfl, (But.refl p w).store 1 _, ?_⟩
      rw [HR.out]
      exact HWM.out
  · obtain ⟨hm, hsm⟩ : m = false ∧ l.length ≤ 8 := ⟨by cases m; rfl; exact absurd (.inl rfl) hmm, by omega⟩
    subst hm
    clear hmm
    have HR : Hid (putS 8 wPj l (L, false) = putF wPj l (L ++ [(l.length : Int)], false)) := Lib.hid (by unfold putS; rw [if_neg (by rw [show l.length = l.length from rfl]; simp; omega), show l.length = l.length from rfl])
    have hsmI : ¬ (8 : Int) < (l.length : Int) := by omega
    obtain ⟨W, hWe⟩ : ∃ W, W = w.setCell ⟨p, 1, none⟩ (.bool false) := ⟨_, rfl⟩
    have hW1 : Wr W p L false := by rw [hWe]; exact HW.out.setMany false
    have hB1 : But p w W := by rw [hWe]; exact (But.refl p w).store 1 _
    have HW1 := Lib.hid hW1
    have HB1 := Lib.hid hB1
    have HWE := Lib.hid hWe
    clear hW1 hB1 hWe HW
    go_enter Try.func20, Try.ntmps20
    go_wp2_with fail
    rw [← HWE.out]
    have hsz : W.heap.size = w.heap.size := by rw [HWE.out]; simp [World.setCell]
    have HSZ := Lib.hid hsz
    clear HWE
    obtain ⟨W2, hW2⟩ : ∃ W2, W2 = W.alloc (.cells #[.int .i64 (l.length : Int)] 3) := ⟨_, rfl⟩
    rw [← hW2]
    have hb2 : Below W.heap.size W W2 := by rw [hW2]; exact Bel.grew (Below.refl _ _) _
    have hs : Sl .i64 W2 W2.heap.size (.slice (some ⟨w.heap.size, 0, none⟩) 1 1) [(l.length : Int)] := by rw [hW2]; exact Sl.one W 3 _ _ hsz.symm
    refine (wints_any (HW1.out.below hb2) hs (fun b o n c he => by
      injection he with h1 _ _
      injection h1 with h1
      injection h1 with h1
      omega) (fun n hn => by
        have := List.mem_singleton.1 hn
        subst this; omega) (by rw [List.length_cons, List.length_nil]; omega)).mono ?_
    rintro e w3 ⟨rfl, hb3, hw3⟩
    have HB3 := Lib.hid ((HB1.out.trans (But.of hb2)).trans hb3)
    have HW3 := Lib.hid hw3
    clear hb3 hw3 hb2 hs hW2 hsz HW1 HB1 hc1 hf1
    go_wp2_with fail
    go_loopw [34] (fun i wr => ∃ k : Nat, k ≤ l.length ∧ i = .int .i64 k ∧ But p w wr ∧ Wr wr p (putF wPj ((l).take k) (L ++ [(l.length : Int)], false)).1 (putF wPj ((l).take k) (L ++ [(l.length : Int)], false)).2) (fun i _ => l.length - (intOf i).toNat)
    case atStart => exact ⟨0, Nat.zero_le _, rfl, HB3.out, HW3.out⟩
    case round =>
      obtain ⟨k, hk, rfl, hb, hWr⟩ := hrel
      have HB := Lib.hid hb
      have HWr := Lib.hid hWr
      clear hb hWr
      by_cases hlt : k < l.length
      · obtain ⟨x, hx⟩ : ∃ x, l[k]? = some x := ⟨_, List.getElem?_eq_getElem hlt⟩
        obtain ⟨b, off, rfl, hbb, hcap, hcx⟩ := (HV.out.drop_p HB.out hpl).at hx
        have HX64 := Lib.hid (H64.out x (List.mem_of_getElem? hx))
        skip
        have HST : Hid (putF wPj ((l).take (k + 1)) (L ++ [(l.length : Int)], false) = wPj x (putF wPj ((l).take k) (L ++ [(l.length : Int)], false))) := Lib.hid (putF_succ _ (by exact hx) _)
        have HLB : Hid ((putF wPj ((l).take k) (L ++ [(l.length : Int)], false)).1.length ≤ L.length + 1 + 8 * 5) := Lib.hid (by
          have h := putF_len (one := wPj) (c := 5) (l := (l).take k) (fun y _ s => wPj_len y s) (L ++ [(l.length : Int)], false)
          dsimp only at h
          rw [List.length_append, List.length_cons, List.length_nil] at h
          have h2 : ((l).take k).length ≤ 8 := by rw [List.length_take, show l.length = l.length from rfl]; omega
          have h3 := Nat.mul_le_mul_right 5 h2
          omega)
        obtain ⟨S, hS⟩ : ∃ S, S = putF wPj ((l).take k) (L ++ [(l.length : Int)], false) := ⟨_, rfl⟩
        rw [← hS] at HWr HST HLB
        obtain ⟨SL, SM⟩ := S
        dsimp only at HWr HLB
        obtain ⟨x0, x1, x2, x3, x4⟩ := x
        have h0 := hcx 0 _ rfl
        have h1 := hcx 1 _ rfl
        have h2 := hcx 2 _ rfl
        have h3 := hcx 3 _ rfl
        have h4 := hcx 4 _ rfl
        rw [Nat.add_zero] at h0
        dsimp only at h0 h1 h2 h3 h4
        have hbw : b < wr.heap.size := by have := HWr.out.lt; omega
        have hkI : (k : Int) < (l.length : Int) := by omega
        clear hcx hx hS
        go_wp2_with fail
        have hgr : Below wr.heap.size wr (wr.alloc (.cells #[.int .i64 x0, .int .i64 x1, .int .i64 x2, .int .i64 x3, .int .i64 x4] 51)) := Bel.grew (Below.refl _ _) _
        have HGR := Lib.hid hgr
        clear hgr
        refine (putPj_any ⟨x0, x1, x2, x3, x4⟩ (HWr.out.below HGR.out) HX64.out (by have := HLB.out; omega)).mono ?_
        rintro e w4 ⟨rfl, hb4, hw4⟩
        rw [← HST.out] at hw4
        have HB4 := Lib.hid ((HB.out.trans (But.of HGR.out)).trans hb4)
        have HW4 := Lib.hid hw4
        clear hb4 hw4 h0 h1 h2 h3 h4
        go_wp2_with fail
        go_roundw
        case rel => exact ⟨k + 1, by omega, by go_num, HB4.out, HW4.out⟩
        case measure => simp [intOf]; omega
      · have hk' : k = l.length := by omega
        subst hk'
        go_wp2_with fail
        go_end0
        refine ⟨rfl, HB.out, ?_⟩
        rw [HR.out]
        have h := HWr.out
        rw [show (l).take l.length = l from List.take_of_length_le (by rw [show l.length = l.length from rfl]; exact Nat.le_refl _)] at h
        exact h

theorem truth_any (b : Bool) (w : World) : Calls Try.prog 49 #[.bool b] w fun e w' => e = .returned (.int .i64 (bI b)) ∧ w = w' := by
  cases b
  all_goals
    go_enter Try.func49, Try.ntmps49
    go_wp2_with fail
    go_ret
    exact ⟨rfl, rfl⟩
set_option maxHeartbeats 4000000 in
theorem putFd_any (f : Fd) {p : Nat} {L : List Int} {m : Bool} {w : World} (hW : Wr w p L m) (hf : f.In w p) (h64 : i64F f.pl) (hl : L.length ≤ 70000000) (hn : f.ms.length ≤ 1099511627776) :
    Calls Try.prog 39 #[.pointer (some ⟨p, 0, none⟩), fdV' f] w fun e w' => PutRet p (wFd f.pl (L, m)) w e w' := by
  obtain ⟨fk, fp, ffl, ms, mv⟩ := f
  obtain ⟨A, c, h3⟩ := SlR.shapeL hf
  dsimp only at h3 hn
  subst h3
  obtain ⟨W, hWe⟩ : ∃ W, W = w.alloc (.cells #[.int .i64 fk, .int .i64 fp, .bool ffl, .slice A ms.length c] 45) := ⟨_, rfl⟩
  have hgr : Below w.heap.size w W := by rw [hWe]; exact Bel.grew (Below.refl _ _) _
  have hc : Has W w.heap.size #[.int .i64 fk, .int .i64 fp, .bool ffl, .slice A ms.length c] := by rw [hWe]; exact Has.new _ _ _
  have HW := Lib.hid (hW.below hgr)
  have HG := Lib.hid hgr
  have HWE := Lib.hid hWe
  have H64 := Lib.hid h64
  have HF := Lib.hid (SlR.below hf (hgr.mono (Nat.le_of_lt hW.lt)))
  have HC := Lib.hid hc
  have hcc := hc.2
  have hcl := hc.1
  have hpl := hW.lt
  have hplW : p < W.heap.size := HW.out.lt
  have hne : w.heap.size ≠ p := by omega
  have HINTS : Hid (Calls Try.prog 37 #[.pointer (some ⟨p, 0, none⟩), .slice (some ⟨W.heap.size, 0, none⟩) 3 3] (W.alloc (.cells #[.int .i64 fk, .int .i64 fp, .int .i64 (bI ffl)] 3)).drew fun e w' => e = .returned (.tuple #[]) ∧ But p W w' ∧ Wr w' p (L ++ [fk, fp, bI ffl]) m) := by
    obtain ⟨W2, hW2⟩ : ∃ W2, W2 = (W.alloc (.cells #[.int .i64 fk, .int .i64 fp, .int .i64 (bI ffl)] 3)).drew := ⟨_, rfl⟩
    rw [← hW2]
    have hb2 : Below W.heap.size W W2 := by rw [hW2]; exact Below.drew (Bel.grew (Below.refl _ _) _)
    have hs : Sl .i64 W2 W2.heap.size (.slice (some ⟨W.heap.size, 0, none⟩) 3 3) [fk, fp, bI ffl] := by
      rw [hW2]; exact Sl.later (Sl.built W _ 3 [fk, fp, bI ffl] 3 _ rfl rfl rfl) (Below.drew (Below.refl _ _))
    refine Lib.hid ((wints_any (HW.out.below hb2) hs (fun b o n c he => by
      injection he with h1 _ _
      injection h1 with h1
      injection h1 with h1
      omega) (fun n hn => by
        simp only [List.mem_cons, List.not_mem_nil, or_false] at hn
        rcases hn with rfl | rfl | rfl
        · exact H64.out.1
        · exact H64.out.2.1
        · unfold bI; split <;> decide) (by simp only [List.length_cons, List.length_nil]; omega)).mono fun e w' ⟨h1, h2, h3⟩ => ⟨h1, (But.of hb2 : But p W W2).trans h2, h3⟩)
  clear hgr hW hWe hc h64 hf
  go_enter Try.func39, Try.ntmps39
  go_wp2_with fail
  rw [← HWE.out]
  clear HWE
  go_region_law (first
    | (go_simp; go_at_call 49; refine (truth_any ffl _).mono ?_; rintro e w' ⟨rfl, rfl⟩)
    | (go_simp; go_at_call 37; refine HINTS.out.mono ?_; rintro e w3 ⟨rfl, hb3, hw3⟩; have hc3 : w3.cell? ⟨w.heap.size, 3, none⟩ = some (.slice A ms.length c) := (hb3.cell hcl hne).trans (HC.out.2 3); have hcl3 : w.heap.size < w3.heap.size := (Nat.lt_of_lt_of_le hcl hb3.size); have HB3 := Lib.hid hb3; have HW3 := Lib.hid hw3; clear hb3 hw3))
  all_goals
    clear hcc
    go_wp2_with fail
    refine (putsMv_any ms _ HW3.out (HF.out.drop_p HB3.out hplW) (fun x hx => H64.out.2.2 x hx) (by rw [List.length_append]; simp only [List.length_cons, List.length_nil]; omega) hn).mono ?_
    rintro e w4 ⟨rfl, hb4, hw4⟩
    have HB4 := Lib.hid (((But.of HG.out : But p w W).trans HB3.out).trans hb4)
    have HW4 := Lib.hid hw4
    clear hb4 hw4 hc3
    go_wp2_with fail
    go_end0
    exact ⟨rfl, HB4.out, HW4.out⟩
end Go.Proofs.Ytjcocahhpjgbhaa
