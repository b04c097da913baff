/- decl.Put. -/
import Derived.Test.YtjcocahhpjgbhaaMzDPut3
set_option maxRecDepth 100000
set_option maxRecDepth 100000
set_option maxRecDepth 100000
set_option linter.unusedVariables false
set_option linter.unusedSimpArgs false
namespace Go.Proofs.Ytjcocahhpjgbhaa
open Go.RowKit Go.BigFrame

theorem putF_ok {α : Type} {one : α → WS → WS} {N : α → List Int} : ∀ {l : List α}, (∀ x ∈ l, ∀ s, one x (s, false) = (s ++ N x, false)) → ∀ s, putF one l (s, false) = (s ++ l.flatMap N, false)
  | [], _, s => by simp [putF]
  | x :: l, h, s => by
    have e : putF one (x :: l) (s, false) = putF one l (one x (s, false)) := rfl
    rw [e, h x (by simp), putF_ok (fun y hy => h y (by simp [hy]))]
    simp
theorem putS_ok {α : Type} {one : α → WS → WS} {N : α → List Int} {l : List α} {most : Nat} (hm : l.length ≤ most) (h : ∀ x ∈ l, ∀ s, one x (s, false) = (s ++ N x, false)) (s : List Int) : putS most one l (s, false) = (s ++ ((l.length : Int) :: l.flatMap N), false) := by
  unfold putS
  rw [if_neg (by simp; omega), putF_ok h]
  simp
theorem putF_true {α : Type} {one : α → WS → WS} (h : ∀ x s, s.2 = true → (one x s).2 = true) : ∀ {l : List α} {s : WS}, s.2 = true → (putF one l s).2 = true
  | [], s, hs => hs
  | x :: l, s, hs => by
    have e : putF one (x :: l) s = putF one l (one x s) := rfl
    rw [e]; exact putF_true h (h x s hs)
theorem putF_bad {α : Type} {one : α → WS → WS} (h : ∀ x s, s.2 = true → (one x s).2 = true) {y : α} (hy : ∀ s, (one y s).2 = true) : ∀ {l : List α} {s : WS}, y ∈ l → (putF one l s).2 = true
  | x :: l, s, hm => by
    have e : putF one (x :: l) s = putF one l (one x s) := rfl
    rw [e]
    rcases List.mem_cons.1 hm with rfl | hm
    · exact putF_true h (hy s)
    · exact putF_bad h hy hm
theorem putS_true {α : Type} {one : α → WS → WS} {most : Nat} {l : List α} {s : WS} (hs : s.2 = true) : (putS most one l s).2 = true := by
  unfold putS; rw [if_pos (.inl hs)]
theorem putS_long {α : Type} {one : α → WS → WS} {most : Nat} {l : List α} {s : WS} (hs : most < l.length) : (putS most one l s).2 = true := by
  unfold putS; rw [if_pos (.inr hs)]
theorem putS_bad {α : Type} {one : α → WS → WS} {most : Nat} (h : ∀ x s, s.2 = true → (one x s).2 = true) {y : α} (hy : ∀ s, (one y s).2 = true) {l : List α} {s : WS} (hm : y ∈ l) : (putS most one l s).2 = true := by
  unfold putS
  split
  · rfl
  · exact putF_bad h hy hm
theorem wMv_ok (m : Mv) (s : List Int) : wMv m (s, false) = (s ++ nMv m, false) := rfl
theorem wPj_ok (m : Pj) (s : List Int) : wPj m (s, false) = (s ++ nPj m, false) := rfl
theorem wFd_ok {f : PF} (h : manyFd f = false) (s : List Int) : wFd f (s, false) = (s ++ nFd f, false) := by
  unfold manyFd at h
  rw [decide_eq_false_iff_not] at h
  unfold wFd
  rw [putS_ok (N := nMv) (by omega) (fun x _ s => wMv_ok x s)]
  simp [nFd]
theorem wFd_true (f : PF) (s : WS) (h : s.2 = true) : (wFd f s).2 = true := by unfold wFd; exact putS_true h
theorem wFd_bad {f : PF} (h : manyFd f = true) (s : WS) : (wFd f s).2 = true := by
  unfold manyFd at h
  rw [decide_eq_true_iff] at h
  unfold wFd; exact putS_long h
theorem wTy_ok {t : List PF} (h : manyTy t = false) (s : List Int) : wTy t (s, false) = (s ++ nTy t, false) := by
  unfold manyTy at h
  simp only [Bool.or_eq_false_iff, decide_eq_false_iff_not, List.any_eq_false] at h
  unfold wTy
  rw [putS_ok (N := nFd) (by omega) (fun x hx s => wFd_ok (by have := h.2 x hx; rw [Bool.not_eq_true] at this; exact this) s)]
  rfl
theorem wTy_true (t : List PF) (s : WS) (h : s.2 = true) : (wTy t s).2 = true := by unfold wTy; exact putS_true h
theorem wTy_bad {t : List PF} (h : manyTy t = true) (s : WS) : (wTy t s).2 = true := by
  unfold manyTy at h
  rw [Bool.or_eq_true, decide_eq_true_iff, List.any_eq_true] at h
  unfold wTy
  rcases h with h | ⟨f, hf, h⟩
  · exact putS_long h
  · exact putS_bad wFd_true (wFd_bad h) hf
def wTs (D : PD) : WS := putS 8 wTy D.ts ([], false)
def wDc (D : PD) : WS := putS 8 wPj D.ps ((wTs D).1, (wTs D).2)
theorem wTs_len (D : PD) : (wTs D).1.length ≤ 5000 := by
  unfold wTs
  have := putS_len (most := 8) (l := D.ts) (fun t _ s => wTy_len t s) ([], false)
  simp only [List.length_nil] at this
  omega
theorem wDc_ok {D : PD} (h : manyDc D = false) : wDc D = (nDc D, false) := by
  unfold manyDc at h
  simp only [Bool.or_eq_false_iff, decide_eq_false_iff_not, List.any_eq_false] at h
  have h1 : wTs D = (nTs D.ts, false) := by
    unfold wTs
    rw [putS_ok (N := nTy) (by omega) (fun x hx s => wTy_ok (by have := h.2 x hx; rw [Bool.not_eq_true] at this; exact this) s)]
    rfl
  unfold wDc
  rw [h1]
  dsimp only
  rw [putS_ok (N := nPj) (by omega) (fun x _ s => wPj_ok x s)]
  rfl
theorem wDc_bad {D : PD} (h : manyDc D = true) : (wDc D).2 = true := by
  unfold manyDc at h
  rw [Bool.or_eq_true, Bool.or_eq_true, decide_eq_true_iff, decide_eq_true_iff, List.any_eq_true] at h
  unfold wDc
  rcases h with (h | h) | ⟨t, ht, h⟩
  · exact putS_true (putS_long h)
  · exact putS_long h
  · exact putS_true (putS_bad wTy_true (wTy_bad h) ht)
/-- What decl.Put, and its reference, hand back. -/
def DPutRet (D : PD) (w : World) (e : Ending) (w' : World) : Prop :=
  (manyDc D = true ∧ e = .returned (.tuple #[.slice none 0 0, .int .i64 3]) ∧ Below w.heap.size w w') ∨
  (manyDc D = false ∧ ∃ A n c, n = (encs (nDc D)).length ∧ e = .returned (.tuple #[.slice A n c, .int .i64 0]) ∧ Sl .u8 w' w'.heap.size (.slice A n c) (encs (nDc D)) ∧ Below w.heap.size w w')
set_option maxHeartbeats 8000000 in
theorem dPut_any (D : Dc) (w : World) (hD : D.In w w.heap.size) (h64 : i64D D.pl) (hL : LenD D) (hp : D.ps.length ≤ 1099511627776) :
    Calls Try.prog 10 #[declV D] w fun e w' => DPutRet D.pl w e w' := by
  obtain ⟨P, hP⟩ : ∃ P, P = D.pl := ⟨_, rfl⟩
  have hpt : D.ts.map Ty.pl = P.ts := by rw [hP]; rfl
  have hpp : D.ps = P.ps := by rw [hP]; rfl
  rw [← hP]
  rw [← hP] at h64
  have h64t : ∀ x ∈ D.ts, ∀ f ∈ x.fs, i64F f.pl := fun x hx f hf => by
    refine h64.1 x.pl (by rw [← hpt]; exact List.mem_map_of_mem hx) f.pl ?_
    unfold Ty.pl; exact List.mem_map_of_mem hf
  have H64t := Lib.hid h64t
  have H64p := Lib.hid h64.2
  have HPT := Lib.hid hpt
  have HPP := Lib.hid hpp
  clear hP hpt hpp h64 h64t
  obtain ⟨ts, ps, tv, pv⟩ := D
  obtain ⟨A, c, h1⟩ := hD.1.shapeL
  obtain ⟨A', c', h2⟩ := hD.2.2.shapeL
  dsimp only at h1 h2 hp HPT HPP H64t
  subst h1 h2
  obtain ⟨W, hW⟩ : ∃ W, W = (w.alloc (.cells #[.slice A ts.length c, .slice A' ps.length c'] 25)).alloc (.cells #[.slice none 0 0, .bool false] 54) := ⟨_, rfl⟩
  have hB : Below w.heap.size w W := by rw [hW]; exact Bel.grew (Bel.grew (Below.refl _ _) _) _
  have hC : Has W w.heap.size #[.slice A ts.length c, .slice A' ps.length c'] := by rw [hW]; exact (Has.new w _ _).grow _
  have hR : Has W (w.heap.size + 1) #[.slice none 0 0, .bool false] := by rw [hW]; exact Has.new1 _ _ _ (by simp)
  have hfz : ∀ i, W.frozen? ⟨w.heap.size + 1, i, none⟩ = false := by intro i; rw [hW]; simp [go_sem]
  have hWr : Wr W (w.heap.size + 1) [] false := ⟨hR.1, ⟨_, hR.2 0, .inl ⟨none, 0, rfl, rfl⟩, fun b o n c h => by cases h⟩, hR.2 1, hfz, fun n hn => by cases hn⟩
  have HD := Lib.hid ((hD.below hB).more (Nat.le_succ _))
  have HB := Lib.hid hB
  have HW := Lib.hid hW
  have HWr := Lib.hid hWr
  have HC := Lib.hid hC
  have HL := Lib.hid hL
  have hc0 := hC.2 0
  have hcl := hC.1
  have hne : w.heap.size ≠ w.heap.size + 1 := by omega
  clear hD hB hW hC hR hfz hWr hL
  go_enter Try.func10, Try.ntmps10
  go_wp2_with fail
  rw [← HW.out]
  clear HW
  refine (putsTy_any ts _ HWr.out HD.out.1 (fun t ht => ⟨HD.out.2.1 t ht, HL.out.2 t ht⟩) H64t.out (by simp) HL.out.1).mono ?_
  rintro e w3 ⟨rfl, hb3, hw3⟩
  rw [HPT.out] at hw3
  have hd3 : w3.cell? ⟨w.heap.size, 1, none⟩ = some (.slice A' ps.length c') := (hb3.cell hcl hne).trans (HC.out.2 1)
  have hcl3 : w.heap.size < w3.heap.size := Nat.lt_of_lt_of_le hcl hb3.size
  have HPS := Lib.hid (HD.out.2.2.drop_p hb3 HWr.out.lt)
  have HB3 := Lib.hid hb3
  have HW3 : Hid (Wr w3 (w.heap.size + 1) (wTs P).1 (wTs P).2) := Lib.hid hw3
  clear hb3 hw3 hc0
  go_wp2_with fail
  refine (putsPj_any ps _ HW3.out HPS.out (fun p hp => H64p.out p (by rw [← HPP.out]; exact hp)) (by have := wTs_len P; omega) hp).mono ?_
  rintro e w4 ⟨rfl, hb4, hw4⟩
  rw [HPP.out] at hw4
  have HB4 : Hid (Below w.heap.size w w4) := Lib.hid (HB.out.trans ((HB3.out.trans hb4).below (Nat.le_succ _) HB.out.size))
  have HW4 : Hid (Wr w4 (w.heap.size + 1) (wDc P).1 (wDc P).2) := Lib.hid hw4
  clear hb4 hw4 hd3
  obtain ⟨r, hr0, hrs, _⟩ := HW4.out.c0
  have hm1 := HW4.out.c1
  have hpl4 := HW4.out.lt
  by_cases hm : manyDc P = true
  · rw [wDc_bad hm] at hm1
    clear hrs hr0
    go_wp2_with fail
    go_ret2
    exact .inl ⟨hm, rfl, HB4.out⟩
  · have hm0 : manyDc P = false := by simpa using hm
    have e := wDc_ok hm0
    rw [e] at hm1 hrs
    dsimp only at hm1 hrs
    obtain ⟨Ar, cr, hs⟩ := hrs.shape
    obtain ⟨ln, hln⟩ : ∃ n, n = (encs (nDc P)).length := ⟨_, rfl⟩
    rw [← hln] at hs
    subst hs
    have HRS := Lib.hid hrs
    have HLN := Lib.hid hln
    clear hrs hln e hm
    go_wp2_with fail
    go_ret2
    exact .inr ⟨hm0, Ar, ln, cr, HLN.out, rfl, HRS.out, HB4.out⟩
end Go.Proofs.Ytjcocahhpjgbhaa
