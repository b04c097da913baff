/- quaysideref07.Get. -/
import Derived.Test.YtjcocahhpjgbhaaMzDRGet
import Derived.Deep.RegionLaw
import Derived.Deep.AppendLies
set_option maxRecDepth 100000
set_option maxRecDepth 100000
set_option maxRecDepth 100000
set_option linter.unusedVariables false
set_option linter.unusedSimpArgs false
namespace Go.Proofs.Ytjcocahhpjgbhaa
open Go.RowKit Go.BigFrame

theorem TAt.later {w w' : World} {lo : Nat} {v : Value} {l : List (List PF)} (h : TAt w lo v l) (hb : Below w.heap.size w w') : TAt w' lo v l := h.imp fun ts h => ⟨row_later h.1 hb, fun t ht => (h.2.1 t ht).later hb, h.2.2⟩
theorem FAt.later {w w' : World} {lo : Nat} {v : Value} {l : List PF} (h : FAt w lo v l) (hb : Below w.heap.size w w') : FAt w' lo v l := h.imp fun fs h => ⟨row_later h.1 hb, fun t ht => (h.2.1 t ht).later hb, h.2.2⟩
theorem TAt.set {w : World} {lo q : Nat} {v : Value} {l : List (List PF)} (h : TAt w lo v l) (hq : q < lo) (o : Nat) (x : Value) : TAt (w.setCell ⟨q, o, none⟩ x) lo v l := h.imp fun ts h => ⟨row_set h.1 hq o x, fun t ht => (h.2.1 t ht).setOther hq o x, h.2.2⟩
theorem FAt.set {w : World} {lo q : Nat} {v : Value} {l : List PF} (h : FAt w lo v l) (hq : q < lo) (o : Nat) (x : Value) : FAt (w.setCell ⟨q, o, none⟩ x) lo v l := h.imp fun ts h => ⟨row_set h.1 hq o x, fun t ht => (h.2.1 t ht).setOther hq o x, h.2.2⟩
theorem TAt.len {w : World} {lo : Nat} {v : Value} {l : List (List PF)} (h : TAt w lo v l) : ∃ cs, w.ownsRow lo 42 1 v l.length cs := by
  obtain ⟨ts, h⟩ := h
  rw [← h.2.2, List.length_map]; exact ⟨_, h.1⟩
theorem FAt.len {w : World} {lo : Nat} {v : Value} {l : List PF} (h : FAt w lo v l) : ∃ cs, w.ownsRow lo 45 4 v l.length cs := by
  obtain ⟨ts, h⟩ := h
  rw [← h.2.2, List.length_map]; exact ⟨_, h.1⟩
/-- A type put behind the others. -/
theorem TAt.put {w w' : World} {lo lo' : Nat} {u v' fv : Value} {l : List (List PF)} {t : List PF} {ts : List Ty} (h1 : w.ownsRow lo 42 1 u ts.length ((ts.map Ty.cells).flatten)) (h2 : ∀ t ∈ ts, t.Own w lo) (h3 : ts.map Ty.pl = l) (hf : FAt w lo' fv t) (hl : lo ≤ lo')
    (hg : w.grownBy w' u.ownBlock) (ho : w'.ownsRow lo 42 1 v' (ts.length + 1) ((ts.map Ty.cells).flatten ++ [fv])) : TAt w' lo v' (l ++ [t]) := by
  obtain ⟨fs, hfs⟩ := hf
  refine ⟨ts ++ [⟨fs, fv⟩], by simpa using ho, fun x hx => ?_, by rw [List.map_append, h3, ← hfs.2.2]; rfl⟩
  rcases List.mem_append.1 hx with h | h
  · exact Ty.Own.grownT (h2 x h) h1 hg
  · have := List.mem_singleton.1 h
    subst this
    exact Ty.Own.grownT (hfs.own.down hl) h1 hg
theorem FAt.put {w w' : World} {lo : Nat} {u v' : Value} {l : List PF} {f : Fd} {fs : List Fd} (h : FsAt w lo u fs l) (hf : f.Own w lo)
    (hg : w.grownBy w' u.ownBlock) (ho : w'.ownsRow lo 45 4 v' (fs.length + 1) ((fs.map Fd.cells).flatten ++ f.cells)) : FAt w' lo v' (l ++ [f.pl]) := ⟨_, h.snoc hf hg ho⟩
theorem TAt.grownP {w w' : World} {lo B n : Nat} {v u : Value} {l : List (List PF)} {cs : List Value} (h : TAt w lo v l) (hu : w.ownsRow B 51 5 u n cs) (hg : w.grownBy w' u.ownBlock) : TAt w' lo v l := by
  obtain ⟨ts, h1, h2, h3⟩ := h
  have hr : OwnR 1 42 w lo v (ts.map Ty.cells) := ⟨ty_rows _, by simpa using h1⟩
  have hr' := OwnR.grown hr hu (by decide) hg
  exact ⟨ts, by simpa using hr'.2, fun t ht => ⟨OwnR.grown (h2 t ht).1 hu (by decide) hg, fun f hf => OwnR.grown ((h2 t ht).2 f hf) hu (by decide) hg⟩, h3⟩
/-- What stays through the reading of the types; of the projections. -/
def GetT (w : World) (p q : Nat) (xs : List Int) (S : Value) (st : Nat × Int) (l : List (List PF)) (u : Value) (wr : World) : Prop :=
  Below w.heap.size w wr ∧ Rd wr p xs S (st.1 : Int) st.2 ∧ HasF wr q #[u, .slice none 0 0] ∧ HasF wr w.heap.size #[.slice none 0 0, .slice none 0 0] ∧ TAt wr (q + 1) u l
def GetP (w : World) (p q : Nat) (xs : List Int) (S : Value) (st : Nat × Int) (l : List (List PF)) (u : Value) (ps : List Pj) (v : Value) (wr : World) : Prop :=
  Below w.heap.size w wr ∧ Rd wr p xs S (st.1 : Int) st.2 ∧ HasF wr q #[u, v] ∧ HasF wr w.heap.size #[.slice none 0 0, .slice none 0 0] ∧ TAt wr (q + 1) u l ∧ PAt wr (q + 1) v ps
set_option maxHeartbeats 32000000 in
theorem rGet_any (xs : List Int) (v : Value) (w : World) (hx : Sl .u8 w w.heap.size v xs) (hl : xs.length ≤ 1099511627776) (hb : Bytes xs) (D : PD) (E : Int) (hD : dGetD xs = D) (hE : dGetE xs = E) :
    Calls Try.prog 15 #[v] w fun e w' => DGetRet D E w e w' := by
  obtain ⟨A, c, rfl⟩ := hx.shape
  obtain ⟨i0, hi, hz0, hz1, hz2⟩ := info_parts infoFd
  obtain ⟨j0, hj, hy0, hy1, hy2⟩ := info_parts infoTy
  obtain ⟨k0, hk, hx0, hx1, hx2⟩ := info_parts infoPj
  have HKF := Lib.hid (And.intro hi (And.intro hz0 (And.intro hz1 hz2)))
  have HKT := Lib.hid (And.intro hj (And.intro hy0 (And.intro hy1 hy2)))
  have HKP := Lib.hid (And.intro hk (And.intro hx0 (And.intro hx1 hx2)))
  clear hi hz0 hz1 hz2 hj hy0 hy1 hy2 hk hx0 hx1 hx2
  obtain ⟨⟨n, s1⟩, h1⟩ : ∃ y, nextC xs 8 (0, 0) = y := ⟨_, rfl⟩
  have hle1 := nextC_le (xs := xs) (most := 8) (st := (0, 0)) (Nat.zero_le _)
  have hnv := nextC_val (xs := xs) (st := (0, 0)) (most := 8) (by decide)
  rw [h1] at hle1 hnv
  obtain ⟨N, hN⟩ := Int.eq_ofNat_of_zero_le hnv.1
  dsimp only at hN hnv hle1
  subst hN
  obtain ⟨⟨ts, s2⟩, h2⟩ : ∃ y, lstR (rdTy xs) N s1 = y := ⟨_, rfl⟩
  have hle2 := (cod_lst (cod_ty hb) N).le s1 hle1
  rw [h2] at hle2
  obtain ⟨⟨m, s3⟩, h3⟩ : ∃ y, nextC xs 8 s2 = y := ⟨_, rfl⟩
  have hle3 := nextC_le (xs := xs) (most := 8) (st := s2) hle2
  have hmv := nextC_val (xs := xs) (st := s2) (most := 8) (by decide)
  rw [h3] at hle3 hmv
  obtain ⟨M, hM⟩ := Int.eq_ofNat_of_zero_le hmv.1
  dsimp only at hM hmv hle3 hle2
  subst hM
  obtain ⟨⟨ps, s4⟩, h4⟩ : ∃ y, lstR (rdPj xs) M s3 = y := ⟨_, rfl⟩
  have hRD : rdDc xs (0, 0) = (⟨ts, ps⟩, s4) := by
    have e : rdDc xs (0, 0) = (⟨(cntR xs 8 (rdTy xs) (0, 0)).1, (cntR xs 8 (rdPj xs) (cntR xs 8 (rdTy xs) (0, 0)).2).1⟩, (cntR xs 8 (rdPj xs) (cntR xs 8 (rdTy xs) (0, 0)).2).2) := rfl
    have e1 : cntR xs 8 (rdTy xs) (0, 0) = (ts, s2) := by unfold cntR; rw [h1]; simpa using h2
    have e2 : cntR xs 8 (rdPj xs) s2 = (ps, s4) := by unfold cntR; rw [h3]; simpa using h4
    rw [e, e1]
    dsimp only
    rw [e2]
  have hE' : doneR xs (s4.1 : Int) s4.2 = E := by rw [← hE]; unfold dGetE doneN; rw [hRD]
  have hD' : D = if E = 0 then ⟨ts, ps⟩ else ⟨[], []⟩ := by rw [← hD]; unfold dGetD; rw [hE, hRD]
  have HE := Lib.hid hE'
  have HD := Lib.hid hD'
  have H1 := Lib.hid h1
  have H2 := Lib.hid h2
  have H3 := Lib.hid h3
  have H4 := Lib.hid h4
  have HLE := Lib.hid (And.intro hle1 (And.intro hle2 hle3))
  have HBY := Lib.hid hb
  have hN8 : N ≤ 8 := by omega
  have hM8 : M ≤ 8 := by omega
  obtain ⟨W, hW⟩ : ∃ W, W = w.alloc (.cells #[.slice none 0 0, .slice none 0 0] 25) := ⟨_, rfl⟩
  have hB : Below w.heap.size w W := by rw [hW]; exact Bel.grew (Below.refl _ _) _
  have HX := Lib.hid (hx.later hB)
  have HB := Lib.hid hB
  have HQ := Lib.hid (HasF.new hW)
  have HW := Lib.hid hW
  clear hx hE hD h1 h2 h3 h4 hRD hE' hD' hB hW hb hle1 hle2 hle3 hnv hmv
  go_enter Try.func15, Try.ntmps15
  go_wp2_with fail
  rw [← HW.out]
  clear HW
  refine (rFrom_new xs _ W HX.out hl).mono ?_
  rintro e w1 ⟨p, S, rfl, hp, hb1, hR1, _⟩
  have hrp : w.heap.size < p := by have := HQ.out.1.1; omega
  have hpl1 := hR1.lt
  obtain ⟨W2, hW2⟩ : ∃ W2, W2 = w1.alloc (.cells #[.slice none 0 0, .slice none 0 0] 25) := ⟨_, rfl⟩
  have hB2 : Below w1.heap.size w1 W2 := by rw [hW2]; exact Bel.grew (Below.refl _ _) _
  have HR2 := Lib.hid (hR1.below hB2)
  have HF2 := Lib.hid (HasF.new hW2)
  have hs1 : w.heap.size < w1.heap.size := by omega
  have HQ2 := Lib.hid ((HQ.out.below hb1 HQ.out.1.1).below hB2 hs1)
  have HB2 := Lib.hid ((HB.out.trans (hb1.mono HB.out.size)).trans (hB2.mono (Nat.le_of_lt hs1)))
  have HW2 := Lib.hid hW2
  obtain ⟨q, hq⟩ : ∃ q, q = w1.heap.size := ⟨_, rfl⟩
  have HQE := Lib.hid hq
  rw [← hq] at HF2
  have hpq : p < q := by omega
  have hqp : q ≠ p := by omega
  have hwq : w.heap.size < q := by omega
  have hne : w.heap.size ≠ p := by omega
  clear hb1 hR1 hB2 hW2 HQ HB HX hs1 hq hpl1 hp
  go_wp2_with fail
  rw [← HW2.out, ← HQE.out]
  clear HW2 HQE
  refine (rCount_next (st := (0, 0)) HR2.out hl (Nat.zero_le _) HBY.out _ H1.out).mono ?_
  rintro e w3 ⟨rfl, hb3, hR3⟩
  dsimp only at hR3 ⊢
  have HS3 : Hid (GetT w p q xs S s1 [] (.slice none 0 0) w3) := Lib.hid ⟨HB2.out.trans (hb3.below (Nat.le_of_lt hrp) HB2.out.size), hR3, HF2.out.but hb3 hqp, HQ2.out.but hb3 hne, TAt.nil_ _ _⟩
  clear hb3 hR3 HR2 HF2 HQ2 HB2
  go_wp2_with fail
  go_loopw [7] (fun i wr => ∃ (u : Value) (k : Nat), k ≤ N ∧ i = .int .i64 k ∧ Hid (GetT w p q xs S (lstR (rdTy xs) k s1).2 (lstR (rdTy xs) k s1).1 u wr)) (fun i _ => N - (intOf i).toNat)
  case atStart => exact ⟨_, 0, Nat.zero_le _, rfl, HS3⟩
  case round =>
    obtain ⟨u, k, hk, rfl, HS⟩ := hrel
    clear HS3
    by_cases hlt : k < N
    · have hle := (cod_lst (cod_ty HBY.out) k).le s1 HLE.out.1
      have hpl := lstR_len (rdTy xs) k s1
      obtain ⟨⟨t, t4⟩, hx⟩ : ∃ y, rdTy xs (lstR (rdTy xs) k s1).2 = y := ⟨_, rfl⟩
      have HL1 : Hid (lstR (rdTy xs) (k + 1) s1 = ((lstR (rdTy xs) k s1).1 ++ [t], t4)) := Lib.hid (by
        have e : lstR (rdTy xs) (k + 1) s1 = ((lstR (rdTy xs) k s1).1 ++ [(rdTy xs (lstR (rdTy xs) k s1).2).1], (rdTy xs (lstR (rdTy xs) k s1).2).2) := rfl
        rw [e, hx])
      obtain ⟨⟨pl, sk⟩, hsk⟩ : ∃ y, y = lstR (rdTy xs) k s1 := ⟨_, rfl⟩
      have HS1 : Hid (GetT w p q xs S sk pl u wr) := by
        have h := HS.out
        rw [← hsk] at h
        exact Lib.hid h
      rw [← hsk] at hle hx HL1 hpl
      dsimp only at hle hx HL1 hpl
      obtain ⟨⟨nf, t1⟩, g1⟩ : ∃ y, nextC xs 8 sk = y := ⟨_, rfl⟩
      have le1 := nextC_le (xs := xs) (most := 8) (st := sk) hle
      have hfv := nextC_val (xs := xs) (st := sk) (most := 8) (by decide)
      rw [g1] at le1 hfv
      obtain ⟨F, hF⟩ := Int.eq_ofNat_of_zero_le hfv.1
      dsimp only at hF hfv le1
      subst hF
      have HTF : Hid (lstR (rdFd xs) F t1 = (t, t4)) := Lib.hid (by
        unfold rdTy cntR at hx
        rw [g1] at hx
        simpa using hx)
      have hF8 : F ≤ 8 := by omega
      have HLL := Lib.hid (And.intro hle le1)
      have HG := Lib.hid g1
      have HPL := Lib.hid hpl
      have hpl8 : pl.length ≤ 8 := by omega
      have hkI : (k : Int) < (N : Int) := by omega
      obtain ⟨wo, rfl⟩ : ∃ X, X = wr := ⟨_, rfl⟩
      have hqo := HS1.out.2.2.1.1.1
      obtain ⟨U2, hU2⟩ : ∃ X, X = wo.alloc (.cells #[.slice none 0 0] 42) := ⟨_, rfl⟩
      have hBU : Below wo.heap.size wo U2 := by rw [hU2]; exact Bel.grew (Below.refl _ _) _
      have HR2 := Lib.hid (HS1.out.2.1.below hBU)
      have HM2 := Lib.hid (HasF.new hU2)
      have HB2 := Lib.hid (But.of hBU : But p wo U2)
      have HU2 := Lib.hid hU2
      have hpo := HS1.out.2.1.lt
      have hmp : wo.heap.size ≠ p := by omega
      clear hle hx hsk HS hpl g1 le1 hfv hBU hU2
      go_wp2_with fail
      rw [← HU2.out]
      clear HU2
      refine (rCount_next HR2.out hl HLL.out.1 HBY.out _ HG.out).mono ?_
      rintro e w4 ⟨rfl, hb4, hR4⟩
      dsimp only at hR4 ⊢
      have HI4 : Hid (But p wo w4 ∧ Rd w4 p xs S (t1.1 : Int) t1.2 ∧ HasF w4 wo.heap.size #[.slice none 0 0]) := Lib.hid ⟨HB2.out.trans hb4, hR4, HM2.out.but hb4 hmp⟩
      clear hb4 hR4 HR2 HM2 HB2
      go_wp2_with fail
      go_loopw [10] (fun i wr => ∃ (fv : Value) (j : Nat), j ≤ F ∧ i = .int .i64 j ∧ Hid (But p wo wr ∧ Rd wr p xs S ((lstR (rdFd xs) j t1).2.1 : Int) (lstR (rdFd xs) j t1).2.2 ∧ HasF wr wo.heap.size #[fv] ∧ FAt wr (wo.heap.size + 1) fv (lstR (rdFd xs) j t1).1)) (fun i _ => F - (intOf i).toNat)
      case atStart => exact ⟨_, 0, Nat.zero_le _, rfl, Lib.hid ⟨HI4.out.1, HI4.out.2.1, HI4.out.2.2, FAt.nil_ _ _⟩⟩
      case round =>
        obtain ⟨fv, j, hj, rfl, HI⟩ := hrel
        clear HI4
        by_cases hjl : j < F
        · have hle := (cod_lst (cod_fd HBY.out) j).le t1 HLL.out.2
          have hpl := lstR_len (rdFd xs) j t1
          obtain ⟨⟨f, t5⟩, hx⟩ : ∃ y, rdFd xs (lstR (rdFd xs) j t1).2 = y := ⟨_, rfl⟩
          have HL2 : Hid (lstR (rdFd xs) (j + 1) t1 = ((lstR (rdFd xs) j t1).1 ++ [f], t5)) := Lib.hid (by
            have e : lstR (rdFd xs) (j + 1) t1 = ((lstR (rdFd xs) j t1).1 ++ [(rdFd xs (lstR (rdFd xs) j t1).2).1], (rdFd xs (lstR (rdFd xs) j t1).2).2) := rfl
            rw [e, hx])
          obtain ⟨⟨fl, sj⟩, hsj⟩ : ∃ y, y = lstR (rdFd xs) j t1 := ⟨_, rfl⟩
          have HI1 : Hid (But p wo wr ∧ Rd wr p xs S (sj.1 : Int) sj.2 ∧ HasF wr wo.heap.size #[fv] ∧ FAt wr (wo.heap.size + 1) fv fl) := by
            have h := HI.out
            rw [← hsj] at h
            exact Lib.hid h
          rw [← hsj] at hle hx HL2 hpl
          dsimp only at hle hx HL2 hpl
          have HX := Lib.hid hx
          have HPL2 := Lib.hid hpl
          have hfl8 : fl.length ≤ 8 := by omega
          have hjI : (j : Int) < (F : Int) := by omega
          have hcf : wr.cell? ⟨wo.heap.size, 0, none⟩ = some fv := HI1.out.2.2.1.1.2 0
          have hff := HI1.out.2.2.1.2 0
          have hcl := HI1.out.2.2.1.1.1
          obtain ⟨k0, k1, k2, k3⟩ := HKF.out
          obtain ⟨xk, xp, xfl, xms⟩ := f
          have hp1 : p < wo.heap.size + 1 := by omega
          clear hsj hx hpl HI
          go_wp2_with fail
          go_region_law (first
            | (refine step_append_lies _ (by rfl) _ _ _ (by rfl) (wo.heap.size + 1) 45 i0 _ 4 48 Try.underlying40 k0 k1 k2 k3 rfl (by decide) fv fl.length _ (by rfl) (HROW.out.alloc _) ⟨u3.heap.size, 0, none⟩ 1 1 [.int .i64 xk, .int .i64 xp, .bool xfl, .slice Af nf cf] (by rfl) (by rfl) (cells_newL _ _ _) (by intro u hu; simp at hu; rcases hu with rfl | rfl | rfl | rfl <;> rfl) (by omega) (by unfold maxLen; omega) (by omega) (by rw [World.size_alloc]; omega) (u3.heap.size + 1) (by simp) ?_; intro gU cU u4 hown4 hgrow4 hat4 hlt4; have hbg : Below (wo.heap.size + 1) (u3.alloc (.cells #[.int .i64 xk, .int .i64 xp, .bool xfl, .slice Af nf cf] 45)) u4 := (grownBy_below hgrow4 (by rw [World.size_alloc]; omega) (own_base HROW.out)); have hM4 := (HM3.out.below (Below.alloc (Below.refl u3.heap.size u3) (Nat.le_refl _) (.cells #[.int .i64 xk, .int .i64 xp, .bool xfl, .slice Af nf cf] 45)) l3).below hbg (Nat.lt_succ_self _); have c4 := hM4.1.2 0; have f4 := hM4.2 0; have l4 := hM4.1.1; have HM4 := Lib.hid hM4; have HOW4 := Lib.hid hown4; have HG4 := Lib.hid hgrow4; clear hown4 hgrow4 hbg hM4 hat4)
            | (go_simp; go_at_call 34; refine (rfield07_any (HI1.out.2.1.below (Below.drew (Below.refl _ _))) hl hle HBY.out _ HX.out).mono ?_; rintro e u3 ⟨Af, nf, cf, rfl, hof, hb3, hR3⟩; have hb3' : But p wr u3 := (But.of (Below.drew (Below.refl _ _))).trans hb3; have hM3 := HI1.out.2.2.1.but hb3' hmp; have l3 := hM3.1.1; have f3 := hM3.2 0; have c3 : u3.cell? ⟨wo.heap.size, 0, none⟩ = some fv := hM3.1.2 0; obtain ⟨fs, hfs⟩ := HI1.out.2.2.2.but hp1 hb3'; have hfl : fs.length = fl.length := (by rw [← hfs.2.2, List.length_map]); have hrow := hfs.1; rw [hfl] at hrow; have HROW := Lib.hid hrow; have HFS := Lib.hid hfs; have HFL := Lib.hid hfl; have HM3 := Lib.hid hM3; have HB3 := Lib.hid hb3'; have HR3 := Lib.hid hR3; have HOF := Lib.hid (hof.down (show wo.heap.size + 1 ≤ wr.drew.heap.size from hcl)); clear hof hb3 hb3' hR3 hM3 hfs hrow hfl; dsimp only at HOF HR3; try dsimp only))
          all_goals
            clear hcf hff k0 k1 k2 k3
            go_wp2_with fail
            go_roundw
            case rel =>
              have hal : Below u3.heap.size u3 (u3.alloc (.cells #[.int .i64 xk, .int .i64 xp, .bool xfl, .slice Af nf cf] 45)) := Bel.grew (Below.refl _ _) _
              have hob := own_base HROW.out
              have hB4 : But p wo u4 := ((HI1.out.1.trans HB3.out).trans (But.of hal)).grownBy HG4.out (fun g hg => by have := hob g hg; omega)
              have hR4 := (HR3.out.below hal).grown HG4.out (fun g hg => by have := hob g hg; omega)
              have hfa : FsAt _ _ _ _ _ := ⟨row_later HFS.out.1 hal, fun f hf => (HFS.out.2.1 f hf).later hal, HFS.out.2.2⟩
              refine ⟨.slice (some ⟨gU, 0, none⟩) (fl.length + 1) cU, j + 1, by omega, by go_num, Lib.hid ⟨hB4.fresh (Nat.le_refl _) 0 _, ?_, HM4.out.set (o := 0) (by show 0 < 1; decide) rfl, ?_⟩⟩
              · rw [HL2.out]
                exact hR4.other (by omega) 0 _
              · rw [HL2.out]
                exact (FAt.put hfa (HOF.out.later hal) HG4.out (by rw [HFL.out]; exact HOW4.out)).set (Nat.lt_succ_self _) 0 _
            case measure => simp [intOf]; omega
        · have hj' : j = F := by omega
          subst hj'
          have hi := HI.out
          rw [HTF.out] at hi
          obtain ⟨hB, hR, hM, hA⟩ := hi
          dsimp only at hR hA
          clear HI
          obtain ⟨cs, hcs⟩ := hA.len
          obtain ⟨Af, nf, cf, rfl⟩ := row_shape hcs
          have hq9 := HS1.out.2.2.1.but hB hqp
          have hr9 := HS1.out.2.2.2.1.but hB hne
          have ht9 := HS1.out.2.2.2.2.but (show p < q + 1 from by omega) hB
          obtain ⟨T, hT1, hT2, hT3⟩ := ht9
          have hTl : T.length = pl.length := by rw [← hT3, List.length_map]
          have hrow := hT1
          rw [hTl] at hrow
          have c0 : wr.cell? ⟨q, 0, none⟩ = some u := hq9.1.2 0
          have f0 := hq9.2 0
          have l0 := hq9.1.1
          have m0 : wr.cell? ⟨wo.heap.size, 0, none⟩ = some (.slice Af nf cf) := hM.1.2 0
          have ml := hM.1.1
          have HQ9 := Lib.hid hq9
          have HR9 := Lib.hid hr9
          have HT9 := Lib.hid (And.intro hT1 (And.intro hT2 hT3))
          have HTL := Lib.hid hTl
          have HROW := Lib.hid hrow
          have HA := Lib.hid hA
          have HB9 := Lib.hid hB
          have HRd := Lib.hid hR
          obtain ⟨k0, k1, k2, k3⟩ := HKT.out
          have hwo : wo.heap.size ≤ wr.heap.size := hB.size
          clear hq9 hr9 hT1 hT2 hT3 hTl hA hB hR hM hcs
          go_wp2_with (at_builtin; refine wpList_append_own _ rfl _ _ 22 rfl (q + 1) 42 j0 _ 1 24 Try.underlying22 k0 k1 k2 k3 rfl (by decide) u pl.length _ rfl (hrow.alloc _) ⟨wr.heap.size, 0, none⟩ 1 1 [.slice Af nf cf] rfl rfl (cells_newL _ _ _) (by intro u hu; simp at hu; subst hu; rfl) (by unfold maxLen; omega) (by omega) (by rw [World.size_alloc]; omega) ?_; intro v' w4 hown4 hgrow4 _; obtain ⟨Av, nv, cv, rfl⟩ := row_shape hown4; have hbg : Below (q + 1) (wr.alloc (.cells #[.slice Af nf cf] 42)) w4 := (grownBy_below hgrow4 (by rw [World.size_alloc]; omega) (own_base HROW.out)); have hq4 := (HQ9.out.below (Below.alloc (Below.refl wr.heap.size wr) (Nat.le_refl _) (.cells #[.slice Af nf cf] 42)) l0).below hbg (Nat.lt_succ_self q); have d0 := hq4.1.2 0; have df0 := hq4.2 0; have dl := hq4.1.1; have HQ4 := Lib.hid hq4; have HOW4 := Lib.hid hown4; have HG4 := Lib.hid hgrow4; have HBG := Lib.hid hbg; clear hown4 hgrow4 hbg hq4)
          go_roundw
          case rel =>
            have hal : Below wr.heap.size wr (wr.alloc (.cells #[.slice Af nf cf] 42)) := Bel.grew (Below.refl _ _) _
            have hob := own_base HROW.out
            have hB4 : Below w.heap.size w w4 := ((HS1.out.1.trans (HB9.out.below (Nat.le_of_lt hrp) HS1.out.1.size)).alloc (Nat.le_trans HS1.out.1.size hwo) _).grown HG4.out (by rw [World.size_alloc]; omega) (fun g hg => by have := hob g hg; omega)
            refine ⟨.slice Av nv cv, k + 1, by omega, by go_num, ?_⟩
            rw [HL1.out]
            refine Lib.hid ⟨hB4.setCell (p := ⟨q, 0, none⟩) (Nat.le_of_lt hwq) _, ((HRd.out.below hal).grown HG4.out (fun g hg => by have := hob g hg; omega)).other hpq 0 _, HQ4.out.set (o := 0) (by show 0 < 2; decide) rfl, ((HR9.out.below hal (by omega)).below HBG.out (by omega)).setOther (by omega), ?_⟩
            exact (TAt.put (row_later HT9.out.1 hal) (fun t ht => (HT9.out.2.1 t ht).later hal) HT9.out.2.2 (HA.out.later hal) (by omega) HG4.out (by rw [HTL.out]; exact HOW4.out)).set (Nat.lt_succ_self q) 0 _
          case measure => simp [intOf]; omega
    · have hk' : k = N := by omega
      subst hk'
      have hs := HS.out
      rw [H2.out] at hs
      have HS1 : Hid (GetT w p q xs S s2 ts u wr) := Lib.hid hs
      clear hs HS
      go_wp2_with fail
      refine (rCount_next HS1.out.2.1 hl HLE.out.2.1 HBY.out _ H3.out).mono ?_
      rintro e w5 ⟨rfl, hb5, hR5⟩
      dsimp only at hR5 ⊢
      have HS5 : Hid (GetP w p q xs S s3 ts u [] (.slice none 0 0) w5) := Lib.hid ⟨HS1.out.1.trans (hb5.below (Nat.le_of_lt hrp) HS1.out.1.size), hR5, HS1.out.2.2.1.but hb5 hqp, HS1.out.2.2.2.1.but hb5 hne, HS1.out.2.2.2.2.but (by omega) hb5, PAt.nil_ _ _⟩
      clear hb5 hR5 HS1
      obtain ⟨W5, hW5⟩ : ∃ X, X = wr := ⟨_, rfl⟩
      clear hW5
      go_wp2_with fail
      go_loopw [11] (fun i wr => ∃ (v : Value) (k : Nat), k ≤ M ∧ i = .int .i64 k ∧ Hid (GetP w p q xs S (lstR (rdPj xs) k s3).2 ts u (lstR (rdPj xs) k s3).1 v wr)) (fun i _ => M - (intOf i).toNat)
      case atStart => exact ⟨_, 0, Nat.zero_le _, rfl, HS5⟩
      case round =>
        obtain ⟨v, j, hj, rfl, HS⟩ := hrel
        clear HS5
        by_cases hjl : j < M
        · have hle := (cod_lst (cod_pj HBY.out) j).le s3 HLE.out.2.2
          have hpl := lstR_len (rdPj xs) j s3
          obtain ⟨⟨x, t6⟩, hx⟩ : ∃ y, rdPj xs (lstR (rdPj xs) j s3).2 = y := ⟨_, rfl⟩
          have HL1 : Hid (lstR (rdPj xs) (j + 1) s3 = ((lstR (rdPj xs) j s3).1 ++ [x], t6)) := Lib.hid (by
            have e : lstR (rdPj xs) (j + 1) s3 = ((lstR (rdPj xs) j s3).1 ++ [(rdPj xs (lstR (rdPj xs) j s3).2).1], (rdPj xs (lstR (rdPj xs) j s3).2).2) := rfl
            rw [e, hx])
          obtain ⟨⟨pl, sk⟩, hsk⟩ : ∃ y, y = lstR (rdPj xs) j s3 := ⟨_, rfl⟩
          have HS1 : Hid (GetP w p q xs S sk ts u pl v wr) := by
            have h := HS.out
            rw [← hsk] at h
            exact Lib.hid h
          rw [← hsk] at hle hx HL1 hpl
          dsimp only at hle hx HL1 hpl
          obtain ⟨⟨x0, t1⟩, g1⟩ : ∃ y, nextI xs sk = y := ⟨_, rfl⟩
          obtain ⟨⟨x1, t2⟩, g2⟩ : ∃ y, nextI xs t1 = y := ⟨_, rfl⟩
          obtain ⟨⟨x2, t3⟩, g3⟩ : ∃ y, nextI xs t2 = y := ⟨_, rfl⟩
          obtain ⟨⟨x3, t4⟩, g4⟩ : ∃ y, nextI xs t3 = y := ⟨_, rfl⟩
          obtain ⟨⟨x4, t5⟩, g5⟩ : ∃ y, nextI xs t4 = y := ⟨_, rfl⟩
          have hx4 : x = ⟨x0, x1, x2, x3, x4⟩ ∧ t6 = t5 := by
            have e : rdPj xs sk = (⟨(nextI xs sk).1, (nextI xs (nextI xs sk).2).1, (nextI xs (nextI xs (nextI xs sk).2).2).1, (nextI xs (nextI xs (nextI xs (nextI xs sk).2).2).2).1, (nextI xs (nextI xs (nextI xs (nextI xs (nextI xs sk).2).2).2).2).1⟩, (nextI xs (nextI xs (nextI xs (nextI xs (nextI xs sk).2).2).2).2).2) := rfl
            rw [g1] at e
            dsimp only at e
            rw [g2] at e
            dsimp only at e
            rw [g3] at e
            dsimp only at e
            rw [g4] at e
            dsimp only at e
            rw [g5] at e
            rw [hx] at e
            injection e with e1 e2
            exact ⟨e1, e2⟩
          obtain ⟨hx5, hx6⟩ := hx4
          subst hx5 hx6
          have le1 := nextI_le (st := sk) hle
          rw [g1] at le1
          have le2 := nextI_le (st := t1) le1
          rw [g2] at le2
          have le3 := nextI_le (st := t2) le2
          rw [g3] at le3
          have le4 := nextI_le (st := t3) le3
          rw [g4] at le4
          dsimp only at le1 le2 le3 le4
          have HLL := Lib.hid (And.intro hle (And.intro le1 (And.intro le2 (And.intro le3 le4))))
          have HG := Lib.hid (And.intro g1 (And.intro g2 (And.intro g3 (And.intro g4 g5))))
          have HPL := Lib.hid hpl
          have hpl8 : pl.length ≤ 8 := by omega
          have hjI : (j : Int) < (M : Int) := by omega
          have hqo := HS1.out.2.2.1.1.1
          have hpo := HS1.out.2.1.lt
          clear hle hx hsk HS hpl g1 g2 g3 g4 g5 le1 le2 le3 le4
          go_wp2_with fail
          refine (rInt_next HS1.out.2.1 hl HLL.out.1 HBY.out _ HG.out.1).mono ?_
          rintro e u1 ⟨rfl, hb1, hR1⟩
          dsimp only at hR1 ⊢
          obtain ⟨U2, hU2⟩ : ∃ X, X = u1.alloc (.cells #[.int .i64 x0, .int .i64 0, .int .i64 0, .int .i64 0, .int .i64 0] 51) := ⟨_, rfl⟩
          have hBU : Below u1.heap.size u1 U2 := by rw [hU2]; exact Bel.grew (Below.refl _ _) _
          have HR2 := Lib.hid (hR1.below hBU)
          have HM2 := Lib.hid (HasF.new hU2)
          have HB2 := Lib.hid (hb1.trans (But.of hBU))
          have HU2 := Lib.hid hU2
          obtain ⟨m, hm⟩ : ∃ m, m = u1.heap.size := ⟨_, rfl⟩
          have HME := Lib.hid hm
          have hmw : wr.heap.size ≤ m := by have := hb1.size; omega
          rw [← hm] at HM2
          have hmp : m ≠ p := by omega
          have hpm : p < m := by omega
          clear hb1 hR1 hBU hU2 hm
          go_wp2_with fail
          rw [← HU2.out, ← HME.out]
          clear HU2 HME
          refine (rInt_next HR2.out hl HLL.out.2.1 HBY.out _ HG.out.2.1).mono ?_
          rintro e u3 ⟨rfl, hb1, hR1⟩
          dsimp only at hR1 ⊢
          have hM := HM2.out.but hb1 hmp
          have HBx := Lib.hid (HB2.out.trans hb1)
          have HRx := Lib.hid hR1
          have c1 := hM.1.2 1
          have f1 := hM.2 1
          have ms1 := hM.1.1
          have HMx := Lib.hid hM
          clear hb1 hR1 hM HM2 HB2 HR2
          go_wp2_with fail
          obtain ⟨Ua, hUa⟩ : ∃ X, X = u3.setCell ⟨m, 1, none⟩ (.int .i64 x1) := ⟨_, rfl⟩
          rw [← hUa]
          have HMa : Hid (HasF Ua m #[.int .i64 x0, .int .i64 x1, .int .i64 0, .int .i64 0, .int .i64 0]) := Lib.hid (by rw [hUa]; exact HMx.out.set (o := 1) (by show _ < 5; decide) rfl)
          have HBa : Hid (But p wr Ua) := Lib.hid (by rw [hUa]; exact HBx.out.fresh (by omega) 1 _)
          have HRa : Hid (Rd Ua p xs S (t2.1 : Int) t2.2) := Lib.hid (by rw [hUa]; exact HRx.out.other (by omega) 1 _)
          clear hUa
          clear c1 f1 ms1 HMx HBx HRx
          refine (rInt_next HRa.out hl HLL.out.2.2.1 HBY.out _ HG.out.2.2.1).mono ?_
          rintro e u4 ⟨rfl, hb1, hR1⟩
          dsimp only at hR1 ⊢
          have hM := HMa.out.but hb1 hmp
          have HBx := Lib.hid (HBa.out.trans hb1)
          have HRx := Lib.hid hR1
          have c1 := hM.1.2 2
          have f1 := hM.2 2
          have ms1 := hM.1.1
          have HMx := Lib.hid hM
          clear hb1 hR1 hM HMa HBa HRa
          go_wp2_with fail
          obtain ⟨Ub, hUb⟩ : ∃ X, X = u4.setCell ⟨m, 2, none⟩ (.int .i64 x2) := ⟨_, rfl⟩
          rw [← hUb]
          have HMb : Hid (HasF Ub m #[.int .i64 x0, .int .i64 x1, .int .i64 x2, .int .i64 0, .int .i64 0]) := Lib.hid (by rw [hUb]; exact HMx.out.set (o := 2) (by show _ < 5; decide) rfl)
          have HBb : Hid (But p wr Ub) := Lib.hid (by rw [hUb]; exact HBx.out.fresh (by omega) 2 _)
          have HRb : Hid (Rd Ub p xs S (t3.1 : Int) t3.2) := Lib.hid (by rw [hUb]; exact HRx.out.other (by omega) 2 _)
          clear hUb
          clear c1 f1 ms1 HMx HBx HRx
          refine (rInt_next HRb.out hl HLL.out.2.2.2.1 HBY.out _ HG.out.2.2.2.1).mono ?_
          rintro e u5 ⟨rfl, hb1, hR1⟩
          dsimp only at hR1 ⊢
          have hM := HMb.out.but hb1 hmp
          have HBx := Lib.hid (HBb.out.trans hb1)
          have HRx := Lib.hid hR1
          have c1 := hM.1.2 3
          have f1 := hM.2 3
          have ms1 := hM.1.1
          have HMx := Lib.hid hM
          clear hb1 hR1 hM HMb HBb HRb
          go_wp2_with fail
          obtain ⟨Uc, hUc⟩ : ∃ X, X = u5.setCell ⟨m, 3, none⟩ (.int .i64 x3) := ⟨_, rfl⟩
          rw [← hUc]
          have HMc : Hid (HasF Uc m #[.int .i64 x0, .int .i64 x1, .int .i64 x2, .int .i64 x3, .int .i64 0]) := Lib.hid (by rw [hUc]; exact HMx.out.set (o := 3) (by show _ < 5; decide) rfl)
          have HBc : Hid (But p wr Uc) := Lib.hid (by rw [hUc]; exact HBx.out.fresh (by omega) 3 _)
          have HRc : Hid (Rd Uc p xs S (t4.1 : Int) t4.2) := Lib.hid (by rw [hUc]; exact HRx.out.other (by omega) 3 _)
          clear hUc
          clear c1 f1 ms1 HMx HBx HRx
          refine (rInt_next HRc.out hl HLL.out.2.2.2.2 HBY.out _ HG.out.2.2.2.2).mono ?_
          rintro e u6 ⟨rfl, hb1, hR1⟩
          dsimp only at hR1 ⊢
          have hM := HMc.out.but hb1 hmp
          have HBx := Lib.hid (HBc.out.trans hb1)
          have HRx := Lib.hid hR1
          have c1 := hM.1.2 4
          have f1 := hM.2 4
          have ms1 := hM.1.1
          have HMx := Lib.hid hM
          clear hb1 hR1 hM HMc HBc HRc
          go_upto_region 23 with fail
          obtain ⟨Ud, hUd⟩ : ∃ X, X = u6.setCell ⟨m, 4, none⟩ (.int .i64 x4) := ⟨_, rfl⟩
          rw [← hUd]
          have HMd : Hid (HasF Ud m #[.int .i64 x0, .int .i64 x1, .int .i64 x2, .int .i64 x3, .int .i64 x4]) := Lib.hid (by rw [hUd]; exact HMx.out.set (o := 4) (by show _ < 5; decide) rfl)
          have HBd : Hid (But p wr Ud) := Lib.hid (by rw [hUd]; exact HBx.out.fresh (by omega) 4 _)
          have HRd : Hid (Rd Ud p xs S (t6.1 : Int) t6.2) := Lib.hid (by rw [hUd]; exact HRx.out.other (by omega) 4 _)
          clear hUd
          clear c1 f1 ms1 HMx HBx HRx
          have hq9 := HS1.out.2.2.1.but HBd.out hqp
          have hr9 := HS1.out.2.2.2.1.but HBd.out hne
          have ht9 := HS1.out.2.2.2.2.1.but (show p < q + 1 from by omega) HBd.out
          have hat9 := HS1.out.2.2.2.2.2.but (show p < q + 1 from by omega) HBd.out
          have hrow : Ud.ownsRow (q + 1) 51 5 v pl.length ((pl.map Pj.cells).flatten) := hat9
          have c3 : Ud.cell? ⟨q, 1, none⟩ = some v := hq9.1.2 1
          have cm := HMd.out.1.2
          have cml := HMd.out.1.1
          have fq3 := hq9.2 1
          have hqm : q ≠ m := by omega
          have hmq : m ≠ q := by omega
          have hqs9 := hq9.1.1
          have HQ9 := Lib.hid hq9
          have HR9 := Lib.hid hr9
          have HT9 := Lib.hid ht9
          have HROW := Lib.hid hrow
          have hwd : wr.heap.size ≤ Ud.heap.size := HBd.out.size
          have hBw : Below w.heap.size w Ud := HS1.out.1.trans (HBd.out.below (Nat.le_of_lt hrp) HS1.out.1.size)
          have HBw := Lib.hid hBw
          obtain ⟨k0, k1, k2, k3⟩ := HKP.out
          clear hq9 hr9 ht9 hat9 hBw
          go_wp2_with (at_builtin; refine wpList_append_own _ rfl _ _ 23 rfl (q + 1) 51 _ _ 5 40 Try.underlying23 k0 k1 k2 k3 rfl (by decide) v pl.length _ rfl (hrow.alloc _) ⟨Ud.heap.size, 0, none⟩ 1 1 [.int .i64 x0, .int .i64 x1, .int .i64 x2, .int .i64 x3, .int .i64 x4] rfl rfl (cells_newL _ _ _) (by intro u hu; simp at hu; rcases hu with rfl | rfl | rfl | rfl | rfl <;> rfl) (by unfold maxLen; omega) (by omega) (by rw [World.size_alloc]; omega) ?_; intro v' w4 hown4 hgrow4 _; obtain ⟨Av, nv, cv, rfl⟩ := row_shape hown4; have hbg : Below (q + 1) (Ud.alloc (.cells #[.int .i64 x0, .int .i64 x1, .int .i64 x2, .int .i64 x3, .int .i64 x4] 51)) w4 := (grownBy_below hgrow4 (by rw [World.size_alloc]; omega) (own_base HROW.out)); have hq4 := (HQ9.out.below (Below.alloc (Below.refl Ud.heap.size Ud) (Nat.le_refl _) (.cells #[.int .i64 x0, .int .i64 x1, .int .i64 x2, .int .i64 x3, .int .i64 x4] 51)) hqs9).below hbg (Nat.lt_succ_self q); have d3 := hq4.1.2 1; have df3 := hq4.2 1; have dl := hq4.1.1; have HQ4 := Lib.hid hq4; have HOW4 := Lib.hid hown4; have HG4 := Lib.hid hgrow4; have HBG := Lib.hid hbg; clear hown4 hgrow4 hbg hq4)
          go_roundw
          case rel =>
            have hal : Below Ud.heap.size Ud (Ud.alloc (.cells #[.int .i64 x0, .int .i64 x1, .int .i64 x2, .int .i64 x3, .int .i64 x4] 51)) := Bel.grew (Below.refl _ _) _
            have hob := own_base HROW.out
            have hB4 : Below w.heap.size w w4 := (HBw.out.alloc HBw.out.size _).grown HG4.out (by rw [World.size_alloc]; omega) (fun g hg => by have := hob g hg; omega)
            refine ⟨.slice Av nv cv, j + 1, by omega, by go_num, ?_⟩
            rw [HL1.out]
            refine Lib.hid ⟨hB4.setCell (p := ⟨q, 1, none⟩) (Nat.le_of_lt hwq) _, ((HRd.out.below hal).grown HG4.out (fun g hg => by have := hob g hg; omega)).other hpq 1 _, HQ4.out.set (o := 1) (by show 1 < 2; decide) rfl, ((HR9.out.below hal (by omega)).below HBG.out (by omega)).setOther (by omega), ((HT9.out.later hal).grownP (HROW.out.alloc _) HG4.out).set (Nat.lt_succ_self q) 1 _, ?_⟩
            have h5 := row_set HOW4.out (Nat.lt_succ_self q) 1 (.slice Av nv cv)
            unfold PAt
            simpa using h5
          case measure => simp [intOf]; omega
        · have hj' : j = M := by omega
          subst hj'
          have hs := HS.out
          rw [H4.out] at hs
          obtain ⟨hB, hR, hF, hQ, hT, hP⟩ := hs
          dsimp only at hR hP
          clear HS
          obtain ⟨cs, hcs⟩ := hT.len
          obtain ⟨Au, nu, cu, rfl⟩ := row_shape hcs
          obtain ⟨Av, nv, cv, rfl⟩ := row_shape hP
          have HR := Lib.hid hR
          have HV := Lib.hid (And.intro hB (And.intro hF (And.intro hQ (And.intro hT hP))))
          clear hB hR hF hQ hT hP hcs
          go_wp2_with fail
          refine (rDone_any HR.out).mono ?_
          rintro e w6 ⟨rfl, hb6⟩
          rw [HE.out]
          have HR6 := Lib.hid (HR.out.below hb6)
          have HV6 : Hid (Below w.heap.size w w6 ∧ HasF w6 q #[.slice Au nu cu, .slice Av nv cv] ∧ HasF w6 w.heap.size #[.slice none 0 0, .slice none 0 0] ∧ TAt w6 (q + 1) (.slice Au nu cu) ts ∧ PAt w6 (q + 1) (.slice Av nv cv) ps) := Lib.hid ⟨HV.out.1.trans (hb6.mono HV.out.1.size), HV.out.2.1.below hb6 HV.out.2.1.1.1, HV.out.2.2.1.below hb6 HV.out.2.2.1.1.1, HV.out.2.2.2.1.later hb6, row_later HV.out.2.2.2.2 hb6⟩
          clear hb6 HV HR
          by_cases hE0 : E = 0
          · have HDD : Hid (D = ⟨ts, ps⟩) := Lib.hid (by rw [HD.out, if_pos hE0])
            subst hE0
            have hcq := HV6.out.2.1.1.2
            have hql := HV6.out.2.1.1.1
            have hcr := HV6.out.2.2.1.1.2
            have hfr := HV6.out.2.2.1.2
            have hrl := HV6.out.2.2.1.1.1
            have hqr : q ≠ w.heap.size := by omega
            have h1 := HV6.out.2.2.1.set (o := 0) (v := .slice Au nu cu) (by show 0 < 2; decide) rfl
            have h2 := h1.set (o := 1) (v := .slice Av nv cv) (by show 1 < 2; decide) rfl
            have hB2 := (HV6.out.1.setCell (p := ⟨w.heap.size, 0, none⟩) (Nat.le_refl _) (.slice Au nu cu)).setCell (p := ⟨w.heap.size, 1, none⟩) (Nat.le_refl _) (.slice Av nv cv)
            have hq1 : w.heap.size < q + 1 := by omega
            have hT2 := (HV6.out.2.2.2.1.set hq1 0 (.slice Au nu cu)).set hq1 1 (.slice Av nv cv)
            have hP2 := row_set (row_set HV6.out.2.2.2.2 hq1 0 (.slice Au nu cu)) hq1 1 (.slice Av nv cv)
            obtain ⟨wf, hwf⟩ : ∃ wf, wf = (w6.setCell ⟨w.heap.size, 0, none⟩ (.slice Au nu cu)).setCell ⟨w.heap.size, 1, none⟩ (.slice Av nv cv) := ⟨_, rfl⟩
            rw [← hwf] at h2 hB2 hT2 hP2
            have HWF := Lib.hid hwf
            have HF2 := Lib.hid h2
            have HB2 := Lib.hid hB2
            have HT2 := Lib.hid hT2
            have HP2 := Lib.hid hP2
            clear h1 h2 hB2 hT2 hP2 hwf
            go_wp2_with fail
            rw [← HWF.out]
            clear hcq hcr hfr
            have g0 := HF2.out.1.2 0
            have g1 := HF2.out.1.2 1
            simp at g0 g1
            simp [bodyPost, results, Try.results15, go_sem, g0, g1]
            obtain ⟨T, hT1, hT2, hT3⟩ := HT2.out
            refine ⟨⟨T, ps, .slice Au nu cu, .slice Av nv cv⟩, rfl, ?_, ?_, HB2.out⟩
            · exact Dc.Own.down (lo := q + 1) ⟨⟨ty_rows _, by rw [List.length_map]; exact hT1⟩, hT2, ⟨pj_rows _, by rw [List.length_map]; exact HP2.out⟩⟩ (Nat.le_of_lt hq1)
            · rw [HDD.out]; unfold Dc.pl; rw [hT3]
          · have HDD : Hid (D = ⟨[], []⟩) := Lib.hid (by rw [HD.out, if_neg hE0])
            have hEb : (E != 0) = true := by simp [hE0]
            have hEb2 : (E == 0) = false := by simp [hE0]
            go_wp2_with fail
            refine (rDone_any HR6.out).mono ?_
            rintro e w7 ⟨rfl, hb7⟩
            rw [HE.out]
            have hr7 := HV6.out.2.2.1.below hb7 HV6.out.2.2.1.1.1
            have hB7 := HV6.out.1.trans (hb7.mono HV6.out.1.size)
            have hcr := hr7.1.2
            have hfr := hr7.2
            have hrl := hr7.1.1
            have h1 := hr7.set (o := 0) (v := .slice none 0 0) (by show 0 < 2; decide) rfl
            have h2 := h1.set (o := 1) (v := .slice none 0 0) (by show 1 < 2; decide) rfl
            have hB2 := (hB7.setCell (p := ⟨w.heap.size, 0, none⟩) (Nat.le_refl _) (.slice none 0 0)).setCell (p := ⟨w.heap.size, 1, none⟩) (Nat.le_refl _) (.slice none 0 0)
            obtain ⟨wf, hwf⟩ : ∃ wf, wf = (w7.setCell ⟨w.heap.size, 0, none⟩ (.slice none 0 0)).setCell ⟨w.heap.size, 1, none⟩ (.slice none 0 0) := ⟨_, rfl⟩
            rw [← hwf] at h2 hB2
            have HWF := Lib.hid hwf
            have HF2 := Lib.hid h2
            have HB2 := Lib.hid hB2
            clear h1 h2 hB2 hwf hb7 hr7 hB7
            go_wp2_with fail
            rw [← HWF.out]
            clear hcr hfr
            have g0 := HF2.out.1.2 0
            have g1 := HF2.out.1.2 1
            simp at g0 g1
            simp [bodyPost, results, Try.results15, go_sem, g0, g1]
            exact ⟨⟨[], [], .slice none 0 0, .slice none 0 0⟩, rfl, own_none _ _, HDD.out.symm, HB2.out⟩
end Go.Proofs.Ytjcocahhpjgbhaa
