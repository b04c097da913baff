/- Declarations read: lists; fields, types. -/
import Derived.Test.YtjcocahhpjgbhaaMzDGet1
set_option maxRecDepth 100000
set_option maxRecDepth 100000
set_option maxRecDepth 100000
set_option linter.unusedVariables false
set_option linter.unusedSimpArgs false
namespace Go.Proofs.Ytjcocahhpjgbhaa
open Go.RowKit Go.BigFrame

theorem stepC_next (xs : List Int) (most : Int) (a : Nat) (why : Int) : stepR (countR (xs.drop a) most) a why = ((nextC xs most (a, why)).1, ((nextC xs most (a, why)).2.1 : Int), (nextC xs most (a, why)).2.2) := by
  unfold stepR nextC
  by_cases h : why = 0
  · rw [if_pos h, if_pos h]
    dsimp only
    cases countR (xs.drop a) most with
    | inl c => rfl
    | inr v => rfl
  · rw [if_neg h, if_neg h]
theorem Count_next {xs : List Int} {S : Value} {p : Nat} {most : Int} {st : Nat × Int} {w : World} (hR : Rd w p xs S (st.1 : Int) st.2) (hl : xs.length ≤ 1099511627776) (ha : st.1 ≤ xs.length) (hb : Bytes xs) (r : Int × Nat × Int) (hr : nextC xs most st = r) :
    Calls Try.prog 42 #[.pointer (some ⟨p, 0, none⟩), .int .i64 most] w fun e w' => e = .returned (.int .i64 r.1) ∧ But p w w' ∧ Rd w' p xs S (r.2.1 : Int) r.2.2 := by
  subst hr
  exact Count_any hR hl ha hb _ (stepC_next xs most st.1 st.2)
theorem row_but {w w' : World} {lo sz n p : Nat} {e : TypeId} {v : Value} {xs : List Value} (h : w.ownsRow lo e sz v n xs) (hp : p < lo) (hb : But p w w') : w'.ownsRow lo e sz v n xs := by
  refine ⟨h.1, ?_⟩
  rcases h.2 with h2 | ⟨g, cap, cur, hv, hg, hh, r⟩
  · exact .inl h2
  · have hlt : g < w.heap.size := by
      rcases Nat.lt_or_ge g w.heap.size with hlt | hge
      · exact hlt
      · rw [Array.getElem?_eq_none hge] at hh; cases hh
    exact .inr ⟨g, cap, cur, hv, hg, (hb.block g hlt (by omega)).trans hh, r⟩
theorem OwnR.but {sz : Nat} {e : TypeId} {w w' : World} {lo p : Nat} {v : Value} {rows : List (List Value)} (h : OwnR sz e w lo v rows) (hp : p < lo) (hb : But p w w') : OwnR sz e w' lo v rows := ⟨h.1, row_but h.2 hp hb⟩
theorem Fd.Own.but {w w' : World} {lo p : Nat} {f : Fd} (h : f.Own w lo) (hp : p < lo) (hb : But p w w') : f.Own w' lo := OwnR.but h hp hb
theorem Ty.Own.but {w w' : World} {lo p : Nat} {t : Ty} (h : t.Own w lo) (hp : p < lo) (hb : But p w w') : t.Own w' lo := ⟨OwnR.but h.1 hp hb, fun f hf => (h.2 f hf).but hp hb⟩
theorem But.grownBy {p : Nat} {a b c : World} {row : Option Nat} (h : But p a b) (hg : b.grownBy c row) (hr : ∀ g, row = some g → a.heap.size ≤ g) : But p a c :=
  ⟨hg.os.trans h.os, hg.tape.trans h.tape, hg.output.trans h.output, Nat.le_trans h.size hg.size, fun k hk hp => (hg.block k (Nat.lt_of_lt_of_le hk h.size) (fun e => by have := hr k e.symm; omega)).trans (h.block k hk hp)⟩
theorem Rd.grown {w w' : World} {p : Nat} {xs : List Int} {S : Value} {a why : Int} {row : Option Nat} (h : Rd w p xs S a why) (hg : w.grownBy w' row) (hr : ∀ g, row = some g → p < g) : Rd w' p xs S a why :=
  h.below1 ⟨hg.os, hg.tape, hg.output, hg.size, fun k hk => hg.block k (by have := h.lt; omega) (fun e => by have := hr k e.symm; omega)⟩
/-- Moves, projections, fields, types that have been read. -/
def MAt (w : World) (lo : Nat) (v : Value) (ms : List Mv) : Prop := w.ownsRow lo 76 4 v ms.length ((ms.map Mv.cells).flatten)
def PAt (w : World) (lo : Nat) (v : Value) (ps : List Pj) : Prop := w.ownsRow lo 51 5 v ps.length ((ps.map Pj.cells).flatten)
def FAt (w : World) (lo : Nat) (v : Value) (pl : List PF) : Prop := ∃ fs, FsAt w lo v fs pl
def TAt (w : World) (lo : Nat) (v : Value) (pl : List (List PF)) : Prop := ∃ ts : List Ty, w.ownsRow lo 42 1 v ts.length ((ts.map Ty.cells).flatten) ∧ (∀ t ∈ ts, t.Own w lo) ∧ ts.map Ty.pl = pl
theorem MAt.nil_ (w : World) (lo : Nat) : MAt w lo (.slice none 0 0) [] := World.ownsRow_nil _ _ _ _
theorem PAt.nil_ (w : World) (lo : Nat) : PAt w lo (.slice none 0 0) [] := World.ownsRow_nil _ _ _ _
theorem FAt.nil_ (w : World) (lo : Nat) : FAt w lo (.slice none 0 0) [] := ⟨[], FsAt.nil_ _ _⟩
theorem TAt.nil_ (w : World) (lo : Nat) : TAt w lo (.slice none 0 0) [] := ⟨[], World.ownsRow_nil _ _ _ _, (fun t ht => by cases ht), rfl⟩
theorem MAt.but {w w' : World} {lo p : Nat} {v : Value} {l : List Mv} (h : MAt w lo v l) (hp : p < lo) (hb : But p w w') : MAt w' lo v l := row_but h hp hb
theorem PAt.but {w w' : World} {lo p : Nat} {v : Value} {l : List Pj} (h : PAt w lo v l) (hp : p < lo) (hb : But p w w') : PAt w' lo v l := row_but h hp hb
theorem FAt.but {w w' : World} {lo p : Nat} {v : Value} {l : List PF} (h : FAt w lo v l) (hp : p < lo) (hb : But p w w') : FAt w' lo v l := h.imp fun fs h => ⟨row_but h.1 hp hb, fun f hf => (h.2.1 f hf).but hp hb, h.2.2⟩
theorem TAt.but {w w' : World} {lo p : Nat} {v : Value} {l : List (List PF)} (h : TAt w lo v l) (hp : p < lo) (hb : But p w w') : TAt w' lo v l := h.imp fun ts h => ⟨row_but h.1 hp hb, fun t ht => (h.2.1 t ht).but hp hb, h.2.2⟩

/-- What a reading of a list leaves. -/
def GetsMvRet (p : Nat) (xs : List Int) (S : Value) (r : List Mv × Nat × Int) (w : World) (e : Ending) (w' : World) : Prop := ∃ v', e = .returned v' ∧ MAt w' w.heap.size v' r.1 ∧ But p w w' ∧ Rd w' p xs S (r.2.1 : Int) r.2.2
set_option maxHeartbeats 8000000 in
theorem getsMv_any {xs : List Int} {S : Value} {p : Nat} {st : Nat × Int} {w : World} (hR : Rd w p xs S (st.1 : Int) st.2) (hl : xs.length ≤ 1099511627776) (ha : st.1 ≤ xs.length) (hb : Bytes xs) (r : List Mv × Nat × Int) (hr : cntR xs 16 (rdMv xs) st = r) :
    Calls Try.prog 55 #[.pointer (some ⟨p, 0, none⟩), .int .i64 16, .func (.func 56) #[] #[]] w fun e w' => GetsMvRet p xs S r w e w' := by
  obtain ⟨i0, hi, hz0, hz1, hz2⟩ := info_parts infoMv
  obtain ⟨⟨n, s0⟩, hn⟩ : ∃ y, nextC xs 16 st = y := ⟨_, rfl⟩
  have hnv := nextC_val (xs := xs) (st := st) (most := 16) (by decide)
  have hs0 := nextC_le (xs := xs) (most := 16) ha
  rw [hn] at hnv hs0
  obtain ⟨N, hN⟩ := Int.eq_ofNat_of_zero_le hnv.1
  dsimp only at hN hnv hs0
  subst hN
  have HRR : Hid (lstR (rdMv xs) N s0 = r) := Lib.hid (by
    unfold cntR at hr
    rw [hn] at hr
    simpa using hr)
  have HR := Lib.hid hR
  have HN := Lib.hid hn
  have HBY := Lib.hid hb
  have hplt := hR.lt
  have hN8 : N ≤ 16 := by omega
  have HS0 := Lib.hid hs0
  clear hr hn hR hb hnv hs0
  go_enter Try.func55, Try.ntmps55
  go_wp2_with fail
  refine (Count_next HR.out hl ha HBY.out _ HN.out).mono ?_
  rintro e w2 ⟨rfl, hb2, hR2⟩
  have HB2 := Lib.hid hb2
  have HR2 := Lib.hid hR2
  clear hb2 hR2 HR HN
  dsimp only at HR2 ⊢
  go_wp2_with fail
  go_loopw [6, 10] (fun u i wr => ∃ (v : Value) (k : Nat), k ≤ N ∧ v = u ∧ i = .int .i64 k ∧ But p w wr ∧ Rd wr p xs S ((lstR (rdMv xs) k s0).2.1 : Int) (lstR (rdMv xs) k s0).2.2 ∧ Hid (MAt wr w.heap.size u (lstR (rdMv xs) k s0).1)) (fun _ i _ => N - (intOf i).toNat)
  case atStart => exact ⟨_, 0, Nat.zero_le _, rfl, rfl, HB2.out, HR2.out, Lib.hid (MAt.nil_ _ _)⟩
  case round =>
    obtain ⟨u, k, hk, rfl, rfl, hbk, hRk, HAT⟩ := hrel
    have HBk := Lib.hid hbk
    have HRk := Lib.hid hRk
    have hle := (cod_lst (cod_mv HBY.out) k).le s0 HS0.out
    have hpl := lstR_len (rdMv xs) k s0
    clear hbk hRk
    by_cases hlt : k < N
    · obtain ⟨⟨x, s1⟩, hx⟩ : ∃ y, rdMv xs (lstR (rdMv xs) k s0).2 = y := ⟨_, rfl⟩
      have HL1 : Hid (lstR (rdMv xs) (k + 1) s0 = ((lstR (rdMv xs) k s0).1 ++ [x], s1)) := Lib.hid (by
        have e : lstR (rdMv xs) (k + 1) s0 = ((lstR (rdMv xs) k s0).1 ++ [(rdMv xs (lstR (rdMv xs) k s0).2).1], (rdMv xs (lstR (rdMv xs) k s0).2).2) := rfl
        rw [e, hx])
      obtain ⟨⟨pl, sk⟩, hsk⟩ : ∃ y, y = lstR (rdMv xs) k s0 := ⟨_, rfl⟩
      rw [← hsk] at HRk HAT hle hx HL1 hpl
      dsimp only at HRk HAT hle hx HL1 hpl
      have HX := Lib.hid hx
      have HPL := Lib.hid hpl
      have hpl8 : pl.length ≤ 16 := by omega
      have hkI : (k : Int) < (N : Int) := by omega
      clear hsk hx hpl
      go_wp2_with fail
      refine (getMove_any HRk.out hl hle HBY.out (x, s1) HX.out).mono ?_
      obtain ⟨x0, x1, x2, x3⟩ := x
      rintro e w3 ⟨rfl, hb3, hR3⟩
      have hs3 : wr.heap.size ≤ w3.heap.size := hb3.size
      have hws : w.heap.size ≤ wr.heap.size := HBk.out.size
      have hat3 := HAT.out.but hplt hb3
      have hrow : w3.ownsRow w.heap.size 76 4 u pl.length ((pl.map Mv.cells).flatten) := hat3
      clear hat3
      have HB3 := Lib.hid (HBk.out.trans hb3)
      have HR3 := Lib.hid hR3
      have HROW := Lib.hid hrow
      clear hb3 hR3
      go_wp2_with (at_builtin; refine wpList_append_own _ rfl _ _ 43 rfl w.heap.size 76 i0 _ 4 32 Try.underlying43 hi hz0 hz1 hz2 rfl (by decide) u pl.length _ rfl (hrow.alloc _) ⟨w3.heap.size, 0, none⟩ 1 1 [.int .i64 x0, .int .i64 x1, .int .i64 x2, .int .i64 x3] rfl rfl (cells_newL _ _ _) (by intro u hu; simp at hu; rcases hu with rfl | rfl | rfl | rfl <;> rfl) (by unfold maxLen; omega) (by omega) (by rw [World.size_alloc]; omega) ?_; intro v' w4 hown4 hgrow4 _; have HOW4 := Lib.hid hown4; have HG4 := Lib.hid hgrow4; clear hown4 hgrow4)
      go_roundw
      case rel =>
        have hal : Below w3.heap.size w3 (w3.alloc (.cells [.int .i64 x0, .int .i64 x1, .int .i64 x2, .int .i64 x3].toArray 76)) := Bel.grew (Below.refl _ _) _
        have hob := fun g (hg : u.ownBlock = some g) => own_base HROW.out g hg
        refine ⟨_, k + 1, by omega, rfl, by go_num, (HB3.out.trans (But.of hal)).grownBy HG4.out hob, ?_, ?_⟩
        · rw [HL1.out]
          exact (HR3.out.below hal).grown HG4.out (fun g hg => by have := hob g hg; omega)
        · rw [HL1.out]
          dsimp only
          refine Lib.hid ?_
          have h5 := HOW4.out
          unfold MAt
          simpa using h5
      case measure => simp [intOf]; omega
    · have hk' : k = N := by omega
      subst hk'
      have hRR := HRR.out
      rw [hRR] at HRk HAT
      clear hle hpl hRR
      go_wp2_with fail
      go_ret
      exact ⟨_, rfl, HAT.out, HBk.out, HRk.out⟩

/-- What a reading of a list leaves. -/
def GetsPjRet (p : Nat) (xs : List Int) (S : Value) (r : List Pj × Nat × Int) (w : World) (e : Ending) (w' : World) : Prop := ∃ v', e = .returned v' ∧ PAt w' w.heap.size v' r.1 ∧ But p w w' ∧ Rd w' p xs S (r.2.1 : Int) r.2.2
set_option maxHeartbeats 8000000 in
theorem getsPj_any {xs : List Int} {S : Value} {p : Nat} {st : Nat × Int} {w : World} (hR : Rd w p xs S (st.1 : Int) st.2) (hl : xs.length ≤ 1099511627776) (ha : st.1 ≤ xs.length) (hb : Bytes xs) (r : List Pj × Nat × Int) (hr : cntR xs 8 (rdPj xs) st = r) :
    Calls Try.prog 29 #[.pointer (some ⟨p, 0, none⟩), .int .i64 8, .func (.func 30) #[] #[]] w fun e w' => GetsPjRet p xs S r w e w' := by
  obtain ⟨i0, hi, hz0, hz1, hz2⟩ := info_parts infoPj
  obtain ⟨⟨n, s0⟩, hn⟩ : ∃ y, nextC xs 8 st = y := ⟨_, rfl⟩
  have hnv := nextC_val (xs := xs) (st := st) (most := 8) (by decide)
  have hs0 := nextC_le (xs := xs) (most := 8) ha
  rw [hn] at hnv hs0
  obtain ⟨N, hN⟩ := Int.eq_ofNat_of_zero_le hnv.1
  dsimp only at hN hnv hs0
  subst hN
  have HRR : Hid (lstR (rdPj xs) N s0 = r) := Lib.hid (by
    unfold cntR at hr
    rw [hn] at hr
    simpa using hr)
  have HR := Lib.hid hR
  have HN := Lib.hid hn
  have HBY := Lib.hid hb
  have hplt := hR.lt
  have hN8 : N ≤ 8 := by omega
  have HS0 := Lib.hid hs0
  clear hr hn hR hb hnv hs0
  go_enter Try.func29, Try.ntmps29
  go_wp2_with fail
  refine (Count_next HR.out hl ha HBY.out _ HN.out).mono ?_
  rintro e w2 ⟨rfl, hb2, hR2⟩
  have HB2 := Lib.hid hb2
  have HR2 := Lib.hid hR2
  clear hb2 hR2 HR HN
  dsimp only at HR2 ⊢
  go_wp2_with fail
  go_loopw [6, 10] (fun u i wr => ∃ (v : Value) (k : Nat), k ≤ N ∧ v = u ∧ i = .int .i64 k ∧ But p w wr ∧ Rd wr p xs S ((lstR (rdPj xs) k s0).2.1 : Int) (lstR (rdPj xs) k s0).2.2 ∧ Hid (PAt wr w.heap.size u (lstR (rdPj xs) k s0).1)) (fun _ i _ => N - (intOf i).toNat)
  case atStart => exact ⟨_, 0, Nat.zero_le _, rfl, rfl, HB2.out, HR2.out, Lib.hid (PAt.nil_ _ _)⟩
  case round =>
    obtain ⟨u, k, hk, rfl, rfl, hbk, hRk, HAT⟩ := hrel
    have HBk := Lib.hid hbk
    have HRk := Lib.hid hRk
    have hle := (cod_lst (cod_pj HBY.out) k).le s0 HS0.out
    have hpl := lstR_len (rdPj xs) k s0
    clear hbk hRk
    by_cases hlt : k < N
    · obtain ⟨⟨x, s1⟩, hx⟩ : ∃ y, rdPj xs (lstR (rdPj xs) k s0).2 = y := ⟨_, rfl⟩
      have HL1 : Hid (lstR (rdPj xs) (k + 1) s0 = ((lstR (rdPj xs) k s0).1 ++ [x], s1)) := Lib.hid (by
        have e : lstR (rdPj xs) (k + 1) s0 = ((lstR (rdPj xs) k s0).1 ++ [(rdPj xs (lstR (rdPj xs) k s0).2).1], (rdPj xs (lstR (rdPj xs) k s0).2).2) := rfl
        rw [e, hx])
      obtain ⟨⟨pl, sk⟩, hsk⟩ : ∃ y, y = lstR (rdPj xs) k s0 := ⟨_, rfl⟩
      rw [← hsk] at HRk HAT hle hx HL1 hpl
      dsimp only at HRk HAT hle hx HL1 hpl
      have HX := Lib.hid hx
      have HPL := Lib.hid hpl
      have hpl8 : pl.length ≤ 8 := by omega
      have hkI : (k : Int) < (N : Int) := by omega
      clear hsk hx hpl
      go_wp2_with fail
      refine (getProj_any HRk.out hl hle HBY.out (x, s1) HX.out).mono ?_
      obtain ⟨x0, x1, x2, x3, x4⟩ := x
      rintro e w3 ⟨rfl, hb3, hR3⟩
      have hs3 : wr.heap.size ≤ w3.heap.size := hb3.size
      have hws : w.heap.size ≤ wr.heap.size := HBk.out.size
      have hat3 := HAT.out.but hplt hb3
      have hrow : w3.ownsRow w.heap.size 51 5 u pl.length ((pl.map Pj.cells).flatten) := hat3
      clear hat3
      have HB3 := Lib.hid (HBk.out.trans hb3)
      have HR3 := Lib.hid hR3
      have HROW := Lib.hid hrow
      clear hb3 hR3
      go_wp2_with (at_builtin; refine wpList_append_own _ rfl _ _ 23 rfl w.heap.size 51 i0 _ 5 40 Try.underlying23 hi hz0 hz1 hz2 rfl (by decide) u pl.length _ rfl (hrow.alloc _) ⟨w3.heap.size, 0, none⟩ 1 1 [.int .i64 x0, .int .i64 x1, .int .i64 x2, .int .i64 x3, .int .i64 x4] rfl rfl (cells_newL _ _ _) (by intro u hu; simp at hu; rcases hu with rfl | rfl | rfl | rfl | rfl <;> rfl) (by unfold maxLen; omega) (by omega) (by rw [World.size_alloc]; omega) ?_; intro v' w4 hown4 hgrow4 _; have HOW4 := Lib.hid hown4; have HG4 := Lib.hid hgrow4; clear hown4 hgrow4)
      go_roundw
      case rel =>
        have hal : Below w3.heap.size w3 (w3.alloc (.cells [.int .i64 x0, .int .i64 x1, .int .i64 x2, .int .i64 x3, .int .i64 x4].toArray 51)) := Bel.grew (Below.refl _ _) _
        have hob := fun g (hg : u.ownBlock = some g) => own_base HROW.out g hg
        refine ⟨_, k + 1, by omega, rfl, by go_num, (HB3.out.trans (But.of hal)).grownBy HG4.out hob, ?_, ?_⟩
        · rw [HL1.out]
          exact (HR3.out.below hal).grown HG4.out (fun g hg => by have := hob g hg; omega)
        · rw [HL1.out]
          dsimp only
          refine Lib.hid ?_
          have h5 := HOW4.out
          unfold PAt
          simpa using h5
      case measure => simp [intOf]; omega
    · have hk' : k = N := by omega
      subst hk'
      have hRR := HRR.out
      rw [hRR] at HRk HAT
      clear hle hpl hRR
      go_wp2_with fail
      go_ret
      exact ⟨_, rfl, HAT.out, HBk.out, HRk.out⟩

/-- A field read, its moves in new memory. -/
def RdFdRet (p : Nat) (xs : List Int) (S : Value) (r : PF × Nat × Int) (w : World) (e : Ending) (w' : World) : Prop :=
  ∃ (A : Option Addr) (n c : Nat), e = .returned (fdV' ⟨r.1.k, r.1.p, r.1.fl, r.1.ms, .slice A n c⟩) ∧ Fd.Own w' w.heap.size ⟨r.1.k, r.1.p, r.1.fl, r.1.ms, .slice A n c⟩ ∧ But p w w' ∧ Rd w' p xs S (r.2.1 : Int) r.2.2
theorem beq_one (n : Int) : (n == 1) = decide (n = 1) := by
  by_cases h : n = 1 <;> simp [h]
set_option maxHeartbeats 8000000 in
theorem getField_any {xs : List Int} {S : Value} {p : Nat} {st : Nat × Int} {w : World} (hR : Rd w p xs S (st.1 : Int) st.2) (hl : xs.length ≤ 1099511627776) (ha : st.1 ≤ xs.length) (hb : Bytes xs) (r : PF × Nat × Int) (hr : rdFd xs st = r) :
    Calls Try.prog 44 #[.pointer (some ⟨p, 0, none⟩)] w fun e w' => RdFdRet p xs S r w e w' := by
  obtain ⟨W, hW⟩ : ∃ W, W = (w.alloc (.cells #[.int .i64 0, .int .i64 0, .bool false, .slice none 0 0] 45)).alloc (.cells #[.pointer (some ⟨w.heap.size, 0, none⟩), .pointer (some ⟨w.heap.size, 1, none⟩)] 88) := ⟨_, rfl⟩
  have hB : Below w.heap.size w W := by rw [hW]; exact Bel.grew (Bel.grew (Below.refl _ _) _) _
  have hC : Has W w.heap.size #[.int .i64 0, .int .i64 0, .bool false, .slice none 0 0] := by rw [hW]; exact (Has.new w _ _).grow _
  have hP : Has W (w.heap.size + 1) #[.pointer (some ⟨w.heap.size, 0, none⟩), .pointer (some ⟨w.heap.size, 1, none⟩)] := by rw [hW]; exact Has.new1 _ _ _ (by simp)
  have hfz : ∀ i, W.frozen? ⟨w.heap.size, i, none⟩ = false := by intro i; rw [hW]; simp [go_sem]
  have hplt := hR.lt
  have HINTS := Lib.hid (rints_any (q := w.heap.size) (b := w.heap.size + 1) (n := 2) (hR.below hB) hl ha hb hplt hC.1 hP.1 (Nat.lt_succ_self _) (by decide) (fun j hj => by
    rw [hP.2]
    rcases (show j = 0 ∨ j = 1 from by omega) with rfl | rfl <;> rfl) (fun j hj => by
    rw [hC.2]
    rcases (show j = 0 ∨ j = 1 from by omega) with rfl | rfl
    · exact ⟨_, rfl⟩
    · exact ⟨_, rfl⟩) hfz)
  obtain ⟨⟨n, s1⟩, hn⟩ : ∃ y, nextC xs 1 (rdN xs st 2) = y := ⟨_, rfl⟩
  obtain ⟨⟨ms, s2⟩, hms⟩ : ∃ y, cntR xs 16 (rdMv xs) s1 = y := ⟨_, rfl⟩
  have HR1 : Hid (((⟨valN xs st 0, valN xs st 1, n == 1, ms⟩ : PF), s2) = r) := by
    subst hr
    have e : rdFd xs st = (⟨valN xs st 0, valN xs st 1, (nextC xs 1 (rdN xs st 2)).1 == 1, (cntR xs 16 (rdMv xs) (nextC xs 1 (rdN xs st 2)).2).1⟩, (cntR xs 16 (rdMv xs) (nextC xs 1 (rdN xs st 2)).2).2) := rfl
    rw [e, hn]
    dsimp only
    rw [hms]
    exact Lib.hid rfl
  have hle2 := rdN_le (xs := xs) (st := st) ha 2
  have hle1 := nextC_le (xs := xs) (most := 1) hle2
  rw [hn] at hle1
  dsimp only at hle1
  have HLE1 := Lib.hid hle1
  have HLE2 := Lib.hid hle2
  have HN := Lib.hid hn
  have HMS := Lib.hid hms
  have HB := Lib.hid hB
  have HW := Lib.hid hW
  have HC := Lib.hid hC
  have HBY := Lib.hid hb
  have hqs := hC.1
  clear hr hR hb ha hB hW hP hfz hn hms hle1 hle2 hC
  obtain ⟨fl, hfl⟩ : ∃ b : Bool, b = (n == 1) := ⟨_, rfl⟩
  have hfl1 : (n == 1) = fl := hfl.symm
  rw [hfl1] at HR1
  clear hfl
  go_enter Try.func44, Try.ntmps44
  go_wp2_with fail
  rw [← HW.out]
  clear HW
  refine HINTS.out.mono ?_
  rintro e w3 ⟨rfl, hb3, hR3, hL3⟩
  have HL3 := Lib.hid hL3
  have HB3 := Lib.hid (hb3.but HB.out (Nat.le_refl _))
  have HR3 := Lib.hid hR3
  have hq3 : w.heap.size < w3.heap.size := Nat.lt_of_lt_of_le hqs hb3.size
  have hne : w.heap.size ≠ p := by omega
  clear hb3 hR3 hL3 HINTS
  go_wp2_with fail
  refine (Count_next HR3.out hl HLE2.out HBY.out _ HN.out).mono ?_
  rintro e w4 ⟨rfl, hb4, hR4⟩
  dsimp only at hR4 ⊢
  have hL4 := HL3.out.but hb4 hq3 hne
  have c2 : w4.cell? ⟨w.heap.size, 2, none⟩ = some (.bool false) := (hL4.1 2).trans (by rw [if_neg (by decide), HC.out.2]; rfl)
  have f4 := hL4.2
  have hq4 : w.heap.size < w4.heap.size := Nat.lt_of_lt_of_le hq3 hb4.size
  obtain ⟨W5, hW5⟩ : ∃ W5, W5 = w4.setCell ⟨w.heap.size, 2, none⟩ (.bool fl) := ⟨_, rfl⟩
  have hB5 : But p w W5 := by rw [hW5]; exact (HB3.out.trans hb4).fresh (Nat.le_refl _) 2 _
  have hR5 : Rd W5 p xs S (s1.1 : Int) s1.2 := by rw [hW5]; exact hR4.other hplt 2 _
  have hq5 : w.heap.size < W5.heap.size := by rw [hW5]; simpa [World.setCell] using hq4
  have k0 : W5.cell? ⟨w.heap.size, 0, none⟩ = some (.int .i64 (valN xs st 0)) := by rw [hW5]; exact (World.cell?_setCell_other _ ⟨w.heap.size, 2, none⟩ ⟨w.heap.size, 0, none⟩ _ (by simp)).trans ((hL4.1 0).trans (by rw [if_pos (by decide)]))
  have k1 : W5.cell? ⟨w.heap.size, 1, none⟩ = some (.int .i64 (valN xs st 1)) := by rw [hW5]; exact (World.cell?_setCell_other _ ⟨w.heap.size, 2, none⟩ ⟨w.heap.size, 1, none⟩ _ (by simp)).trans ((hL4.1 1).trans (by rw [if_pos (by decide)]))
  have k2 : W5.cell? ⟨w.heap.size, 2, none⟩ = some (.bool fl) := by rw [hW5]; exact World.cell?_setCell_same _ _ _ c2
  have k3 : W5.cell? ⟨w.heap.size, 3, none⟩ = some (.slice none 0 0) := by rw [hW5]; exact (World.cell?_setCell_other _ ⟨w.heap.size, 2, none⟩ ⟨w.heap.size, 3, none⟩ _ (by simp)).trans ((hL4.1 3).trans (by rw [if_neg (by decide), HC.out.2]; rfl))
  have f5 : ∀ o, W5.frozen? ⟨w.heap.size, o, none⟩ = false := fun o => by rw [hW5, World.frozen?_setCell]; exact f4 o
  have HW5 := Lib.hid hW5
  have HB5 := Lib.hid hB5
  have HR5 := Lib.hid hR5
  have HK5 := Lib.hid (And.intro k0 (And.intro k1 (And.intro k2 (And.intro k3 f5))))
  clear hb4 hR4 hL4 hW5 hB5 hR5 k0 k1 k2 k3 f5 HL3
  go_wp2_with fail
  rw [← HW5.out]
  clear HW5
  refine (getsMv_any HR5.out hl HLE1.out HBY.out _ HMS.out).mono ?_
  rintro e w6 ⟨v', rfl, hat, hb6, hR6⟩
  dsimp only at hat hR6
  obtain ⟨A, m, c, rfl⟩ := row_shape hat
  obtain ⟨k0, k1, k2, k3, f5⟩ := HK5.out
  have k0 := (hb6.cell (o := 0) hq5 hne).trans k0
  have k1 := (hb6.cell (o := 1) hq5 hne).trans k1
  have k2 := (hb6.cell (o := 2) hq5 hne).trans k2
  have k3 := (hb6.cell (o := 3) hq5 hne).trans k3
  have f6 : ∀ o, w6.frozen? ⟨w.heap.size, o, none⟩ = false := fun o => (hb6.frozen hq5 hne).trans (f5 o)
  have hq6 : w.heap.size < w6.heap.size := Nat.lt_of_lt_of_le hq5 hb6.size
  obtain ⟨W7, hW7⟩ : ∃ W7, W7 = w6.setCell ⟨w.heap.size, 3, none⟩ (.slice A m c) := ⟨_, rfl⟩
  have hB7 : But p w W7 := by rw [hW7]; exact (HB5.out.trans hb6).fresh (Nat.le_refl _) 3 _
  have hR7 : Rd W7 p xs S (s2.1 : Int) s2.2 := by rw [hW7]; exact hR6.other hplt 3 _
  have j0 : W7.cell? ⟨w.heap.size, 0, none⟩ = some (.int .i64 (valN xs st 0)) := by rw [hW7]; exact (World.cell?_setCell_other _ ⟨w.heap.size, 3, none⟩ ⟨w.heap.size, 0, none⟩ _ (by simp)).trans k0
  have j1 : W7.cell? ⟨w.heap.size, 1, none⟩ = some (.int .i64 (valN xs st 1)) := by rw [hW7]; exact (World.cell?_setCell_other _ ⟨w.heap.size, 3, none⟩ ⟨w.heap.size, 1, none⟩ _ (by simp)).trans k1
  have j2 : W7.cell? ⟨w.heap.size, 2, none⟩ = some (.bool fl) := by rw [hW7]; exact (World.cell?_setCell_other _ ⟨w.heap.size, 3, none⟩ ⟨w.heap.size, 2, none⟩ _ (by simp)).trans k2
  have j3 : W7.cell? ⟨w.heap.size, 3, none⟩ = some (.slice A m c) := by rw [hW7]; exact World.cell?_setCell_same _ _ _ k3
  have hO7 : Fd.Own W7 W5.heap.size ⟨valN xs st 0, valN xs st 1, fl, ms, .slice A m c⟩ := by
    rw [hW7]
    exact ⟨mv_rows ms, by rw [List.length_map]; exact row_set hat hq5 3 _⟩
  have hk := (keepN (q := w.heap.size) [(0, .int .i64 (valN xs st 0)), (1, .int .i64 (valN xs st 1)), (2, .bool fl), (3, .slice A m c)] (Nat.le_refl _) hB7 hR7 hplt (by
    intro c hc
    simp only [List.mem_cons, List.not_mem_nil, or_false] at hc
    rcases hc with rfl | rfl | rfl | rfl
    · exact j0
    · exact j1
    · exact j2
    · exact j3))
  dsimp only [List.foldl_cons, List.foldl_nil] at hk
  have ho := ((((hO7.setOther hq5 0 (.int .i64 (valN xs st 0))).setOther hq5 1 (.int .i64 (valN xs st 1))).setOther hq5 2 (.bool fl)).setOther hq5 3 (.slice A m c)).down (Nat.le_of_lt hq5)
  have HK := Lib.hid hk
  have HO := Lib.hid (ho.down (Nat.le_refl _))
  have HJ := Lib.hid (And.intro j0 (And.intro j1 (And.intro j2 j3)))
  have HW7 := Lib.hid hW7
  clear hk ho hO7 hW7 hB7 hR7 hat hb6 hR6 j0 j1 j2 j3 hfl1
  go_wp2_with fail
  rw [← HW7.out]
  obtain ⟨wf, hwf⟩ : ∃ wf, wf = (((W7.setCell ⟨w.heap.size, 0, none⟩ (.int .i64 (valN xs st 0))).setCell ⟨w.heap.size, 1, none⟩ (.int .i64 (valN xs st 1))).setCell ⟨w.heap.size, 2, none⟩ (.bool fl)).setCell ⟨w.heap.size, 3, none⟩ (.slice A m c) := ⟨_, rfl⟩
  rw [← hwf] at HK HO ⊢
  clear hwf k0 k1 k2 k3 c2 f4 f5 f6
  have k0 := (HK.out.2.2 0).trans HJ.out.1
  have k1 := (HK.out.2.2 1).trans HJ.out.2.1
  have k2 := (HK.out.2.2 2).trans HJ.out.2.2.1
  have k3 := (HK.out.2.2 3).trans HJ.out.2.2.2
  simp [bodyPost, results, Try.results44, go_sem, k0, k1, k2, k3]
  refine ⟨A, m, c, ?_, ?_, HK.out.1, ?_⟩
  · rw [← HR1.out]
  · rw [← HR1.out]; exact HO.out
  · rw [← HR1.out]; exact HK.out.2.1

/-- What a reading of a list leaves. -/
def GetsFdRet (p : Nat) (xs : List Int) (S : Value) (r : List PF × Nat × Int) (w : World) (e : Ending) (w' : World) : Prop := ∃ v', e = .returned v' ∧ FAt w' w.heap.size v' r.1 ∧ But p w w' ∧ Rd w' p xs S (r.2.1 : Int) r.2.2
set_option maxHeartbeats 8000000 in
theorem getsFd_any {xs : List Int} {S : Value} {p : Nat} {st : Nat × Int} {w : World} (hR : Rd w p xs S (st.1 : Int) st.2) (hl : xs.length ≤ 1099511627776) (ha : st.1 ≤ xs.length) (hb : Bytes xs) (r : List PF × Nat × Int) (hr : cntR xs 8 (rdFd xs) st = r) :
    Calls Try.prog 43 #[.pointer (some ⟨p, 0, none⟩), .int .i64 8, .func (.func 44) #[] #[]] w fun e w' => GetsFdRet p xs S r w e w' := by
  obtain ⟨i0, hi, hz0, hz1, hz2⟩ := info_parts infoFd
  obtain ⟨⟨n, s0⟩, hn⟩ : ∃ y, nextC xs 8 st = y := ⟨_, rfl⟩
  have hnv := nextC_val (xs := xs) (st := st) (most := 8) (by decide)
  have hs0 := nextC_le (xs := xs) (most := 8) ha
  rw [hn] at hnv hs0
  obtain ⟨N, hN⟩ := Int.eq_ofNat_of_zero_le hnv.1
  dsimp only at hN hnv hs0
  subst hN
  have HRR : Hid (lstR (rdFd xs) N s0 = r) := Lib.hid (by
    unfold cntR at hr
    rw [hn] at hr
    simpa using hr)
  have HR := Lib.hid hR
  have HN := Lib.hid hn
  have HBY := Lib.hid hb
  have hplt := hR.lt
  have hN8 : N ≤ 8 := by omega
  have HS0 := Lib.hid hs0
  clear hr hn hR hb hnv hs0
  go_enter Try.func43, Try.ntmps43
  go_wp2_with fail
  refine (Count_next HR.out hl ha HBY.out _ HN.out).mono ?_
  rintro e w2 ⟨rfl, hb2, hR2⟩
  have HB2 := Lib.hid hb2
  have HR2 := Lib.hid hR2
  clear hb2 hR2 HR HN
  dsimp only at HR2 ⊢
  go_wp2_with fail
  go_loopw [6, 10] (fun u i wr => ∃ (v : Value) (k : Nat), k ≤ N ∧ v = u ∧ i = .int .i64 k ∧ But p w wr ∧ Rd wr p xs S ((lstR (rdFd xs) k s0).2.1 : Int) (lstR (rdFd xs) k s0).2.2 ∧ Hid (FAt wr w.heap.size u (lstR (rdFd xs) k s0).1)) (fun _ i _ => N - (intOf i).toNat)
  case atStart => exact ⟨_, 0, Nat.zero_le _, rfl, rfl, HB2.out, HR2.out, Lib.hid (FAt.nil_ _ _)⟩
  case round =>
    obtain ⟨u, k, hk, rfl, rfl, hbk, hRk, HAT⟩ := hrel
    have HBk := Lib.hid hbk
    have HRk := Lib.hid hRk
    have hle := (cod_lst (cod_fd HBY.out) k).le s0 HS0.out
    have hpl := lstR_len (rdFd xs) k s0
    clear hbk hRk
    by_cases hlt : k < N
    · obtain ⟨⟨x, s1⟩, hx⟩ : ∃ y, rdFd xs (lstR (rdFd xs) k s0).2 = y := ⟨_, rfl⟩
      have HL1 : Hid (lstR (rdFd xs) (k + 1) s0 = ((lstR (rdFd xs) k s0).1 ++ [x], s1)) := Lib.hid (by
        have e : lstR (rdFd xs) (k + 1) s0 = ((lstR (rdFd xs) k s0).1 ++ [(rdFd xs (lstR (rdFd xs) k s0).2).1], (rdFd xs (lstR (rdFd xs) k s0).2).2) := rfl
        rw [e, hx])
      obtain ⟨⟨pl, sk⟩, hsk⟩ : ∃ y, y = lstR (rdFd xs) k s0 := ⟨_, rfl⟩
      rw [← hsk] at HRk HAT hle hx HL1 hpl
      dsimp only at HRk HAT hle hx HL1 hpl
      have HX := Lib.hid hx
      have HPL := Lib.hid hpl
      have hpl8 : pl.length ≤ 8 := by omega
      have hkI : (k : Int) < (N : Int) := by omega
      clear hsk hx hpl
      go_wp2_with fail
      refine (getField_any HRk.out hl hle HBY.out (x, s1) HX.out).mono ?_
      rintro e w3 ⟨Af, nf, cf, rfl, hof, hb3, hR3⟩
      dsimp only at hof hR3 ⊢
      obtain ⟨xk, xp, xfl, xms⟩ := x
      dsimp only at hof ⊢
      have HOF := Lib.hid (hof.down HBk.out.size)
      clear hof
      have hs3 : wr.heap.size ≤ w3.heap.size := hb3.size
      have hws : w.heap.size ≤ wr.heap.size := HBk.out.size
      have hat3 := HAT.out.but hplt hb3
      obtain ⟨fs, hfs⟩ := hat3
      have hfl : fs.length = pl.length := by rw [← hfs.2.2, List.length_map]
      have hrow := hfs.1
      rw [hfl] at hrow
      have HFS := Lib.hid hfs
      have HFL := Lib.hid hfl
      clear hfs hfl
      have HB3 := Lib.hid (HBk.out.trans hb3)
      have HR3 := Lib.hid hR3
      have HROW := Lib.hid hrow
      clear hb3 hR3
      go_wp2_with (at_builtin; refine wpList_append_own _ rfl _ _ 40 rfl w.heap.size 45 i0 _ 4 48 Try.underlying40 hi hz0 hz1 hz2 rfl (by decide) u pl.length _ rfl (hrow.alloc _) ⟨w3.heap.size, 0, none⟩ 1 1 [.int .i64 xk, .int .i64 xp, .bool xfl, .slice Af nf cf] rfl rfl (cells_newL _ _ _) (by intro u hu; simp at hu; rcases hu with rfl | rfl | rfl | rfl <;> rfl) (by unfold maxLen; omega) (by omega) (by rw [World.size_alloc]; omega) ?_; intro v' w4 hown4 hgrow4 _; have HOW4 := Lib.hid hown4; have HG4 := Lib.hid hgrow4; clear hown4 hgrow4)
      go_roundw
      case rel =>
        have hal : Below w3.heap.size w3 (w3.alloc (.cells [.int .i64 xk, .int .i64 xp, .bool xfl, .slice Af nf cf].toArray 45)) := Bel.grew (Below.refl _ _) _
        have hob := fun g (hg : u.ownBlock = some g) => own_base HROW.out g hg
        refine ⟨_, k + 1, by omega, rfl, by go_num, (HB3.out.trans (But.of hal)).grownBy HG4.out hob, ?_, ?_⟩
        · rw [HL1.out]
          exact (HR3.out.below hal).grown HG4.out (fun g hg => by have := hob g hg; omega)
        · rw [HL1.out]
          dsimp only
          have hfs1 : FsAt _ _ _ _ _ := ⟨row_later HFS.out.1 hal, fun f hf => (HFS.out.2.1 f hf).later hal, HFS.out.2.2⟩
          refine Lib.hid ⟨fs ++ [⟨xk, xp, xfl, xms, .slice Af nf cf⟩], hfs1.snoc (HOF.out.later hal) HG4.out ?_⟩
          rw [HFL.out]; exact HOW4.out
      case measure => simp [intOf]; omega
    · have hk' : k = N := by omega
      subst hk'
      have hRR := HRR.out
      rw [hRR] at HRk HAT
      clear hle hpl hRR
      go_wp2_with fail
      go_ret
      exact ⟨_, rfl, HAT.out, HBk.out, HRk.out⟩

/-- A type read. -/
def RdTyRet (p : Nat) (xs : List Int) (S : Value) (r : List PF × Nat × Int) (w : World) (e : Ending) (w' : World) : Prop :=
  ∃ (fs : List Fd) (A : Option Addr) (n c : Nat), e = .returned (tyV ⟨fs, .slice A n c⟩) ∧ Ty.Own w' w.heap.size ⟨fs, .slice A n c⟩ ∧ fs.map Fd.pl = r.1 ∧ But p w w' ∧ Rd w' p xs S (r.2.1 : Int) r.2.2
set_option maxHeartbeats 4000000 in
theorem getType_any {xs : List Int} {S : Value} {p : Nat} {st : Nat × Int} {w : World} (hR : Rd w p xs S (st.1 : Int) st.2) (hl : xs.length ≤ 1099511627776) (ha : st.1 ≤ xs.length) (hb : Bytes xs) (r : List PF × Nat × Int) (hr : rdTy xs st = r) :
    Calls Try.prog 28 #[.pointer (some ⟨p, 0, none⟩)] w fun e w' => RdTyRet p xs S r w e w' := by
  obtain ⟨W, hW⟩ : ∃ W, W = w.alloc (.cells #[.slice none 0 0] 42) := ⟨_, rfl⟩
  have hB : Below w.heap.size w W := by rw [hW]; exact Bel.grew (Below.refl _ _) _
  have hC : Has W w.heap.size #[.slice none 0 0] := by rw [hW]; exact Has.new _ _ _
  have hfz : ∀ i, W.frozen? ⟨w.heap.size, i, none⟩ = false := by intro i; rw [hW]; simp [go_sem]
  have hplt := hR.lt
  have HR := Lib.hid (hR.below hB)
  have HB := Lib.hid hB
  have HW := Lib.hid hW
  have HBY := Lib.hid hb
  have HRR := Lib.hid hr
  have c0 := hC.2 0
  have f0 := hfz 0
  have hqs := hC.1
  have hne : w.heap.size ≠ p := by omega
  clear hR hB hW hC hfz hb hr
  go_enter Try.func28, Try.ntmps28
  go_wp2_with fail
  rw [← HW.out]
  clear HW
  refine (getsFd_any HR.out hl ha HBY.out _ HRR.out).mono ?_
  rintro e w3 ⟨v', rfl, ⟨fs, hfs⟩, hb3, hR3⟩
  obtain ⟨A, m, c, rfl⟩ := row_shape hfs.1
  have c3 := (hb3.cell (o := 0) hqs hne).trans c0
  have f3 := (hb3.frozen (o := 0) hqs hne).trans f0
  have hq3 : w.heap.size < w3.heap.size := Nat.lt_of_lt_of_le hqs hb3.size
  have hO3 : Ty.Own w3 W.heap.size ⟨fs, .slice A m c⟩ := hfs.own
  have HO := Lib.hid (Ty.Own.down (Ty.Own.setOther hO3 hqs 0 (.slice A m c)) (Nat.le_of_lt hqs))
  have HB3 := Lib.hid ((((But.of HB.out : But p w W).trans hb3)).fresh (Nat.le_refl _) 0 (.slice A m c))
  have HR3 := Lib.hid (hR3.other hplt 0 (.slice A m c))
  have HPL := Lib.hid hfs.2.2
  clear hfs hb3 hR3 hO3 c0 f0
  go_wp2_with fail
  obtain ⟨wf, hwf⟩ : ∃ wf, wf = w3.setCell ⟨w.heap.size, 0, none⟩ (.slice A m c) := ⟨_, rfl⟩
  have k0 : wf.cell? ⟨w.heap.size, 0, none⟩ = some (.slice A m c) := by rw [hwf]; exact World.cell?_setCell_same _ _ _ c3
  rw [← hwf] at HO HB3 HR3 ⊢
  clear hwf c3 f3
  simp [bodyPost, results, Try.results28, go_sem, k0]
  exact ⟨fs, A, m, c, rfl, HO.out, HPL.out, HB3.out, HR3.out⟩

/-- What a reading of a list leaves. -/
def GetsTyRet (p : Nat) (xs : List Int) (S : Value) (r : List (List PF) × Nat × Int) (w : World) (e : Ending) (w' : World) : Prop := ∃ v', e = .returned v' ∧ TAt w' w.heap.size v' r.1 ∧ But p w w' ∧ Rd w' p xs S (r.2.1 : Int) r.2.2
set_option maxHeartbeats 8000000 in
theorem getsTy_any {xs : List Int} {S : Value} {p : Nat} {st : Nat × Int} {w : World} (hR : Rd w p xs S (st.1 : Int) st.2) (hl : xs.length ≤ 1099511627776) (ha : st.1 ≤ xs.length) (hb : Bytes xs) (r : List (List PF) × Nat × Int) (hr : cntR xs 8 (rdTy xs) st = r) :
    Calls Try.prog 27 #[.pointer (some ⟨p, 0, none⟩), .int .i64 8, .func (.func 28) #[] #[]] w fun e w' => GetsTyRet p xs S r w e w' := by
  obtain ⟨i0, hi, hz0, hz1, hz2⟩ := info_parts infoTy
  obtain ⟨⟨n, s0⟩, hn⟩ : ∃ y, nextC xs 8 st = y := ⟨_, rfl⟩
  have hnv := nextC_val (xs := xs) (st := st) (most := 8) (by decide)
  have hs0 := nextC_le (xs := xs) (most := 8) ha
  rw [hn] at hnv hs0
  obtain ⟨N, hN⟩ := Int.eq_ofNat_of_zero_le hnv.1
  dsimp only at hN hnv hs0
  subst hN
  have HRR : Hid (lstR (rdTy xs) N s0 = r) := Lib.hid (by
    unfold cntR at hr
    rw [hn] at hr
    simpa using hr)
  have HR := Lib.hid hR
  have HN := Lib.hid hn
  have HBY := Lib.hid hb
  have hplt := hR.lt
  have hN8 : N ≤ 8 := by omega
  have HS0 := Lib.hid hs0
  clear hr hn hR hb hnv hs0
  go_enter Try.func27, Try.ntmps27
  go_wp2_with fail
  refine (Count_next HR.out hl ha HBY.out _ HN.out).mono ?_
  rintro e w2 ⟨rfl, hb2, hR2⟩
  have HB2 := Lib.hid hb2
  have HR2 := Lib.hid hR2
  clear hb2 hR2 HR HN
  dsimp only at HR2 ⊢
  go_wp2_with fail
  go_loopw [6, 10] (fun u i wr => ∃ (v : Value) (k : Nat), k ≤ N ∧ v = u ∧ i = .int .i64 k ∧ But p w wr ∧ Rd wr p xs S ((lstR (rdTy xs) k s0).2.1 : Int) (lstR (rdTy xs) k s0).2.2 ∧ Hid (TAt wr w.heap.size u (lstR (rdTy xs) k s0).1)) (fun _ i _ => N - (intOf i).toNat)
  case atStart => exact ⟨_, 0, Nat.zero_le _, rfl, rfl, HB2.out, HR2.out, Lib.hid (TAt.nil_ _ _)⟩
  case round =>
    obtain ⟨u, k, hk, rfl, rfl, hbk, hRk, HAT⟩ := hrel
    have HBk := Lib.hid hbk
    have HRk := Lib.hid hRk
    have hle := (cod_lst (cod_ty HBY.out) k).le s0 HS0.out
    have hpl := lstR_len (rdTy xs) k s0
    clear hbk hRk
    by_cases hlt : k < N
    · obtain ⟨⟨x, s1⟩, hx⟩ : ∃ y, rdTy xs (lstR (rdTy xs) k s0).2 = y := ⟨_, rfl⟩
      have HL1 : Hid (lstR (rdTy xs) (k + 1) s0 = ((lstR (rdTy xs) k s0).1 ++ [x], s1)) := Lib.hid (by
        have e : lstR (rdTy xs) (k + 1) s0 = ((lstR (rdTy xs) k s0).1 ++ [(rdTy xs (lstR (rdTy xs) k s0).2).1], (rdTy xs (lstR (rdTy xs) k s0).2).2) := rfl
        rw [e, hx])
      obtain ⟨⟨pl, sk⟩, hsk⟩ : ∃ y, y = lstR (rdTy xs) k s0 := ⟨_, rfl⟩
      rw [← hsk] at HRk HAT hle hx HL1 hpl
      dsimp only at HRk HAT hle hx HL1 hpl
      have HX := Lib.hid hx
      have HPL := Lib.hid hpl
      have hpl8 : pl.length ≤ 8 := by omega
      have hkI : (k : Int) < (N : Int) := by omega
      clear hsk hx hpl
      go_wp2_with fail
      refine (getType_any HRk.out hl hle HBY.out (x, s1) HX.out).mono ?_
      rintro e w3 ⟨fs, Af, nf, cf, rfl, hof, hpl2, hb3, hR3⟩
      dsimp only at hof hpl2 hR3 ⊢
      have HOF := Lib.hid (hof.down HBk.out.size)
      have HPL2 := Lib.hid hpl2
      clear hof hpl2
      have hs3 : wr.heap.size ≤ w3.heap.size := hb3.size
      have hws : w.heap.size ≤ wr.heap.size := HBk.out.size
      have hat3 := HAT.out.but hplt hb3
      obtain ⟨ts, hts⟩ := hat3
      have hfl : ts.length = pl.length := by rw [← hts.2.2, List.length_map]
      have hrow := hts.1
      rw [hfl] at hrow
      have HTS := Lib.hid hts
      have HFL := Lib.hid hfl
      clear hts hfl
      have HB3 := Lib.hid (HBk.out.trans hb3)
      have HR3 := Lib.hid hR3
      have HROW := Lib.hid hrow
      clear hb3 hR3
      go_wp2_with (at_builtin; refine wpList_append_own _ rfl _ _ 22 rfl w.heap.size 42 i0 _ 1 24 Try.underlying22 hi hz0 hz1 hz2 rfl (by decide) u pl.length _ rfl (hrow.alloc _) ⟨w3.heap.size, 0, none⟩ 1 1 [.slice Af nf cf] rfl rfl (cells_newL _ _ _) (by intro u hu; simp at hu; subst hu; rfl) (by unfold maxLen; omega) (by omega) (by rw [World.size_alloc]; omega) ?_; intro v' w4 hown4 hgrow4 _; have HOW4 := Lib.hid hown4; have HG4 := Lib.hid hgrow4; clear hown4 hgrow4)
      go_roundw
      case rel =>
        have hal : Below w3.heap.size w3 (w3.alloc (.cells [.slice Af nf cf].toArray 42)) := Bel.grew (Below.refl _ _) _
        have hob := fun g (hg : u.ownBlock = some g) => own_base HROW.out g hg
        refine ⟨_, k + 1, by omega, rfl, by go_num, (HB3.out.trans (But.of hal)).grownBy HG4.out hob, ?_, ?_⟩
        · rw [HL1.out]
          exact (HR3.out.below hal).grown HG4.out (fun g hg => by have := hob g hg; omega)
        · rw [HL1.out]
          dsimp only
          refine Lib.hid ⟨ts ++ [⟨fs, .slice Af nf cf⟩], ?_, ?_, ?_⟩
          · have h5 := HOW4.out
            rw [← HFL.out] at h5
            simpa using h5
          · intro t ht
            have hro : (w3.alloc (.cells #[.slice Af nf cf] 42)).ownsRow w.heap.size 42 1 u pl.length ((ts.map Ty.cells).flatten) := row_later HROW.out hal
            rcases List.mem_append.1 ht with h1 | h1
            · exact Ty.Own.grownT ((HTS.out.2.1 t h1).later hal) hro HG4.out
            · have := List.mem_singleton.1 h1
              subst this
              exact Ty.Own.grownT (HOF.out.later hal) hro HG4.out
          · rw [List.map_append, HTS.out.2.2, ← HPL2.out]; rfl
      case measure => simp [intOf]; omega
    · have hk' : k = N := by omega
      subst hk'
      have hRR := HRR.out
      rw [hRR] at HRk HAT
      clear hle hpl hRR
      go_wp2_with fail
      go_ret
      exact ⟨_, rfl, HAT.out, HBk.out, HRk.out⟩
end Go.Proofs.Ytjcocahhpjgbhaa
