/- quaysideref07.numbers. -/
import Derived.Test.YtjcocahhpjgbhaaMzDBig
import Derived.Test.YtjcocahhpjgbhaaMzDRef1
import Derived.Test.YtjcocahhpjgbhaaMg2
import Derived.Deep.RegionLaw
set_option maxRecDepth 100000
set_option maxRecDepth 100000
set_option maxRecDepth 100000
set_option linter.unusedVariables false
set_option linter.unusedSimpArgs false
namespace Go.Proofs.Ytjcocahhpjgbhaa
open Go.RowKit Go.BigFrame

theorem infoInt : (Try.prog.info? 3).map (fun i => (i.zero, i.size, i.bytes)) = some (some (.int .i64 0), 1, 8) := by kernel_rfl
/-- A literal is the call's own. -/
theorem OwnK.lit {k : IntKind} (w : World) (t : TypeId) (xs : List Int) (n b : Nat) (hn : n = xs.length) (hb : b = w.heap.size) (hl : xs.length ≤ 1099511627776) : OwnK k t (w.alloc (.cells (xs.map (Value.int k)).toArray t)) w.heap.size (.slice (some ⟨b, 0, none⟩) n n) xs := by
  subst hn hb
  exact ⟨by simp, .inr ⟨w.heap.size, xs.length, (xs.map (Value.int k)).toArray, rfl, Nat.le_refl _, heap_alloc_new w _, Nat.le_refl _, by unfold maxLen; omega, by simp, by simp [List.take_of_length_le]⟩⟩
theorem one07_any (b : Bool) (w : World) : Calls Try.prog 40 #[.bool b] w fun e w' => e = .returned (.int .i64 (bI b)) ∧ w = w' := by
  cases b
  all_goals
    go_enter Try.func40, Try.ntmps40
    go_wp2_with fail
    go_ret
    exact ⟨rfl, rfl⟩
def tyN (t : Ty) : List Int := nTy t.pl
def fdN (f : Fd) : List Int := nFd f.pl
theorem tyN_is (fs : List Fd) (v : Value) : tyN ⟨fs, v⟩ = (fs.length : Int) :: fs.flatMap fdN := by
  unfold tyN nTy Ty.pl fdN
  rw [List.length_map, List.flatMap_map]
theorem fdN_is (k p : Int) (fl : Bool) (ms : List Mv) (v : Value) : fdN ⟨k, p, fl, ms, v⟩ = [k, p, bI fl, (ms.length : Int)] ++ ms.flatMap nMv := by
  unfold fdN nFd Fd.pl
  simp
theorem fdN_le {f : Fd} (h : SmF 16 f) : (fdN f).length ≤ 68 := by
  obtain ⟨k, p, fl, ms, v⟩ := f
  rw [fdN_is]
  have h3 : (ms.flatMap nMv).length ≤ ms.length * 4 := flat_le fun m _ => by simp [nMv]
  unfold SmF at h
  dsimp only at h
  simp only [List.length_append, List.length_cons, List.length_nil]; omega
theorem tyN_le {t : Ty} (h : SmT 8 16 t) : (tyN t).length ≤ 545 := by
  obtain ⟨fs, v⟩ := t
  rw [tyN_is]
  have h3 : (fs.flatMap fdN).length ≤ fs.length * 68 := flat_le fun f hf => fdN_le (h.2 f hf)
  have := h.1
  dsimp only at this
  simp only [List.length_cons]; omega
theorem flat_take {α : Type} {N : α → List Int} {l : List α} {k : Nat} {x : α} (h : l[k]? = some x) : (l.take (k + 1)).flatMap N = (l.take k).flatMap N ++ N x := by
  rw [take_snoc h]; simp
theorem take_le {α : Type} {N : α → List Int} {l : List α} {c k m : Nat} (h : ∀ x ∈ l, (N x).length ≤ c) (hl : l.length ≤ m) : ((l.take k).flatMap N).length ≤ m * c := by
  have h1 : ((l.take k).flatMap N).length ≤ (l.take k).length * c := flat_le fun x hx => h x (List.mem_of_mem_take hx)
  have h2 : (l.take k).length ≤ m := by rw [List.length_take]; omega
  exact Nat.le_trans h1 (Nat.mul_le_mul_right c h2)
set_option maxHeartbeats 16000000 in
theorem numbers_any (D : Dc) (w : World) (hD : D.In w w.heap.size) (ht8 : D.ts.length ≤ 8) (hp8 : D.ps.length ≤ 8) (hsm : ∀ t ∈ D.ts, SmT 8 16 t) :
    Calls Try.prog 23 #[declV D] w fun e w' => ∃ A n c, n = (nDc D.pl).length ∧ e = .returned (.slice A n c) ∧ Sl .i64 w' w'.heap.size (.slice A n c) (nDc D.pl) ∧ Below w.heap.size w w' := by
  obtain ⟨ts, ps, tv, pv⟩ := D
  obtain ⟨A, c, h1⟩ := hD.1.shapeL
  obtain ⟨A', c', h2⟩ := hD.2.2.shapeL
  dsimp only at h1 h2 ht8 hp8 hsm
  subst h1 h2
  have hND : nDc (Dc.pl ⟨ts, ps, .slice A ts.length c, .slice A' ps.length c'⟩) = (([(ts.length : Int)] ++ ts.flatMap tyN) ++ [(ps.length : Int)]) ++ ps.flatMap nPj := by
    unfold nDc nTs nPs Dc.pl
    dsimp only
    have e : (ts.map Ty.pl).flatMap nTy = ts.flatMap tyN := by rw [List.flatMap_map]; rfl
    rw [List.length_map, e]
    simp
  obtain ⟨R, hR⟩ : ∃ R, R = nDc (Dc.pl ⟨ts, ps, .slice A ts.length c, .slice A' ps.length c'⟩) := ⟨_, rfl⟩
  rw [← hR] at hND ⊢
  clear hR
  have HND := Lib.hid hND
  have HSM := Lib.hid hsm
  have HTL : Hid (∀ k, ((ts.take k).flatMap tyN).length ≤ 4360) := Lib.hid fun k => take_le (c := 545) (m := 8) (fun t ht => tyN_le (hsm t ht)) ht8
  have HPL : Hid (∀ k, ((ps.take k).flatMap nPj).length ≤ 40) := Lib.hid fun k => take_le (N := nPj) (c := 5) (m := 8) (fun p _ => by simp [nPj]) hp8
  obtain ⟨W, hW⟩ : ∃ W, W = w.alloc (.cells #[.slice A ts.length c, .slice A' ps.length c'] 25) := ⟨_, rfl⟩
  have hB : Below w.heap.size w W := by rw [hW]; exact Bel.grew (Below.refl _ _) _
  have hC : Has W w.heap.size #[.slice A ts.length c, .slice A' ps.length c'] := by rw [hW]; exact Has.new _ _ _
  have hsz : W.heap.size = w.heap.size + 1 := by rw [hW]; simp
  obtain ⟨W1, hW1⟩ : ∃ W1, W1 = W.alloc (.cells #[.int .i64 (ts.length : Int)] 3) := ⟨_, rfl⟩
  have hB1 : Below W.heap.size W W1 := by rw [hW1]; exact Bel.grew (Below.refl _ _) _
  have hO1 : OwnK .i64 3 W1 W.heap.size (.slice (some ⟨w.heap.size + 1, 0, none⟩) 1 1) [(ts.length : Int)] := by
    rw [hW1]; exact OwnK.lit W 3 [(ts.length : Int)] 1 _ rfl hsz.symm (by simp)
  have HD := Lib.hid (hD.later hB)
  have HB := Lib.hid hB
  have HB1 := Lib.hid hB1
  have HO1 := Lib.hid hO1
  have HC := Lib.hid hC
  have HW := Lib.hid hW
  have HW1 := Lib.hid hW1
  have htI : (ts.length : Int) ≤ 8 := by omega
  have hpI : (ps.length : Int) ≤ 8 := by omega
  clear hD hB hC hW hsz hB1 hO1 hW1 hND hsm
  go_enter Try.func23, Try.ntmps23
  go_wp2_with fail
  rw [← HW.out, ← HW1.out]
  clear HW HW1
  go_loopw [3, 4] (fun l i wr => ∃ (v : Value) (k : Nat), k ≤ ts.length ∧ v = l ∧ i = .int .i64 k ∧ Below W.heap.size W wr ∧ Hid (OwnK .i64 3 wr W.heap.size v ([(ts.length : Int)] ++ (ts.take k).flatMap tyN))) (fun _ i _ => ts.length - (intOf i).toNat)
  case atStart => exact ⟨_, 0, Nat.zero_le _, rfl, rfl, HB1.out, Lib.hid (by simpa using HO1.out)⟩
  case round =>
    obtain ⟨v, k, hk, rfl, rfl, hb, HOV⟩ := hrel
    have HBk := Lib.hid hb
    have hc := (HC.out.later hb).2
    have hcl := (HC.out.later hb).1
    clear hb
    by_cases hlt : k < ts.length
    · obtain ⟨t, ht⟩ : ∃ t, ts[k]? = some t := ⟨_, List.getElem?_eq_getElem hlt⟩
      have HFT : Hid ((ts.take (k + 1)).flatMap tyN = (ts.take k).flatMap tyN ++ tyN t) := Lib.hid (flat_take ht)
      have hst := HSM.out t (List.mem_of_getElem? ht)
      obtain ⟨b, off, rfl, hbb, hcap, hcx⟩ := (HD.out.later HBk.out).1.at ht
      have hti := HD.out.2.1 t (List.mem_of_getElem? ht)
      obtain ⟨fs, fv⟩ := t
      rw [tyN_is] at HFT
      obtain ⟨A2, c2, h2⟩ := hti.1.shapeL
      dsimp only at h2
      subst h2
      have hct := hcx 0 _ rfl
      rw [Nat.mul_one, Nat.add_zero] at hct
      dsimp only at hct
      have hf8 := hst.1
      dsimp only at hf8
      have HSF : Hid (∀ f ∈ fs, SmF 16 f) := Lib.hid hst.2
      have HTI := Lib.hid hti
      have HFL : Hid (∀ j, ((fs.take j).flatMap fdN).length ≤ 544) := Lib.hid fun j => take_le (c := 68) (m := 8) (fun f hf => fdN_le (hst.2 f hf)) hf8
      have hkI : (k : Int) < (ts.length : Int) := by omega
      have hfI : (fs.length : Int) ≤ 8 := by omega
      have HBS := Lib.hid (Nat.le_trans (Nat.le_refl _) HBk.out.size)
      have hls : W.heap.size ≤ wr.heap.size := HBk.out.size
      obtain ⟨L0, hL0⟩ : ∃ L0, L0 = [(ts.length : Int)] ++ (ts.take k).flatMap tyN := ⟨_, rfl⟩
      rw [← hL0] at HOV
      have hL0l : L0.length ≤ 4361 := by rw [hL0]; have := HTL.out k; simp only [List.length_append, List.length_cons, List.length_nil]; omega
      have HL0 := Lib.hid hL0
      clear hcx hti ht hst hL0
      have hown := HOV.out
      go_wp2_with (at_builtin; refine wpList_append_sl rfl _ _ 59 rfl Try.underlying59 infoInt (by decide) rfl rfl (hown.grow _) (Sl.one _ _ (fs.length : Int) _ rfl) (by rw [List.length_cons, List.length_nil]; omega) (by rw [World.size_alloc]; omega) ?_; intro v1 w1 hown1 hb1)
      have hb1' : Below W.heap.size W w1 := (HBk.out.alloc hls _).trans hb1
      have HB1 := Lib.hid hb1'
      have HO1 := Lib.hid hown1
      have HTI1 := Lib.hid (HTI.out.later HBk.out)
      have hl1 : W.heap.size ≤ w1.heap.size := hb1'.size
      obtain ⟨W0, rfl⟩ : ∃ X, X = wr := ⟨_, rfl⟩
      clear hb1 hb1' hown1 hc hcl hct hown
      go_wp2_with fail
      go_loopw [3, 6] (fun l i wr => ∃ (v : Value) (j : Nat), j ≤ fs.length ∧ v = l ∧ i = .int .i64 j ∧ Below W.heap.size W wr ∧ Hid (OwnK .i64 3 wr W.heap.size v ((L0 ++ [(fs.length : Int)]) ++ (fs.take j).flatMap fdN))) (fun _ i _ => fs.length - (intOf i).toNat)
      case atStart => exact ⟨_, 0, Nat.zero_le _, rfl, rfl, HB1.out, Lib.hid (by simpa using HO1.out)⟩
      case round =>
        obtain ⟨v, j, hj, rfl, rfl, hb, HOV⟩ := hrel
        have HBj := Lib.hid hb
        have hls2 : W.heap.size ≤ wr.heap.size := hb.size
        clear hb
        by_cases hjl : j < fs.length
        · obtain ⟨f, hf⟩ : ∃ f, fs[j]? = some f := ⟨_, List.getElem?_eq_getElem hjl⟩
          have HFF : Hid ((fs.take (j + 1)).flatMap fdN = (fs.take j).flatMap fdN ++ fdN f) := Lib.hid (flat_take hf)
          have hsf := HSF.out f (List.mem_of_getElem? hf)
          obtain ⟨b2, off2, rfl, hb2b, hcap2, hcy⟩ := HTI.out.1.at hf
          have hfi0 := HTI.out.2 f (List.mem_of_getElem? hf)
          obtain ⟨fk, fp, ffl, ms, mv⟩ := f
          rw [fdN_is] at HFF
          unfold SmF at hsf
          dsimp only at hsf
          obtain ⟨A3, c3, h3⟩ := SlR.shapeL hfi0
          dsimp only at h3
          subst h3
          have hf0 := hcy 0 _ rfl
          have hf1 := hcy 1 _ rfl
          have hf2 := hcy 2 _ rfl
          have hf3 := hcy 3 _ rfl
          rw [Nat.add_zero] at hf0
          dsimp only at hf0 hf1 hf2 hf3
          have HSS : Hid (∀ w', Below W.heap.size W w' → w'.cell? ⟨b2, off2 + j * 4, none⟩ = some (.int .i64 fk) ∧ w'.cell? ⟨b2, off2 + j * 4 + 1, none⟩ = some (.int .i64 fp) ∧ w'.cell? ⟨b2, off2 + j * 4 + 2, none⟩ = some (.bool ffl) ∧ w'.cell? ⟨b2, off2 + j * 4 + 3, none⟩ = some (.slice A3 ms.length c3)) := Lib.hid fun w' h => ⟨(h.cell (p := ⟨b2, off2 + j * 4, none⟩) hb2b).trans hf0, (h.cell (p := ⟨b2, off2 + j * 4 + 1, none⟩) hb2b).trans hf1, (h.cell (p := ⟨b2, off2 + j * 4 + 2, none⟩) hb2b).trans hf2, (h.cell (p := ⟨b2, off2 + j * 4 + 3, none⟩) hb2b).trans hf3⟩
          clear hf0 hf1 hf2 hf3
          obtain ⟨hf0, hf1, hf2, hf3⟩ := HSS.out wr HBj.out
          have hb2r : b2 < wr.heap.size := Nat.lt_of_lt_of_le hb2b hls2
          have hj0 : (0 : Int) ≤ (j : Int) := by omega
          have hjI : (j : Int) < (fs.length : Int) := by omega
          have hmI : (ms.length : Int) ≤ 16 := by omega
          have HFI0 := Lib.hid hfi0
          obtain ⟨L1, hL1⟩ : ∃ L1, L1 = (L0 ++ [(fs.length : Int)]) ++ (fs.take j).flatMap fdN := ⟨_, rfl⟩
          rw [← hL1] at HOV
          have hL1l : L1.length ≤ 5000 := by rw [hL1]; have := HFL.out j; simp only [List.length_append, List.length_cons, List.length_nil]; omega
          have HL1 := Lib.hid hL1
          have HOA : Hid (OwnK .i64 3 (wr.alloc (.cells #[.int .i64 fk, .int .i64 fp, .int .i64 (bI ffl), .int .i64 (ms.length : Int)] 3)).drew W.heap.size v L1) := Lib.hid (HOV.out.later (Below.drew (Bel.grew (Below.refl _ _) _)))
          have HSA : Hid (Sl .i64 (wr.alloc (.cells #[.int .i64 fk, .int .i64 fp, .int .i64 (bI ffl), .int .i64 (ms.length : Int)] 3)).drew (wr.alloc (.cells #[.int .i64 fk, .int .i64 fp, .int .i64 (bI ffl), .int .i64 (ms.length : Int)] 3)).drew.heap.size (.slice (some ⟨wr.heap.size, 0, none⟩) 4 4) [fk, fp, bI ffl, (ms.length : Int)]) := Lib.hid ((Sl.built wr _ 3 [fk, fp, bI ffl, (ms.length : Int)] 4 _ rfl rfl rfl).later (Below.drew (Below.refl _ _)))
          have HSZ : Hid (W.heap.size ≤ (wr.alloc (.cells #[.int .i64 fk, .int .i64 fp, .int .i64 (bI ffl), .int .i64 (ms.length : Int)] 3)).drew.heap.size) := Lib.hid (by simp; omega)
          have HBA : Hid (Below W.heap.size W (wr.alloc (.cells #[.int .i64 fk, .int .i64 fp, .int .i64 (bI ffl), .int .i64 (ms.length : Int)] 3)).drew) := Lib.hid (Below.drew (HBj.out.alloc hls2 _))
          clear hcy hfi0 hf hL1
          go_wp2_with fail
          go_region_held3 (fun w' => w'.cell? ⟨b2, off2 + j * 4, none⟩ = some (.int .i64 fk) ∧ w'.cell? ⟨b2, off2 + j * 4 + 1, none⟩ = some (.int .i64 fp) ∧ w'.cell? ⟨b2, off2 + j * 4 + 2, none⟩ = some (.bool ffl) ∧ w'.cell? ⟨b2, off2 + j * 4 + 3, none⟩ = some (.slice A3 ms.length c3)) (first | go_keep | exact HSS.out _ (HBA.out.trans hbx)) (first
            | (go_at_call 40; refine (one07_any ffl _).mono ?_; rintro e w' ⟨rfl, rfl⟩)
            | (refine step_append_sl rfl _ _ 59 rfl Try.underlying59 infoInt (by decide) (by rfl) (by rfl) HOA.out HSA.out (by simp only [List.length_cons, List.length_nil]; omega) HSZ.out ?_; intro v2 w2 hown2 hbx))
          have hbx1 : Below W.heap.size W w2 := HBA.out.trans hbx
          have hl2 : W.heap.size ≤ w2.heap.size := hbx1.size
          have HBX := Lib.hid hbx1
          have HOX := Lib.hid hown2
          have HFI1 : Hid (SlR 4 W W.heap.size (.slice A3 ms.length c3) (ms.map Mv.cells)) := Lib.hid (HFI0.out)
          obtain ⟨W00, rfl⟩ : ∃ X, X = wr := ⟨_, rfl⟩
          clear hbx hbx1 hown2 hf0 hf1 hf2 hf3 HOA HSA HSZ HBA
          go_wp2_with fail
          go_loopw [3, 7] (fun l i wr => ∃ (v : Value) (q : Nat), q ≤ ms.length ∧ v = l ∧ i = .int .i64 q ∧ Below W.heap.size W wr ∧ Hid (OwnK .i64 3 wr W.heap.size v ((L1 ++ [fk, fp, bI ffl, (ms.length : Int)]) ++ (ms.take q).flatMap nMv))) (fun _ i _ => ms.length - (intOf i).toNat)
          case atStart => exact ⟨_, 0, Nat.zero_le _, rfl, rfl, HBX.out, Lib.hid (by simpa using HOX.out)⟩
          case round =>
            obtain ⟨v, q, hq, rfl, rfl, hb, HOV⟩ := hrel
            have HBq := Lib.hid hb
            have hls3 : W.heap.size ≤ wr.heap.size := hb.size
            obtain ⟨hf0, hf1, hf2, hf3⟩ := HSS.out wr hb
            have hb2r : b2 < wr.heap.size := Nat.lt_of_lt_of_le hb2b hls3
            clear hb
            by_cases hql : q < ms.length
            · obtain ⟨m, hm⟩ : ∃ m, ms[q]? = some m := ⟨_, List.getElem?_eq_getElem hql⟩
              have HMF : Hid ((ms.take (q + 1)).flatMap nMv = (ms.take q).flatMap nMv ++ nMv m) := Lib.hid (flat_take hm)
              obtain ⟨b4, off4, rfl, hb4b, hcap4, hcz⟩ := HFI1.out.at hm
              obtain ⟨m0, m1, m2, m3⟩ := m
              have hm0 := (HBq.out.cell (p := ⟨b4, off4 + q * 4 + 0, none⟩) hb4b).trans (hcz 0 _ rfl)
              have hm1 := (HBq.out.cell (p := ⟨b4, off4 + q * 4 + 1, none⟩) hb4b).trans (hcz 1 _ rfl)
              have hm2 := (HBq.out.cell (p := ⟨b4, off4 + q * 4 + 2, none⟩) hb4b).trans (hcz 2 _ rfl)
              have hm3 := (HBq.out.cell (p := ⟨b4, off4 + q * 4 + 3, none⟩) hb4b).trans (hcz 3 _ rfl)
              rw [Nat.add_zero] at hm0
              dsimp only at hm0 hm1 hm2 hm3
              have hb4r : b4 < wr.heap.size := Nat.lt_of_lt_of_le hb4b hls3
              have hqI : (q : Int) < (ms.length : Int) := by omega
              obtain ⟨L2, hL2⟩ : ∃ L2, L2 = (L1 ++ [fk, fp, bI ffl, (ms.length : Int)]) ++ (ms.take q).flatMap nMv := ⟨_, rfl⟩
              rw [← hL2] at HOV
              have hL2l : L2.length ≤ 6000 := by
                rw [hL2]
                have h := take_le (N := nMv) (c := 4) (m := 16) (k := q) (l := ms) (fun m _ => by simp [nMv]) hsf
                simp only [List.length_append, List.length_cons, List.length_nil]; omega
              have HL2 := Lib.hid hL2
              clear hcz hm hL2
              go_wp2_with (at_builtin; refine wpList_append_sl rfl _ _ 59 rfl Try.underlying59 infoInt (by decide) rfl rfl ((HOV.out.grow _).grow _) (Sl.built _ _ 3 [m0, m1, m2, m3] 4 _ rfl rfl (by simp)) (by simp only [List.length_cons, List.length_nil]; omega) (by rw [World.size_alloc, World.size_alloc]; omega) ?_; intro v3 w3 hown3 hb3)
              go_roundw
              case rel =>
                refine ⟨_, q + 1, by omega, rfl, by go_num, ((HBq.out.alloc hls3 _).alloc (by rw [World.size_alloc]; omega) _).trans hb3, Lib.hid ?_⟩
                rw [HMF.out, ← List.append_assoc, ← HL2.out]
                exact hown3
              case measure => simp [intOf]; omega
            · have hq' : q = ms.length := by omega
              subst hq'
              clear hf0 hf1 hf2
              go_wp2_with fail
              go_roundw
              case rel =>
                refine ⟨_, j + 1, by omega, rfl, by go_num, HBq.out, Lib.hid ?_⟩
                rw [HFF.out, ← List.append_assoc, ← HL1.out, ← List.append_assoc]
                have h := HOV.out
                rw [List.take_length] at h
                exact h
              case measure => simp [intOf]; omega
        · have hj' : j = fs.length := by omega
          subst hj'
          go_wp2_with fail
          go_roundw
          case rel =>
            refine ⟨_, k + 1, by omega, rfl, by go_num, HBj.out, Lib.hid ?_⟩
            rw [HFT.out, ← List.append_assoc, ← HL0.out]
            have h := HOV.out
            rw [List.take_length] at h
            rw [show L0 ++ ((fs.length : Int) :: fs.flatMap fdN) = (L0 ++ [(fs.length : Int)]) ++ fs.flatMap fdN from by simp]
            exact h
          case measure => simp [intOf]; omega
    · have hk' : k = ts.length := by omega
      subst hk'
      have hls : W.heap.size ≤ wr.heap.size := HBk.out.size
      rw [List.take_length] at HOV
      obtain ⟨L0, hL0⟩ : ∃ L0, L0 = [(ts.length : Int)] ++ ts.flatMap tyN := ⟨_, rfl⟩
      rw [← hL0] at HOV
      have hL0l : L0.length ≤ 4361 := by
        rw [hL0]
        have h := HTL.out ts.length
        rw [List.take_length] at h
        simp only [List.length_append, List.length_cons, List.length_nil]; omega
      have HL0 := Lib.hid hL0
      clear hL0
      go_wp2_with (at_builtin; refine wpList_append_sl rfl _ _ 59 rfl Try.underlying59 infoInt (by decide) rfl rfl (HOV.out.grow _) (Sl.one _ _ (ps.length : Int) _ rfl) (by rw [List.length_cons, List.length_nil]; omega) (by rw [World.size_alloc]; omega) ?_; intro v1 w1 hown1 hb1)
      have hb1' : Below W.heap.size W w1 := (HBk.out.alloc hls _).trans hb1
      have HB1 := Lib.hid hb1'
      have HO1 := Lib.hid hown1
      obtain ⟨W0, rfl⟩ : ∃ X, X = wr := ⟨_, rfl⟩
      clear hb1 hb1' hown1 hc hcl
      go_wp2_with fail
      go_loopw [3, 9] (fun l i wr => ∃ (v : Value) (j : Nat), j ≤ ps.length ∧ v = l ∧ i = .int .i64 j ∧ Below W.heap.size W wr ∧ Hid (OwnK .i64 3 wr W.heap.size v ((L0 ++ [(ps.length : Int)]) ++ (ps.take j).flatMap nPj))) (fun _ i _ => ps.length - (intOf i).toNat)
      case atStart => exact ⟨_, 0, Nat.zero_le _, rfl, rfl, HB1.out, Lib.hid (by simpa using HO1.out)⟩
      case round =>
        obtain ⟨v, j, hj, rfl, rfl, hb, HOV⟩ := hrel
        have HBj := Lib.hid hb
        have hls2 : W.heap.size ≤ wr.heap.size := hb.size
        have hc := (HC.out.later hb).2
        have hcl := (HC.out.later hb).1
        clear hb
        by_cases hjl : j < ps.length
        · obtain ⟨x, hx⟩ : ∃ x, ps[j]? = some x := ⟨_, List.getElem?_eq_getElem hjl⟩
          have HMF : Hid ((ps.take (j + 1)).flatMap nPj = (ps.take j).flatMap nPj ++ nPj x) := Lib.hid (flat_take hx)
          obtain ⟨b4, off4, rfl, hb4b, hcap4, hcz⟩ := HD.out.2.2.at hx
          obtain ⟨m0, m1, m2, m3, m4⟩ := x
          have hm0 := (HBj.out.cell (p := ⟨b4, off4 + j * 5 + 0, none⟩) hb4b).trans (hcz 0 _ rfl)
          have hm1 := (HBj.out.cell (p := ⟨b4, off4 + j * 5 + 1, none⟩) hb4b).trans (hcz 1 _ rfl)
          have hm2 := (HBj.out.cell (p := ⟨b4, off4 + j * 5 + 2, none⟩) hb4b).trans (hcz 2 _ rfl)
          have hm3 := (HBj.out.cell (p := ⟨b4, off4 + j * 5 + 3, none⟩) hb4b).trans (hcz 3 _ rfl)
          have hm4 := (HBj.out.cell (p := ⟨b4, off4 + j * 5 + 4, none⟩) hb4b).trans (hcz 4 _ rfl)
          rw [Nat.add_zero] at hm0
          dsimp only at hm0 hm1 hm2 hm3 hm4
          have hb4r : b4 < wr.heap.size := Nat.lt_of_lt_of_le hb4b hls2
          have hjI : (j : Int) < (ps.length : Int) := by omega
          obtain ⟨L2, hL2⟩ : ∃ L2, L2 = (L0 ++ [(ps.length : Int)]) ++ (ps.take j).flatMap nPj := ⟨_, rfl⟩
          rw [← hL2] at HOV
          have hL2l : L2.length ≤ 6000 := by
            rw [hL2]
            have h := HPL.out j
            simp only [List.length_append, List.length_cons, List.length_nil]; omega
          have HL2 := Lib.hid hL2
          clear hcz hx hL2
          go_wp2_with (at_builtin; refine wpList_append_sl rfl _ _ 59 rfl Try.underlying59 infoInt (by decide) rfl rfl ((HOV.out.grow _).grow _) (Sl.built _ _ 3 [m0, m1, m2, m3, m4] 5 _ rfl rfl (by simp)) (by simp only [List.length_cons, List.length_nil]; omega) (by rw [World.size_alloc, World.size_alloc]; omega) ?_; intro v3 w3 hown3 hb3)
          go_roundw
          case rel =>
            refine ⟨_, j + 1, by omega, rfl, by go_num, ((HBj.out.alloc hls2 _).alloc (by rw [World.size_alloc]; omega) _).trans hb3, Lib.hid ?_⟩
            rw [HMF.out, ← List.append_assoc, ← HL2.out]
            exact hown3
          case measure => simp [intOf]; omega
        · have hj' : j = ps.length := by omega
          subst hj'
          have hsl := HOV.out.sl
          rw [List.take_length, HL0.out, ← HND.out] at hsl
          obtain ⟨A9, c9, h9⟩ := hsl.shape
          obtain ⟨n9, hn9⟩ : ∃ n, n = R.length := ⟨_, rfl⟩
          rw [← hn9] at h9
          subst h9
          have HSL := Lib.hid hsl
          have HN9 := Lib.hid hn9
          clear hsl hn9 HOV
          go_wp2_with fail
          go_ret
          exact ⟨A9, n9, c9, HN9.out, rfl, HSL.out, HB.out.trans (HBj.out.mono HB.out.size)⟩
end Go.Proofs.Ytjcocahhpjgbhaa
