/- Declarations read: numbers into fields; moves, projections. -/
import Derived.Test.YtjcocahhpjgbhaaMzDeclP
import Derived.Test.YtjcocahhpjgbhaaMzDCopyD
import Derived.StillTailTactics
set_option maxRecDepth 100000
set_option maxRecDepth 100000
set_option maxRecDepth 100000
set_option linter.unusedVariables false
set_option linter.unusedSimpArgs false
namespace Go.Proofs.Ytjcocahhpjgbhaa
open Go.RowKit Go.BigFrame

/-- Of the old blocks p and q alone may have turned. -/
structure But2 (p q : Nat) (w w' : World) : Prop where
  os : w'.os = w.os
  tape : w'.tape = w.tape
  output : w'.output = w.output
  size : w.heap.size ≤ w'.heap.size
  block : ∀ k, k < w.heap.size → k ≠ p → k ≠ q → w'.heap[k]? = w.heap[k]?
theorem But2.refl (p q : Nat) (w : World) : But2 p q w w := ⟨rfl, rfl, rfl, Nat.le_refl _, fun _ _ _ _ => rfl⟩
theorem But2.trans {p q : Nat} {a b c : World} (h : But2 p q a b) (k : But2 p q b c) : But2 p q a c :=
  ⟨k.os.trans h.os, k.tape.trans h.tape, k.output.trans h.output, Nat.le_trans h.size k.size, fun i hi hp hq => (k.block i (Nat.lt_of_lt_of_le hi h.size) hp hq).trans (h.block i hi hp hq)⟩
theorem But2.of {p q : Nat} {a b : World} (h : But p a b) : But2 p q a b := ⟨h.os, h.tape, h.output, h.size, fun k hk hp _ => h.block k hk hp⟩
theorem But2.store {p q : Nat} {a b : World} (h : But2 p q a b) (o : Nat) (v : Value) : But2 p q a (b.setCell ⟨q, o, none⟩ v) :=
  h.trans ⟨rfl, rfl, rfl, by simp [World.setCell], fun k hk hp hq => Below.heap_setCell _ _ _ _ (by intro e; exact hq (by simpa using e))⟩
theorem But2.but {p q : Nat} {a b c : World} (h : But2 p q b c) (hb : Below a.heap.size a b) (hq : a.heap.size ≤ q) : But p a c :=
  ⟨h.os.trans hb.os, h.tape.trans hb.tape, h.output.trans hb.output, Nat.le_trans hb.size h.size, fun k hk hp => (h.block k (Nat.lt_of_lt_of_le hk hb.size) hp (by omega)).trans (hb.block k hk)⟩
theorem But2.cell {p q : Nat} {w w' : World} (h : But2 p q w w') {b o : Nat} (hb : b < w.heap.size) (hp : b ≠ p) (hq : b ≠ q) : w'.cell? ⟨b, o, none⟩ = w.cell? ⟨b, o, none⟩ := World.cell?_of_block (w := w) (a := ⟨b, o, none⟩) (h.block b hb hp hq)
theorem But2.frozen {p q : Nat} {w w' : World} (h : But2 p q w w') {b o : Nat} (hb : b < w.heap.size) (hp : b ≠ p) (hq : b ≠ q) : w'.frozen? ⟨b, o, none⟩ = w.frozen? ⟨b, o, none⟩ := World.frozen?_of_block (w := w) (a := ⟨b, o, none⟩) (h.block b hb hp hq)
/-- The cells of block q behind the reading of k numbers. -/
def Laid (w0 w : World) (q : Nat) (xs : List Int) (st : Nat × Int) (k : Nat) : Prop := (∀ o, w.cell? ⟨q, o, none⟩ = if o < k then some (.int .i64 (valN xs st o)) else w0.cell? ⟨q, o, none⟩) ∧ ∀ o, w.frozen? ⟨q, o, none⟩ = false
theorem Laid.but {w0 w w' : World} {p q : Nat} {xs : List Int} {st : Nat × Int} {k : Nat} (h : Laid w0 w q xs st k) (hb : But p w w') (hq : q < w.heap.size) (hp : q ≠ p) : Laid w0 w' q xs st k :=
  ⟨fun o => (hb.cell hq hp).trans (h.1 o), fun o => (hb.frozen hq hp).trans (h.2 o)⟩
theorem Laid.next {w0 w : World} {q : Nat} {xs : List Int} {st : Nat × Int} {k : Nat} (h : Laid w0 w q xs st k) {x : Int} (hx : valN xs st k = x) (hc : ∃ u, w.cell? ⟨q, k, none⟩ = some u) : Laid w0 (w.setCell ⟨q, k, none⟩ (.int .i64 x)) q xs st (k + 1) := by
  refine ⟨fun o => ?_, fun o => by rw [World.frozen?_setCell]; exact h.2 o⟩
  by_cases ho : o = k
  · subst ho
    obtain ⟨u, hu⟩ := hc
    rw [if_pos (by omega), hx]
    exact World.cell?_setCell_same w _ _ hu
  · rw [World.cell?_setCell_other w ⟨q, k, none⟩ ⟨q, o, none⟩ _ (by simp [ho]), h.1 o]
    by_cases ho2 : o < k
    · rw [if_pos ho2, if_pos (by omega)]
    · rw [if_neg ho2, if_neg (by omega)]
set_option maxHeartbeats 4000000 in
theorem rints_any {xs : List Int} {S : Value} {p q b n : Nat} {st : Nat × Int} {w : World} (hR : Rd w p xs S (st.1 : Int) st.2) (hl : xs.length ≤ 1099511627776) (ha : st.1 ≤ xs.length) (hb : Bytes xs) (hq : p < q) (hqs : q < w.heap.size)
    (hbs : b < w.heap.size) (hbq : q < b) (hn : n ≤ 1000) (hpt : ∀ j, j < n → w.cell? ⟨b, j, none⟩ = some (.pointer (some ⟨q, j, none⟩))) (hc : ∀ j, j < n → ∃ u, w.cell? ⟨q, j, none⟩ = some u) (hf : ∀ o, w.frozen? ⟨q, o, none⟩ = false) :
    Calls Try.prog 45 #[.pointer (some ⟨p, 0, none⟩), .slice (some ⟨b, 0, none⟩) n n] w fun e w' => e = .returned (.tuple #[]) ∧ But2 p q w w' ∧ Rd w' p xs S ((rdN xs st n).1 : Int) (rdN xs st n).2 ∧ Laid w w' q xs st n := by
  have HR := Lib.hid hR
  have HPT := Lib.hid hpt
  have HC := Lib.hid hc
  have HF := Lib.hid hf
  have HBY := Lib.hid hb
  have hnI : (n : Int) ≤ 1000 := by omega
  clear hR hpt hc hf hb
  go_enter Try.func45, Try.ntmps45
  go_wp2_with fail
  go_loopw [8] (fun i wr => ∃ k : Nat, k ≤ n ∧ i = .int .i64 k ∧ But2 p q w wr ∧ Rd wr p xs S ((rdN xs st k).1 : Int) (rdN xs st k).2 ∧ Hid (Laid w wr q xs st k)) (fun i _ => n - (intOf i).toNat)
  case atStart => exact ⟨0, Nat.zero_le _, rfl, But2.refl _ _ _, HR.out, Lib.hid ⟨fun o => by rw [if_neg (by omega)], HF.out⟩⟩
  case round =>
    obtain ⟨k, hk, rfl, hb2, hRk, HLk⟩ := hrel
    have HB2 := Lib.hid hb2
    have HRk := Lib.hid hRk
    have hle := rdN_le (xs := xs) (st := st) ha k
    obtain ⟨sk, hsk⟩ : ∃ sk, sk = rdN xs st k := ⟨_, rfl⟩
    rw [← hsk] at HRk hle
    have HSK := Lib.hid hsk
    clear hb2 hRk hsk
    by_cases hlt : k < n
    · have hpk := (HB2.out.cell (o := k) hbs (by omega) (by omega)).trans (HPT.out k hlt)
      obtain ⟨r, hr⟩ : ∃ r, r = nextI xs sk := ⟨_, rfl⟩
      have HRN : Hid (rdN xs st (k + 1) = r.2) := Lib.hid (by rw [rdN_succ, ← HSK.out, hr])
      have HVN : Hid (valN xs st k = r.1) := Lib.hid (by unfold valN; rw [← HSK.out, hr])
      have HNR := Lib.hid hr
      have hkI : (k : Int) < (n : Int) := by omega
      have hbr : b < wr.heap.size := Nat.lt_of_lt_of_le hbs HB2.out.size
      have hqr : q < wr.heap.size := Nat.lt_of_lt_of_le hqs HB2.out.size
      clear hr
      go_wp2_with fail
      refine (Int_next HRk.out hl hle HBY.out r HNR.out.symm).mono ?_
      rintro e w5 ⟨rfl, hb5, hR5⟩
      have hL5 := HLk.out.but hb5 hqr (by omega)
      have hc5 : w5.cell? ⟨q, k, none⟩ = w.cell? ⟨q, k, none⟩ := (hL5.1 k).trans (by rw [if_neg (by omega)])
      obtain ⟨u, hu⟩ := HC.out k hlt
      have hf5 := hL5.2 k
      have HL6 := Lib.hid (hL5.next HVN.out ⟨u, hc5.trans hu⟩)
      have HB6 := Lib.hid ((HB2.out.trans (But2.of hb5)).store k (.int .i64 r.1))
      have HR6 := Lib.hid (hR5.other hq k (.int .i64 r.1))
      have hu5 := hc5.trans hu
      have hq5 : q < w5.heap.size := Nat.lt_of_lt_of_le hqr hb5.size
      clear hb5 hR5 hL5 hc5 hu hpk
      go_wp2_with fail
      go_roundw
      case rel => exact ⟨k + 1, by omega, by go_num, HB6.out, by rw [HRN.out]; exact HR6.out, HL6⟩
      case measure => simp [intOf]; omega
    · have hk' : k = n := by omega
      subst hk'
      go_wp2_with fail
      go_end0
      exact ⟨rfl, HB2.out, by rw [← HSK.out]; exact HRk.out, HLk.out⟩
theorem keep1 {w : World} {q o : Nat} {v : Value} (h : w.cell? ⟨q, o, none⟩ = some v) (o' : Nat) : (w.setCell ⟨q, o, none⟩ v).cell? ⟨q, o', none⟩ = w.cell? ⟨q, o', none⟩ := by
  by_cases ho : o' = o
  · subst ho; rw [World.cell?_setCell_same w _ _ h, h]
  · exact World.cell?_setCell_other w ⟨q, o, none⟩ ⟨q, o', none⟩ _ (by simp [ho])
/-- Cells written over with what they hold. -/
theorem keepN {p : Nat} {xs : List Int} {S : Value} {a why : Int} {w : World} {q : Nat} : ∀ (cs : List (Nat × Value)) {w3 : World}, w.heap.size ≤ q → But p w w3 → Rd w3 p xs S a why → p < q → (∀ c ∈ cs, w3.cell? ⟨q, c.1, none⟩ = some c.2) →
    But p w (cs.foldl (fun w' c => w'.setCell ⟨q, c.1, none⟩ c.2) w3) ∧ Rd (cs.foldl (fun w' c => w'.setCell ⟨q, c.1, none⟩ c.2) w3) p xs S a why ∧ ∀ o, (cs.foldl (fun w' c => w'.setCell ⟨q, c.1, none⟩ c.2) w3).cell? ⟨q, o, none⟩ = w3.cell? ⟨q, o, none⟩
  | [], w3, _, hb, hR, _, _ => ⟨hb, hR, fun _ => rfl⟩
  | c :: cs, w3, hq, hb, hR, hp, hc => by
    have h0 := hc c (by simp)
    obtain ⟨h1, h2, h3⟩ := keepN cs (w3 := w3.setCell ⟨q, c.1, none⟩ c.2) hq (hb.fresh hq c.1 c.2) (hR.other hp c.1 c.2) hp (fun d hd => (keep1 h0 d.1).trans (hc d (by simp [hd])))
    exact ⟨h1, h2, fun o => (h3 o).trans (keep1 h0 o)⟩
/-- A plain value read. -/
def RdRet (p : Nat) (xs : List Int) (S : Value) (v : Value) (st : Nat × Int) (w : World) (e : Ending) (w' : World) : Prop := e = .returned v ∧ But p w w' ∧ Rd w' p xs S (st.1 : Int) st.2
-- GEN

set_option maxHeartbeats 4000000 in
theorem getMove_any {xs : List Int} {S : Value} {p : Nat} {st : Nat × Int} {w : World} (hR : Rd w p xs S (st.1 : Int) st.2) (hl : xs.length ≤ 1099511627776) (ha : st.1 ≤ xs.length) (hb : Bytes xs) (r : Mv × Nat × Int) (hr : rdMv xs st = r) :
    Calls Try.prog 56 #[.pointer (some ⟨p, 0, none⟩)] w fun e w' => RdRet p xs S (mvV r.1) r.2 w e w' := by
  obtain ⟨W, hW⟩ : ∃ W, W = (w.alloc (.cells #[.int .i64 0, .int .i64 0, .int .i64 0, .int .i64 0] 76)).alloc (.cells #[.pointer (some ⟨w.heap.size, 0, none⟩), .pointer (some ⟨w.heap.size, 1, none⟩), .pointer (some ⟨w.heap.size, 2, none⟩), .pointer (some ⟨w.heap.size, 3, none⟩)] 88) := ⟨_, rfl⟩
  have hB : Below w.heap.size w W := by rw [hW]; exact Bel.grew (Bel.grew (Below.refl _ _) _) _
  have hC : Has W w.heap.size #[.int .i64 0, .int .i64 0, .int .i64 0, .int .i64 0] := by rw [hW]; exact (Has.new w _ _).grow _
  have hP : Has W (w.heap.size + 1) #[.pointer (some ⟨w.heap.size, 0, none⟩), .pointer (some ⟨w.heap.size, 1, none⟩), .pointer (some ⟨w.heap.size, 2, none⟩), .pointer (some ⟨w.heap.size, 3, none⟩)] := by rw [hW]; exact Has.new1 _ _ _ (by simp)
  have hfz : ∀ i, W.frozen? ⟨w.heap.size, i, none⟩ = false := by intro i; rw [hW]; simp [go_sem]
  have hplt := hR.lt
  have HINTS := Lib.hid (rints_any (q := w.heap.size) (b := w.heap.size + 1) (n := 4) (hR.below hB) hl ha hb hplt hC.1 hP.1 (Nat.lt_succ_self _) (by decide) (fun j hj => by
    rw [hP.2]
    rcases (show j = 0 ∨ j = 1 ∨ j = 2 ∨ j = 3 from by omega) with rfl | rfl | rfl | rfl <;> rfl) (fun j hj => ⟨.int .i64 0, by
    rw [hC.2]
    rcases (show j = 0 ∨ j = 1 ∨ j = 2 ∨ j = 3 from by omega) with rfl | rfl | rfl | rfl <;> rfl⟩) hfz)
  have HR1 : Hid ((⟨valN xs st 0, valN xs st 1, valN xs st 2, valN xs st 3⟩ : Mv) = r.1 ∧ rdN xs st 4 = r.2) := by
    subst hr; exact Lib.hid ⟨rfl, rfl⟩
  have HB := Lib.hid hB
  have HW := Lib.hid hW
  have hqs := hC.1
  clear hr hR hb ha hl hB hW hC hP hfz
  go_enter Try.func56, Try.ntmps56
  go_wp2_with fail
  rw [← HW.out]
  clear HW
  refine HINTS.out.mono ?_
  rintro e w3 ⟨rfl, hb3, hR3, hL3⟩
  have c0 : w3.cell? ⟨w.heap.size, 0, none⟩ = some (.int .i64 (valN xs st 0)) := (hL3.1 0).trans (by rw [if_pos (by decide)])
  have c1 : w3.cell? ⟨w.heap.size, 1, none⟩ = some (.int .i64 (valN xs st 1)) := (hL3.1 1).trans (by rw [if_pos (by decide)])
  have c2 : w3.cell? ⟨w.heap.size, 2, none⟩ = some (.int .i64 (valN xs st 2)) := (hL3.1 2).trans (by rw [if_pos (by decide)])
  have c3 : w3.cell? ⟨w.heap.size, 3, none⟩ = some (.int .i64 (valN xs st 3)) := (hL3.1 3).trans (by rw [if_pos (by decide)])
  have hf3 := hL3.2
  have hq3 : w.heap.size < w3.heap.size := Nat.lt_of_lt_of_le hqs hb3.size
  have HB3 := Lib.hid (hb3.but HB.out (Nat.le_refl _))
  have HR3 := Lib.hid hR3
  clear hb3 hR3 hL3 HINTS hqs
  go_wp2_with fail
  have hk := (keepN (q := w.heap.size) [(0, .int .i64 (valN xs st 0)), (1, .int .i64 (valN xs st 1)), (2, .int .i64 (valN xs st 2)), (3, .int .i64 (valN xs st 3))] (Nat.le_refl _) HB3.out HR3.out hplt (by
    intro c hc
    simp only [List.mem_cons, List.not_mem_nil, or_false] at hc
    rcases hc with rfl | rfl | rfl | rfl
    · exact c0
    · exact c1
    · exact c2
    · exact c3))
  dsimp only [List.foldl_cons, List.foldl_nil] at hk
  obtain ⟨wf, hwf⟩ : ∃ wf, wf = ((((w3.setCell ⟨w.heap.size, 0, none⟩ (.int .i64 (valN xs st 0))).setCell ⟨w.heap.size, 1, none⟩ (.int .i64 (valN xs st 1))).setCell ⟨w.heap.size, 2, none⟩ (.int .i64 (valN xs st 2))).setCell ⟨w.heap.size, 3, none⟩ (.int .i64 (valN xs st 3))) := ⟨_, rfl⟩
  rw [← hwf] at hk ⊢
  have HK := Lib.hid hk
  have k0 := (HK.out.2.2 0).trans c0
  have k1 := (HK.out.2.2 1).trans c1
  have k2 := (HK.out.2.2 2).trans c2
  have k3 := (HK.out.2.2 3).trans c3
  clear hwf hk c0 c1 c2 c3
  simp [bodyPost, results, Try.results56, go_sem, k0, k1, k2, k3]
  exact ⟨by rw [← HR1.out.1], HK.out.1, by rw [← HR1.out.2]; exact HK.out.2.1⟩

set_option maxHeartbeats 4000000 in
theorem getProj_any {xs : List Int} {S : Value} {p : Nat} {st : Nat × Int} {w : World} (hR : Rd w p xs S (st.1 : Int) st.2) (hl : xs.length ≤ 1099511627776) (ha : st.1 ≤ xs.length) (hb : Bytes xs) (r : Pj × Nat × Int) (hr : rdPj xs st = r) :
    Calls Try.prog 30 #[.pointer (some ⟨p, 0, none⟩)] w fun e w' => RdRet p xs S (pjV r.1) r.2 w e w' := by
  obtain ⟨W, hW⟩ : ∃ W, W = (w.alloc (.cells #[.int .i64 0, .int .i64 0, .int .i64 0, .int .i64 0, .int .i64 0] 51)).alloc (.cells #[.pointer (some ⟨w.heap.size, 0, none⟩), .pointer (some ⟨w.heap.size, 1, none⟩), .pointer (some ⟨w.heap.size, 2, none⟩), .pointer (some ⟨w.heap.size, 3, none⟩), .pointer (some ⟨w.heap.size, 4, none⟩)] 88) := ⟨_, rfl⟩
  have hB : Below w.heap.size w W := by rw [hW]; exact Bel.grew (Bel.grew (Below.refl _ _) _) _
  have hC : Has W w.heap.size #[.int .i64 0, .int .i64 0, .int .i64 0, .int .i64 0, .int .i64 0] := by rw [hW]; exact (Has.new w _ _).grow _
  have hP : Has W (w.heap.size + 1) #[.pointer (some ⟨w.heap.size, 0, none⟩), .pointer (some ⟨w.heap.size, 1, none⟩), .pointer (some ⟨w.heap.size, 2, none⟩), .pointer (some ⟨w.heap.size, 3, none⟩), .pointer (some ⟨w.heap.size, 4, none⟩)] := by rw [hW]; exact Has.new1 _ _ _ (by simp)
  have hfz : ∀ i, W.frozen? ⟨w.heap.size, i, none⟩ = false := by intro i; rw [hW]; simp [go_sem]
  have hplt := hR.lt
  have HINTS := Lib.hid (rints_any (q := w.heap.size) (b := w.heap.size + 1) (n := 5) (hR.below hB) hl ha hb hplt hC.1 hP.1 (Nat.lt_succ_self _) (by decide) (fun j hj => by
    rw [hP.2]
    rcases (show j = 0 ∨ j = 1 ∨ j = 2 ∨ j = 3 ∨ j = 4 from by omega) with rfl | rfl | rfl | rfl | rfl <;> rfl) (fun j hj => ⟨.int .i64 0, by
    rw [hC.2]
    rcases (show j = 0 ∨ j = 1 ∨ j = 2 ∨ j = 3 ∨ j = 4 from by omega) with rfl | rfl | rfl | rfl | rfl <;> rfl⟩) hfz)
  have HR1 : Hid ((⟨valN xs st 0, valN xs st 1, valN xs st 2, valN xs st 3, valN xs st 4⟩ : Pj) = r.1 ∧ rdN xs st 5 = r.2) := by
    subst hr; exact Lib.hid ⟨rfl, rfl⟩
  have HB := Lib.hid hB
  have HW := Lib.hid hW
  have hqs := hC.1
  clear hr hR hb ha hl hB hW hC hP hfz
  go_enter Try.func30, Try.ntmps30
  go_wp2_with fail
  rw [← HW.out]
  clear HW
  refine HINTS.out.mono ?_
  rintro e w3 ⟨rfl, hb3, hR3, hL3⟩
  have c0 : w3.cell? ⟨w.heap.size, 0, none⟩ = some (.int .i64 (valN xs st 0)) := (hL3.1 0).trans (by rw [if_pos (by decide)])
  have c1 : w3.cell? ⟨w.heap.size, 1, none⟩ = some (.int .i64 (valN xs st 1)) := (hL3.1 1).trans (by rw [if_pos (by decide)])
  have c2 : w3.cell? ⟨w.heap.size, 2, none⟩ = some (.int .i64 (valN xs st 2)) := (hL3.1 2).trans (by rw [if_pos (by decide)])
  have c3 : w3.cell? ⟨w.heap.size, 3, none⟩ = some (.int .i64 (valN xs st 3)) := (hL3.1 3).trans (by rw [if_pos (by decide)])
  have c4 : w3.cell? ⟨w.heap.size, 4, none⟩ = some (.int .i64 (valN xs st 4)) := (hL3.1 4).trans (by rw [if_pos (by decide)])
  have hf3 := hL3.2
  have hq3 : w.heap.size < w3.heap.size := Nat.lt_of_lt_of_le hqs hb3.size
  have HB3 := Lib.hid (hb3.but HB.out (Nat.le_refl _))
  have HR3 := Lib.hid hR3
  clear hb3 hR3 hL3 HINTS hqs
  go_wp2_with fail
  have hk := (keepN (q := w.heap.size) [(0, .int .i64 (valN xs st 0)), (1, .int .i64 (valN xs st 1)), (2, .int .i64 (valN xs st 2)), (3, .int .i64 (valN xs st 3)), (4, .int .i64 (valN xs st 4))] (Nat.le_refl _) HB3.out HR3.out hplt (by
    intro c hc
    simp only [List.mem_cons, List.not_mem_nil, or_false] at hc
    rcases hc with rfl | rfl | rfl | rfl | rfl
    · exact c0
    · exact c1
    · exact c2
    · exact c3
    · exact c4))
  dsimp only [List.foldl_cons, List.foldl_nil] at hk
  obtain ⟨wf, hwf⟩ : ∃ wf, wf = (((((w3.setCell ⟨w.heap.size, 0, none⟩ (.int .i64 (valN xs st 0))).setCell ⟨w.heap.size, 1, none⟩ (.int .i64 (valN xs st 1))).setCell ⟨w.heap.size, 2, none⟩ (.int .i64 (valN xs st 2))).setCell ⟨w.heap.size, 3, none⟩ (.int .i64 (valN xs st 3))).setCell ⟨w.heap.size, 4, none⟩ (.int .i64 (valN xs st 4))) := ⟨_, rfl⟩
  rw [← hwf] at hk ⊢
  have HK := Lib.hid hk
  have k0 := (HK.out.2.2 0).trans c0
  have k1 := (HK.out.2.2 1).trans c1
  have k2 := (HK.out.2.2 2).trans c2
  have k3 := (HK.out.2.2 3).trans c3
  have k4 := (HK.out.2.2 4).trans c4
  clear hwf hk c0 c1 c2 c3 c4
  simp [bodyPost, results, Try.results30, go_sem, k0, k1, k2, k3, k4]
  exact ⟨by rw [← HR1.out.1], HK.out.1, by rw [← HR1.out.2]; exact HK.out.2.1⟩
end Go.Proofs.Ytjcocahhpjgbhaa
