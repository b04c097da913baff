/- event.Get: what it computes, and the state of its walk. -/
import Derived.Test.YtjjccjannandlaaMzEPut2
set_option maxRecDepth 100000
set_option linter.unusedVariables false
set_option linter.unusedSimpArgs false
namespace Go.Proofs.Ytjjccjannandlaa
open Go.RowKit Go.BigFrame

/-- The next number, from 0 to most; where the reader stands then; why it failed. -/
def nextC (xs : List Int) (most : Int) (st : Nat × Int) : Int × Nat × Int :=
  if st.2 = 0 then (match countR (xs.drop st.1) most with | .inl c => (0, st.1, c) | .inr (n, k) => (n, st.1 + k, 0)) else (0, st.1, st.2)
theorem stepR_nextC (xs : List Int) (most : Int) (a : Nat) (why : Int) : stepR (countR (xs.drop a) most) a why = ((nextC xs most (a, why)).1, ((nextC xs most (a, why)).2.1 : Int), (nextC xs most (a, why)).2.2) := by
  unfold stepR nextC
  by_cases h : why = 0
  · rw [if_pos h, if_pos h]
    dsimp only
    cases countR (xs.drop a) most with
    | inl c => rfl
    | inr v => rfl
  · rw [if_neg h, if_neg h]
/-- A count is a number that is not too great. -/
theorem nextC_next (xs : List Int) (most : Int) (st : Nat × Int) : nextC xs most st = if (nextI xs st).2.2 = 0 ∧ ¬ (0 ≤ (nextI xs st).1 ∧ (nextI xs st).1 ≤ most) then (0, st.1, 3) else nextI xs st := by
  obtain ⟨a, why⟩ := st
  unfold nextC nextI countR
  by_cases h : why = 0
  · subst h
    rw [if_pos rfl, if_pos rfl]
    dsimp only
    cases hn : numR (xs.drop a) with
    | inl c =>
      dsimp only
      have hc : c ≠ 0 := by rcases numR_err0 hn with h | h <;> omega
      rw [if_neg (by simp [hc])]
    | inr v =>
      dsimp only
      by_cases hc : 0 ≤ v.1 ∧ v.1 ≤ most
      · simp [hc]
      · simp [hc]
  · rw [if_neg h, if_neg h, if_neg (by simp [h])]
theorem nextC_bound (xs : List Int) (st : Nat × Int) : 0 ≤ (nextC xs 64 st).1 ∧ (nextC xs 64 st).1 ≤ 64 := by
  rw [nextC_next]
  split
  · exact ⟨Int.le_refl 0, (by decide : (0 : Int) ≤ 64)⟩
  · rename_i h
    by_cases h0 : (nextI xs st).2.2 = 0
    · by_cases hc : 0 ≤ (nextI xs st).1 ∧ (nextI xs st).1 ≤ 64
      · exact hc
      · exact absurd ⟨h0, hc⟩ h
    · have : (nextI xs st).1 = 0 := by
        revert h0
        unfold nextI
        split
        · split
          · intro; rfl
          · intro h0; exact absurd rfl h0
        · intro; rfl
      omega
theorem nextC_le {xs : List Int} {st : Nat × Int} (h : st.1 ≤ xs.length) : (nextC xs 64 st).2.1 ≤ xs.length := by
  rw [nextC_next]
  split
  · exact h
  · exact nextI_le h
theorem Count_next {xs : List Int} {S : Value} {p : Nat} {st : Nat × Int} {w : World} (hR : Rd w p xs S (st.1 : Int) st.2) (hl : xs.length ≤ 1099511627776) (ha : st.1 ≤ xs.length) (hb : Bytes xs) (r : Int × Nat × Int) (hr : nextC xs 64 st = r) :
    Calls Try.prog 50 #[.pointer (some ⟨p, 0, none⟩), .int .i64 64] w fun e w' => e = .returned (.int .i64 r.1) ∧ But p w w' ∧ Rd w' p xs S (r.2.1 : Int) r.2.2 := by
  subst hr
  exact Count_any hR hl ha hb _ (stepR_nextC xs 64 st.1 st.2)

/-- How many numbers an event's bytes say that there are; where the reader stands behind that. -/
def eC (xs : List Int) : Int × Nat × Int := nextC xs 64 (rdN xs (0, 0) 3)
def eN (xs : List Int) : Nat := (eC xs).1.toNat
/-- Where the reader stands behind these. -/
def eS (xs : List Int) : Nat × Int := rdN xs (eC xs).2 (eN xs)
/-- The code of what is read as an event; its numbers. -/
def eE (xs : List Int) : Int := doneN xs (rdN xs (eS xs) 6)
def eF (xs : List Int) (i : Nat) : Int := if i < 3 then valN xs (0, 0) i else valN xs (eS xs) (i - 3)
def eD (xs : List Int) : List Int := firstN (valN xs (eC xs).2) (eN xs)
/-- What Get answers. -/
def gF (xs : List Int) (i : Nat) : Int := if eE xs = 0 then eF xs i else 0
def gD (xs : List Int) : List Int := if eE xs = 0 then eD xs else []
theorem eN_le (xs : List Int) : eN xs ≤ 64 := by have := nextC_bound xs (rdN xs (0, 0) 3); unfold eN eC; omega

theorem Cells10.set' {w : World} {q k : Nat} {f g : Nat → Value} {x : Value} (h : Cells10 w q f) (hk : k < 10) (hg : ∀ o, o < 10 → g o = if o = k then x else f o) : Cells10 (w.setCell ⟨q, k, none⟩ x) q g := by
  intro o ho
  rw [World.frozen?_setCell, hg o ho]
  refine ⟨?_, (h o ho).2⟩
  by_cases he : o = k
  · subst he
    rw [if_pos rfl]
    exact World.cell?_setCell_same w _ _ (h o ho).1
  · rw [if_neg he]
    exact (World.cell?_setCell_other w ⟨q, k, none⟩ ⟨q, o, none⟩ _ (by simp [he])).trans (h o ho).1
/-- Where an event's number lies. -/
def offE (i : Nat) : Nat := if i < 3 then i else i + 1
theorem evC_num (f : Nat → Int) (dv : Value) (x : Int) {i o : Nat} (hi : i < 9) (ho : o < 10) : evC (fun j => if j = i then x else f j) dv o = if o = offE i then .int .i64 x else evC f dv o := by
  rcases (show i = 0 ∨ i = 1 ∨ i = 2 ∨ i = 3 ∨ i = 4 ∨ i = 5 ∨ i = 6 ∨ i = 7 ∨ i = 8 from by omega) with rfl | rfl | rfl | rfl | rfl | rfl | rfl | rfl | rfl
  all_goals
    rcases (show o = 0 ∨ o = 1 ∨ o = 2 ∨ o = 3 ∨ o = 4 ∨ o = 5 ∨ o = 6 ∨ o = 7 ∨ o = 8 ∨ o = 9 from by omega) with rfl | rfl | rfl | rfl | rfl | rfl | rfl | rfl | rfl | rfl
  all_goals rfl
theorem evC_deps (f : Nat → Int) (dv dv' : Value) {o : Nat} (ho : o < 10) : evC f dv' o = if o = 3 then dv' else evC f dv o := by
  rcases (show o = 0 ∨ o = 1 ∨ o = 2 ∨ o = 3 ∨ o = 4 ∨ o = 5 ∨ o = 6 ∨ o = 7 ∨ o = 8 ∨ o = 9 from by omega) with rfl | rfl | rfl | rfl | rfl | rfl | rfl | rfl | rfl | rfl
  all_goals rfl
theorem evC_at (f : Nat → Int) (dv : Value) {i : Nat} (hi : i < 9) : evC f dv (offE i) = .int .i64 (f i) := by
  rcases (show i = 0 ∨ i = 1 ∨ i = 2 ∨ i = 3 ∨ i = 4 ∨ i = 5 ∨ i = 6 ∨ i = 7 ∨ i = 8 from by omega) with rfl | rfl | rfl | rfl | rfl | rfl | rfl | rfl | rfl
  all_goals rfl

/-- The state of a reading: the result's cells, the reader, the event's cells. -/
structure GS (w : World) (p q : Nat) (xs : List Int) (S : Value) (wr : World) (st : Nat × Int) (f : Nat → Int) (dv : Value) : Prop where
  below : Below w.heap.size w wr
  lo : w.heap.size < p
  hi : p < q
  lt : q < wr.heap.size
  rd : Rd wr p xs S (st.1 : Int) st.2
  res : Cells10 wr w.heap.size (evC (fun _ => 0) (.slice none 0 0))
  ev : Cells10 wr q (evC f dv)
theorem Rd.far {w w' : World} {p B : Nat} {xs : List Int} {S : Value} {a why : Int} (h : Rd w p xs S a why) (hp : p < B) (hb : Below B w w') : Rd w' p xs S a why :=
  ⟨Nat.lt_of_lt_of_le h.lt hb.size, h.sl.below (hb.mono (by omega)), (hb.cell (p := ⟨p, 0, none⟩) hp).trans h.c0, (hb.cell (p := ⟨p, 1, none⟩) hp).trans h.c1, (hb.cell (p := ⟨p, 2, none⟩) hp).trans h.c2, fun i => (hb.frozen (p := ⟨p, i, none⟩) hp).trans (h.fz i)⟩
section
variable {w wr w' : World} {p q : Nat} {xs : List Int} {S : Value} {st st' : Nat × Int} {f f' : Nat → Int} {dv dv' : Value}
theorem GS.but (h : GS w p q xs S wr st f dv) (hb : But p wr w') (hR : Rd w' p xs S (st'.1 : Int) st'.2) : GS w p q xs S w' st' f dv := by
  have h1 := h.lo; have h2 := h.hi; have h3 := h.lt; have h4 := h.below.size; have h5 := hb.size
  exact ⟨h.below.trans (hb.below (by omega) h4), h1, h2, by omega, hR, h.res.but (by omega) (by omega) hb, h.ev.but h3 (by omega) hb⟩
theorem GS.far (h : GS w p q xs S wr st f dv) (hb : Below (q + 1) wr w') : GS w p q xs S w' st f dv := by
  have h1 := h.lo; have h2 := h.hi; have h3 := h.lt; have h4 := h.below.size; have h5 := hb.size
  exact ⟨h.below.trans (hb.mono (by omega)), h1, h2, by omega, h.rd.far (by omega) hb, h.res.below (by omega) hb, h.ev.below (by omega) hb⟩
theorem GS.later (h : GS w p q xs S wr st f dv) (hb : Below wr.heap.size wr w') : GS w p q xs S w' st f dv := h.far (hb.mono h.lt)
theorem GS.set (h : GS w p q xs S wr st f dv) {k : Nat} {v : Value} (hk : k < 10) (hg : ∀ o, o < 10 → evC f' dv' o = if o = k then v else evC f dv o) : GS w p q xs S (wr.setCell ⟨q, k, none⟩ v) st f' dv' := by
  have h1 := h.lo; have h2 := h.hi; have h3 := h.lt; have h4 := h.below.size
  exact ⟨h.below.setCell (by show w.heap.size ≤ q; omega) _, h1, h2, by simpa [World.setCell] using h3, h.rd.other h2 k v, h.res.setOther (by omega) _, h.ev.set' hk hg⟩
end
theorem OwnK.set {k : IntKind} {e : TypeId} {w : World} {B q : Nat} {v : Value} {xs : List Int} (h : OwnK k e w B v xs) (hq : q < B) (o : Nat) (x : Value) : OwnK k e (w.setCell ⟨q, o, none⟩ x) B v xs :=
  h.setOther (fun b hb => by have := own_base h.row b hb; omega) o x
end Go.Proofs.Ytjjccjannandlaa
