/- Reading numbers one behind the other: plain facts, and the reading's contract. -/
import Derived.Test.YtjcocahhpjgbhaaMzCmd
set_option maxRecDepth 100000
set_option maxRecDepth 100000
set_option linter.unusedVariables false
set_option linter.unusedSimpArgs false
namespace Go.Proofs.Ytjcocahhpjgbhaa
open Go.RowKit Go.BigFrame

/-- The next number; where the reader stands then; why it failed. -/
def nextI (xs : List Int) (st : Nat × Int) : Int × Nat × Int :=
  if st.2 = 0 then (match numR (xs.drop st.1) with | .inl c => (0, st.1, c) | .inr (n, k) => (n, st.1 + k, 0)) else (0, st.1, st.2)
/-- Where the reader stands behind k numbers; why it failed. -/
def rdN (xs : List Int) (st : Nat × Int) : Nat → Nat × Int
  | 0 => st
  | k + 1 => (nextI xs (rdN xs st k)).2
/-- Number k. -/
def valN (xs : List Int) (st : Nat × Int) (k : Nat) : Int := (nextI xs (rdN xs st k)).1
theorem rdN_succ (xs : List Int) (st : Nat × Int) (k : Nat) : rdN xs st (k + 1) = (nextI xs (rdN xs st k)).2 := rfl
theorem stepR_next (xs : List Int) (a : Nat) (why : Int) : stepR (numR (xs.drop a)) a why = ((nextI xs (a, why)).1, ((nextI xs (a, why)).2.1 : Int), (nextI xs (a, why)).2.2) := by
  unfold stepR nextI
  by_cases h : why = 0
  · rw [if_pos h, if_pos h]
    dsimp only
    cases numR (xs.drop a) with
    | inl c => rfl
    | inr v => rfl
  · rw [if_neg h, if_neg h]
theorem nextI_le {xs : List Int} {st : Nat × Int} (h : st.1 ≤ xs.length) : (nextI xs st).2.1 ≤ xs.length := by
  unfold nextI
  split
  · split
    · exact h
    · rename_i n k hn
      have := numR_le hn
      rw [List.length_drop] at this
      show st.1 + k ≤ _
      omega
  · exact h
theorem rdN_le {xs : List Int} {st : Nat × Int} (h : st.1 ≤ xs.length) (k : Nat) : (rdN xs st k).1 ≤ xs.length := by
  induction k with
  | zero => exact h
  | succ k ih => rw [rdN_succ]; exact nextI_le ih
theorem rdN_add (xs : List Int) (st : Nat × Int) (i j : Nat) : rdN xs st (i + j) = rdN xs (rdN xs st i) j := by
  induction j with
  | zero => rfl
  | succ j ih => rw [← Nat.add_assoc, rdN_succ, rdN_succ, ih]
theorem valN_add (xs : List Int) (st : Nat × Int) (i j : Nat) : valN xs st (i + j) = valN xs (rdN xs st i) j := by
  unfold valN; rw [rdN_add]
theorem nextI_stop {xs : List Int} {st : Nat × Int} (h : st.2 ≠ 0) : nextI xs st = (0, st) := by
  unfold nextI; rw [if_neg h]
theorem rdN_stop {xs : List Int} {st : Nat × Int} (h : st.2 ≠ 0) (k : Nat) : rdN xs st k = st ∧ valN xs st k = 0 := by
  have e : ∀ k, rdN xs st k = st := by
    intro k
    induction k with
    | zero => rfl
    | succ k ih => rw [rdN_succ, ih, nextI_stop h]
  refine ⟨e k, ?_⟩
  unfold valN; rw [e k, nextI_stop h]

/-- What was laid is read. -/
theorem nextI_enc {xs : List Int} {a : Nat} {n : Int} {rest : List Int} (h0 : -9223372036854775808 ≤ n) (h1 : n ≤ 9223372036854775807) (hx : xs.drop a = encI n ++ rest) : nextI xs (a, 0) = (n, a + (encI n).length, 0) := by
  unfold nextI
  rw [if_pos rfl]
  dsimp only
  rw [hx, numR_enc h0 h1]
theorem rdN_enc {xs : List Int} {rest : List Int} : ∀ {l : List Int} {a : Nat}, I64s l → xs.drop a = encs l ++ rest → rdN xs (a, 0) l.length = (a + (encs l).length, 0) ∧ ∀ k, k < l.length → valN xs (a, 0) k = l[k]?.getD 0
  | [], a, _, _ => ⟨by simp [rdN, encs], by simp⟩
  | n :: l, a, h, hx => by
    have hn := h n (by simp)
    have e : encs (n :: l) = encI n ++ encs l := rfl
    rw [e, List.append_assoc] at hx
    have h1 := nextI_enc hn.1 hn.2 hx
    have hx2 : xs.drop (a + (encI n).length) = encs l ++ rest := by
      rw [← List.drop_drop, hx, List.drop_left]
    obtain ⟨i1, i2⟩ := rdN_enc (fun x hx => h x (by simp [hx])) hx2
    have hr : rdN xs (a, 0) 1 = (a + (encI n).length, 0) := by rw [rdN_succ]; show (nextI xs (a, 0)).2 = _; rw [h1]
    refine ⟨?_, fun k hk => ?_⟩
    · rw [List.length_cons, Nat.add_comm, rdN_add, hr, i1, e, List.length_append, Nat.add_assoc]
    · cases k with
      | zero => show (nextI xs (a, 0)).1 = _; rw [h1]; rfl
      | succ k =>
        rw [Nat.add_comm, valN_add, hr, i2 k (by simpa using hk), Nat.add_comm]
        rfl
/-- Of numbers whose last bytes are cut off not all are read. -/
theorem rdN_cut {xs : List Int} : ∀ {l : List Int} {a m : Nat}, I64s l → xs.drop a = (encs l).take m → m < (encs l).length → (rdN xs (a, 0) l.length).2 = 4
  | [], a, m, _, _, hm => by simp [encs] at hm
  | n :: l, a, m, h, hx, hm => by
    have hn := h n (by simp)
    have e : encs (n :: l) = encI n ++ encs l := rfl
    rw [e] at hx hm
    rw [List.length_append] at hm
    rw [List.length_cons, Nat.add_comm, rdN_add]
    by_cases hc : m < (encI n).length
    · have h1 : rdN xs (a, 0) 1 = (a, 4) := by
        rw [rdN_succ]
        show (nextI xs (a, 0)).2 = _
        unfold nextI
        rw [if_pos rfl]
        dsimp only
        rw [hx, List.take_append_of_le_length (by omega), numR_cut hn.1 hn.2 hc]
      rw [h1, (rdN_stop (show ((a, (4 : Int)) : Nat × Int).2 ≠ 0 from by show (4 : Int) ≠ 0; decide) _).1]
    · have hx2 : xs.drop a = encI n ++ (encs l).take (m - (encI n).length) := by rw [hx, List.take_append, List.take_of_length_le (by omega)]
      have h1 : rdN xs (a, 0) 1 = (a + (encI n).length, 0) := by
        rw [rdN_succ]; show (nextI xs (a, 0)).2 = _; rw [nextI_enc hn.1 hn.2 hx2]
      rw [h1]
      refine rdN_cut (fun x hx => h x (by simp [hx])) (m := m - (encI n).length) ?_ (by omega)
      rw [← List.drop_drop, hx2, List.drop_left]
theorem numR_err0 {l : List Int} {c : Int} (h : numR l = .inl c) : c = 4 ∨ c = 5 := by
  cases l with
  | nil => injection h with h; exact .inl h.symm
  | cons x t =>
    rw [numR_cons] at h
    split at h
    · injection h with h; exact .inr h.symm
    split at h
    · injection h with h; exact .inl h.symm
    split at h
    · injection h with h; exact .inr h.symm
    split at h
    all_goals
      split at h
      · cases h
      · injection h with h; exact .inr h.symm
/-- What was read has just these bytes. -/
theorem rdN_ok {xs : List Int} (hb : Bytes xs) {a : Nat} : ∀ {k : Nat}, (rdN xs (a, 0) k).2 = 0 → a ≤ (rdN xs (a, 0) k).1 ∧ (xs.drop a).take ((rdN xs (a, 0) k).1 - a) = encs (firstN (valN xs (a, 0)) k) ∧ I64s (firstN (valN xs (a, 0)) k)
  | 0, _ => by simp [rdN, encs, I64s]
  | k + 1, h => by
    rw [rdN_succ] at h ⊢
    obtain ⟨⟨b, why⟩, hst⟩ : ∃ st, rdN xs (a, 0) k = st := ⟨_, rfl⟩
    rw [hst] at h ⊢
    by_cases hw : why = 0
    · subst hw
      have ih := rdN_ok hb (a := a) (k := k) (by rw [hst])
      rw [hst] at ih
      dsimp only at ih
      obtain ⟨i1, i2, i3⟩ := ih
      cases hn : numR (xs.drop b) with
      | inl c =>
        unfold nextI at h
        rw [if_pos rfl] at h
        dsimp only at h
        rw [hn] at h
        dsimp only at h
        exact absurd hn (by
          intro hn'
          rw [h] at hn'
          rcases numR_err0 hn' with h | h <;> omega)
      | inr v =>
        obtain ⟨n, q⟩ := v
        have hnx : nextI xs (b, 0) = (n, b + q, 0) := by
          unfold nextI; rw [if_pos rfl]; dsimp only; rw [hn]
        have hval : valN xs (a, 0) k = n := by unfold valN; rw [hst, hnx]
        obtain ⟨j1, j2, j3⟩ := encI_numR (hb.drop b) hn
        rw [hnx]
        dsimp only
        refine ⟨by omega, ?_, ?_⟩
        · rw [firstN_succ, encs_snoc, ← i2, hval, j1, show b + q - a = (b - a) + q from by omega, List.take_add, List.drop_drop, show a + (b - a) = b from by omega]
        · rw [firstN_succ, hval]
          intro x hx
          rcases List.mem_append.1 hx with hx | hx
          · exact i3 x hx
          · have : x = n := by simpa using hx
            subst this; exact ⟨j2, j3⟩
    · rw [nextI_stop hw] at h
      exact absurd h hw

theorem Int_next {xs : List Int} {S : Value} {p : Nat} {st : Nat × Int} {w : World} (hR : Rd w p xs S (st.1 : Int) st.2) (hl : xs.length ≤ 1099511627776) (ha : st.1 ≤ xs.length) (hb : Bytes xs) (r : Int × Nat × Int) (hr : nextI xs st = r) :
    Calls Try.prog 57 #[.pointer (some ⟨p, 0, none⟩)] w fun e w' => e = .returned (.int .i64 r.1) ∧ But p w w' ∧ Rd w' p xs S (r.2.1 : Int) r.2.2 := by
  subst hr
  exact Int_any hR hl ha hb _ (stepR_next xs st.1 st.2)

theorem Rd.apart {w : World} {p : Nat} {xs : List Int} {S : Value} {a why : Int} (h : Rd w p xs S a why) {q : Nat} (hq : q ≠ p) (hS : ∀ b o n c, S = .slice (some ⟨b, o, none⟩) n c → b ≠ q) (o : Nat) (v : Value) : Rd (w.setCell ⟨q, o, none⟩ v) p xs S a why := by
  have hk : ∀ b i, b ≠ q → (w.setCell ⟨q, o, none⟩ v).cell? ⟨b, i, none⟩ = w.cell? ⟨b, i, none⟩ := fun b i hb => World.cell?_setCell_other w ⟨q, o, none⟩ ⟨b, i, none⟩ _ (by simp [hb])
  refine ⟨by simpa [World.setCell] using h.lt, ?_, (hk p 0 (Ne.symm hq)).trans h.c0, (hk p 1 (Ne.symm hq)).trans h.c1, (hk p 2 (Ne.symm hq)).trans h.c2, fun i => by rw [World.frozen?_setCell]; exact h.fz i⟩
  rcases h.sl with hn | ⟨b, off, c, hv, hlt, hc, hx⟩
  · exact .inl hn
  · exact .inr ⟨b, off, c, hv, hlt, hc, fun i hi => (hk b _ (hS b off _ c hv)).trans (hx i hi)⟩

set_option maxHeartbeats 1000000 in
/-- From: its bytes lie in new memory. -/
theorem From_new (xs : List Int) (v : Value) (w : World) (hx : Sl .u8 w w.heap.size v xs) (hl : xs.length ≤ 1099511627776) :
    Calls Try.prog 26 #[v] w fun e w' => ∃ p S, e = .returned (.pointer (some ⟨p, 0, none⟩)) ∧ w.heap.size ≤ p ∧ Below w.heap.size w w' ∧ Rd w' p xs S 0 0 ∧ ∀ b o n c, S = .slice (some ⟨b, o, none⟩) n c → w.heap.size ≤ b := by
  obtain ⟨A, c, rfl⟩ := hx.shape
  have HX := Lib.hid hx
  clear hx
  go_enter Try.func26, Try.ntmps26
  go_wp2_with (at_builtin; refine wpList_append_sl rfl _ _ 26 rfl Try.underlying26 infoBytes (by decide) rfl rfl (OwnK.nil_ w w.heap.size) HX.out (by rw [List.length_nil]; omega) (Nat.le_refl _) ?_; intro v' w1 hown hb1; have hs1 := hb1.size; rw [List.nil_append] at hown; have HS1 := Lib.hid hown.sl; have HSH := Lib.hid hown.shape; clear hown; obtain ⟨A1, c1, rfl⟩ := HS1.out.shape)
  go_ret
  refine ⟨w1.heap.size, .slice A1 xs.length c1, rfl, hs1, hb1.alloc hs1 _, ?_, ?_⟩
  · have hsl := HS1.out.below (Below.alloc (Below.refl w1.heap.size w1) (Nat.le_refl _) (.cells #[.slice A1 xs.length c1, .int .i64 0, .int .i64 0] 84))
    exact ⟨by simp, hsl, by simp [go_sem], by simp [go_sem], by simp [go_sem], fun i => by simp [go_sem]⟩
  · intro b o n c h
    rcases HSH.out with ⟨h1, _⟩ | ⟨g, cap, h1, hg, _⟩
    · rw [h] at h1; cases h1
    · rw [h] at h1
      injection h1 with h1 h2 h3
      injection h1 with h1
      injection h1 with h1
      omega
/-- Whether all was read. -/
def doneN (xs : List Int) (st : Nat × Int) : Int := doneR xs (st.1 : Int) st.2
end Go.Proofs.Ytjcocahhpjgbhaa
