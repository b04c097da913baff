/- KitF, Cmd, Ints, CGet, CmdP, Ref, Ref2, Ref3, Ref4, RefPut, RefGet. -/
import Derived.Test.YtjjccjannandlaaDoorMg1
import Derived.Test.YtjjccjannandlaaDoorMg2
import Derived.BigRegion
import Derived.Test.YtjjccjannandlaaDoorKitInts
import Derived.StillTailTactics
set_option maxRecDepth 100000
/- append to a row of the call's own: what other rows keep. -/
set_option maxRecDepth 100000
set_option linter.unusedVariables false
set_option linter.unusedSimpArgs false
namespace Go.Proofs.YtjjccjannandlaaDoor
open Go.RowKit

/-- A row in another block is kept. -/
def Keeps (v : Value) (w w' : World) : Prop := ∀ (k2 : IntKind) (e2 : TypeId) (B2 : Nat) (y : Value) (zs : List Int), OwnK k2 e2 w B2 y zs → (∀ g, y.ownBlock = some g → v.ownBlock ≠ some g) → OwnK k2 e2 w' B2 y zs
theorem Keeps.refl (v : Value) (w : World) : Keeps v w w := fun _ _ _ _ _ h _ => h
theorem Keeps.grown {v : Value} {w w' : World} (hg : w.grownBy w' v.ownBlock) : Keeps v w w' := by
  intro k2 e2 B2 y zs h hne
  refine ⟨h.1, ?_⟩
  rcases h.2 with h2 | ⟨g, cap, cur, hv, hgB, hh, r⟩
  · exact .inl h2
  · have hlt : g < w.heap.size := by
      rcases Nat.lt_or_ge g w.heap.size with hlt | hge
      · exact hlt
      · rw [Array.getElem?_eq_none hge] at hh; cases hh
    exact .inr ⟨g, cap, cur, hv, hgB, (hg.block g hlt (fun e => hne g (by rw [hv]; rfl) e.symm)).trans hh, r⟩

/-- A row made behind another one lies apart from it. -/
theorem own_apart {k1 k2 : IntKind} {e1 e2 : TypeId} {w w2 : World} {B1 : Nat} {s r : Value} {xs ys : List Int} (h1 : OwnK k1 e1 w B1 s xs) (h2 : OwnK k2 e2 w2 w.heap.size r ys) : ∀ g, r.ownBlock = some g → s.ownBlock ≠ some g := by
  intro g hg hs
  have a := own_base h2.row g hg
  rcases h1.shape with ⟨rfl, _⟩ | ⟨g', cap, rfl, _, hlt, _⟩
  · simp [Value.ownBlock] at hs
  · have : g' = g := by simpa [Value.ownBlock] using hs
    omega

/-- append(v, u...): v the call's own, u whatever slice of integers. -/
theorem wpList_append_keep {P : Program} {w : World} {ops : Array Oper} {rest : List Oper} {o : Oper} {a : Act} {Q : Exit → Act → World → Prop} (hgd : o.guard = none) (s x : Operand) (t : TypeId)
    (ho : o.op = .call { callee := .builtin .append, args := #[s, x], argTypes := #[t, t] })
    {k : IntKind} {e : TypeId} {bytes : Nat} (hu : P.underlying t = some (.slice e)) (hinfo : (P.info? e).map (fun i => (i.zero, i.size, i.bytes)) = some (some (.int k 0), 1, bytes)) (hby : bytes ≤ 8)
    {B : Nat} {v u : Value} {xs ys : List Int} (hs : a.eval s = v) (hx : a.eval x = u) (hown : OwnK k e w B v xs) (hsrc : Sl k w w.heap.size u ys) (hl : xs.length + ys.length ≤ 4398046511104) (hB : B ≤ w.heap.size)
    (h : ∀ v' w', OwnK k e w' B v' (xs ++ ys) → Below B w w' → Keeps v w w' → wpList P ops Q rest (a.put o.dst v') w') : wpList P ops Q (o :: rest) a w := by
  obtain ⟨i0, hi, hz0, hz1, hz2⟩ := info_parts hinfo
  obtain ⟨A, c, rfl⟩ := hsrc.shape
  cases A with
  | none =>
    have hy : ys = [] := by
      rcases hsrc with ⟨A', c', hv, rfl⟩ | ⟨b, off, c', hv, _⟩
      · rfl
      · cases hv
    subst hy
    refine wpList_plain hgd fun K hK => ?_
    have hrun := run_append_nothing (P := P) (w := w) B t o.type e i0 1 c hu hi v _ _ hown.row
    unfold Oper.wp
    simp [execOp, ho, resolve, invoke, builtin, hs, hx, hrun, Result.andThen]
    exact hK _ _ (h v w (by simpa using hown) (Below.refl _ _) (Keeps.refl _ _))
  | some ad =>
    refine wpList_append_own _ hgd s x t ho B e i0 (.int k 0) 1 bytes hu hi hz0 hz1 hz2 rfl (by decide) v xs.length _ hs hown.row ad ys.length c (ys.map (Value.int k)) hx (by simp) hsrc.cells ?_ ?_ ?_ hB ?_
    · intro u hu; simp at hu; obtain ⟨x, _, rfl⟩ := hu; rfl
    · unfold maxLen; omega
    · exact Nat.le_trans (Nat.mul_le_mul (Nat.le_refl _) hby) (by omega)
    · intro v' w' ho' hg hn
      exact h v' w' (OwnK.of ho' (by simp) (by simp)) ((Below.refl _ _).grown hg hB (own_base hown.row)) (Keeps.grown hg)
end Go.Proofs.YtjjccjannandlaaDoor

/- command.fields and command.Put. -/
set_option maxRecDepth 100000
set_option linter.unusedVariables false
set_option linter.unusedSimpArgs false
namespace Go.Proofs.YtjjccjannandlaaDoor
open Go.RowKit Go.BigFrame

/-- A command's value. -/
abbrev cmdV (v : Nat → Int) : Value := .agg #[.int .i64 (v 0), .int .i64 (v 1), .int .i64 (v 2), .int .i64 (v 3), .int .i64 (v 4), .int .i64 (v 5), .int .i64 (v 6)]
abbrev ptrs7 (q : Nat) : Value := .agg #[.pointer (some ⟨q, 0, none⟩), .pointer (some ⟨q, 1, none⟩), .pointer (some ⟨q, 2, none⟩), .pointer (some ⟨q, 3, none⟩), .pointer (some ⟨q, 4, none⟩), .pointer (some ⟨q, 5, none⟩), .pointer (some ⟨q, 6, none⟩)]

set_option maxHeartbeats 2000000 in
theorem fields_any (q : Nat) (w : World) : Calls Tryd.prog 39 #[.pointer (some ⟨q, 0, none⟩)] w fun e w' => e = .returned (ptrs7 q) ∧ Below w.heap.size w w' := by
  go_enter Tryd.func39, Tryd.ntmps39
  go_wp2
  go_region
  go_wp2
  have hB : ∀ o, Below w.heap.size w (w.alloc o).drew := fun o => Below.drew ((Below.refl w.heap.size w).alloc (Nat.le_refl _) o)
  simp [bodyPost, results, Tryd.results39, go_sem, hB]

/-- Numbers, one behind the other. -/
def encs (l : List Int) : List Int := l.flatMap encI
theorem encs_snoc (l : List Int) (n : Int) : encs (l ++ [n]) = encs l ++ encI n := by simp [encs]
theorem encs_append (l t : List Int) : encs (l ++ t) = encs l ++ encs t := by simp [encs]
def I64s (l : List Int) : Prop := ∀ n ∈ l, -9223372036854775808 ≤ n ∧ n ≤ 9223372036854775807
theorem encs_le {l : List Int} (h : I64s l) : (encs l).length ≤ 9 * l.length := by
  induction l with
  | nil => simp [encs]
  | cons n l ih =>
    have h1 := h n (by simp)
    have h2 := nb_le (u := mag n) (by have := mag_lt h1.1 h1.2; omega)
    have h3 := ih (fun x hx => h x (by simp [hx]))
    have e : encs (n :: l) = encI n ++ encs l := rfl
    rw [e, List.length_append, encI_length, List.length_cons]; omega
/-- The first k numbers of a command. -/
abbrev firstN (v : Nat → Int) (k : Nat) : List Int := (List.range k).map v
theorem firstN_succ (v : Nat → Int) (k : Nat) : firstN v (k + 1) = firstN v k ++ [v k] := by unfold firstN; rw [List.range_succ, List.map_append]; rfl
theorem firstN_64 {v : Nat → Int} {n k : Nat} (h : ∀ i, i < n → -9223372036854775808 ≤ v i ∧ v i ≤ 9223372036854775807) (hk : k ≤ n) : I64s (firstN v k) := by
  intro x hx
  obtain ⟨i, hi, rfl⟩ := List.mem_map.1 hx
  have := List.mem_range.1 hi
  exact h i (by omega)

theorem run_index7 (q k : Nat) (hk : k < 7) (W : World) : (Instr.index 79 (ptrs7 q) (.int .i64 (k : Int))).run Tryd.prog W = .ok (.pointer (some ⟨q, k, none⟩)) W := by
  rcases (show k = 0 ∨ k = 1 ∨ k = 2 ∨ k = 3 ∨ k = 4 ∨ k = 5 ∨ k = 6 from by omega) with rfl | rfl | rfl | rfl | rfl | rfl | rfl
  all_goals kernel_rfl

set_option maxHeartbeats 4000000 in
theorem cPut_any (v : Nat → Int) (w : World) (h64 : ∀ i, i < 7 → -9223372036854775808 ≤ v i ∧ v i ≤ 9223372036854775807) :
    Calls Tryd.prog 20 #[cmdV v] w fun e w' => ∃ r, e = .returned r ∧ OwnBytes w' w.heap.size r (encs (firstN v 7)) ∧ Below w.heap.size w w' := by
  have H64 := Lib.hid h64
  clear h64
  go_enter Tryd.func20, Tryd.ntmps20
  obtain ⟨w1, hw1⟩ : ∃ w1, w1 = w.alloc (.cells #[.int .i64 (v 0), .int .i64 (v 1), .int .i64 (v 2), .int .i64 (v 3), .int .i64 (v 4), .int .i64 (v 5), .int .i64 (v 6)] 27) := ⟨_, rfl⟩
  have hB1 : Below w.heap.size w w1 := by rw [hw1]; exact (Below.refl _ _).alloc (Nat.le_refl _) _
  have hs1 : w1.heap.size = w.heap.size + 1 := by rw [hw1]; simp
  have hc : ∀ i, i < 7 → w1.cell? ⟨w.heap.size, i, none⟩ = some (.int .i64 (v i)) := by
    intro i hi
    rw [hw1]
    rcases (show i = 0 ∨ i = 1 ∨ i = 2 ∨ i = 3 ∨ i = 4 ∨ i = 5 ∨ i = 6 from by omega) with rfl | rfl | rfl | rfl | rfl | rfl | rfl
    all_goals simp [go_sem]
  have HW1 := Lib.hid hw1
  have HC := Lib.hid hc
  have HB1 := Lib.hid hB1
  have HS1 := Lib.hid hs1
  clear hw1 hc hB1 hs1
  go_wp2_with fail
  rw [← HW1.out]
  refine (fields_any w.heap.size w1).mono ?_
  rintro e w2 ⟨rfl, hb2⟩
  have HB2 := Lib.hid hb2
  clear hb2
  go_wp2_with fail
  go_loopw [3, 7] (fun b i wr => ∃ k : Nat, k ≤ 7 ∧ i = .int .i64 k ∧ OwnBytes wr w2.heap.size b (encs (firstN v k)) ∧ Below w2.heap.size w2 wr) (fun _ i _ => 7 - (intOf i).toNat)
  case atStart => exact ⟨0, by omega, rfl, OwnK.nil_ _ _, Below.refl _ _⟩
  case round =>
    obtain ⟨k, hk, rfl, hown, hb⟩ := hrel
    have HO := Lib.hid hown
    have HB := Lib.hid hb
    clear hown hb
    by_cases hk7 : k < 7
    · have hck : wr.cell? ⟨w.heap.size, k, none⟩ = some (.int .i64 (v k)) := by
        have h1 := HB2.out.size
        have h2 := HS1.out
        exact (HB.out.cell (p := ⟨w.heap.size, k, none⟩) (by show w.heap.size < _; omega)).trans ((HB2.out.cell (p := ⟨w.heap.size, k, none⟩) (by show w.heap.size < _; omega)).trans (HC.out k hk7))
      have hbk := H64.out k hk7
      have hlen := encs_le (firstN_64 H64.out (k := k) (by omega))
      have HSU := Lib.hid (congrArg encs (firstN_succ v k))
      have HL : Hid ((encs (firstN v k)).length ≤ 1099511627776) := by
        have : (firstN v k).length = k := by simp
        rw [this] at hlen
        exact Lib.hid (by omega)
      obtain ⟨x, hx⟩ : ∃ x, x = v k := ⟨_, rfl⟩
      rw [← hx] at hck hbk HSU
      have hs2 := HB.out.size
      clear hlen hx
      have hix := run_index7 w.heap.size k hk7
      have hkI : (k : Int) < 7 := by omega
      go_wp2_with fail
      refine (pint_any _ x _ _ _ HO.out.sl (Nat.le_refl _) HL.out hbk.1 hbk.2).mono ?_
      rintro e w3 ⟨r, rfl, hr, hb3⟩
      rw [← encs_snoc, ← HSU.out] at hr
      have HR := Lib.hid (hr.down hs2)
      have HB3 := Lib.hid (Bel.then HB.out hb3)
      clear hr hb3
      go_wp2_with fail
      go_roundw
      case rel => exact ⟨k + 1, by omega, by go_num, HR.out, HB3.out⟩
      case measure => simp [intOf]; omega
    · have hk4 : k = 7 := by omega
      subst hk4
      go_wp2
      go_ret
      have hs := HB1.out.size
      have hs2 := HB2.out.size
      exact ⟨_, rfl, HO.out.down (by omega), HB1.out.trans ((HB2.out.mono hs).trans (HB.out.mono (by omega)))⟩
end Go.Proofs.YtjjccjannandlaaDoor

/- Reading numbers one behind the other: plain facts, and the reading's contract. -/
set_option maxRecDepth 100000
set_option linter.unusedVariables false
set_option linter.unusedSimpArgs false
namespace Go.Proofs.YtjjccjannandlaaDoor
open Go.RowKit Go.BigFrame

/-- The next number; where the reader stands then; why it failed. -/
def nextI (xs : List Int) (st : Nat × Int) : Int × Nat × Int :=
  if st.2 = 0 then (match numR (xs.drop st.1) with | .inl c => (0, st.1, c) | .inr (n, k) => (n, st.1 + k, 0)) else (0, st.1, st.2)
/-- Where the reader stands behind k numbers; why it failed. -/
def rdN (xs : List Int) (st : Nat × Int) : Nat → Nat × Int
  | 0 => st
  | k + 1 => (nextI xs (rdN xs st k)).2
/-- Number k. -/
def valN (xs : List Int) (st : Nat × Int) (k : Nat) : Int := (nextI xs (rdN xs st k)).1
theorem rdN_succ (xs : List Int) (st : Nat × Int) (k : Nat) : rdN xs st (k + 1) = (nextI xs (rdN xs st k)).2 := rfl
theorem stepR_next (xs : List Int) (a : Nat) (why : Int) : stepR (numR (xs.drop a)) a why = ((nextI xs (a, why)).1, ((nextI xs (a, why)).2.1 : Int), (nextI xs (a, why)).2.2) := by
  unfold stepR nextI
  by_cases h : why = 0
  · rw [if_pos h, if_pos h]
    dsimp only
    cases numR (xs.drop a) with
    | inl c => rfl
    | inr v => rfl
  · rw [if_neg h, if_neg h]
theorem nextI_le {xs : List Int} {st : Nat × Int} (h : st.1 ≤ xs.length) : (nextI xs st).2.1 ≤ xs.length := by
  unfold nextI
  split
  · split
    · exact h
    · rename_i n k hn
      have := numR_le hn
      rw [List.length_drop] at this
      show st.1 + k ≤ _
      omega
  · exact h
theorem rdN_le {xs : List Int} {st : Nat × Int} (h : st.1 ≤ xs.length) (k : Nat) : (rdN xs st k).1 ≤ xs.length := by
  induction k with
  | zero => exact h
  | succ k ih => rw [rdN_succ]; exact nextI_le ih
theorem rdN_add (xs : List Int) (st : Nat × Int) (i j : Nat) : rdN xs st (i + j) = rdN xs (rdN xs st i) j := by
  induction j with
  | zero => rfl
  | succ j ih => rw [← Nat.add_assoc, rdN_succ, rdN_succ, ih]
theorem valN_add (xs : List Int) (st : Nat × Int) (i j : Nat) : valN xs st (i + j) = valN xs (rdN xs st i) j := by
  unfold valN; rw [rdN_add]
theorem nextI_stop {xs : List Int} {st : Nat × Int} (h : st.2 ≠ 0) : nextI xs st = (0, st) := by
  unfold nextI; rw [if_neg h]
theorem rdN_stop {xs : List Int} {st : Nat × Int} (h : st.2 ≠ 0) (k : Nat) : rdN xs st k = st ∧ valN xs st k = 0 := by
  have e : ∀ k, rdN xs st k = st := by
    intro k
    induction k with
    | zero => rfl
    | succ k ih => rw [rdN_succ, ih, nextI_stop h]
  refine ⟨e k, ?_⟩
  unfold valN; rw [e k, nextI_stop h]

/-- What was laid is read. -/
theorem nextI_enc {xs : List Int} {a : Nat} {n : Int} {rest : List Int} (h0 : -9223372036854775808 ≤ n) (h1 : n ≤ 9223372036854775807) (hx : xs.drop a = encI n ++ rest) : nextI xs (a, 0) = (n, a + (encI n).length, 0) := by
  unfold nextI
  rw [if_pos rfl]
  dsimp only
  rw [hx, numR_enc h0 h1]
theorem rdN_enc {xs : List Int} {rest : List Int} : ∀ {l : List Int} {a : Nat}, I64s l → xs.drop a = encs l ++ rest → rdN xs (a, 0) l.length = (a + (encs l).length, 0) ∧ ∀ k, k < l.length → valN xs (a, 0) k = l[k]?.getD 0
  | [], a, _, _ => ⟨by simp [rdN, encs], by simp⟩
  | n :: l, a, h, hx => by
    have hn := h n (by simp)
    have e : encs (n :: l) = encI n ++ encs l := rfl
    rw [e, List.append_assoc] at hx
    have h1 := nextI_enc hn.1 hn.2 hx
    have hx2 : xs.drop (a + (encI n).length) = encs l ++ rest := by
      rw [← List.drop_drop, hx, List.drop_left]
    obtain ⟨i1, i2⟩ := rdN_enc (fun x hx => h x (by simp [hx])) hx2
    have hr : rdN xs (a, 0) 1 = (a + (encI n).length, 0) := by rw [rdN_succ]; show (nextI xs (a, 0)).2 = _; rw [h1]
    refine ⟨?_, fun k hk => ?_⟩
    · rw [List.length_cons, Nat.add_comm, rdN_add, hr, i1, e, List.length_append, Nat.add_assoc]
    · cases k with
      | zero => show (nextI xs (a, 0)).1 = _; rw [h1]; rfl
      | succ k =>
        rw [Nat.add_comm, valN_add, hr, i2 k (by simpa using hk), Nat.add_comm]
        rfl
/-- Of numbers whose last bytes are cut off not all are read. -/
theorem rdN_cut {xs : List Int} : ∀ {l : List Int} {a m : Nat}, I64s l → xs.drop a = (encs l).take m → m < (encs l).length → (rdN xs (a, 0) l.length).2 = 4
  | [], a, m, _, _, hm => by simp [encs] at hm
  | n :: l, a, m, h, hx, hm => by
    have hn := h n (by simp)
    have e : encs (n :: l) = encI n ++ encs l := rfl
    rw [e] at hx hm
    rw [List.length_append] at hm
    rw [List.length_cons, Nat.add_comm, rdN_add]
    by_cases hc : m < (encI n).length
    · have h1 : rdN xs (a, 0) 1 = (a, 4) := by
        rw [rdN_succ]
        show (nextI xs (a, 0)).2 = _
        unfold nextI
        rw [if_pos rfl]
        dsimp only
        rw [hx, List.take_append_of_le_length (by omega), numR_cut hn.1 hn.2 hc]
      rw [h1, (rdN_stop (show ((a, (4 : Int)) : Nat × Int).2 ≠ 0 from by show (4 : Int) ≠ 0; decide) _).1]
    · have hx2 : xs.drop a = encI n ++ (encs l).take (m - (encI n).length) := by rw [hx, List.take_append, List.take_of_length_le (by omega)]
      have h1 : rdN xs (a, 0) 1 = (a + (encI n).length, 0) := by
        rw [rdN_succ]; show (nextI xs (a, 0)).2 = _; rw [nextI_enc hn.1 hn.2 hx2]
      rw [h1]
      refine rdN_cut (fun x hx => h x (by simp [hx])) (m := m - (encI n).length) ?_ (by omega)
      rw [← List.drop_drop, hx2, List.drop_left]
theorem numR_err0 {l : List Int} {c : Int} (h : numR l = .inl c) : c = 4 ∨ c = 5 := by
  cases l with
  | nil => injection h with h; exact .inl h.symm
  | cons x t =>
    rw [numR_cons] at h
    split at h
    · injection h with h; exact .inr h.symm
    split at h
    · injection h with h; exact .inl h.symm
    split at h
    · injection h with h; exact .inr h.symm
    split at h
    all_goals
      split at h
      · cases h
      · injection h with h; exact .inr h.symm
/-- What was read has just these bytes. -/
theorem rdN_ok {xs : List Int} (hb : Bytes xs) {a : Nat} : ∀ {k : Nat}, (rdN xs (a, 0) k).2 = 0 → a ≤ (rdN xs (a, 0) k).1 ∧ (xs.drop a).take ((rdN xs (a, 0) k).1 - a) = encs (firstN (valN xs (a, 0)) k) ∧ I64s (firstN (valN xs (a, 0)) k)
  | 0, _ => by simp [rdN, encs, I64s]
  | k + 1, h => by
    rw [rdN_succ] at h ⊢
    obtain ⟨⟨b, why⟩, hst⟩ : ∃ st, rdN xs (a, 0) k = st := ⟨_, rfl⟩
    rw [hst] at h ⊢
    by_cases hw : why = 0
    · subst hw
      have ih := rdN_ok hb (a := a) (k := k) (by rw [hst])
      rw [hst] at ih
      dsimp only at ih
      obtain ⟨i1, i2, i3⟩ := ih
      cases hn : numR (xs.drop b) with
      | inl c =>
        unfold nextI at h
        rw [if_pos rfl] at h
        dsimp only at h
        rw [hn] at h
        dsimp only at h
        exact absurd hn (by
          intro hn'
          rw [h] at hn'
          rcases numR_err0 hn' with h | h <;> omega)
      | inr v =>
        obtain ⟨n, q⟩ := v
        have hnx : nextI xs (b, 0) = (n, b + q, 0) := by
          unfold nextI; rw [if_pos rfl]; dsimp only; rw [hn]
        have hval : valN xs (a, 0) k = n := by unfold valN; rw [hst, hnx]
        obtain ⟨j1, j2, j3⟩ := encI_numR (hb.drop b) hn
        rw [hnx]
        dsimp only
        refine ⟨by omega, ?_, ?_⟩
        · rw [firstN_succ, encs_snoc, ← i2, hval, j1, show b + q - a = (b - a) + q from by omega, List.take_add, List.drop_drop, show a + (b - a) = b from by omega]
        · rw [firstN_succ, hval]
          intro x hx
          rcases List.mem_append.1 hx with hx | hx
          · exact i3 x hx
          · have : x = n := by simpa using hx
            subst this; exact ⟨j2, j3⟩
    · rw [nextI_stop hw] at h
      exact absurd h hw

theorem Int_next {xs : List Int} {S : Value} {p : Nat} {st : Nat × Int} {w : World} (hR : Rd w p xs S (st.1 : Int) st.2) (hl : xs.length ≤ 1099511627776) (ha : st.1 ≤ xs.length) (hb : Bytes xs) (r : Int × Nat × Int) (hr : nextI xs st = r) :
    Calls Tryd.prog 51 #[.pointer (some ⟨p, 0, none⟩)] w fun e w' => e = .returned (.int .i64 r.1) ∧ But p w w' ∧ Rd w' p xs S (r.2.1 : Int) r.2.2 := by
  subst hr
  exact Int_any hR hl ha hb _ (stepR_next xs st.1 st.2)

theorem Rd.apart {w : World} {p : Nat} {xs : List Int} {S : Value} {a why : Int} (h : Rd w p xs S a why) {q : Nat} (hq : q ≠ p) (hS : ∀ b o n c, S = .slice (some ⟨b, o, none⟩) n c → b ≠ q) (o : Nat) (v : Value) : Rd (w.setCell ⟨q, o, none⟩ v) p xs S a why := by
  have hk : ∀ b i, b ≠ q → (w.setCell ⟨q, o, none⟩ v).cell? ⟨b, i, none⟩ = w.cell? ⟨b, i, none⟩ := fun b i hb => World.cell?_setCell_other w ⟨q, o, none⟩ ⟨b, i, none⟩ _ (by simp [hb])
  refine ⟨by simpa [World.setCell] using h.lt, ?_, (hk p 0 (Ne.symm hq)).trans h.c0, (hk p 1 (Ne.symm hq)).trans h.c1, (hk p 2 (Ne.symm hq)).trans h.c2, fun i => by rw [World.frozen?_setCell]; exact h.fz i⟩
  rcases h.sl with hn | ⟨b, off, c, hv, hlt, hc, hx⟩
  · exact .inl hn
  · exact .inr ⟨b, off, c, hv, hlt, hc, fun i hi => (hk b _ (hS b off _ c hv)).trans (hx i hi)⟩

set_option maxHeartbeats 1000000 in
/-- From: its bytes lie in new memory. -/
theorem From_new (xs : List Int) (v : Value) (w : World) (hx : Sl .u8 w w.heap.size v xs) (hl : xs.length ≤ 1099511627776) :
    Calls Tryd.prog 50 #[v] w fun e w' => ∃ p S, e = .returned (.pointer (some ⟨p, 0, none⟩)) ∧ w.heap.size ≤ p ∧ Below w.heap.size w w' ∧ Rd w' p xs S 0 0 ∧ ∀ b o n c, S = .slice (some ⟨b, o, none⟩) n c → w.heap.size ≤ b := by
  obtain ⟨A, c, rfl⟩ := hx.shape
  have HX := Lib.hid hx
  clear hx
  go_enter Tryd.func50, Tryd.ntmps50
  go_wp2_with (at_builtin; refine wpList_append_sl rfl _ _ 51 rfl Tryd.underlying51 infoBytes (by decide) rfl rfl (OwnK.nil_ w w.heap.size) HX.out (by rw [List.length_nil]; omega) (Nat.le_refl _) ?_; intro v' w1 hown hb1; have hs1 := hb1.size; rw [List.nil_append] at hown; have HS1 := Lib.hid hown.sl; have HSH := Lib.hid hown.shape; clear hown; obtain ⟨A1, c1, rfl⟩ := HS1.out.shape)
  go_ret
  refine ⟨w1.heap.size, .slice A1 xs.length c1, rfl, hs1, hb1.alloc hs1 _, ?_, ?_⟩
  · have hsl := HS1.out.below (Below.alloc (Below.refl w1.heap.size w1) (Nat.le_refl _) (.cells #[.slice A1 xs.length c1, .int .i64 0, .int .i64 0] 102))
    exact ⟨by simp, hsl, by simp [go_sem], by simp [go_sem], by simp [go_sem], fun i => by simp [go_sem]⟩
  · intro b o n c h
    rcases HSH.out with ⟨h1, _⟩ | ⟨g, cap, h1, hg, _⟩
    · rw [h] at h1; cases h1
    · rw [h] at h1
      injection h1 with h1 h2 h3
      injection h1 with h1
      injection h1 with h1
      omega
/-- Whether all was read. -/
def doneN (xs : List Int) (st : Nat × Int) : Int := doneR xs (st.1 : Int) st.2
end Go.Proofs.YtjjccjannandlaaDoor

/- command.Get. -/
set_option maxRecDepth 100000
set_option linter.unusedVariables false
set_option linter.unusedSimpArgs false
namespace Go.Proofs.YtjjccjannandlaaDoor
open Go.RowKit Go.BigFrame

/-- The code of what is read as a command. -/
def getE (xs : List Int) : Int := doneN xs (rdN xs (0, 0) 7)
/-- Its numbers. -/
def getC (xs : List Int) (i : Nat) : Int := if getE xs = 0 then valN xs (0, 0) i else 0
/-- Seven cells. -/
def Cells7 (w : World) (q : Nat) (f : Nat → Int) : Prop := ∀ o, o < 7 → w.cell? ⟨q, o, none⟩ = some (.int .i64 (f o)) ∧ w.frozen? ⟨q, o, none⟩ = false

theorem Cells7.below {w w' : World} {q B : Nat} {f : Nat → Int} (h : Cells7 w q f) (hq : q < B) (hb : Below B w w') : Cells7 w' q f := fun o ho => ⟨(hb.cell (p := ⟨q, o, none⟩) hq).trans (h o ho).1, (hb.frozen (p := ⟨q, o, none⟩) hq).trans (h o ho).2⟩
theorem Cells7.but {w w' : World} {p q : Nat} {f : Nat → Int} (h : Cells7 w q f) (hq : q < w.heap.size) (hp : q ≠ p) (hb : But p w w') : Cells7 w' q f := fun o ho => ⟨(hb.cell hq hp).trans (h o ho).1, (hb.frozen hq hp).trans (h o ho).2⟩
theorem Cells7.set {w : World} {q k : Nat} {f g : Nat → Int} {x : Int} (h : Cells7 w q f) (hk : k < 7) (hg : ∀ o, g o = if o = k then x else f o) : Cells7 (w.setCell ⟨q, k, none⟩ (.int .i64 x)) q g := by
  intro o ho
  rw [World.frozen?_setCell, hg o]
  refine ⟨?_, (h o ho).2⟩
  by_cases he : o = k
  · subst he
    rw [if_pos rfl]
    exact World.cell?_setCell_same w _ _ (h o ho).1
  · rw [if_neg he]
    exact (World.cell?_setCell_other w ⟨q, k, none⟩ ⟨q, o, none⟩ _ (by simp [he])).trans (h o ho).1
theorem Cells7.setOther {w : World} {q b k : Nat} {f : Nat → Int} (h : Cells7 w q f) (hb : b ≠ q) (v : Value) : Cells7 (w.setCell ⟨b, k, none⟩ v) q f := by
  intro o ho
  rw [World.frozen?_setCell]
  exact ⟨(World.cell?_setCell_other w ⟨b, k, none⟩ ⟨q, o, none⟩ _ (by simp [Ne.symm hb])).trans (h o ho).1, (h o ho).2⟩

/-- Seven cells written. -/
abbrev store7 (w : World) (q : Nat) (g : Nat → Int) : World := (((((((w.setCell ⟨q, 0, none⟩ (.int .i64 (g 0))).setCell ⟨q, 1, none⟩ (.int .i64 (g 1))).setCell ⟨q, 2, none⟩ (.int .i64 (g 2))).setCell ⟨q, 3, none⟩ (.int .i64 (g 3))).setCell ⟨q, 4, none⟩ (.int .i64 (g 4))).setCell ⟨q, 5, none⟩ (.int .i64 (g 5))).setCell ⟨q, 6, none⟩ (.int .i64 (g 6)))
theorem Cells7.store7 {w : World} {q : Nat} {f : Nat → Int} (h : Cells7 w q f) (g : Nat → Int) : Cells7 (store7 w q g) q g := by
  have step : ∀ (w : World) (k : Nat), k < 7 → Cells7 w q (fun o => if o < k then g o else f o) → Cells7 (w.setCell ⟨q, k, none⟩ (.int .i64 (g k))) q (fun o => if o < k + 1 then g o else f o) := fun w k hk hc => hc.set hk (fun o => by
    by_cases ho : o = k
    · subst ho; rw [if_pos (by omega), if_pos rfl]
    · by_cases ho2 : o < k
      · rw [if_pos (by omega), if_neg ho, if_pos ho2]
      · rw [if_neg (by omega), if_neg ho, if_neg ho2])
  have h7 := step _ 6 (by decide) (step _ 5 (by decide) (step _ 4 (by decide) (step _ 3 (by decide) (step _ 2 (by decide) (step _ 1 (by decide) (step w 0 (by decide) (by simpa using h)))))))
  intro o ho
  have := h7 o ho
  dsimp only at this
  rw [if_pos (by omega)] at this
  exact this
theorem Below.store7 {B : Nat} {a w : World} {q : Nat} (h : Below B a w) (hq : B ≤ q) (g : Nat → Int) : Below B a (store7 w q g) := ((((((h.setCell hq _).setCell hq _).setCell hq _).setCell hq _).setCell hq _).setCell hq _).setCell hq _

set_option maxHeartbeats 4000000 in
theorem cGet_any (xs : List Int) (v : Value) (w : World) (hx : Sl .u8 w w.heap.size v xs) (hl : xs.length ≤ 1099511627776) (hb : Bytes xs) (g : Nat → Int) (d : Int) (hg : getC xs = g) (hd : getE xs = d) :
    Calls Tryd.prog 26 #[v] w fun e w' => e = .returned (.tuple #[cmdV g, .int .i64 d]) ∧ Below w.heap.size w w' := by
  obtain ⟨A, c, rfl⟩ := hx.shape
  have HX := Lib.hid hx
  have HBY := Lib.hid hb
  have HG := Lib.hid hg
  have HD := Lib.hid hd
  clear hx hb hg hd
  obtain ⟨w2, hw2⟩ : ∃ w2, w2 = (w.alloc (.cells #[.int .i64 0, .int .i64 0, .int .i64 0, .int .i64 0, .int .i64 0, .int .i64 0, .int .i64 0] 27)).alloc (.cells #[.int .i64 0, .int .i64 0, .int .i64 0, .int .i64 0, .int .i64 0, .int .i64 0, .int .i64 0] 27) := ⟨_, rfl⟩
  have hB2 : Below w.heap.size w w2 := by rw [hw2]; exact ((Below.refl _ _).alloc (Nat.le_refl _) _).alloc (by simp) _
  have hs2 : w2.heap.size = w.heap.size + 2 := by rw [hw2]; simp
  have h7 : ∀ q, q = w.heap.size ∨ q = w.heap.size + 1 → Cells7 w2 q (fun _ => 0) := by
    intro q hq o ho
    rw [hw2]
    rcases hq with rfl | rfl
    all_goals
      rcases (show o = 0 ∨ o = 1 ∨ o = 2 ∨ o = 3 ∨ o = 4 ∨ o = 5 ∨ o = 6 from by omega) with rfl | rfl | rfl | rfl | rfl | rfl | rfl
    all_goals simp [go_sem]
  have HW2 := Lib.hid hw2
  have HB2 := Lib.hid hB2
  have HS2 := Lib.hid hs2
  have HC2 := Lib.hid (h7 (w.heap.size + 1) (.inr rfl))
  have HR2 := Lib.hid (h7 w.heap.size (.inl rfl))
  clear hw2 hB2 hs2 h7
  go_enter Tryd.func26, Tryd.ntmps26
  go_wp2_with fail
  rw [← HW2.out]
  refine (From_new xs _ w2 (HX.out.later HB2.out) hl).mono ?_
  rintro e w3 ⟨p, S, rfl, hp, hb3, hR, hS⟩
  have hp' : w.heap.size + 2 ≤ p := by have := HS2.out; omega
  have HB3 : Hid (Below w.heap.size w w3) := HB2.out.trans (hb3.mono (by have := HS2.out; omega))
  have HR3 := Lib.hid (HR2.out.below (by have := HS2.out; omega) hb3)
  have HC3 := Lib.hid (HC2.out.below (by have := HS2.out; omega) hb3)
  have HRd := Lib.hid hR
  have HSS : Hid (∀ b o n c, S = .slice (some ⟨b, o, none⟩) n c → b ≠ w.heap.size + 1) := fun b o n c h => by have := hS b o n c h; have := HS2.out; omega
  clear hp hb3 hR hS HW2 HB2 HS2 HC2 HR2
  go_wp2_with fail
  refine (fields_any (w.heap.size + 1) w3).mono ?_
  rintro e w4 ⟨rfl, hb4⟩
  have hs3 := HRd.out.lt
  have HB4 : Hid (Below w.heap.size w w4) := HB3.out.trans (hb4.mono HB3.out.size)
  have HR4 := Lib.hid (HR3.out.below (by omega) hb4)
  have HC4 := Lib.hid (HC3.out.below (by omega) hb4)
  have HRd4 := Lib.hid (HRd.out.below hb4)
  clear hb4 hs3 HRd HB3 HR3 HC3
  go_wp2_with fail
  go_loopw [12] (fun i wr => ∃ k : Nat, k ≤ 7 ∧ i = .int .i64 k ∧ Below w.heap.size w wr ∧ Rd wr p xs S ((rdN xs (0, 0) k).1 : Int) (rdN xs (0, 0) k).2 ∧ Cells7 wr w.heap.size (fun _ => 0) ∧ Hid (Cells7 wr (w.heap.size + 1) (fun o => if o < k then valN xs (0, 0) o else 0))) (fun i _ => 7 - (intOf i).toNat)
  case atStart => exact ⟨0, by omega, rfl, HB4.out, HRd4.out, HR4.out, Lib.hid (by simpa using HC4.out)⟩
  case round =>
    obtain ⟨k, hk, rfl, hb, hR, hRes, HC⟩ := hrel
    have HB := Lib.hid hb
    have HR := Lib.hid hR
    have HRes := Lib.hid hRes
    clear hb hR hRes HB4 HRd4 HR4 HC4
    have hplt := HR.out.lt
    have hle := rdN_le (xs := xs) (st := (0, 0)) (Nat.zero_le _) k
    obtain ⟨st, hst⟩ : ∃ st, rdN xs (0, 0) k = st := ⟨_, rfl⟩
    rw [hst] at HR hle
    by_cases hk7 : k < 7
    · have hix := run_index7 (w.heap.size + 1) k hk7
      have hkI : (k : Int) < 7 := by omega
      obtain ⟨r, hr⟩ : ∃ r, nextI xs st = r := ⟨_, rfl⟩
      have HV : Hid (valN xs (0, 0) k = r.1) := by unfold valN; rw [hst, hr]; exact Lib.hid rfl
      have HN : Hid (rdN xs (0, 0) (k + 1) = r.2) := by rw [rdN_succ, hst, hr]; exact Lib.hid rfl
      have HNR := Lib.hid hr
      clear hst hr
      go_wp2_with fail
      refine (Int_next HR.out hl hle HBY.out r HNR.out).mono ?_
      rintro e w5 ⟨rfl, hb5, hR5⟩
      have HC5 := Lib.hid (HC.out.but (by omega) (by omega) hb5)
      have HRes5 := Lib.hid (HRes.out.but (by omega) (by omega) hb5)
      have HB5 := Lib.hid (HB.out.trans (hb5.below (by omega) HB.out.size))
      have HR5 := Lib.hid hR5
      obtain ⟨hck, hfk⟩ := HC5.out k hk7
      dsimp only at hck
      rw [if_neg (Nat.lt_irrefl k)] at hck
      clear hb5 hR5 HC HRes HB HR
      go_wp2_with fail
      go_roundw
      case rel =>
        refine ⟨k + 1, by omega, by go_num, ?_, ?_, HRes5.out.setOther (by omega) _, Lib.hid ?_⟩
        · exact HB5.out.setCell (by simp) _
        · rw [HN.out]
          exact HR5.out.apart (by omega) HSS.out _ _
        · refine HC5.out.set hk7 (fun o => ?_)
          by_cases ho : o = k
          · subst ho; rw [if_pos (by omega), if_pos rfl]; exact HV.out
          · rw [if_neg ho]
            by_cases ho2 : o < k
            · rw [if_pos (by omega), if_pos ho2]
            · rw [if_neg (by omega), if_neg ho2]
      case measure => simp [intOf]; omega
    · have hk4 : k = 7 := by omega
      subst hk4
      have HDD : Hid (doneR xs (st.1 : Int) st.2 = d) := by
        rw [← HD.out]; unfold getE doneN; rw [hst]; exact Lib.hid rfl
      go_wp2_with fail
      refine (Done_any HR.out).mono ?_
      rw [HDD.out]
      rintro e w5 ⟨rfl, hb5⟩
      have HB5 := Lib.hid (Bel.then HB.out hb5)
      have HC5 := Lib.hid (HC.out.below (by omega) hb5)
      have HRes5 := Lib.hid (HRes.out.below (by omega) hb5)
      have hs5 := hb5.size
      clear hb5 HC HRes HB HR
      obtain ⟨⟨r0, f0⟩, ⟨r1, f1⟩, ⟨r2, f2⟩, ⟨r3, f3⟩, ⟨r4, f4⟩, ⟨r5, f5⟩, ⟨r6, f6⟩⟩ := And.intro (HRes5.out 0 (by decide)) (And.intro (HRes5.out 1 (by decide)) (And.intro (HRes5.out 2 (by decide)) (And.intro (HRes5.out 3 (by decide)) (And.intro (HRes5.out 4 (by decide)) (And.intro (HRes5.out 5 (by decide)) (HRes5.out 6 (by decide)))))))
      by_cases hd0 : d = 0
      · have hdb : (d != 0) = false := by simp [hd0]
        have HCg : Cells7 w5 (w.heap.size + 1) g := by
          intro o ho
          have h := HC5.out o ho
          dsimp only at h
          rw [if_pos ho] at h
          have e : g o = valN xs (0, 0) o := by rw [← HG.out]; unfold getC; rw [if_pos (by rw [HD.out]; exact hd0)]
          rw [e]; exact h
        obtain ⟨c0, c1, c2, c3, c4, c5, c6⟩ := And.intro (HCg 0 (by decide)).1 (And.intro (HCg 1 (by decide)).1 (And.intro (HCg 2 (by decide)).1 (And.intro (HCg 3 (by decide)).1 (And.intro (HCg 4 (by decide)).1 (And.intro (HCg 5 (by decide)).1 (HCg 6 (by decide)).1)))))
        have hC7 := HRes5.out.store7 g
        have hB7 := Below.store7 HB5.out (Nat.le_refl _) g
        have HC7 := Lib.hid hC7
        have HB7 := Lib.hid hB7
        clear HC5 HCg HRes5 HX HBY HSS hC7 hB7
        subst hd0
        go_wp2_with fail
        change bodyPost _ _ _ _ _ (store7 w5 w.heap.size g)
        obtain ⟨wf, hwf⟩ : ∃ wf, wf = store7 w5 w.heap.size g := ⟨_, rfl⟩
        rw [← hwf] at HC7 HB7 ⊢
        obtain ⟨c0, c1, c2, c3, c4, c5, c6⟩ := And.intro (HC7.out 0 (by decide)).1 (And.intro (HC7.out 1 (by decide)).1 (And.intro (HC7.out 2 (by decide)).1 (And.intro (HC7.out 3 (by decide)).1 (And.intro (HC7.out 4 (by decide)).1 (And.intro (HC7.out 5 (by decide)).1 (HC7.out 6 (by decide)).1)))))
        have hBf := HB7.out
        clear hwf
        simp [bodyPost, results, Tryd.results26, go_sem, c0, c1, c2, c3, c4, c5, c6, hBf]
      · have hdb : (d != 0) = true := by simp [hd0]
        have hg0 : g = fun _ => 0 := funext fun o => by rw [← HG.out]; unfold getC; rw [if_neg (by rw [HD.out]; exact hd0)]
        have hC7 := HRes5.out.store7 (fun _ => 0)
        have hB7 := Below.store7 HB5.out (Nat.le_refl _) (fun _ => 0)
        have HC7 := Lib.hid hC7
        have HB7 := Lib.hid hB7
        clear HC5 HRes5 HX HBY HSS hC7 hB7 HG
        subst hg0
        go_wp2_with fail
        change bodyPost _ _ _ _ _ (store7 w5 w.heap.size (fun _ => 0))
        obtain ⟨wf, hwf⟩ : ∃ wf, wf = store7 w5 w.heap.size (fun _ => 0) := ⟨_, rfl⟩
        rw [← hwf] at HC7 HB7 ⊢
        obtain ⟨c0, c1, c2, c3, c4, c5, c6⟩ := And.intro (HC7.out 0 (by decide)).1 (And.intro (HC7.out 1 (by decide)).1 (And.intro (HC7.out 2 (by decide)).1 (And.intro (HC7.out 3 (by decide)).1 (And.intro (HC7.out 4 (by decide)).1 (And.intro (HC7.out 5 (by decide)).1 (HC7.out 6 (by decide)).1)))))
        have hBf := HB7.out
        clear hwf
        dsimp only at c0 c1 c2 c3 c4 c5 c6
        simp [bodyPost, results, Tryd.results26, go_sem, c0, c1, c2, c3, c4, c5, c6, hBf]
end Go.Proofs.YtjjccjannandlaaDoor

/- A command's bytes, read: plain facts. -/
set_option maxRecDepth 100000
set_option linter.unusedVariables false
set_option linter.unusedSimpArgs false
namespace Go.Proofs.YtjjccjannandlaaDoor
open Go.RowKit

abbrev V64 (v : Nat → Int) : Prop := ∀ i, i < 7 → -9223372036854775808 ≤ v i ∧ v i ≤ 9223372036854775807
theorem firstN_length (v : Nat → Int) (k : Nat) : (firstN v k).length = k := by simp
theorem firstN_get {v : Nat → Int} {k i : Nat} (h : i < k) : (firstN v k)[i]?.getD 0 = v i := by
  unfold firstN
  rw [List.getElem?_map, List.getElem?_range h]; rfl
theorem get_back {v : Nat → Int} (h : V64 v) (rest : List Int) : rdN (encs (firstN v 7) ++ rest) (0, 0) 7 = ((encs (firstN v 7)).length, 0) ∧ ∀ i, i < 7 → valN (encs (firstN v 7) ++ rest) (0, 0) i = v i := by
  have h64 := firstN_64 h (Nat.le_refl 7)
  obtain ⟨h1, h2⟩ := rdN_enc (xs := encs (firstN v 7) ++ rest) (rest := rest) (a := 0) h64 rfl
  rw [firstN_length, Nat.zero_add] at h1
  refine ⟨h1, fun i hi => ?_⟩
  rw [h2 i (by rw [firstN_length]; exact hi), firstN_get hi]
theorem getE_back {v : Nat → Int} (h : V64 v) : getE (encs (firstN v 7)) = 0 := by
  have := (get_back h []).1
  rw [List.append_nil] at this
  unfold getE doneN doneR
  rw [this]
  simp
theorem getC_back {v : Nat → Int} (h : V64 v) {i : Nat} (hi : i < 7) : getC (encs (firstN v 7)) i = v i := by
  have := (get_back h []).2 i hi
  rw [List.append_nil] at this
  unfold getC
  rw [if_pos (getE_back h), this]
theorem getE_long {v : Nat → Int} (h : V64 v) (x : Int) : getE (encs (firstN v 7) ++ [x]) = 5 := by
  unfold getE doneN doneR
  rw [(get_back h [x]).1]
  simp
  omega
theorem getE_cut {v : Nat → Int} (h : V64 v) {m : Nat} (hm : m < (encs (firstN v 7)).length) : getE ((encs (firstN v 7)).take m) = 4 := by
  have := rdN_cut (xs := (encs (firstN v 7)).take m) (a := 0) (firstN_64 h (Nat.le_refl 7)) rfl hm
  rw [firstN_length] at this
  unfold getE doneN doneR
  rw [this]
  simp
theorem getE_ok {b : List Int} (hb : Bytes b) (h : getE b = 0) : encs (firstN (getC b) 7) = b ∧ V64 (getC b) := by
  have hle := rdN_le (xs := b) (st := (0, 0)) (Nat.zero_le _) 7
  have hd : (rdN b (0, 0) 7).2 = 0 ∧ (rdN b (0, 0) 7).1 = b.length := by
    unfold getE doneN doneR at h
    split at h
    · cases h
    · rename_i hc
      exact ⟨h, by omega⟩
  obtain ⟨h1, h2, h3⟩ := rdN_ok hb (a := 0) (k := 7) hd.1
  rw [hd.2, List.drop_zero, Nat.sub_zero, List.take_length] at h2
  have e : firstN (getC b) 7 = firstN (valN b (0, 0)) 7 := by
    unfold firstN
    refine List.map_congr_left fun i hi => ?_
    unfold getC
    rw [if_pos h]
  refine ⟨e ▸ h2.symm, fun i hi => ?_⟩
  have := h3 (valN b (0, 0) i) (List.mem_map.2 ⟨i, List.mem_range.2 hi, rfl⟩)
  unfold getC
  rw [if_pos h]
  exact this
theorem getC_no {b : List Int} (h : getE b ≠ 0) (i : Nat) : getC b i = 0 := by
  unfold getC; rw [if_neg h]
theorem encs_pos {l : List Int} : l.length ≤ (encs l).length := by
  induction l with
  | nil => simp
  | cons n l ih =>
    have e : encs (n :: l) = encI n ++ encs l := rfl
    rw [e, List.length_append, encI_length, List.length_cons]; omega
theorem encs_byte {l : List Int} (h : I64s l) : Bytes (encs l) := by
  intro d hd
  obtain ⟨n, hn, hd⟩ := List.mem_flatMap.1 hd
  obtain ⟨h0, h1⟩ := h n hn
  have h8 := nb_le (u := mag n) (by have := mag_lt h0 h1; omega)
  unfold encI at hd
  rcases List.mem_cons.1 hd with rfl | h
  · unfold headI; split <;> omega
  · exact beD_byte _ _ d h
end Go.Proofs.YtjjccjannandlaaDoor

/- The document's reader: number. -/
set_option maxRecDepth 100000
set_option linter.unusedVariables false
set_option linter.unusedSimpArgs false
namespace Go.Proofs.YtjjccjannandlaaDoor
open Go.RowKit Go.BigFrame

/-- What the document's number answers. -/
def rnumR (l : List Int) : Int × Int × Int := match numR l with | .inl c => (0, 0, c) | .inr (n, k) => (n, (k : Int), 0)
theorem kOf_lo {h : Int} (h0 : 0 ≤ h) (h1 : h ≤ 16) (h2 : h ≠ 16) : (kOf h : Int) = h ∧ h % 32 < 16 := by
  have e : h % 32 < 16 := by omega
  unfold kOf; rw [if_pos e]; omega
theorem kOf_hi {h : Int} (h0 : 16 < h) (h1 : h ≤ 255) (h8 : kOf h ≤ 8) : (kOf h : Int) = h - 16 ∧ ¬ h % 32 < 16 := by
  unfold kOf at h8 ⊢
  split at h8
  · omega
  · rename_i hc
    rw [if_neg hc]
    omega
theorem kOf_bad {h : Int} (h0 : 16 < h) (h1 : h ≤ 255) (h8 : ¬ kOf h ≤ 8) : 24 < h := by
  unfold kOf at h8
  split at h8 <;> omega

set_option maxHeartbeats 2000000 in
theorem rnum_empty {xs : List Int} {S : Value} {p a : Nat} {why : Int} {w : World} (hR : Rd w p xs S a why) (ha : xs.length ≤ a) :
    Calls Tryd.prog 66 #[.pointer (some ⟨p, 0, none⟩), .int .i64 a] w fun r w' => r = .returned (.tuple #[.int .i64 0, .int .i64 0, .int .i64 4]) ∧ w = w' := by
  obtain ⟨A, c, rfl⟩ := hR.sl.shape
  have hc0 := hR.c0
  have haI : (xs.length : Int) ≤ (a : Int) := by omega
  clear hR ha
  go_enter Tryd.func66, Tryd.ntmps66
  go_wp2
  simp [bodyPost, results, Tryd.results66, go_sem]

set_option maxHeartbeats 4000000 in
theorem rnum_head {xs t : List Int} {S : Value} {p a : Nat} {why h : Int} {w : World} (hR : Rd w p xs S a why) (hl : xs.length ≤ 1099511627776) (hx : xs.drop a = h :: t) (h0 : 0 ≤ h) (h1 : h ≤ 255) (hbad : 8 < kOf h ∨ h = 16) :
    Calls Tryd.prog 66 #[.pointer (some ⟨p, 0, none⟩), .int .i64 a] w fun r w' => r = .returned (.tuple #[.int .i64 0, .int .i64 0, .int .i64 5]) ∧ w = w' := by
  obtain ⟨A, c, rfl⟩ := hR.sl.shape
  have hc0 := hR.c0
  have hlt : a < xs.length := by
    rcases Nat.lt_or_ge a xs.length with h' | h'
    · exact h'
    · rw [List.drop_eq_nil_of_le h'] at hx; cases hx
  obtain ⟨b, off, rfl, hbB, hcap, hcx⟩ := hR.sl.elem hlt
  have hxa : xs[a]?.getD 0 = h := by
    have := congrArg List.head? hx
    rw [List.head?_drop] at this
    rw [this]; rfl
  rw [hxa] at hcx
  have hltI : ¬ (xs.length : Int) ≤ (a : Int) := by omega
  have hltI' : (a : Int) < (xs.length : Int) := by omega
  have hcv : IntKind.i64.wrap h = h := IntWalk.i64_in _ (by omega)
  have hcase : (24 < h ∧ 16 < h) ∨ (8 < h ∧ h ≤ 16) := by
    by_cases h16 : 16 < h
    · left
      rcases hbad with hb | hb
      · exact ⟨kOf_bad h16 h1 (by omega), h16⟩
      · omega
    · right
      rcases hbad with hb | hb
      · by_cases he : h = 16
        · omega
        · have := (kOf_lo h0 (by omega) he).1
          omega
      · omega
  clear hR hx hbad hxa
  rcases hcase with ⟨k1, k2⟩ | ⟨k1, k2⟩
  · have hsub : IntKind.i64.wrap (h - 16) = h - 16 := IntWalk.i64_in _ (by omega)
    have hgt : 8 < h - 16 := by omega
    go_enter Tryd.func66, Tryd.ntmps66
    go_wp2
    simp [bodyPost, results, Tryd.results66, go_sem]
  · go_enter Tryd.func66, Tryd.ntmps66
    go_wp2
    simp [bodyPost, results, Tryd.results66, go_sem]
end Go.Proofs.YtjjccjannandlaaDoor

/- The document's reader: number, behind its head. -/
set_option maxRecDepth 100000
set_option linter.unusedVariables false
set_option linter.unusedSimpArgs false
namespace Go.Proofs.YtjjccjannandlaaDoor
open Go.RowKit Go.BigFrame

theorem drop_cons_get {xs t : List Int} {a : Nat} {h : Int} (hx : xs.drop a = h :: t) : a < xs.length ∧ xs[a]?.getD 0 = h ∧ t.length + a + 1 = xs.length ∧ ∀ j, xs[a + 1 + j]?.getD 0 = t[j]?.getD 0 := by
  have hlt : a < xs.length := by
    rcases Nat.lt_or_ge a xs.length with h' | h'
    · exact h'
    · rw [List.drop_eq_nil_of_le h'] at hx; cases hx
  have hlen := congrArg List.length hx
  rw [List.length_drop, List.length_cons] at hlen
  refine ⟨hlt, ?_, by omega, fun j => ?_⟩
  · have := congrArg List.head? hx
    rw [List.head?_drop] at this
    rw [this]; rfl
  · have ht : xs.drop (a + 1) = t := by rw [← List.drop_drop, hx]; rfl
    rw [← ht, List.getElem?_drop]

set_option maxHeartbeats 4000000 in
theorem rnum_short {xs t : List Int} {S : Value} {p a K : Nat} {why h : Int} {w : World} (hR : Rd w p xs S a why) (hl : xs.length ≤ 1099511627776) (hx : xs.drop a = h :: t) (hK8 : K ≤ 8) (hh : (16 < h ∧ 0 < K ∧ h - 16 = (K : Int)) ∨ (h ≤ 16 ∧ h = (K : Int))) (hs : t.length < K) :
    Calls Tryd.prog 66 #[.pointer (some ⟨p, 0, none⟩), .int .i64 a] w fun r w' => r = .returned (.tuple #[.int .i64 0, .int .i64 0, .int .i64 4]) ∧ w = w' := by
  obtain ⟨A, c, rfl⟩ := hR.sl.shape
  have hc0 := hR.c0
  obtain ⟨hlt, hxa, hlen, _⟩ := drop_cons_get hx
  obtain ⟨b, off, rfl, hbB, hcap, hcx⟩ := hR.sl.elem hlt
  rw [hxa] at hcx
  have hltI : ¬ (xs.length : Int) ≤ (a : Int) := by omega
  have hltI' : (a : Int) < (xs.length : Int) := by omega
  have hsh : (xs.length : Int) - (a : Int) - 1 < (K : Int) := by omega
  have hkk : ¬ (K : Int) > 8 := by omega
  have hcv : IntKind.i64.wrap h = h := IntWalk.i64_in _ (by omega)
  clear hR hx hxa
  rcases hh with ⟨k1, k3, k2⟩ | ⟨k1, k2⟩
  · have hsub : IntKind.i64.wrap (h - 16) = (K : Int) := by rw [k2]; exact IntWalk.i64_in _ (by omega)
    clear k2
    go_enter Tryd.func66, Tryd.ntmps66
    go_wp2
    simp [bodyPost, results, Tryd.results66, go_sem]
  · subst k2
    go_enter Tryd.func66, Tryd.ntmps66
    go_wp2
    simp [bodyPost, results, Tryd.results66, go_sem]

theorem valD_step {t : List Int} {j : Nat} (hj : j < t.length) : valD (t.take (j + 1)) = valD (t.take j) * 256 + (t[j]?.getD 0).toNat := by
  rw [take_succ' hj, valD_snoc]
theorem valD_take_lt {t : List Int} (h : ∀ d ∈ t, 0 ≤ d ∧ d ≤ 255) {j : Nat} (hj : j ≤ 7) : valD (t.take j) < 72057594037927936 := by
  have h1 := valD_lt (t.take j) (fun d hd => h d (List.mem_of_mem_take hd))
  have h2 : (t.take j).length ≤ 7 := by rw [List.length_take]; omega
  have h3 : 256 ^ (t.take j).length ≤ 256 ^ 7 := Nat.pow_le_pow_right (by decide) h2
  have h4 : (256 : Nat) ^ 7 = 72057594037927936 := by decide
  omega

set_option maxHeartbeats 8000000 in
theorem rnum_val {xs t : List Int} {S : Value} {p a K : Nat} {why h : Int} {w : World} (hR : Rd w p xs S a why) (hl : xs.length ≤ 1099511627776) (hx : xs.drop a = h :: t) (hK8 : K ≤ 8) (hbt : ∀ d ∈ t, 0 ≤ d ∧ d ≤ 255) (hs : K ≤ t.length)
    (n k e : Int) (u : Nat) (hu : u = valD (t.take K))
    (hh : (16 < h ∧ 0 < K ∧ h - 16 = (K : Int) ∧ ((t[0]?.getD 0 = 0 ∨ 9223372036854775808 < u) ∧ n = 0 ∧ k = 0 ∧ e = 5 ∨ t[0]?.getD 0 ≠ 0 ∧ u ≤ 9223372036854775808 ∧ n = -(u : Int) ∧ k = (K : Int) + 1 ∧ e = 0)) ∨
      (h ≤ 16 ∧ h = (K : Int) ∧ ((0 < K ∧ t[0]?.getD 0 = 0 ∨ 9223372036854775808 ≤ u) ∧ n = 0 ∧ k = 0 ∧ e = 5 ∨ (K = 0 ∨ t[0]?.getD 0 ≠ 0) ∧ u < 9223372036854775808 ∧ n = (u : Int) ∧ k = (K : Int) + 1 ∧ e = 0))) :
    Calls Tryd.prog 66 #[.pointer (some ⟨p, 0, none⟩), .int .i64 a] w fun r w' => r = .returned (.tuple #[.int .i64 n, .int .i64 k, .int .i64 e]) ∧ w = w' := by
  obtain ⟨A, c, rfl⟩ := hR.sl.shape
  have hc0 := hR.c0
  obtain ⟨hlt, hxa, hlen, hget⟩ := drop_cons_get hx
  obtain ⟨b, off, rfl, hbB, hcap, hcx⟩ := hR.sl.elem hlt
  rw [hxa] at hcx
  have HSL := Lib.hid hR.sl
  have HGET := Lib.hid hget
  have HBT := Lib.hid hbt
  have HU := Lib.hid hu
  have HLEN := Lib.hid hlen
  have hltI : ¬ (xs.length : Int) ≤ (a : Int) := by omega
  have hltI' : (a : Int) < (xs.length : Int) := by omega
  have hsh : ¬ (xs.length : Int) - (a : Int) - 1 < (K : Int) := by omega
  have hkk : ¬ (K : Int) > 8 := by omega
  have hcv : IntKind.i64.wrap h = h := IntWalk.i64_in _ (by omega)
  clear hR hx hxa hget hbt hu hlen
  rcases hh with ⟨k1, k3, k2, hh⟩ | ⟨k1, k2, hh⟩
  · have hsub : IntKind.i64.wrap (h - 16) = (K : Int) := by rw [k2]; exact IntWalk.i64_in _ (by omega)
    have hk0 : ((K : Int) == 0) = false := by simp; omega
    have HH := Lib.hid hh
    clear k2 hh
    go_enter Tryd.func66, Tryd.ntmps66
    go_wp2
    have HK0 := Lib.hid hK8
    go_loopw [9, 10] (fun q i wr => ∃ j : Nat, j ≤ K ∧ q = .int .u64 ((valD (t.take j) : Nat) : Int) ∧ i = .int .i64 j ∧ wr = w) (fun _ i _ => K - (intOf i).toNat)
    case atStart => exact ⟨0, Nat.zero_le _, rfl, rfl, rfl⟩
    case round =>
      obtain ⟨j, hj, rfl, rfl, rfl⟩ := hrel
      have hst := fun h : j < t.length => valD_step h
      obtain ⟨q, hq⟩ : ∃ q, q = valD (t.take j) := ⟨_, rfl⟩
      rw [← hq]
      rw [← hq] at hst
      by_cases hjK : j < K
      · have hql := valD_take_lt HBT.out (j := j) (by omega)
        rw [← hq] at hql
        have hjI : (j : Int) < (K : Int) := by omega
        obtain ⟨b', off', hA, _, _, hcd⟩ := HSL.out.elem (i := a + 1 + j) (by have := HLEN.out; omega)
        injection hA with hA
        injection hA with hA1 hA2
        subst hA1 hA2
        rw [HGET.out j] at hcd
        have hdb := HBT.out (t[j]?.getD 0) (by rw [List.getElem?_eq_getElem (by omega)]; exact List.getElem_mem _)
        have HST := Lib.hid (hst (by omega))
        obtain ⟨d, hd⟩ : ∃ d, d = t[j]?.getD 0 := ⟨_, rfl⟩
        rw [← hd] at hcd hdb HST
        have hmul : IntKind.u64.wrap ((q : Int) * 256) = (q : Int) * 256 := wraps_u64 _ (by omega) (by omega)
        have hcd2 : IntKind.u64.wrap d = d := wraps_u64 _ (by omega) (by omega)
        have hadd : IntKind.u64.wrap ((q : Int) * 256 + d) = (q : Int) * 256 + d := wraps_u64 _ (by omega) (by omega)
        have htn : ((a : Int) + 1 + (j : Int)).toNat = a + 1 + j := by omega
        have hi1 : (a : Int) + 1 + (j : Int) < (xs.length : Int) := by have := HLEN.out; omega
        clear hq hd hst
        go_wp2
        go_roundw
        case rel =>
          refine ⟨j + 1, by omega, ?_, by go_num, trivial⟩
          rw [HST.out, Int.natCast_add, Int.natCast_mul, Int.toNat_of_nonneg hdb.1]; rfl
        case measure => simp [intOf]; omega
      · have hjK' : j = K := by omega
        subst hjK'
        have hqu : q = u := by rw [hq, HU.out]
        subst hqu
        clear hq hst
        obtain ⟨b', off', hA, _, _, hcd⟩ := HSL.out.elem (i := a + 1) (by have := HLEN.out; omega)
        injection hA with hA
        injection hA with hA1 hA2
        subst hA1 hA2
        rw [show xs[a + 1]?.getD 0 = t[0]?.getD 0 from HGET.out 0] at hcd
        obtain ⟨d, hd⟩ : ∃ d, d = t[0]?.getD 0 := ⟨_, rfl⟩
        rw [← hd] at hcd HH
        have htn : ((a : Int) + 1).toNat = a + 1 := by omega
        have hi1 : (a : Int) + 1 < (xs.length : Int) := by have := HLEN.out; omega
        have hk3I : (j : Int) > 0 := by omega
        clear hd
        rcases HH.out with ⟨hz, rfl, rfl, rfl⟩ | ⟨hz, hq1, rfl, rfl, rfl⟩
        · by_cases hd0 : d = 0
          · subst hd0
            go_wp2
            simp [bodyPost, results, Tryd.results66, go_sem]
          · have hqI : (q : Int) > 9223372036854775808 := by rcases hz with h | h <;> omega
            have hdb0 : (d == 0) = false := by simp [hd0]
            clear hz
            go_wp2
            simp [bodyPost, results, Tryd.results66, go_sem]
        · have hdb0 : (d == 0) = false := by simp [hz]
          have hqI : ¬ (q : Int) > 9223372036854775808 := by omega
          obtain ⟨y, hy1, hy2⟩ : ∃ y, IntKind.u64.wrap (-(q : Int)) = y ∧ IntKind.i64.wrap y = -(q : Int) := by
            refine ⟨_, rfl, ?_⟩
            rw [IntKind.wrap_u64, IntKind.wrap_i64]; omega
          have hk1 : IntKind.i64.wrap ((j : Int) + 1) = (j : Int) + 1 := IntWalk.i64_in _ (by omega)
          clear hz
          go_wp2
          simp [bodyPost, results, Tryd.results66, go_sem]
  · subst k2
    have HH := Lib.hid hh
    clear hh
    go_enter Tryd.func66, Tryd.ntmps66
    go_wp2
    have HK0 := Lib.hid hK8
    go_loopw [9, 10] (fun q i wr => ∃ j : Nat, j ≤ K ∧ q = .int .u64 ((valD (t.take j) : Nat) : Int) ∧ i = .int .i64 j ∧ wr = w) (fun _ i _ => K - (intOf i).toNat)
    case atStart => exact ⟨0, Nat.zero_le _, rfl, rfl, rfl⟩
    case round =>
      obtain ⟨j, hj, rfl, rfl, rfl⟩ := hrel
      have hst := fun h : j < t.length => valD_step h
      obtain ⟨q, hq⟩ : ∃ q, q = valD (t.take j) := ⟨_, rfl⟩
      rw [← hq]
      rw [← hq] at hst
      by_cases hjK : j < K
      · have hql := valD_take_lt HBT.out (j := j) (by omega)
        rw [← hq] at hql
        have hjI : (j : Int) < (K : Int) := by omega
        obtain ⟨b', off', hA, _, _, hcd⟩ := HSL.out.elem (i := a + 1 + j) (by have := HLEN.out; omega)
        injection hA with hA
        injection hA with hA1 hA2
        subst hA1 hA2
        rw [HGET.out j] at hcd
        have hdb := HBT.out (t[j]?.getD 0) (by rw [List.getElem?_eq_getElem (by omega)]; exact List.getElem_mem _)
        have HST := Lib.hid (hst (by omega))
        obtain ⟨d, hd⟩ : ∃ d, d = t[j]?.getD 0 := ⟨_, rfl⟩
        rw [← hd] at hcd hdb HST
        have hmul : IntKind.u64.wrap ((q : Int) * 256) = (q : Int) * 256 := wraps_u64 _ (by omega) (by omega)
        have hcd2 : IntKind.u64.wrap d = d := wraps_u64 _ (by omega) (by omega)
        have hadd : IntKind.u64.wrap ((q : Int) * 256 + d) = (q : Int) * 256 + d := wraps_u64 _ (by omega) (by omega)
        have htn : ((a : Int) + 1 + (j : Int)).toNat = a + 1 + j := by omega
        have hi1 : (a : Int) + 1 + (j : Int) < (xs.length : Int) := by have := HLEN.out; omega
        clear hq hd hst
        go_wp2
        go_roundw
        case rel =>
          refine ⟨j + 1, by omega, ?_, by go_num, trivial⟩
          rw [HST.out, Int.natCast_add, Int.natCast_mul, Int.toNat_of_nonneg hdb.1]; rfl
        case measure => simp [intOf]; omega
      · have hjK' : j = K := by omega
        subst hjK'
        have hqu : q = u := by rw [hq, HU.out]
        subst hqu
        clear hq hst
        have hk1 : IntKind.i64.wrap ((j : Int) + 1) = (j : Int) + 1 := IntWalk.i64_in _ (by omega)
        by_cases hj0 : j = 0
        · have hj0I : ¬ (j : Int) > 0 := by omega
          rcases HH.out with ⟨hz, rfl, rfl, rfl⟩ | ⟨hz, hq1, rfl, rfl, rfl⟩
          · have hqI : (q : Int) > 9223372036854775807 := by omega
            clear hz
            go_wp2
            simp [bodyPost, results, Tryd.results66, go_sem]
          · have hqI : ¬ (q : Int) > 9223372036854775807 := by omega
            have hcq : IntKind.i64.wrap (q : Int) = (q : Int) := IntWalk.i64_in _ (by omega)
            clear hz
            go_wp2
            simp [bodyPost, results, Tryd.results66, go_sem]
        · obtain ⟨b', off', hA, _, _, hcd⟩ := HSL.out.elem (i := a + 1) (by have := HLEN.out; omega)
          injection hA with hA
          injection hA with hA1 hA2
          subst hA1 hA2
          rw [show xs[a + 1]?.getD 0 = t[0]?.getD 0 from HGET.out 0] at hcd
          obtain ⟨d, hd⟩ : ∃ d, d = t[0]?.getD 0 := ⟨_, rfl⟩
          rw [← hd] at hcd HH
          have htn : ((a : Int) + 1).toNat = a + 1 := by omega
          have hi1 : (a : Int) + 1 < (xs.length : Int) := by have := HLEN.out; omega
          have hj0I : (j : Int) > 0 := by omega
          clear hd
          rcases HH.out with ⟨hz, rfl, rfl, rfl⟩ | ⟨hz, hq1, rfl, rfl, rfl⟩
          · by_cases hd0 : d = 0
            · subst hd0
              go_wp2
              simp [bodyPost, results, Tryd.results66, go_sem]
            · have hqI : (q : Int) > 9223372036854775807 := by omega
              have hdb0 : (d == 0) = false := by simp [hd0]
              clear hz
              go_wp2
              simp [bodyPost, results, Tryd.results66, go_sem]
          · have hd0 : d ≠ 0 := by rcases hz with h | h; exact absurd h hj0; exact h
            have hdb0 : (d == 0) = false := by simp [hd0]
            have hqI : ¬ (q : Int) > 9223372036854775807 := by omega
            have hcq : IntKind.i64.wrap (q : Int) = (q : Int) := IntWalk.i64_in _ (by omega)
            clear hz
            go_wp2
            simp [bodyPost, results, Tryd.results66, go_sem]
end Go.Proofs.YtjjccjannandlaaDoor

/- The document's reader: number, whatever there is; From, Int, Done. -/
set_option maxRecDepth 100000
set_option linter.unusedVariables false
set_option linter.unusedSimpArgs false
namespace Go.Proofs.YtjjccjannandlaaDoor
open Go.RowKit Go.BigFrame

theorem rnumber_any {xs : List Int} {S : Value} {p a : Nat} {why : Int} {w : World} (hR : Rd w p xs S a why) (hl : xs.length ≤ 1099511627776) (hb : Bytes xs) (n k e : Int) (hr : rnumR (xs.drop a) = (n, k, e)) :
    Calls Tryd.prog 66 #[.pointer (some ⟨p, 0, none⟩), .int .i64 a] w fun r w' => r = .returned (.tuple #[.int .i64 n, .int .i64 k, .int .i64 e]) ∧ w = w' := by
  have hbd := hb.drop a
  cases hx : xs.drop a with
  | nil =>
    rw [hx] at hr
    injection hr with h1 h2
    injection h2 with h2 h3
    subst h1 h2 h3
    exact rnum_empty hR (by have := congrArg List.length hx; rw [List.length_drop, List.length_nil] at this; omega)
  | cons h t =>
    rw [hx] at hr hbd
    obtain ⟨h0, h1⟩ := hbd h (by simp)
    have hbt : ∀ d ∈ t, 0 ≤ d ∧ d ≤ 255 := fun d hd => hbd d (by simp [hd])
    unfold rnumR at hr
    rw [numR_cons] at hr
    by_cases c1 : 8 < kOf h ∨ h = 16
    · rw [if_pos c1] at hr
      injection hr with e1 e2
      injection e2 with e2 e3
      subst e1 e2 e3
      exact rnum_head hR hl hx h0 h1 c1
    rw [if_neg c1] at hr
    have hk8 : kOf h ≤ 8 := by omega
    have hh16 : h ≠ 16 := fun e => c1 (.inr e)
    by_cases c2 : t.length < kOf h
    · rw [if_pos c2] at hr
      injection hr with e1 e2
      injection e2 with e2 e3
      subst e1 e2 e3
      refine rnum_short hR hl hx hk8 ?_ c2
      by_cases hgt : 16 < h
      · have := (kOf_hi hgt h1 hk8).1
        exact .inl ⟨hgt, by omega, by omega⟩
      · exact .inr ⟨by omega, (kOf_lo h0 (by omega) hh16).1.symm⟩
    rw [if_neg c2] at hr
    refine rnum_val hR hl hx hk8 hbt (by omega) n k e _ rfl ?_
    by_cases hgt : 16 < h
    · obtain ⟨k1, k2⟩ := kOf_hi hgt h1 hk8
      left
      refine ⟨hgt, by omega, by omega, ?_⟩
      by_cases c3 : 0 < kOf h ∧ t[0]?.getD 0 = 0
      · rw [if_pos c3] at hr
        injection hr with e1 e2
        injection e2 with e2 e3
        exact .inl ⟨.inl c3.2, e1.symm, e2.symm, e3.symm⟩
      · rw [if_neg c3, if_neg k2] at hr
        have hz : t[0]?.getD 0 ≠ 0 := fun e => c3 ⟨by omega, e⟩
        by_cases c5 : valD (t.take (kOf h)) ≤ 9223372036854775808
        · rw [if_pos c5] at hr
          injection hr with e1 e2
          injection e2 with e2 e3
          refine .inr ⟨hz, c5, e1.symm, ?_, e3.symm⟩
          rw [← e2]; simp
        · rw [if_neg c5] at hr
          injection hr with e1 e2
          injection e2 with e2 e3
          exact .inl ⟨.inr (by omega), e1.symm, e2.symm, e3.symm⟩
    · obtain ⟨k1, k2⟩ := kOf_lo h0 (by omega) hh16
      right
      refine ⟨by omega, k1.symm, ?_⟩
      by_cases c3 : 0 < kOf h ∧ t[0]?.getD 0 = 0
      · rw [if_pos c3] at hr
        injection hr with e1 e2
        injection e2 with e2 e3
        exact .inl ⟨.inl c3, e1.symm, e2.symm, e3.symm⟩
      · rw [if_neg c3, if_pos k2] at hr
        have hz : kOf h = 0 ∨ t[0]?.getD 0 ≠ 0 := by
          rcases Nat.eq_zero_or_pos (kOf h) with h' | h'
          · exact .inl h'
          · exact .inr fun e => c3 ⟨h', e⟩
        by_cases c5 : valD (t.take (kOf h)) < 9223372036854775808
        · rw [if_pos c5] at hr
          injection hr with e1 e2
          injection e2 with e2 e3
          refine .inr ⟨hz, c5, e1.symm, ?_, e3.symm⟩
          rw [← e2]; simp
        · rw [if_neg c5] at hr
          injection hr with e1 e2
          injection e2 with e2 e3
          exact .inl ⟨.inr (by omega), e1.symm, e2.symm, e3.symm⟩

theorem next_rnum {xs : List Int} {a : Nat} {n k e : Int} (hr : rnumR (xs.drop a) = (n, k, e)) : nextI xs (a, 0) = (n, (a + k.toNat, e)) ∧ (a : Int) + k = ((a + k.toNat : Nat) : Int) ∧ 0 ≤ k ∧ k ≤ xs.length := by
  unfold rnumR at hr
  unfold nextI
  rw [if_pos rfl]
  dsimp only
  cases h : numR (xs.drop a) with
  | inl c =>
    rw [h] at hr
    injection hr with e1 e2
    injection e2 with e2 e3
    subst e1 e2 e3
    exact ⟨rfl, by simp, by omega, by omega⟩
  | inr v =>
    obtain ⟨m, q⟩ := v
    rw [h] at hr
    injection hr with e1 e2
    injection e2 with e2 e3
    subst e1 e2 e3
    have := (numR_le h).1
    rw [List.length_drop] at this
    exact ⟨rfl, by simp, by omega, by omega⟩

set_option maxHeartbeats 2000000 in
theorem rInt_next {xs : List Int} {S : Value} {p : Nat} {st : Nat × Int} {w : World} (hR : Rd w p xs S (st.1 : Int) st.2) (hl : xs.length ≤ 1099511627776) (ha : st.1 ≤ xs.length) (hb : Bytes xs) (r : Int × Nat × Int) (hr : nextI xs st = r) :
    Calls Tryd.prog 59 #[.pointer (some ⟨p, 0, none⟩)] w fun e w' => e = .returned (.int .i64 r.1) ∧ But p w w' ∧ Rd w' p xs S (r.2.1 : Int) r.2.2 := by
  obtain ⟨a, why⟩ := st
  dsimp only at hR ha
  have hc1 := hR.c1
  have hc2 := hR.c2
  have hf1 := hR.fz 1
  have hf2 := hR.fz 2
  have hplt := hR.lt
  by_cases hw : why = 0
  · subst hw
    obtain ⟨⟨n, k, e⟩, hnke⟩ : ∃ z, rnumR (xs.drop a) = z := ⟨_, rfl⟩
    obtain ⟨h1, h2, h3, h4⟩ := next_rnum hnke
    rw [h1] at hr
    subst hr
    have HN := Lib.hid (rnumber_any hR hl hb n k e hnke)
    have hak : IntKind.i64.wrap ((a : Int) + k) = (a : Int) + k := IntWalk.i64_in _ (by omega)
    have HR := Lib.hid hR
    have H2 := Lib.hid h2
    clear hR hnke h1 h2 hb
    go_enter Tryd.func59, Tryd.ntmps59
    go_wp2_with fail
    refine HN.out.mono ?_
    rintro r w1 ⟨rfl, rfl⟩
    go_wp2_with fail
    go_ret
    refine ⟨rfl, ((But.refl _ _).store 1 _).store 2 _, ?_⟩
    have := (HR.out.setAt ((a : Int) + k)).setWhy e
    rw [H2.out] at this ⊢
    exact this
  · have e1 : nextI xs (a, why) = (0, a, why) := nextI_stop hw
    rw [e1] at hr
    subst hr
    have hwb : (why != 0) = true := by simp [hw]
    have HR := Lib.hid hR
    clear hR e1
    go_enter Tryd.func59, Tryd.ntmps59
    go_wp2_with fail
    go_ret
    exact ⟨rfl, But.refl _ _, HR.out⟩
end Go.Proofs.YtjjccjannandlaaDoor

/- The document's reader: From, Done. -/
set_option maxRecDepth 100000
set_option linter.unusedVariables false
set_option linter.unusedSimpArgs false
namespace Go.Proofs.YtjjccjannandlaaDoor
open Go.RowKit Go.BigFrame

set_option maxHeartbeats 1000000 in
/-- From: its bytes lie in new memory. -/
theorem rFrom_new (xs : List Int) (v : Value) (w : World) (hx : Sl .u8 w w.heap.size v xs) (hl : xs.length ≤ 1099511627776) :
    Calls Tryd.prog 58 #[v] w fun e w' => ∃ p S, e = .returned (.pointer (some ⟨p, 0, none⟩)) ∧ w.heap.size ≤ p ∧ Below w.heap.size w w' ∧ Rd w' p xs S 0 0 ∧ ∀ b o n c, S = .slice (some ⟨b, o, none⟩) n c → w.heap.size ≤ b := by
  obtain ⟨A, c, rfl⟩ := hx.shape
  have HX := Lib.hid hx
  clear hx
  go_enter Tryd.func58, Tryd.ntmps58
  go_wp2_with (at_builtin; refine wpList_append_sl rfl _ _ 51 rfl Tryd.underlying51 infoBytes (by decide) rfl rfl (OwnK.nil_ w w.heap.size) HX.out (by rw [List.length_nil]; omega) (Nat.le_refl _) ?_; intro v' w1 hown hb1; have hs1 := hb1.size; rw [List.nil_append] at hown; have HS1 := Lib.hid hown.sl; have HSH := Lib.hid hown.shape; clear hown; obtain ⟨A1, c1, rfl⟩ := HS1.out.shape)
  go_ret
  refine ⟨w1.heap.size, .slice A1 xs.length c1, rfl, hs1, hb1.alloc hs1 _, ?_, ?_⟩
  · have hsl := HS1.out.below (Below.alloc (Below.refl w1.heap.size w1) (Nat.le_refl _) (.cells #[.slice A1 xs.length c1, .int .i64 0, .int .i64 0] 106))
    exact ⟨by simp, hsl, by simp [go_sem], by simp [go_sem], by simp [go_sem], fun i => by simp [go_sem]⟩
  · intro b o n c h
    rcases HSH.out with ⟨h1, _⟩ | ⟨g, cap, h1, hg, _⟩
    · rw [h] at h1; cases h1
    · rw [h] at h1
      injection h1 with h1 h2 h3
      injection h1 with h1
      injection h1 with h1
      omega

set_option maxHeartbeats 1000000 in
theorem rDone_any {xs : List Int} {S : Value} {p : Nat} {a why : Int} {w : World} (hR : Rd w p xs S a why) :
    Calls Tryd.prog 60 #[.pointer (some ⟨p, 0, none⟩)] w fun e w' => e = .returned (.int .i64 (doneR xs a why)) ∧ Below w.heap.size w w' := by
  obtain ⟨A, c, rfl⟩ := hR.sl.shape
  have hc0 := hR.c0
  have hc1 := hR.c1
  have hc2 := hR.c2
  have hplt := hR.lt
  by_cases hw : why = 0
  · subst hw
    by_cases hlt : a < (xs.length : Int)
    · have e : doneR xs a 0 = 5 := by unfold doneR; rw [if_pos ⟨rfl, hlt⟩]
      rw [e]
      clear e hR
      go_enter Tryd.func60, Tryd.ntmps60
      go_wp2
      go_region
      go_wp2
      go_ret
      exact ⟨rfl, Below.drew (Below.refl _ _)⟩
    · have e : doneR xs a 0 = 0 := by unfold doneR; rw [if_neg (fun h => hlt h.2)]
      rw [e]
      clear e hR
      go_enter Tryd.func60, Tryd.ntmps60
      go_wp2
      go_region
      go_wp2
      go_ret
      exact ⟨rfl, Below.drew (Below.refl _ _)⟩
  · have e : doneR xs a why = why := by unfold doneR; rw [if_neg (fun h => hw h.1)]
    rw [e]
    have hwb : (why == 0) = false := by simp [hw]
    clear e hR
    go_enter Tryd.func60, Tryd.ntmps60
    go_wp2
    go_region
    go_wp2
    go_ret
    exact ⟨rfl, Below.drew (Below.refl _ _)⟩
end Go.Proofs.YtjjccjannandlaaDoor

/- The document's Put of a command. -/
set_option maxRecDepth 100000
set_option linter.unusedVariables false
set_option linter.unusedSimpArgs false
namespace Go.Proofs.YtjjccjannandlaaDoor
open Go.RowKit Go.BigFrame

set_option maxHeartbeats 4000000 in
theorem rPut_any (v : Nat → Int) (w : World) (h64 : V64 v) :
    Calls Tryd.prog 44 #[cmdV v] w fun e w' => ∃ r, e = .returned r ∧ OwnBytes w' w.heap.size r (encs (firstN v 7)) ∧ Below w.heap.size w w' := by
  have H64 := Lib.hid h64
  clear h64
  go_enter Tryd.func44, Tryd.ntmps44
  go_wp2_with fail
  obtain ⟨w1, hw1⟩ : ∃ w1, w1 = (w.alloc (.cells #[.int .i64 (v 0), .int .i64 (v 1), .int .i64 (v 2), .int .i64 (v 3), .int .i64 (v 4), .int .i64 (v 5), .int .i64 (v 6)] 27)).alloc (.cells #[.int .i64 (v 0), .int .i64 (v 1), .int .i64 (v 2), .int .i64 (v 3), .int .i64 (v 4), .int .i64 (v 5), .int .i64 (v 6)] 3) := ⟨_, rfl⟩
  rw [← hw1]
  have hB1 : Below w.heap.size w w1 := by rw [hw1]; exact Bel.grew (Bel.grew (Below.refl _ _) _) _
  have hs1 : w1.heap.size = w.heap.size + 2 := by rw [hw1]; simp
  have hc : ∀ i, i < 7 → w1.cell? ⟨w.heap.size + 1, i, none⟩ = some (.int .i64 (v i)) := by
    intro i hi
    rw [hw1]
    rcases (show i = 0 ∨ i = 1 ∨ i = 2 ∨ i = 3 ∨ i = 4 ∨ i = 5 ∨ i = 6 from by omega) with rfl | rfl | rfl | rfl | rfl | rfl | rfl
    all_goals simp [go_sem]
  have HC := Lib.hid hc
  have HB1 := Lib.hid hB1
  have HS1 := Lib.hid hs1
  clear hw1 hc hB1 hs1
  go_loopw [4, 5] (fun b i wr => ∃ k : Nat, k ≤ 7 ∧ i = .int .i64 k ∧ OwnBytes wr w1.heap.size b (encs (firstN v k)) ∧ Below w1.heap.size w1 wr) (fun _ i _ => 7 - (intOf i).toNat)
  case atStart => exact ⟨0, by omega, rfl, OwnK.nil_ _ _, Below.refl _ _⟩
  case round =>
    obtain ⟨k, hk, rfl, hown, hb⟩ := hrel
    have HO := Lib.hid hown
    have HB := Lib.hid hb
    clear hown hb
    by_cases hk7 : k < 7
    · have hck : wr.cell? ⟨w.heap.size + 1, k, none⟩ = some (.int .i64 (v k)) := by
        have h2 := HS1.out
        exact (HB.out.cell (p := ⟨w.heap.size + 1, k, none⟩) (by show w.heap.size + 1 < _; omega)).trans (HC.out k hk7)
      have hbk := H64.out k hk7
      have hlen := encs_le (firstN_64 H64.out (k := k) (by omega))
      have HSU := Lib.hid (congrArg encs (firstN_succ v k))
      have HL : Hid ((encs (firstN v k)).length ≤ 1099511627776) := by
        rw [firstN_length] at hlen
        exact Lib.hid (by omega)
      obtain ⟨x, hx⟩ : ∃ x, x = v k := ⟨_, rfl⟩
      rw [← hx] at hck hbk HSU
      have hs2 := HB.out.size
      have hkI : (k : Int) < 7 := by omega
      clear hlen hx
      go_wp2_with fail
      refine (rint_any _ x _ _ _ HO.out.sl (Nat.le_refl _) HL.out hbk.1 hbk.2).mono ?_
      rintro e w3 ⟨r, rfl, hr, hb3⟩
      rw [← encs_snoc, ← HSU.out] at hr
      have HR := Lib.hid (hr.down hs2)
      have HB3 := Lib.hid (Bel.then HB.out hb3)
      clear hr hb3
      go_wp2_with fail
      go_roundw
      case rel => exact ⟨k + 1, by omega, by go_num, HR.out, HB3.out⟩
      case measure => simp [intOf]; omega
    · have hk4 : k = 7 := by omega
      subst hk4
      go_wp2
      go_ret
      exact ⟨_, rfl, HO.out.down HB1.out.size, Bel.then HB1.out HB.out⟩
end Go.Proofs.YtjjccjannandlaaDoor

/- The document's Get of a command. -/
set_option maxRecDepth 100000
set_option linter.unusedVariables false
set_option linter.unusedSimpArgs false
namespace Go.Proofs.YtjjccjannandlaaDoor
open Go.RowKit Go.BigFrame

set_option maxHeartbeats 8000000 in
theorem rGet_any (xs : List Int) (v : Value) (w : World) (hx : Sl .u8 w w.heap.size v xs) (hl : xs.length ≤ 1099511627776) (hb : Bytes xs) (g : Nat → Int) (d : Int) (hg : getC xs = g) (hd : getE xs = d) :
    Calls Tryd.prog 43 #[v] w fun e w' => e = .returned (.tuple #[cmdV g, .int .i64 d]) ∧ Below w.heap.size w w' := by
  obtain ⟨A, c, rfl⟩ := hx.shape
  have HX := Lib.hid hx
  have HBY := Lib.hid hb
  have HG := Lib.hid hg
  have HD := Lib.hid hd
  clear hx hb hg hd
  obtain ⟨w1, hw1⟩ : ∃ w1, w1 = w.alloc (.cells #[.int .i64 0, .int .i64 0, .int .i64 0, .int .i64 0, .int .i64 0, .int .i64 0, .int .i64 0] 27) := ⟨_, rfl⟩
  have hB1 : Below w.heap.size w w1 := by rw [hw1]; exact Bel.grew (Below.refl _ _) _
  have hs1 : w1.heap.size = w.heap.size + 1 := by rw [hw1]; simp
  have h7 : Cells7 w1 w.heap.size (fun _ => 0) := by
    intro o ho
    rw [hw1]
    rcases (show o = 0 ∨ o = 1 ∨ o = 2 ∨ o = 3 ∨ o = 4 ∨ o = 5 ∨ o = 6 from by omega) with rfl | rfl | rfl | rfl | rfl | rfl | rfl
    all_goals simp [go_sem]
  have HW1 := Lib.hid hw1
  have HB1 := Lib.hid hB1
  have HS1 := Lib.hid hs1
  have HR1 := Lib.hid h7
  clear hw1 hB1 hs1 h7
  go_enter Tryd.func43, Tryd.ntmps43
  go_wp2_with fail
  rw [← HW1.out]
  refine (rFrom_new xs _ w1 (HX.out.later HB1.out) hl).mono ?_
  rintro e w3 ⟨p, S, rfl, hp, hb3, hR, _⟩
  have hp' : w.heap.size + 1 ≤ p := by have := HS1.out; omega
  have HB3 : Hid (Below w.heap.size w w3) := HB1.out.trans (hb3.mono (by have := HS1.out; omega))
  have HR3 := Lib.hid (HR1.out.below (by have := HS1.out; omega) hb3)
  have HRd := Lib.hid hR
  clear hp hb3 hR HW1 HB1 HS1 HR1
  go_wp2_with fail
  go_loopw [5, 6] (fun l i wr => ∃ k : Nat, k ≤ 7 ∧ i = .int .i64 k ∧ OwnK .i64 3 wr (p + 1) l (firstN (valN xs (0, 0)) k) ∧ Below w.heap.size w wr ∧ Rd wr p xs S ((rdN xs (0, 0) k).1 : Int) (rdN xs (0, 0) k).2 ∧ Cells7 wr w.heap.size (fun _ => 0)) (fun _ i _ => 7 - (intOf i).toNat)
  case atStart => exact ⟨0, by omega, rfl, OwnK.nil_ _ _, HB3.out, HRd.out, HR3.out⟩
  case round =>
    obtain ⟨k, hk, rfl, hown, hb, hR, hRes⟩ := hrel
    have HO := Lib.hid hown
    have HB := Lib.hid hb
    have HR := Lib.hid hR
    have HRes := Lib.hid hRes
    clear hown hb hR hRes HB3 HRd HR3
    have hplt := HR.out.lt
    have hle := rdN_le (xs := xs) (st := (0, 0)) (Nat.zero_le _) k
    obtain ⟨st, hst⟩ : ∃ st, rdN xs (0, 0) k = st := ⟨_, rfl⟩
    rw [hst] at HR hle
    by_cases hk7 : k < 7
    · have hkI : (k : Int) < 7 := by omega
      obtain ⟨r, hr⟩ : ∃ r, nextI xs st = r := ⟨_, rfl⟩
      have hv1 : valN xs (0, 0) k = r.1 := by unfold valN; rw [hst, hr]
      have HN : Hid (rdN xs (0, 0) (k + 1) = r.2) := by rw [rdN_succ, hst, hr]; exact Lib.hid rfl
      have HSU : Hid (firstN (valN xs (0, 0)) (k + 1) = firstN (valN xs (0, 0)) k ++ [r.1]) := by rw [← hv1]; exact firstN_succ _ _
      have HNR := Lib.hid hr
      clear hst hr hv1
      go_wp2_with fail
      refine (rInt_next HR.out hl hle HBY.out r HNR.out).mono ?_
      rintro e w5 ⟨rfl, hb5, hR5⟩
      have HO5 := Lib.hid (HO.out.but (Nat.lt_succ_self p) hb5)
      have HRes5 := Lib.hid (HRes.out.but (by omega) (by omega) hb5)
      have HB5 := Lib.hid (HB.out.trans (hb5.below (by omega) HB.out.size))
      have HR5 := Lib.hid hR5
      have hp5 := HR5.out.lt
      clear hb5 hR5 HO HRes HB HR
      go_wp2_with (at_builtin; refine wpList_append_sl rfl _ _ 28 rfl Tryd.underlying28 infoInts (by decide) rfl rfl (HO5.out.grow _) (Sl.one _ _ r.1 _ rfl) (by rw [firstN_length, List.length_cons, List.length_nil]; omega) (by rw [World.size_alloc]; omega) ?_; intro v6 w6 hown6 hb6)
      have hb56 : Below (p + 1) w5 w6 := ((Below.refl _ _).alloc (by omega) _).trans hb6
      go_roundw
      case rel =>
        refine ⟨k + 1, by omega, by go_num, ?_, HB5.out.trans (hb56.mono (by omega)), ?_, HRes5.out.below (by omega) hb56⟩
        · rw [HSU.out]; exact hown6
        · rw [HN.out]; exact HR5.out.below1 hb56
      case measure => simp [intOf]; omega
    · have hk4 : k = 7 := by omega
      subst hk4
      have HDD : Hid (doneR xs (st.1 : Int) st.2 = d) := by
        rw [← HD.out]; unfold getE doneN; rw [hst]; exact Lib.hid rfl
      go_wp2_with fail
      refine (rDone_any HR.out).mono ?_
      rw [HDD.out]
      rintro e w5 ⟨rfl, hb5⟩
      have HB5 := Lib.hid (Bel.then HB.out hb5)
      have HO5 := Lib.hid (HO.out.later hb5)
      have HRes5 := Lib.hid (HRes.out.below (by omega) hb5)
      clear hb5 HO HRes HB HR
      obtain ⟨⟨r0, f0⟩, ⟨r1, f1⟩, ⟨r2, f2⟩, ⟨r3, f3⟩, ⟨r4, f4⟩, ⟨r5, f5⟩, ⟨r6, f6⟩⟩ := And.intro (HRes5.out 0 (by decide)) (And.intro (HRes5.out 1 (by decide)) (And.intro (HRes5.out 2 (by decide)) (And.intro (HRes5.out 3 (by decide)) (And.intro (HRes5.out 4 (by decide)) (And.intro (HRes5.out 5 (by decide)) (HRes5.out 6 (by decide)))))))
      by_cases hd0 : d = 0
      · have hdb : (d != 0) = false := by simp [hd0]
        have hgv : ∀ o, g o = valN xs (0, 0) o := fun o => by rw [← HG.out]; unfold getC; rw [if_pos (by rw [HD.out]; exact hd0)]
        have hfn : firstN (valN xs (0, 0)) 7 = firstN g 7 := by unfold firstN; exact List.map_congr_left fun i _ => (hgv i).symm
        rw [hfn] at HO5
        obtain ⟨A5, c5, h5⟩ := HO5.out.sl.shape
        rw [firstN_length] at h5
        subst h5
        obtain ⟨b, off, rfl, hbB, hcap, hcx⟩ := HO5.out.sl.elem (i := 0) (by rw [firstN_length]; decide)
        have hall : ∀ i, i < 7 → w5.cell? ⟨b, off + i, none⟩ = some (.int .i64 (g i)) := fun i hi => by
          obtain ⟨b', off', hA, _, _, hc⟩ := HO5.out.sl.elem (i := i) (by rw [firstN_length]; exact hi)
          injection hA with hA
          injection hA with hA1 hA2
          subst hA1 hA2
          rw [firstN_get hi] at hc
          exact hc
        obtain ⟨l0, l1, l2, l3, l4, l5, l6⟩ := And.intro (hall 0 (by decide)) (And.intro (hall 1 (by decide)) (And.intro (hall 2 (by decide)) (And.intro (hall 3 (by decide)) (And.intro (hall 4 (by decide)) (And.intro (hall 5 (by decide)) (hall 6 (by decide)))))))
        rw [Nat.add_zero] at l0
        rw [firstN_length] at hcap
        have HC7 := Lib.hid (Cells7.store7 (w := w5.drew) HRes5.out g)
        have HB7 := Lib.hid (Below.store7 (Below.drew HB5.out) (Nat.le_refl _) g)
        have hbp := own_base (OwnK.row HO5.out) b rfl
        have hn1 : b ≠ w.heap.size := by omega
        have hn2 : w.heap.size ≠ b := by omega
        clear HRes5 HX HBY hall hcx hgv hfn
        subst hd0
        go_wp2_with fail
        go_still_tail 21, (by kernel_rfl)
        change wpList _ _ _ _ _ w5.drew
        obtain ⟨w6, h6⟩ : ∃ w6, w6 = w5.drew := ⟨_, rfl⟩
        rw [← h6] at HC7 HB7 ⊢
        replace r0 : w6.cell? ⟨w.heap.size, 0, none⟩ = some (.int .i64 0) := by rw [h6]; exact r0
        replace r1 : w6.cell? ⟨w.heap.size, 1, none⟩ = some (.int .i64 0) := by rw [h6]; exact r1
        replace r2 : w6.cell? ⟨w.heap.size, 2, none⟩ = some (.int .i64 0) := by rw [h6]; exact r2
        replace r3 : w6.cell? ⟨w.heap.size, 3, none⟩ = some (.int .i64 0) := by rw [h6]; exact r3
        replace r4 : w6.cell? ⟨w.heap.size, 4, none⟩ = some (.int .i64 0) := by rw [h6]; exact r4
        replace r5 : w6.cell? ⟨w.heap.size, 5, none⟩ = some (.int .i64 0) := by rw [h6]; exact r5
        replace r6 : w6.cell? ⟨w.heap.size, 6, none⟩ = some (.int .i64 0) := by rw [h6]; exact r6
        replace f0 : w6.frozen? ⟨w.heap.size, 0, none⟩ = false := by rw [h6]; exact f0
        replace f1 : w6.frozen? ⟨w.heap.size, 1, none⟩ = false := by rw [h6]; exact f1
        replace f2 : w6.frozen? ⟨w.heap.size, 2, none⟩ = false := by rw [h6]; exact f2
        replace f3 : w6.frozen? ⟨w.heap.size, 3, none⟩ = false := by rw [h6]; exact f3
        replace f4 : w6.frozen? ⟨w.heap.size, 4, none⟩ = false := by rw [h6]; exact f4
        replace f5 : w6.frozen? ⟨w.heap.size, 5, none⟩ = false := by rw [h6]; exact f5
        replace f6 : w6.frozen? ⟨w.heap.size, 6, none⟩ = false := by rw [h6]; exact f6
        clear h6 l0 l1 l2 l3 l4 l5 l6
        go_wp2_with fail
        change bodyPost _ _ _ _ _ (store7 w6 w.heap.size g)
        obtain ⟨wf, hwf⟩ : ∃ wf, wf = store7 w6 w.heap.size g := ⟨_, rfl⟩
        rw [← hwf] at HC7 HB7 ⊢
        obtain ⟨c0, c1, c2, c3, c4, c5, c6⟩ := And.intro (HC7.out 0 (by decide)).1 (And.intro (HC7.out 1 (by decide)).1 (And.intro (HC7.out 2 (by decide)).1 (And.intro (HC7.out 3 (by decide)).1 (And.intro (HC7.out 4 (by decide)).1 (And.intro (HC7.out 5 (by decide)).1 (HC7.out 6 (by decide)).1)))))
        have hBf := HB7.out
        clear hwf
        simp [bodyPost, results, Tryd.results43, go_sem, c0, c1, c2, c3, c4, c5, c6, hBf]
      · have hdb : (d != 0) = true := by simp [hd0]
        have hg0 : g = fun _ => 0 := funext fun o => by rw [← HG.out]; unfold getC; rw [if_neg (by rw [HD.out]; exact hd0)]
        have HC7 := Lib.hid (HRes5.out.store7 (fun _ => 0))
        have HB7 := Lib.hid (Below.store7 HB5.out (Nat.le_refl _) (fun _ => 0))
        clear HRes5 HX HBY HG
        subst hg0
        go_wp2_with fail
        change bodyPost _ _ _ _ _ (store7 w5 w.heap.size (fun _ => 0))
        obtain ⟨wf, hwf⟩ : ∃ wf, wf = store7 w5 w.heap.size (fun _ => 0) := ⟨_, rfl⟩
        rw [← hwf] at HC7 HB7 ⊢
        obtain ⟨c0, c1, c2, c3, c4, c5, c6⟩ := And.intro (HC7.out 0 (by decide)).1 (And.intro (HC7.out 1 (by decide)).1 (And.intro (HC7.out 2 (by decide)).1 (And.intro (HC7.out 3 (by decide)).1 (And.intro (HC7.out 4 (by decide)).1 (And.intro (HC7.out 5 (by decide)).1 (HC7.out 6 (by decide)).1)))))
        have hBf := HB7.out
        clear hwf
        dsimp only at c0 c1 c2 c3 c4 c5 c6
        simp [bodyPost, results, Tryd.results43, go_sem, c0, c1, c2, c3, c4, c5, c6, hBf]
end Go.Proofs.YtjjccjannandlaaDoor
