/- Declarations as numbers, and read from them: plain facts. -/
import Derived.Test.YtjcocahhpjgbhaaMzDKit
import Derived.Test.YtjcocahhpjgbhaaMzCmdP
set_option maxRecDepth 100000
set_option maxRecDepth 100000
set_option linter.unusedVariables false
set_option linter.unusedSimpArgs false
namespace Go.Proofs.Ytjcocahhpjgbhaa
open Go.RowKit

/-- A count that is read; where the reader stands then; why it failed. -/
def nextC (xs : List Int) (most : Int) (st : Nat × Int) : Int × Nat × Int :=
  if st.2 = 0 then (match countR (xs.drop st.1) most with | .inl c => (0, st.1, c) | .inr (n, k) => (n, st.1 + k, 0)) else (0, st.1, st.2)
abbrev RdF (α : Type) := Nat × Int → α × (Nat × Int)
def mapR {α β : Type} (f : α → β) (R : RdF α) : RdF β := fun st => (f (R st).1, (R st).2)
def seqR {α β : Type} (R : RdF α) (S : RdF β) : RdF (α × β) := fun st => (((R st).1, (S (R st).2).1), (S (R st).2).2)
def lstR {α : Type} (R : RdF α) : Nat → RdF (List α)
  | 0 => fun st => ([], st)
  | k + 1 => fun st => ((lstR R k st).1 ++ [(R (lstR R k st).2).1], (R (lstR R k st).2).2)
def cntR {α : Type} (xs : List Int) (most : Int) (R : RdF α) : RdF (List α) := fun st => lstR R (nextC xs most st).1.toNat (nextC xs most st).2

/-- A reading of what is laid. -/
structure Cod {α : Type} (xs : List Int) (R : RdF α) (N : α → List Int) (V : α → Prop) : Prop where
  n64 : ∀ v, V v → I64s (N v)
  fwd : ∀ v a rest, V v → xs.drop a = encs (N v) ++ rest → R (a, 0) = (v, (a + (encs (N v)).length, 0))
  cut : ∀ v a m, V v → xs.drop a = (encs (N v)).take m → m < (encs (N v)).length → (R (a, 0)).2.2 = 4
  stop : ∀ st : Nat × Int, st.2 ≠ 0 → (R st).2 = st
  ok : ∀ a, (R (a, 0)).2.2 = 0 → V (R (a, 0)).1 ∧ a ≤ (R (a, 0)).2.1 ∧ (xs.drop a).take ((R (a, 0)).2.1 - a) = encs (N (R (a, 0)).1)
  le : ∀ st : Nat × Int, st.1 ≤ xs.length → (R st).2.1 ≤ xs.length

theorem encs_one (n : Int) : encs [n] = encI n := by simp [encs]
theorem take_take_drop {α : Type} (l : List α) (a b c : Nat) (h1 : a ≤ b) (h2 : b ≤ c) : (l.drop a).take (c - a) = (l.drop a).take (b - a) ++ (l.drop b).take (c - b) := by
  rw [show c - a = (b - a) + (c - b) from by omega, List.take_add, List.drop_drop, show a + (b - a) = b from by omega]
theorem cod_int {xs : List Int} (hb : Bytes xs) : Cod xs (nextI xs) (fun n => [n]) (fun n => -9223372036854775808 ≤ n ∧ n ≤ 9223372036854775807) where
  n64 := fun v h n hn => by
    have : n = v := by simpa using hn
    subst this; exact h
  fwd := fun v a rest h hx => by
    rw [encs_one] at hx ⊢
    exact nextI_enc h.1 h.2 hx
  cut := fun v a m h hx hm => by
    have := rdN_cut (xs := xs) (l := [v]) (a := a) (m := m) (fun n hn => by
      have : n = v := by simpa using hn
      subst this; exact h) hx hm
    exact this
  stop := fun st h => by rw [nextI_stop h]
  ok := fun a h => by
    obtain ⟨h1, h2, h3⟩ := rdN_ok hb (a := a) (k := 1) h
    refine ⟨h3 _ (by simp [firstN, valN, rdN]), h1, ?_⟩
    have e : firstN (valN xs (a, 0)) 1 = [(nextI xs (a, 0)).1] := by simp [firstN, valN, rdN]
    rw [e] at h2
    exact h2
  le := fun st h => nextI_le h
theorem nextC_stop {xs : List Int} {most : Int} {st : Nat × Int} (h : st.2 ≠ 0) : nextC xs most st = (0, st) := by
  unfold nextC; rw [if_neg h]
theorem countR_inl {l : List Int} {most c : Int} (h : countR l most = .inl c) : (numR l = .inl c) ∨ (c = 3 ∧ ∃ n k, numR l = .inr (n, k) ∧ ¬ (0 ≤ n ∧ n ≤ most)) := by
  unfold countR at h
  cases hn : numR l with
  | inl d => rw [hn] at h; injection h with h; subst h; exact .inl rfl
  | inr v =>
    obtain ⟨n, k⟩ := v
    rw [hn] at h
    dsimp only at h
    by_cases hc : 0 ≤ n ∧ n ≤ most
    · rw [if_pos hc] at h; cases h
    · rw [if_neg hc] at h; injection h with h; exact .inr ⟨h.symm, n, k, rfl, hc⟩
theorem nextC_le {xs : List Int} {most : Int} {st : Nat × Int} (h : st.1 ≤ xs.length) : (nextC xs most st).2.1 ≤ xs.length := by
  unfold nextC
  split
  · split
    · exact h
    · rename_i n k hn
      have := numR_le (countR_num hn).1
      rw [List.length_drop] at this
      show st.1 + k ≤ _
      omega
  · exact h
theorem nextC_val {xs : List Int} {most : Int} {st : Nat × Int} (h : 0 ≤ most) : 0 ≤ (nextC xs most st).1 ∧ (nextC xs most st).1 ≤ most := by
  unfold nextC
  split
  · split
    · exact ⟨by show (0 : Int) ≤ 0; omega, h⟩
    · rename_i n k hn
      exact (countR_num hn).2
  · exact ⟨by show (0 : Int) ≤ 0; omega, h⟩
theorem cod_cnt {xs : List Int} (hb : Bytes xs) {most : Int} (hm : 0 ≤ most) (hm1 : most ≤ 9223372036854775807) : Cod xs (nextC xs most) (fun n => [n]) (fun n => 0 ≤ n ∧ n ≤ most) where
  n64 := fun v h n hn => by
    have : n = v := by simpa using hn
    subst this; omega
  fwd := fun v a rest h hx => by
    rw [encs_one] at hx ⊢
    unfold nextC
    rw [if_pos rfl]
    dsimp only
    rw [hx, countR_enc h.1 h.2 (by omega)]
  cut := fun v a m h hx hm => by
    rw [encs_one] at hx hm
    have hn := numR_cut (n := v) (by omega) (by omega) hm
    unfold nextC
    rw [if_pos rfl]
    dsimp only
    rw [hx]
    unfold countR
    rw [hn]
  stop := fun st h => by rw [nextC_stop h]
  ok := fun a h => by
    unfold nextC at h ⊢
    rw [if_pos rfl] at h ⊢
    dsimp only at h ⊢
    cases hn : countR (xs.drop a) most with
    | inl c =>
      rw [hn] at h
      dsimp only at h
      rcases countR_inl hn with h1 | ⟨h1, _⟩
      · rcases numR_err0 h1 with h2 | h2 <;> omega
      · omega
    | inr v =>
      obtain ⟨n, k⟩ := v
      dsimp only
      obtain ⟨h1, h2, h3⟩ := countR_num hn
      obtain ⟨j1, j2, j3⟩ := encI_numR (hb.drop a) h1
      refine ⟨⟨h2, h3⟩, by omega, ?_⟩
      rw [encs_one, j1, show a + k - a = k from by omega]
  le := fun st h => nextC_le h
theorem Cod.map {α β : Type} {xs : List Int} {R : RdF α} {N : α → List Int} {V : α → Prop} (h : Cod xs R N V) (f : α → β) (g : β → α) (hfg : ∀ b, f (g b) = b) (hgf : ∀ a, V a → g (f a) = a) :
    Cod xs (mapR f R) (fun b => N (g b)) (fun b => V (g b)) where
  n64 := fun v hv => h.n64 _ hv
  fwd := fun v a rest hv hx => by
    have := h.fwd (g v) a rest hv hx
    unfold mapR
    rw [this]
    dsimp only
    rw [hfg]
  cut := fun v a m hv hx hm => h.cut (g v) a m hv hx hm
  stop := fun st hs => h.stop st hs
  ok := fun a ha => by
    obtain ⟨h1, h2, h3⟩ := h.ok a ha
    unfold mapR
    dsimp only
    rw [hgf _ h1]
    exact ⟨h1, h2, h3⟩
  le := fun st hs => h.le st hs
theorem Cod.seq {α β : Type} {xs : List Int} {R : RdF α} {S : RdF β} {N : α → List Int} {M : β → List Int} {V : α → Prop} {U : β → Prop} (h : Cod xs R N V) (k : Cod xs S M U) :
    Cod xs (seqR R S) (fun p => N p.1 ++ M p.2) (fun p => V p.1 ∧ U p.2) where
  n64 := fun v hv n hn => by
    rcases List.mem_append.1 hn with hn | hn
    · exact h.n64 _ hv.1 n hn
    · exact k.n64 _ hv.2 n hn
  fwd := fun v a rest hv hx => by
    rw [encs_append, List.append_assoc] at hx
    have h1 := h.fwd v.1 a _ hv.1 hx
    have hx2 : xs.drop (a + (encs (N v.1)).length) = encs (M v.2) ++ rest := by rw [← List.drop_drop, hx, List.drop_left]
    have h2 := k.fwd v.2 _ rest hv.2 hx2
    unfold seqR
    rw [h1]
    dsimp only
    rw [h2, encs_append, List.length_append, Nat.add_assoc]
  cut := fun v a m hv hx hm => by
    rw [encs_append] at hx hm
    rw [List.length_append] at hm
    show (S (R (a, 0)).2).2.2 = 4
    by_cases hc : m < (encs (N v.1)).length
    · rw [List.take_append_of_le_length (by omega)] at hx
      have h1 := h.cut v.1 a m hv.1 hx hc
      rw [k.stop _ (by rw [h1]; decide)]
      exact h1
    · rw [List.take_append, List.take_of_length_le (by omega)] at hx
      have h1 := h.fwd v.1 a _ hv.1 hx
      rw [h1]
      dsimp only
      refine k.cut v.2 _ (m - (encs (N v.1)).length) hv.2 ?_ (by omega)
      rw [← List.drop_drop, hx, List.drop_left]
  stop := fun st hs => by
    show (S (R st).2).2 = st
    rw [h.stop st hs, k.stop st hs]
  ok := fun a ha => by
    have ha' : (S (R (a, 0)).2).2.2 = 0 := ha
    obtain ⟨⟨b, c⟩, hr⟩ : ∃ y, (R (a, 0)).2 = y := ⟨_, rfl⟩
    rw [hr] at ha'
    by_cases hc : c = 0
    · subst hc
      obtain ⟨i1, i2, i3⟩ := h.ok a (by rw [hr])
      obtain ⟨j1, j2, j3⟩ := k.ok b ha'
      rw [hr] at i2 i3
      dsimp only at i2 i3
      unfold seqR
      rw [hr]
      dsimp only
      refine ⟨⟨i1, j1⟩, by omega, ?_⟩
      rw [encs_append, ← i3, ← j3]
      exact take_take_drop xs a b _ i2 j2
    · rw [k.stop _ hc] at ha'
      exact absurd ha' hc
  le := fun st hs => k.le _ (h.le st hs)
theorem cod_lst {α : Type} {xs : List Int} {R : RdF α} {N : α → List Int} {V : α → Prop} (h : Cod xs R N V) : ∀ k : Nat, Cod xs (lstR R k) (fun l => l.flatMap N) (fun l => l.length = k ∧ ∀ x ∈ l, V x)
  | 0 => {
    n64 := fun v hv n hn => by
      have : v = [] := List.eq_nil_of_length_eq_zero hv.1
      subst this; simp at hn
    fwd := fun v a rest hv hx => by
      have : v = [] := List.eq_nil_of_length_eq_zero hv.1
      subst this
      simp [lstR, encs]
    cut := fun v a m hv hx hm => by
      have : v = [] := List.eq_nil_of_length_eq_zero hv.1
      subst this
      simp [encs] at hm
    stop := fun st hs => rfl
    ok := fun a ha => by simp [lstR, encs]
    le := fun st hs => hs }
  | k + 1 => by
    have ih := cod_lst h k
    have hs := ih.seq h
    have split : ∀ l : List α, l.length = k + 1 → ∃ i x, l = i ++ [x] ∧ i.length = k := by
      intro l hl
      have hne : l ≠ [] := by intro e; subst e; simp at hl
      refine ⟨l.dropLast, l.getLast hne, (List.dropLast_concat_getLast hne).symm, by simp [hl]⟩
    exact {
      n64 := fun v hv n hn => by
        obtain ⟨x, hx, hn⟩ := List.mem_flatMap.1 hn
        exact h.n64 x (hv.2 x hx) n hn
      fwd := fun v a rest hv hx => by
        obtain ⟨i, x, rfl, hi⟩ := split v hv.1
        have e : (i ++ [x]).flatMap N = i.flatMap N ++ N x := by simp
        rw [e] at hx ⊢
        have := hs.fwd (i, x) a rest ⟨⟨hi, fun y hy => hv.2 y (by simp [hy])⟩, hv.2 x (by simp)⟩ hx
        unfold seqR at this
        injection this with e1 e2
        injection e1 with e3 e4
        unfold lstR
        rw [e3, e4, e2]
      cut := fun v a m hv hx hm => by
        obtain ⟨i, x, rfl, hi⟩ := split v hv.1
        have e : (i ++ [x]).flatMap N = i.flatMap N ++ N x := by simp
        rw [e] at hx hm
        exact hs.cut (i, x) a m ⟨⟨hi, fun y hy => hv.2 y (by simp [hy])⟩, hv.2 x (by simp)⟩ hx hm
      stop := fun st hh => hs.stop st hh
      ok := fun a ha => by
        obtain ⟨⟨⟨h1, h2⟩, h3⟩, h4, h5⟩ := hs.ok a ha
        unfold seqR at h1 h2 h3 h4 h5
        dsimp only at h1 h2 h3 h4 h5
        unfold lstR
        dsimp only
        refine ⟨⟨by simp [h1], fun y hy => ?_⟩, h4, ?_⟩
        · rcases List.mem_append.1 hy with hy | hy
          · exact h2 y hy
          · have := List.mem_singleton.1 hy
            subst this; exact h3
        · rw [h5]; simp
      le := fun st hh => hs.le st hh }
theorem cod_list {α : Type} {xs : List Int} (hb : Bytes xs) {most : Int} (hm : 0 ≤ most) (hm1 : most ≤ 9223372036854775807) {R : RdF α} {N : α → List Int} {V : α → Prop} (h : Cod xs R N V) :
    Cod xs (cntR xs most R) (fun l => (l.length : Int) :: l.flatMap N) (fun l => (l.length : Int) ≤ most ∧ ∀ x ∈ l, V x) where
  n64 := fun v hv n hn => by
    rcases List.mem_cons.1 hn with rfl | hn
    · have := hv.1; omega
    · obtain ⟨x, hx, hn⟩ := List.mem_flatMap.1 hn
      exact h.n64 x (hv.2 x hx) n hn
  fwd := fun v a rest hv hx => by
    have e : encs ((v.length : Int) :: v.flatMap N) = encs [(v.length : Int)] ++ encs (v.flatMap N) := by rw [← encs_append]; rfl
    rw [e, List.append_assoc] at hx
    have h1 := (cod_cnt hb hm hm1).fwd (v.length : Int) a _ ⟨by omega, hv.1⟩ hx
    have hx2 : xs.drop (a + (encs [(v.length : Int)]).length) = encs (v.flatMap N) ++ rest := by rw [← List.drop_drop, hx, List.drop_left]
    have h2 := (cod_lst h v.length).fwd v _ rest ⟨rfl, hv.2⟩ hx2
    unfold cntR
    rw [h1]
    dsimp only
    rw [Int.toNat_natCast, h2, e, List.length_append, Nat.add_assoc]
  cut := fun v a m hv hx hm' => by
    have e : encs ((v.length : Int) :: v.flatMap N) = encs [(v.length : Int)] ++ encs (v.flatMap N) := by rw [← encs_append]; rfl
    rw [e] at hx hm'
    rw [List.length_append] at hm'
    by_cases hc : m < (encs [(v.length : Int)]).length
    · rw [List.take_append_of_le_length (by omega)] at hx
      have h1 := (cod_cnt hb hm hm1).cut (v.length : Int) a m ⟨by omega, hv.1⟩ hx hc
      unfold cntR
      rw [(cod_lst h _).stop _ (by rw [h1]; decide)]
      exact h1
    · rw [List.take_append, List.take_of_length_le (by omega)] at hx
      have h1 := (cod_cnt hb hm hm1).fwd (v.length : Int) a _ ⟨by omega, hv.1⟩ hx
      unfold cntR
      rw [h1]
      dsimp only
      rw [Int.toNat_natCast]
      refine (cod_lst h v.length).cut v _ (m - (encs [(v.length : Int)]).length) ⟨rfl, hv.2⟩ ?_ (by omega)
      rw [← List.drop_drop, hx, List.drop_left]
  stop := fun st hs => by
    unfold cntR
    rw [nextC_stop hs]
    dsimp only
    exact (cod_lst h _).stop st hs
  ok := fun a ha => by
    unfold cntR at ha ⊢
    obtain ⟨⟨c, b, why⟩, hr⟩ : ∃ y, nextC xs most (a, 0) = y := ⟨_, rfl⟩
    rw [hr] at ha ⊢
    dsimp only at ha ⊢
    by_cases hc : why = 0
    · subst hc
      obtain ⟨i1, i2, i3⟩ := (cod_cnt hb hm hm1).ok a (by rw [hr])
      rw [hr] at i1 i2 i3
      dsimp only at i1 i2 i3
      obtain ⟨⟨j0, j1⟩, j2, j3⟩ := (cod_lst h c.toNat).ok b ha
      have hcl : ((lstR R c.toNat (b, 0)).1.length : Int) = c := by rw [j0]; omega
      refine ⟨⟨by rw [hcl]; exact i1.2, j1⟩, by omega, ?_⟩
      rw [hcl]
      have e : encs (c :: (lstR R c.toNat (b, 0)).1.flatMap N) = encs [c] ++ encs ((lstR R c.toNat (b, 0)).1.flatMap N) := by rw [← encs_append]; rfl
      rw [e, ← i3, ← j3]
      exact take_take_drop xs a b _ i2 j2
    · rw [(cod_lst h _).stop _ hc] at ha
      exact absurd ha hc
  le := fun st hs => (cod_lst h _).le _ (nextC_le hs)
theorem lstR_len {α : Type} (R : RdF α) (k : Nat) (st : Nat × Int) : (lstR R k st).1.length = k := by
  induction k with
  | zero => rfl
  | succ k ih => show ((lstR R k st).1 ++ [_]).length = _; simp [ih]
theorem lstR_all {α : Type} {R : RdF α} {P : α → Prop} (h : ∀ st, P (R st).1) (k : Nat) (st : Nat × Int) : ∀ x ∈ (lstR R k st).1, P x := by
  induction k with
  | zero => intro x hx; cases hx
  | succ k ih =>
    intro x hx
    rcases List.mem_append.1 hx with hx | hx
    · exact ih x hx
    · have := List.mem_singleton.1 hx
      subst this; exact h _
theorem cntR_len {α : Type} {xs : List Int} {most : Int} (hm : 0 ≤ most) (R : RdF α) (st : Nat × Int) : ((cntR xs most R st).1.length : Int) ≤ most := by
  unfold cntR
  rw [lstR_len]
  have := nextC_val (xs := xs) (st := st) hm
  omega

/-- A move, a field, a type, a projection; declarations: as numbers. -/
def nMv (m : Mv) : List Int := [m.a, m.b, m.c, m.d]
def bI (b : Bool) : Int := if b then 1 else 0
def nFd (f : PF) : List Int := [f.k] ++ ([f.p] ++ ([bI f.fl] ++ ((f.ms.length : Int) :: f.ms.flatMap nMv)))
def nTy (t : List PF) : List Int := (t.length : Int) :: t.flatMap nFd
def nPj (p : Pj) : List Int := [p.t, p.f, p.g, p.b, p.m]
def nTs (ts : List (List PF)) : List Int := (ts.length : Int) :: ts.flatMap nTy
def nPs (ps : List Pj) : List Int := (ps.length : Int) :: ps.flatMap nPj
def nDc (D : PD) : List Int := nTs D.ts ++ nPs D.ps
def in64 (n : Int) : Prop := -9223372036854775808 ≤ n ∧ n ≤ 9223372036854775807
/-- They may be. -/
def vMv (m : Mv) : Prop := in64 m.a ∧ in64 m.b ∧ in64 m.c ∧ in64 m.d
def vFd (f : PF) : Prop := in64 f.k ∧ in64 f.p ∧ (0 ≤ bI f.fl ∧ bI f.fl ≤ 1) ∧ (f.ms.length : Int) ≤ 16 ∧ ∀ m ∈ f.ms, vMv m
def vTy (t : List PF) : Prop := (t.length : Int) ≤ 8 ∧ ∀ f ∈ t, vFd f
def vPj (p : Pj) : Prop := in64 p.t ∧ in64 p.f ∧ in64 p.g ∧ in64 p.b ∧ in64 p.m
def vDc (D : PD) : Prop := ((D.ts.length : Int) ≤ 8 ∧ ∀ t ∈ D.ts, vTy t) ∧ ((D.ps.length : Int) ≤ 8 ∧ ∀ p ∈ D.ps, vPj p)
/-- As they are read. -/
def rdMv (xs : List Int) : RdF Mv := mapR (fun p => ⟨p.1, p.2.1, p.2.2.1, p.2.2.2⟩) (seqR (nextI xs) (seqR (nextI xs) (seqR (nextI xs) (nextI xs))))
def rdFd (xs : List Int) : RdF PF := mapR (fun p => ⟨p.1, p.2.1, p.2.2.1 == 1, p.2.2.2⟩) (seqR (nextI xs) (seqR (nextI xs) (seqR (nextC xs 1) (cntR xs 16 (rdMv xs)))))
def rdTy (xs : List Int) : RdF (List PF) := cntR xs 8 (rdFd xs)
def rdPj (xs : List Int) : RdF Pj := mapR (fun p => ⟨p.1, p.2.1, p.2.2.1, p.2.2.2.1, p.2.2.2.2⟩) (seqR (nextI xs) (seqR (nextI xs) (seqR (nextI xs) (seqR (nextI xs) (nextI xs)))))
def rdDc (xs : List Int) : RdF PD := mapR (fun p => ⟨p.1, p.2⟩) (seqR (cntR xs 8 (rdTy xs)) (cntR xs 8 (rdPj xs)))
theorem Cod.to {α : Type} {xs : List Int} {R R' : RdF α} {N N' : α → List Int} {V V' : α → Prop} (h : Cod xs R N V) (hR : R' = R) (hN : ∀ v, N' v = N v) (hV : ∀ v, V' v ↔ V v) : Cod xs R' N' V' := by
  subst hR
  have e1 : N' = N := funext hN
  have e2 : V' = V := funext fun v => propext (hV v)
  subst e1 e2
  exact h
theorem cod_mv {xs : List Int} (hb : Bytes xs) : Cod xs (rdMv xs) nMv vMv :=
  (((cod_int hb).seq ((cod_int hb).seq ((cod_int hb).seq (cod_int hb)))).map (fun p => (⟨p.1, p.2.1, p.2.2.1, p.2.2.2⟩ : Mv)) (fun m => (m.a, m.b, m.c, m.d)) (fun _ => rfl) (fun _ _ => rfl)).to rfl (fun _ => rfl) (fun _ => Iff.rfl)
theorem cod_fd {xs : List Int} (hb : Bytes xs) : Cod xs (rdFd xs) nFd vFd :=
  (((cod_int hb).seq ((cod_int hb).seq ((cod_cnt hb (most := 1) (by decide) (by decide)).seq (cod_list hb (most := 16) (by decide) (by decide) (cod_mv hb))))).map (fun p => (⟨p.1, p.2.1, p.2.2.1 == 1, p.2.2.2⟩ : PF)) (fun f => (f.k, f.p, bI f.fl, f.ms)) (fun f => by
      obtain ⟨k, p, fl, ms⟩ := f
      cases fl <;> rfl) (fun a ha => by
      obtain ⟨k, p, n, ms⟩ := a
      have h := ha.2.2.1
      dsimp only at h ⊢
      have : n = 0 ∨ n = 1 := by omega
      rcases this with rfl | rfl <;> rfl)).to rfl (fun _ => rfl) (fun _ => Iff.rfl)
theorem cod_ty {xs : List Int} (hb : Bytes xs) : Cod xs (rdTy xs) nTy vTy := cod_list hb (by decide) (by decide) (cod_fd hb)
theorem cod_pj {xs : List Int} (hb : Bytes xs) : Cod xs (rdPj xs) nPj vPj :=
  (((cod_int hb).seq ((cod_int hb).seq ((cod_int hb).seq ((cod_int hb).seq (cod_int hb))))).map (fun p => (⟨p.1, p.2.1, p.2.2.1, p.2.2.2.1, p.2.2.2.2⟩ : Pj)) (fun m => (m.t, m.f, m.g, m.b, m.m)) (fun _ => rfl) (fun _ _ => rfl)).to rfl (fun _ => rfl) (fun _ => Iff.rfl)
theorem cod_dc {xs : List Int} (hb : Bytes xs) : Cod xs (rdDc xs) nDc vDc :=
  (((cod_list hb (most := 8) (by decide) (by decide) (cod_ty hb)).seq (cod_list hb (most := 8) (by decide) (by decide) (cod_pj hb))).map (fun p => (⟨p.1, p.2⟩ : PD)) (fun D => (D.ts, D.ps)) (fun _ => rfl) (fun _ _ => rfl)).to rfl (fun _ => rfl) (fun _ => Iff.rfl)
/-- The code of what is read as declarations; the declarations. -/
def dGetE (xs : List Int) : Int := doneN xs (rdDc xs (0, 0)).2
def dGetD (xs : List Int) : PD := if dGetE xs = 0 then (rdDc xs (0, 0)).1 else ⟨[], []⟩
/-- Has a list more than it may? -/
def manyFd (f : PF) : Bool := decide (16 < f.ms.length)
def manyTy (t : List PF) : Bool := decide (8 < t.length) || t.any manyFd
def manyDc (D : PD) : Bool := decide (8 < D.ts.length) || decide (8 < D.ps.length) || D.ts.any manyTy
def i64F (f : PF) : Prop := in64 f.k ∧ in64 f.p ∧ ∀ m ∈ f.ms, vMv m
def i64D (D : PD) : Prop := (∀ t ∈ D.ts, ∀ f ∈ t, i64F f) ∧ ∀ p ∈ D.ps, vPj p
theorem vDc_of {D : PD} (h : i64D D) (hm : manyDc D = false) : vDc D := by
  unfold manyDc at hm
  simp only [Bool.or_eq_false_iff, decide_eq_false_iff_not, List.any_eq_false] at hm
  obtain ⟨⟨h1, h2⟩, h3⟩ := hm
  refine ⟨⟨by omega, fun t ht => ?_⟩, by omega, h.2⟩
  have h4 := h3 t ht
  unfold manyTy at h4
  rw [Bool.not_eq_true] at h4
  simp only [Bool.or_eq_false_iff, decide_eq_false_iff_not, List.any_eq_false] at h4
  refine ⟨by omega, fun f hf => ?_⟩
  have h5 := h4.2 f hf
  unfold manyFd at h5
  have h6 := h.1 t ht f hf
  rw [decide_eq_true_iff] at h5
  refine ⟨h6.1, h6.2.1, ?_, by omega, h6.2.2⟩
  unfold bI
  split <;> decide
theorem many_of {D : PD} (h : vDc D) : manyDc D = false := by
  unfold manyDc
  simp only [Bool.or_eq_false_iff, decide_eq_false_iff_not, List.any_eq_false]
  refine ⟨⟨by have := h.1.1; omega, by have := h.2.1; omega⟩, fun t ht => ?_⟩
  have h1 := h.1.2 t ht
  unfold manyTy
  rw [Bool.not_eq_true]
  simp only [Bool.or_eq_false_iff, decide_eq_false_iff_not, List.any_eq_false]
  refine ⟨by have := h1.1; omega, fun f hf => ?_⟩
  have h2 := h1.2 f hf
  unfold manyFd
  rw [decide_eq_true_iff]
  have := h2.2.2.2.1
  omega
theorem i64_of {D : PD} (h : vDc D) : i64D D := ⟨fun t ht f hf => ⟨((h.1.2 t ht).2 f hf).1, ((h.1.2 t ht).2 f hf).2.1, ((h.1.2 t ht).2 f hf).2.2.2.2⟩, h.2.2⟩
theorem flat_le {α : Type} {N : α → List Int} {c : Nat} : ∀ {l : List α}, (∀ x ∈ l, (N x).length ≤ c) → (l.flatMap N).length ≤ l.length * c
  | [], _ => by simp
  | x :: l, h => by
    have h1 := h x (by simp)
    have h2 := flat_le (N := N) (c := c) (l := l) (fun y hy => h y (by simp [hy]))
    rw [List.flatMap_cons, List.length_append, List.length_cons, Nat.add_mul]; omega
theorem nDc_le {D : PD} (h : vDc D) : (nDc D).length ≤ 5000 := by
  have h1 : (D.ts.flatMap nTy).length ≤ D.ts.length * 600 := flat_le fun t ht => by
    have ht := h.1.2 t ht
    have h2 : (t.flatMap nFd).length ≤ t.length * 68 := flat_le fun f hf => by
      have hf := ht.2 f hf
      have h3 : (f.ms.flatMap nMv).length ≤ f.ms.length * 4 := flat_le fun m _ => by simp [nMv]
      have := hf.2.2.2.1
      simp only [nFd, List.length_append, List.length_cons, List.length_nil]; omega
    have := ht.1
    simp only [nTy, List.length_cons]; omega
  have h4 : (D.ps.flatMap nPj).length ≤ D.ps.length * 5 := flat_le fun p _ => by simp [nPj]
  have := h.1.1
  have := h.2.1
  simp only [nDc, nTs, nPs, List.length_append, List.length_cons]; omega

theorem dGet_back {D : PD} (h : vDc D) : dGetE (encs (nDc D)) = 0 ∧ dGetD (encs (nDc D)) = D := by
  have hb := encs_byte ((cod_dc (xs := []) (fun d hd => by cases hd)).n64 D h)
  have := (cod_dc hb).fwd D 0 [] h (by simp)
  rw [Nat.zero_add] at this
  have e : dGetE (encs (nDc D)) = 0 := by
    unfold dGetE doneN doneR
    rw [this]; simp
  exact ⟨e, by unfold dGetD; rw [if_pos e, this]⟩
theorem bytes_snoc {xs : List Int} (h : Bytes xs) {x : Int} (h0 : 0 ≤ x) (h1 : x ≤ 255) : Bytes (xs ++ [x]) := fun d hd => by
  rcases List.mem_append.1 hd with hd | hd
  · exact h d hd
  · have := List.mem_singleton.1 hd
    subst this; exact ⟨h0, h1⟩
theorem dGet_long {D : PD} (h : vDc D) {x : Int} (h0 : 0 ≤ x) (h1 : x ≤ 255) : dGetE (encs (nDc D) ++ [x]) = 5 := by
  have hb := bytes_snoc (encs_byte ((cod_dc (xs := []) (fun d hd => by cases hd)).n64 D h)) h0 h1
  have := (cod_dc hb).fwd D 0 [x] h (by simp)
  rw [Nat.zero_add] at this
  unfold dGetE doneN doneR
  rw [this]; simp; omega
theorem dGet_cut {D : PD} (h : vDc D) {m : Nat} (hm : m < (encs (nDc D)).length) : dGetE ((encs (nDc D)).take m) = 4 := by
  have hb := encs_byte ((cod_dc (xs := []) (fun d hd => by cases hd)).n64 D h)
  have hb' : Bytes ((encs (nDc D)).take m) := fun d hd => hb d (List.mem_of_mem_take hd)
  have := (cod_dc hb').cut D 0 m h (by simp) hm
  unfold dGetE doneN doneR
  rw [this]; simp
theorem dGet_ok {b : List Int} (hb : Bytes b) (h : dGetE b = 0) : vDc (dGetD b) ∧ encs (nDc (dGetD b)) = b := by
  have hle := (cod_dc hb).le (0, 0) (Nat.zero_le _)
  have hd : (rdDc b (0, 0)).2.2 = 0 ∧ (rdDc b (0, 0)).2.1 = b.length := by
    unfold dGetE doneN doneR at h
    split at h
    · cases h
    · rename_i hc
      exact ⟨h, by omega⟩
  obtain ⟨h1, h2, h3⟩ := (cod_dc hb).ok 0 hd.1
  unfold dGetD
  rw [if_pos h]
  refine ⟨h1, ?_⟩
  rw [← h3, hd.2, List.drop_zero, Nat.sub_zero, List.take_length]
theorem dGet_no {b : List Int} (h : dGetE b ≠ 0) : dGetD b = ⟨[], []⟩ := by unfold dGetD; rw [if_neg h]
end Go.Proofs.Ytjcocahhpjgbhaa
