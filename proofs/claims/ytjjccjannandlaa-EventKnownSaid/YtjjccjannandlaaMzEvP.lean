/- An event's bytes, read: plain facts. -/
import Derived.Test.YtjjccjannandlaaMzEGetP
import Derived.Test.YtjjccjannandlaaMzCmdP
set_option maxRecDepth 100000
set_option linter.unusedVariables false
set_option linter.unusedSimpArgs false
namespace Go.Proofs.Ytjjccjannandlaa
open Go.RowKit

theorem evV_congr {f g : Nat → Int} (h : ∀ i, i < 9 → f i = g i) (dv : Value) : evV f dv = evV g dv := by
  unfold evV
  rw [h 0 (by decide), h 1 (by decide), h 2 (by decide), h 3 (by decide), h 4 (by decide), h 5 (by decide), h 6 (by decide), h 7 (by decide), h 8 (by decide)]
theorem evL_congr {f g : Nat → Int} (h : ∀ i, i < 9 → f i = g i) (ds : List Int) : evL f ds = evL g ds := by
  unfold evL headL tailL
  rw [h 0 (by decide), h 1 (by decide), h 2 (by decide), h 3 (by decide), h 4 (by decide), h 5 (by decide), h 6 (by decide), h 7 (by decide), h 8 (by decide)]
theorem evL_length (f : Nat → Int) (ds : List Int) : (evL f ds).length = ds.length + 10 := by
  unfold evL; simp
theorem Ev64.all {f : Nat → Int} {ds : List Int} (h : Ev64 f ds) (hl : ds.length ≤ 1099511627776) : I64s (evL f ds) := by
  intro x hx
  unfold evL at hx
  rcases List.mem_append.1 hx with hx | hx
  · rcases List.mem_append.1 hx with hx | hx
    · exact h.head hl x hx
    · exact h.2 x hx
  · exact h.tail x hx
theorem rdN_len {xs : List Int} {l : List Int} {a : Nat} {rest : List Int} (h : I64s l) (hx : xs.drop a = encs l ++ rest) {k : Nat} (hk : k = l.length) : rdN xs (a, 0) k = (a + (encs l).length, 0) := by
  subst hk; exact (rdN_enc h hx).1
theorem firstN_enc {xs : List Int} {l : List Int} {a : Nat} {rest : List Int} (h : I64s l) (hx : xs.drop a = encs l ++ rest) {k : Nat} (hk : k = l.length) : firstN (valN xs (a, 0)) k = l := by
  subst hk
  refine List.ext_getElem (by simp) fun i h1 h2 => ?_
  have := (rdN_enc h hx).2 i h2
  simp only [firstN, List.getElem_map, List.getElem_range]
  rw [this, List.getElem?_eq_getElem h2]; rfl

/-- What an event's bytes are read as. -/
theorem ev_back {f : Nat → Int} {ds : List Int} (h : Ev64 f ds) (hl : ds.length ≤ 64) (rest : List Int) :
    eC (encs (evL f ds) ++ rest) = ((ds.length : Int), (encs (headL f ds.length)).length, 0) ∧ eN (encs (evL f ds) ++ rest) = ds.length ∧
    eS (encs (evL f ds) ++ rest) = ((encs (headL f ds.length)).length + (encs ds).length, 0) ∧ rdN (encs (evL f ds) ++ rest) (eS (encs (evL f ds) ++ rest)) 6 = ((encs (evL f ds)).length, 0) ∧
    eD (encs (evL f ds) ++ rest) = ds ∧ ∀ i, i < 9 → eF (encs (evL f ds) ++ rest) i = f i := by
  obtain ⟨xs, hxs⟩ : ∃ xs, xs = encs (evL f ds) ++ rest := ⟨_, rfl⟩
  rw [← hxs]
  have hhd := h.head (deps := ds) (by omega)
  have h3 : I64s [f 0, f 1, f 2] := fun x hx => hhd x (by
    simp only [headL, List.mem_cons, List.not_mem_nil, or_false] at hx ⊢
    omega)
  have e0 : encs (headL f ds.length) = encs [f 0, f 1, f 2] ++ encI (ds.length : Int) := by rw [← encs_snoc]; rfl
  have e1 : xs.drop 0 = encs [f 0, f 1, f 2] ++ (encI (ds.length : Int) ++ (encs ds ++ (encs (tailL f) ++ rest))) := by
    rw [hxs, List.drop_zero]; unfold evL; rw [encs_append, encs_append, e0]; simp only [List.append_assoc]
  have r3 := rdN_len h3 e1 (k := 3) rfl
  rw [Nat.zero_add] at r3
  have e2 : xs.drop (encs [f 0, f 1, f 2]).length = encI (ds.length : Int) ++ (encs ds ++ (encs (tailL f) ++ rest)) := by
    have := congrArg (List.drop (encs [f 0, f 1, f 2]).length) e1
    rw [List.drop_zero, List.drop_left] at this
    exact this
  have hn := nextI_enc (xs := xs) (a := (encs [f 0, f 1, f 2]).length) (by omega) (by omega) e2
  have hL : (encs [f 0, f 1, f 2]).length + (encI (ds.length : Int)).length = (encs (headL f ds.length)).length := by rw [e0, List.length_append]
  have hC : eC xs = ((ds.length : Int), (encs (headL f ds.length)).length, 0) := by
    unfold eC
    rw [r3, nextC_next, hn, if_neg (by dsimp only; omega), hL]
  have hN : eN xs = ds.length := by unfold eN; rw [hC]; simp
  have e3 : xs.drop (encs (headL f ds.length)).length = encs ds ++ (encs (tailL f) ++ rest) := by
    rw [← hL, ← List.drop_drop, e2, List.drop_left]
  have hS : eS xs = ((encs (headL f ds.length)).length + (encs ds).length, 0) := by
    unfold eS
    rw [hC, hN]
    exact rdN_len h.2 e3 rfl
  have hD : eD xs = ds := by
    unfold eD
    rw [hC, hN]
    exact firstN_enc h.2 e3 rfl
  have e4 : xs.drop ((encs (headL f ds.length)).length + (encs ds).length) = encs (tailL f) ++ rest := by
    rw [← List.drop_drop, e3, List.drop_left]
  have hT := rdN_len h.tail e4 (k := 6) rfl
  refine ⟨hC, hN, hS, ?_, hD, fun i hi => ?_⟩
  · rw [hS, hT]
    congr 1
    unfold evL
    rw [encs_append, encs_append, List.length_append, List.length_append]
  · unfold eF
    by_cases hi3 : i < 3
    · rw [if_pos hi3]
      have := (rdN_enc h3 e1).2 i hi3
      rw [this]
      rcases (show i = 0 ∨ i = 1 ∨ i = 2 from by omega) with rfl | rfl | rfl <;> rfl
    · rw [if_neg hi3, hS]
      have := (rdN_enc h.tail e4).2 (i - 3) (by simp; omega)
      rw [this]
      rcases (show i = 3 ∨ i = 4 ∨ i = 5 ∨ i = 6 ∨ i = 7 ∨ i = 8 from by omega) with rfl | rfl | rfl | rfl | rfl | rfl <;> rfl
theorem eE_back {f : Nat → Int} {ds : List Int} (h : Ev64 f ds) (hl : ds.length ≤ 64) : eE (encs (evL f ds)) = 0 := by
  have := (ev_back h hl []).2.2.2.1
  rw [List.append_nil] at this
  unfold eE doneN doneR
  rw [this]
  simp
theorem gF_back {f : Nat → Int} {ds : List Int} (h : Ev64 f ds) (hl : ds.length ≤ 64) {i : Nat} (hi : i < 9) : gF (encs (evL f ds)) i = f i := by
  have := (ev_back h hl []).2.2.2.2.2 i hi
  rw [List.append_nil] at this
  unfold gF
  rw [if_pos (eE_back h hl), this]
theorem gD_back {f : Nat → Int} {ds : List Int} (h : Ev64 f ds) (hl : ds.length ≤ 64) : gD (encs (evL f ds)) = ds := by
  have := (ev_back h hl []).2.2.2.2.1
  rw [List.append_nil] at this
  unfold gD
  rw [if_pos (eE_back h hl), this]
theorem eE_long {f : Nat → Int} {ds : List Int} (h : Ev64 f ds) (hl : ds.length ≤ 64) (x : Int) : eE (encs (evL f ds) ++ [x]) = 5 := by
  unfold eE doneN doneR
  rw [(ev_back h hl [x]).2.2.2.1]
  simp
  omega
theorem gF_no {b : List Int} (h : eE b ≠ 0) : gF b = fun _ => 0 := by
  funext i; unfold gF; rw [if_neg h]
theorem gD_no {b : List Int} (h : eE b ≠ 0) : gD b = [] := by
  unfold gD; rw [if_neg h]
theorem nextC_stop {xs : List Int} {st : Nat × Int} (h : st.2 ≠ 0) : nextC xs 64 st = (0, st) := by
  unfold nextC; rw [if_neg h]
/-- A bad reading stays bad. -/
theorem eE_bad {xs : List Int} {c : Int} (hc : c ≠ 0) (h : (rdN xs (eS xs) 6).2 = c) : eE xs = c := by
  unfold eE doneN doneR
  rw [h, if_neg (fun hh => hc hh.1)]
theorem eE_bad6 {xs : List Int} {c : Int} (hc : c ≠ 0) (h : (eS xs).2 = c) : eE xs = c := by
  refine eE_bad hc ?_
  rw [(rdN_stop (show (eS xs).2 ≠ 0 by rw [h]; exact hc) 6).1, h]
theorem eE_badC {xs : List Int} {c : Int} (hc : c ≠ 0) (h : (eC xs).2.2 = c) : eE xs = c := by
  refine eE_bad6 hc ?_
  unfold eS
  rw [(rdN_stop (show (eC xs).2.2 ≠ 0 by rw [h]; exact hc) _).1, h]
theorem eE_bad3 {xs : List Int} {c : Int} (hc : c ≠ 0) (h : (rdN xs (0, 0) 3).2 = c) : eE xs = c := by
  refine eE_badC hc ?_
  unfold eC
  rw [nextC_stop (by rw [h]; exact hc), h]
/-- Of an event whose last bytes are cut off there is none. -/
theorem eE_cut {f : Nat → Int} {ds : List Int} (h : Ev64 f ds) (hl : ds.length ≤ 64) {m : Nat} (hm : m < (encs (evL f ds)).length) : eE ((encs (evL f ds)).take m) = 4 := by
  obtain ⟨xs, hxs⟩ : ∃ xs, xs = (encs (evL f ds)).take m := ⟨_, rfl⟩
  rw [← hxs]
  have hhd := h.head (deps := ds) (by omega)
  have h3 : I64s [f 0, f 1, f 2] := fun x hx => hhd x (by
    simp only [headL, List.mem_cons, List.not_mem_nil, or_false] at hx ⊢
    omega)
  have e0 : encs (headL f ds.length) = encs [f 0, f 1, f 2] ++ encI (ds.length : Int) := by rw [← encs_snoc]; rfl
  have eW : encs (evL f ds) = encs [f 0, f 1, f 2] ++ (encI (ds.length : Int) ++ (encs ds ++ encs (tailL f))) := by
    unfold evL; rw [encs_append, encs_append, e0]; simp only [List.append_assoc]
  have hW := congrArg List.length eW
  simp only [List.length_append] at hW
  rw [eW] at hxs
  by_cases c3 : m < (encs [f 0, f 1, f 2]).length
  · refine eE_bad3 (by decide) (rdN_cut (xs := xs) (a := 0) h3 (m := m) ?_ c3)
    rw [List.drop_zero, hxs, List.take_append_of_le_length (by omega)]
  have e1 : xs.drop 0 = encs [f 0, f 1, f 2] ++ (encI (ds.length : Int) ++ (encs ds ++ encs (tailL f))).take (m - (encs [f 0, f 1, f 2]).length) := by
    rw [List.drop_zero, hxs, List.take_append, List.take_of_length_le (by omega)]
  have r3 := rdN_len h3 e1 (k := 3) rfl
  rw [Nat.zero_add] at r3
  obtain ⟨m1, hm1⟩ : ∃ m1, m1 = m - (encs [f 0, f 1, f 2]).length := ⟨_, rfl⟩
  rw [← hm1] at e1
  have e2 : xs.drop (encs [f 0, f 1, f 2]).length = (encI (ds.length : Int) ++ (encs ds ++ encs (tailL f))).take m1 := by
    have := congrArg (List.drop (encs [f 0, f 1, f 2]).length) e1
    rw [List.drop_zero, List.drop_left] at this
    exact this
  by_cases c4 : m1 < (encI (ds.length : Int)).length
  · refine eE_badC (by decide) ?_
    unfold eC
    have hn : nextI xs ((encs [f 0, f 1, f 2]).length, 0) = (0, (encs [f 0, f 1, f 2]).length, 4) := by
      unfold nextI
      rw [if_pos rfl]
      dsimp only
      rw [e2, List.take_append_of_le_length (by omega), numR_cut (by omega) (by omega) c4]
    rw [r3, nextC_next, hn, if_neg (by dsimp only; omega)]
  have e2' : xs.drop (encs [f 0, f 1, f 2]).length = encI (ds.length : Int) ++ (encs ds ++ encs (tailL f)).take (m1 - (encI (ds.length : Int)).length) := by
    rw [e2, List.take_append, List.take_of_length_le (by omega)]
  have hn := nextI_enc (xs := xs) (a := (encs [f 0, f 1, f 2]).length) (by omega) (by omega) e2'
  have hC : eC xs = ((ds.length : Int), (encs [f 0, f 1, f 2]).length + (encI (ds.length : Int)).length, 0) := by
    unfold eC
    rw [r3, nextC_next, hn, if_neg (by dsimp only; omega)]
  have hN : eN xs = ds.length := by unfold eN; rw [hC]; simp
  obtain ⟨m2, hm2⟩ : ∃ m2, m2 = m1 - (encI (ds.length : Int)).length := ⟨_, rfl⟩
  obtain ⟨a, ha⟩ : ∃ a, a = (encs [f 0, f 1, f 2]).length + (encI (ds.length : Int)).length := ⟨_, rfl⟩
  have e3 : xs.drop a = (encs ds ++ encs (tailL f)).take m2 := by
    rw [ha, ← List.drop_drop, e2', List.drop_left, hm2]
  by_cases c5 : m2 < (encs ds).length
  · refine eE_bad6 (by decide) ?_
    unfold eS
    rw [hC, hN, ← ha]
    refine rdN_cut h.2 (m := m2) ?_ c5
    rw [e3, List.take_append_of_le_length (by omega)]
  have e3' : xs.drop a = encs ds ++ (encs (tailL f)).take (m2 - (encs ds).length) := by
    rw [e3, List.take_append, List.take_of_length_le (by omega)]
  have hS : eS xs = (a + (encs ds).length, 0) := by
    unfold eS
    rw [hC, hN, ← ha]
    exact rdN_len h.2 e3' rfl
  refine eE_bad (by decide) ?_
  rw [hS]
  refine rdN_cut h.tail (m := m2 - (encs ds).length) ?_ (by omega)
  rw [← List.drop_drop, e3', List.drop_left]

/-- What was read has just these bytes. -/
theorem eE_ok {b : List Int} (hb : Bytes b) (h : eE b = 0) : encs (evL (gF b) (gD b)) = b ∧ Ev64 (gF b) (gD b) ∧ (gD b).length ≤ 64 := by
  have hF : ∀ i, gF b i = eF b i := fun i => by unfold gF; rw [if_pos h]
  have hD : gD b = eD b := by unfold gD; rw [if_pos h]
  have hDl : (eD b).length = eN b := by unfold eD; simp
  have hle3 := rdN_le (xs := b) (st := (0, 0)) (Nat.zero_le _) 3
  have hd : (rdN b (eS b) 6).2 = 0 ∧ b.length ≤ (rdN b (eS b) 6).1 := by
    unfold eE doneN doneR at h
    split at h
    · cases h
    · rename_i hc
      exact ⟨h, by omega⟩
  obtain ⟨s, hs⟩ : ∃ s, eS b = s := ⟨_, rfl⟩
  obtain ⟨s1, s2⟩ := s
  have hs0 : s2 = 0 := by
    by_cases h0 : s2 = 0
    · exact h0
    · have := (rdN_stop (xs := b) (st := eS b) (by rw [hs]; exact h0) 6).1
      rw [this, hs] at hd
      exact absurd hd.1 h0
  subst hs0
  obtain ⟨c, hc⟩ : ∃ c, eC b = c := ⟨_, rfl⟩
  obtain ⟨c0, c1, c2⟩ := c
  have hc0 : c2 = 0 := by
    by_cases h0 : c2 = 0
    · exact h0
    · have := (rdN_stop (xs := b) (st := (eC b).2) (by rw [hc]; exact h0) (eN b)).1
      have h2 : eS b = (eC b).2 := this
      rw [h2, hc] at hs
      injection hs with _ hs
  subst hc0
  obtain ⟨r, hr⟩ : ∃ r, rdN b (0, 0) 3 = r := ⟨_, rfl⟩
  obtain ⟨r1, r2⟩ := r
  have hr0 : r2 = 0 := by
    by_cases h0 : r2 = 0
    · exact h0
    · have h2 : eC b = (0, (r1, r2)) := by unfold eC; rw [hr]; exact nextC_stop h0
      rw [h2] at hc
      injection hc with _ hc
      injection hc with _ hc
  subst hr0
  -- the count is the fourth number
  have hC : nextC b 64 (r1, 0) = (c0, c1, 0) := by have := hc; unfold eC at this; rw [hr] at this; exact this
  have hC2 : nextI b (r1, 0) = (c0, c1, 0) := by
    rw [nextC_next] at hC
    split at hC
    · injection hC with _ hC; injection hC with _ hC; cases hC
    · exact hC
  have hc64 := nextC_bound b (r1, 0)
  rw [hC] at hc64
  have hr4 : rdN b (0, 0) 4 = (c1, 0) := by rw [rdN_succ, hr, hC2]
  have hN : eN b = c0.toNat := by unfold eN; rw [hc]
  have hSd : rdN b (c1, 0) (eN b) = (s1, 0) := by have := hs; unfold eS at this; rw [hc] at this; exact this
  rw [hs] at hd
  obtain ⟨h1, h2, h3⟩ := rdN_ok hb (a := 0) (k := 4) (by rw [hr4])
  obtain ⟨h4, h5, h6⟩ := rdN_ok hb (a := c1) (k := eN b) (by rw [hSd])
  obtain ⟨h7, h8, h9⟩ := rdN_ok hb (a := s1) (k := 6) hd.1
  have hle1 : c1 ≤ b.length := by
    have := rdN_le (xs := b) (st := (0, 0)) (Nat.zero_le _) 4
    rw [hr4] at this; exact this
  have hle2 : s1 ≤ b.length := by
    have := rdN_le (xs := b) (st := (c1, 0)) hle1 (eN b)
    rw [hSd] at this; exact this
  have hle4 : (rdN b (s1, 0) 6).1 ≤ b.length := rdN_le (st := (s1, 0)) hle2 6
  rw [hr4, List.drop_zero, Nat.sub_zero] at h2
  rw [hSd] at h5
  rw [hSd] at h4
  rw [List.take_of_length_le (by rw [List.length_drop]; omega)] at h8
  dsimp only at h2 h4 h5
  have hDD : eD b = firstN (valN b (c1, 0)) (eN b) := by unfold eD; rw [hc]
  have v3 : valN b (0, 0) 3 = c0 := by unfold valN; rw [hr, hC2]
  have hNc : ((eN b : Nat) : Int) = c0 := by rw [hN]; omega
  have hhead : headL (gF b) (gD b).length = firstN (valN b (0, 0)) 4 := by
    unfold headL
    rw [hD, hDl, hNc, hF, hF, hF, ← v3]
    rfl
  have htail : tailL (gF b) = firstN (valN b (s1, 0)) 6 := by
    unfold tailL
    simp only [hF, eF, hs]
    rfl
  refine ⟨?_, ⟨fun i hi => ?_, by rw [hD, hDD]; exact h6⟩, by rw [hD, hDl]; omega⟩
  · unfold evL
    rw [hhead, htail, hD, hDD, encs_append, encs_append, ← h2, ← h5, ← h8]
    have e1 : b.take c1 ++ (b.drop c1).take (s1 - c1) = b.take s1 := by
      rw [← List.take_add, show c1 + (s1 - c1) = s1 from by omega]
    rw [e1, List.take_append_drop]
  · rw [hF]
    unfold eF
    by_cases hi3 : i < 3
    · rw [if_pos hi3]
      exact h3 _ (List.mem_map.2 ⟨i, List.mem_range.2 (by omega), rfl⟩)
    · rw [if_neg hi3, hs]
      exact h9 _ (List.mem_map.2 ⟨i - 3, List.mem_range.2 (by omega), rfl⟩)
end Go.Proofs.Ytjjccjannandlaa
