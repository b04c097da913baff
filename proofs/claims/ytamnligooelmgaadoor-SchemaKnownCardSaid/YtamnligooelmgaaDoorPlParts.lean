/- What is right of declarations, of their parts: plain. -/
import Derived.Test.YtamnligooelmgaaDoorPl
set_option maxRecDepth 100000
set_option linter.unusedVariables false
set_option linter.unusedSimpArgs false
namespace Go.Proofs.YtamnligooelmgaaDoor

theorem firstP_zero {α : Type} {g : α → Int} : ∀ {l : List α}, firstP g l = 0 ↔ ∀ x ∈ l, g x = 0
  | [] => by simp [firstP]
  | x :: l => by
    unfold firstP
    by_cases h : g x = 0
    · rw [if_pos h, firstP_zero (l := l)]; simp [h]
    · rw [if_neg h]; simp [h]
theorem firstP_at {α : Type} {g : α → Int} : ∀ {l : List α} {n : Nat} {y : α}, (∀ i x, i < n → l[i]? = some x → g x = 0) → l[n]? = some y → g y ≠ 0 → firstP g l = g y
  | [], n, y, _, h, _ => by simp at h
  | x :: l, 0, y, _, h, hy => by
    have : x = y := by simpa using h
    subst this
    unfold firstP; rw [if_neg hy]
  | x :: l, n + 1, y, h0, h, hy => by
    unfold firstP
    rw [if_pos (h0 0 x (by omega) rfl)]
    exact firstP_at (n := n) (fun i z hi hz => h0 (i + 1) z (by omega) (by simpa using hz)) (by simpa using h) hy
theorem chk0 {d : PD} (h : chkP d = 0) : manyP d = false ∧ (∀ t ∈ d.ts, typeP t = 0) ∧ ∀ p ∈ d.ps, showsP d p = 0 := by
  unfold chkP at h
  by_cases h1 : manyP d = true
  · rw [if_pos h1] at h; cases h
  · rw [if_neg h1] at h
    by_cases h2 : firstP typeP d.ts = 0
    · rw [if_pos h2] at h
      exact ⟨by simpa using h1, firstP_zero.1 h2, firstP_zero.1 h⟩
    · rw [if_neg h2] at h; exact absurd h h2
theorem chk_of {d : PD} (h1 : manyP d = false) (h2 : ∀ t ∈ d.ts, typeP t = 0) : chkP d = firstP (showsP d) d.ps := by
  unfold chkP
  rw [if_neg (by simp [h1]), if_pos (firstP_zero.2 h2)]
theorem many_false {d : PD} : manyP d = false ↔ (1 ≤ (d.ts.length : Int) ∧ (d.ts.length : Int) ≤ 8) ∧ d.ps.length ≤ 8 ∧ ∀ t ∈ d.ts, manyTP t = false := by
  unfold manyP
  rw [Bool.or_eq_false_iff, Bool.or_eq_false_iff, decide_eq_false_iff_not, decide_eq_false_iff_not, List.any_eq_false]
  constructor
  · rintro ⟨h1, h2, h3⟩
    exact ⟨Classical.not_not.1 h1, by omega, fun t ht => by simpa using h3 t ht⟩
  · rintro ⟨h1, h2, h3⟩
    exact ⟨fun h => h h1, by omega, fun t ht => by simpa using h3 t ht⟩
/-- Fewer projections are as right. -/
theorem chk_fewer {ts : List (List PF)} {ps : List Pj} (h : chkP ⟨ts, ps⟩ = 0) (m : Nat) : chkP ⟨ts, ps.take m⟩ = 0 := by
  obtain ⟨h1, h2, h3⟩ := chk0 h
  obtain ⟨m1, m2, m3⟩ := many_false.1 h1
  rw [chk_of (d := ⟨ts, ps.take m⟩) (many_false.2 ⟨m1, by dsimp only at m2 ⊢; rw [List.length_take]; omega, m3⟩) h2]
  exact firstP_zero.2 fun p hp => h3 p (List.mem_of_mem_take hp)
/-- A type by itself. -/
theorem chk_one {ts : List (List PF)} {ps : List Pj} (h : chkP ⟨ts, ps⟩ = 0) {t : List PF} (ht : t ∈ ts) : chkP ⟨[t], []⟩ = 0 := by
  obtain ⟨h1, h2, h3⟩ := chk0 h
  obtain ⟨m1, m2, m3⟩ := many_false.1 h1
  rw [chk_of (d := ⟨[t], []⟩) (many_false.2 ⟨by simp, by simp, fun u hu => by
    have : u = t := by simpa using hu
    subst this; exact m3 u ht⟩) (fun u hu => by
    have : u = t := by simpa using hu
    subst this; exact h2 u ht)]
  rfl
theorem fits_one {ts : List (List PF)} {ps : List Pj} {t : List PF} {n : Nat} (ht : ts[n]? = some t) (fi op arg : Int) : fitsP ⟨[t], []⟩ 0 fi op arg = fitsP ⟨ts, ps⟩ n fi op arg := by
  have e : fldP ⟨[t], []⟩ 0 fi = fldP ⟨ts, ps⟩ n fi := by
    unfold fldP
    by_cases h : 0 ≤ fi
    · rw [if_pos ⟨by omega, h⟩, if_pos ⟨by omega, h⟩, Int.toNat_natCast, ht]; rfl
    · rw [if_neg (fun hh => h hh.2), if_neg (fun hh => h hh.2)]
  unfold fitsP
  rw [e]
/-- A projection of what is not there. -/
theorem chk_far {ts : List (List PF)} {ps : List Pj} (h : chkP ⟨ts, ps⟩ = 0) {m : Nat} (hm : m + 1 ≤ 8) (hmp : m ≤ ps.length) (p : Pj) (hp : p = ⟨ts.length, 0, 1, 0, 2⟩) : chkP ⟨ts, ps.take m ++ [p]⟩ = 8 := by
  obtain ⟨h1, h2, h3⟩ := chk0 h
  obtain ⟨m1, m2, m3⟩ := many_false.1 h1
  rw [chk_of (d := ⟨ts, ps.take m ++ [p]⟩) (many_false.2 ⟨m1, by simp only [List.length_append, List.length_take, List.length_cons, List.length_nil]; omega, m3⟩) h2]
  have hs : showsP ⟨ts, ps.take m ++ [p]⟩ p = 8 := by
    have hf : fldP ⟨ts, ps.take m ++ [p]⟩ p.t p.f = none := by
      rw [hp]
      unfold fldP
      dsimp only
      rw [if_pos ⟨by omega, by omega⟩, Int.toNat_natCast]
      simp
    unfold showsP
    rw [hf]
    rfl
  refine (firstP_at (n := m) (y := p) (fun i x hi hx => ?_) ?_ (by rw [hs]; decide)).trans hs
  · dsimp only at hx
    rw [List.getElem?_append_left (by rw [List.length_take]; omega)] at hx
    exact h3 x (List.mem_of_mem_take (List.mem_of_getElem? hx))
  · dsimp only
    rw [List.getElem?_append_right (by rw [List.length_take]; omega), List.length_take, show m - min m ps.length = 0 by omega]
    rfl
/-- A field that is none. -/
theorem chk_none {ts : List (List PF)} {ps : List Pj} (h : chkP ⟨ts, ps⟩ = 0) {f : PF} {r : List PF} {n : Nat} (ht : ts[n]? = some (f :: r)) : chkP ⟨ts.set n (⟨0, f.p, f.fl, f.ms⟩ :: r), ps⟩ = 2 ∨ chkP ⟨ts.set n (⟨0, f.p, f.fl, f.ms⟩ :: r), ps⟩ = 3 := by
  obtain ⟨h1, h2, h3⟩ := chk0 h
  by_cases hm : manyP ⟨ts.set n (⟨0, f.p, f.fl, f.ms⟩ :: r), ps⟩ = true
  · right; unfold chkP; rw [if_pos hm]
  · left
    have hw : typeP (⟨0, f.p, f.fl, f.ms⟩ :: r) = 2 := by
      have hw0 : wrongP (⟨0, f.p, f.fl, f.ms⟩ :: r) ⟨0, f.p, f.fl, f.ms⟩ = 2 := by
        unfold wrongP
        exact if_pos (fun hh => absurd hh.1 (show ¬ (1 : Int) ≤ 0 by decide))
      unfold typeP firstP
      rw [hw0]
      rfl
    have hn : n < ts.length := (List.getElem?_eq_some_iff.1 ht).1
    have hfirst : firstP typeP (ts.set n (⟨0, f.p, f.fl, f.ms⟩ :: r)) = 2 := by
      refine (firstP_at (n := n) (y := ⟨0, f.p, f.fl, f.ms⟩ :: r) (fun i x hi hx => ?_) ?_ (by rw [hw]; decide)).trans hw
      · rw [List.getElem?_set_ne (by omega)] at hx
        exact h2 x (List.mem_of_getElem? hx)
      · rw [List.getElem?_set_self hn]
    unfold chkP
    rw [if_neg hm]
    dsimp only
    rw [hfirst, if_neg (by decide)]
end Go.Proofs.YtamnligooelmgaaDoor
