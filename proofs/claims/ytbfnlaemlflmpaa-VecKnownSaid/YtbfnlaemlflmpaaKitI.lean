/- Walks of the statements' own helpers on lists of ints: SameInts, CopyInts, LentInts, KeptInts, SpoilInts. -/
import Derived.Test.YtbfnlaemlflmpaaBase
set_option linter.unusedVariables false
set_option linter.unusedSimpArgs false
namespace Go.Proofs.Ytbfnlaemlflmpaa
open Go.RowKit

theorem Sl.elem {k : IntKind} {w : World} {B n c i : Nat} {A : Option Addr} {xs : List Int} (h : Sl k w B (.slice A n c) xs) (hi : i < xs.length) :
    ∃ b off, A = some ⟨b, off, none⟩ ∧ b < B ∧ xs.length ≤ c ∧ w.cell? ⟨b, off + i, none⟩ = some (.int k (xs[i]?.getD 0)) := by
  rcases h with ⟨A', c', hv, rfl⟩ | ⟨b, off, c', hv, hlt, hc, hx⟩
  · simp at hi
  · injection hv with h1 h2 h3
    subst h1 h3
    exact ⟨b, off, rfl, hlt, hc, hx i hi⟩

theorem same_step {xs ys : List Int} {k : Nat} (hl : xs.length = ys.length) (hk : k < xs.length) (h : xs[k]?.getD 0 = ys[k]?.getD 0) (hp : xs.take k = ys.take k) : xs.take (k + 1) = ys.take (k + 1) := by
  have e : ∀ (l : List Int), k < l.length → l.take (k + 1) = l.take k ++ [l[k]?.getD 0] := fun l hl => by
    rw [List.take_succ_eq_append_getElem hl, List.getElem?_eq_getElem hl]; rfl
  rw [e xs hk, e ys (by omega), hp, h]
theorem same_not {xs ys : List Int} {k : Nat} (h : xs[k]?.getD 0 ≠ ys[k]?.getD 0) : xs ≠ ys := fun e => h (by rw [e])

set_option maxHeartbeats 1000000 in
theorem sameInts_any (xs ys : List Int) (v u : Value) (B : Nat) (w : World) (hx : Sl .i64 w B v xs) (hy : Sl .i64 w B u ys) (hl : xs.length ≤ 1099511627776) :
    Calls Try.prog 25 #[v, u] w fun e w' => e = .returned (.bool (decide (xs = ys))) ∧ ∃ n, w' = w.drewN n := by
  obtain ⟨A, c, rfl⟩ := hx.shape
  obtain ⟨A', c', rfl⟩ := hy.shape
  have HX := Lib.hid hx
  have HY := Lib.hid hy
  clear hx hy
  rcases Nat.lt_trichotomy xs.length ys.length with hlen | hlen | hlen
  rotate_left 1
  · have hxy : ∀ k, k < xs.length ↔ k < ys.length := fun k => by omega
    have HL := Lib.hid hlen
    have HD : Hid (∀ k : Nat, xs[k]?.getD 0 ≠ ys[k]?.getD 0 → decide (xs = ys) = false) := fun k h => decide_eq_false (same_not h)
    have HE : Hid (xs.take xs.length = ys.take ys.length → decide (xs = ys) = true) := fun h => decide_eq_true (by simpa using h)
    rw [← HL.out]
    rw [← HL.out] at HY
    rw [← HL.out] at HE
    clear hlen hxy
    go_enter Try.func25, Try.ntmps25
    go_wp2
    go_loopw [5] (fun i wr => ∃ k : Nat, k ≤ xs.length ∧ i = .int .i64 k ∧ Hid (xs.take k = ys.take k) ∧ ∃ n, wr = w.drewN n) (fun i _ => xs.length - (intOf i).toNat)
    case atStart => exact ⟨0, Nat.zero_le _, rfl, Lib.hid rfl, 0, rfl⟩
    case round =>
      obtain ⟨k, hk, rfl, HT, n, rfl⟩ := hrel
      by_cases hlt : k < xs.length
      · obtain ⟨b, off, rfl, hbB, hcap, hcx⟩ := HX.out.elem hlt
        obtain ⟨b', off', rfl, hbB', hcap', hcy⟩ := HY.out.elem (i := k) (by rw [← HL.out]; exact hlt)
        obtain ⟨x, hxv⟩ : ∃ x, x = xs[k]?.getD 0 := ⟨_, rfl⟩
        obtain ⟨y, hyv⟩ : ∃ y, y = ys[k]?.getD 0 := ⟨_, rfl⟩
        rw [← hxv] at hcx
        rw [← hyv] at hcy
        have HXV := Lib.hid hxv
        have HYV := Lib.hid hyv
        clear hxv hyv
        have hi0 : (0 : Int) ≤ (k : Int) := by omega
        have hi1 : (k : Int) < (xs.length : Int) := by omega
        rcases Int.lt_trichotomy x y with h1 | h1 | h1
        rotate_left 1
        · subst h1
          go_wp2
          go_quiet (fail)
          go_wp2
          go_roundw
          case rel => exact ⟨k + 1, by omega, by go_num, Lib.hid (same_step HL.out hlt (by rw [← HXV.out, ← HYV.out]) HT.out), _, rfl⟩
          case measure => simp [intOf]; omega
        all_goals
          go_wp2
          go_quiet (fail)
          go_wp2
          go_ret
          exact ⟨congrArg (fun z => Ending.returned (.bool z)) (HD.out k (by rw [← HXV.out, ← HYV.out]; omega)).symm, _, World.drewN_drewN _ _ _⟩
      · have hk' : k = xs.length := by omega
        subst hk'
        go_wp2
        go_ret
        exact ⟨congrArg (fun z => Ending.returned (.bool z)) (HE.out HT.out).symm, n, rfl⟩
  all_goals
    have HD : Hid (decide (xs = ys) = false) := decide_eq_false (fun e => by rw [e] at hlen; omega)
    go_enter Try.func25, Try.ntmps25
    go_wp2
    go_ret
    exact ⟨congrArg (fun z => Ending.returned (.bool z)) HD.out.symm, 0, rfl⟩
end Go.Proofs.Ytbfnlaemlflmpaa
