/- An entry of a vector: vec.Get and its reference. -/
import Derived.Test.YtjjccjannandlaaDoorBase
set_option maxRecDepth 100000
set_option linter.unusedVariables false
set_option linter.unusedSimpArgs false
namespace Go.Proofs.YtjjccjannandlaaDoor
open Go.RowKit

/-- An entry of a vector. -/
def getV (xs : List Int) (o : Int) : Int := if 0 ≤ o ∧ o < xs.length then max (xs[o.toNat]?.getD 0) 0 else 0

theorem getV_in {xs : List Int} {o : Int} (h0 : 0 ≤ o) (h1 : o < xs.length) : getV xs o = max (xs[o.toNat]?.getD 0) 0 := by unfold getV; rw [if_pos ⟨h0, h1⟩]
theorem getV_out {xs : List Int} {o : Int} (h : ¬ (0 ≤ o ∧ o < xs.length)) : getV xs o = 0 := by unfold getV; rw [if_neg h]

set_option maxHeartbeats 400000 in
theorem get_any (xs : List Int) (v : Value) (B : Nat) (o : Int) (w : World) (hs : Sl .i64 w B v xs) :
    Calls Tryd.prog 30 #[v, .int .i64 o] w fun e w' => e = .returned (.int .i64 (getV xs o)) ∧ w = w' := by
  rcases hs with ⟨A, c, rfl, rfl⟩ | ⟨b, off, c, rfl, hlt, hc, hx⟩
  · have hg : getV [] o = 0 := getV_out (by simp)
    rw [hg]
    clear hg
    go_enter Tryd.func30, Tryd.ntmps30
    go_wp2
    all_goals (go_ret; exact ⟨rfl, rfl⟩)
  · by_cases h : 0 ≤ o ∧ o < xs.length
    · have hg := getV_in h.1 h.2
      obtain ⟨n, rfl⟩ := Int.eq_ofNat_of_zero_le h.1
      have hn : n < xs.length := by omega
      have hcell := hx n hn
      rw [hg]
      clear hx hg h
      go_enter Tryd.func30, Tryd.ntmps30
      go_wp2
      all_goals
        go_ret
        refine ⟨congrArg (fun z => Ending.returned (.int .i64 z)) ?_, rfl⟩
        try simp only [Int.toNat_natCast, List.getElem?_eq_getElem hn, Option.getD_some]
        try omega
    · rw [getV_out h]
      have h' : o < 0 ∨ (xs.length : Int) ≤ o := by omega
      clear h hx
      go_enter Tryd.func30, Tryd.ntmps30
      go_wp2
      all_goals (go_ret; exact ⟨rfl, rfl⟩)

set_option maxHeartbeats 400000 in
theorem rget_any (xs : List Int) (v : Value) (B : Nat) (o : Int) (w : World) (hs : Sl .i64 w B v xs) :
    Calls Tryd.prog 32 #[v, .int .i64 o] w fun e w' => e = .returned (.int .i64 (getV xs o)) ∧ w = w' := by
  rcases hs with ⟨A, c, rfl, rfl⟩ | ⟨b, off, c, rfl, hlt, hc, hx⟩
  · have hg : getV [] o = 0 := getV_out (by simp)
    rw [hg]
    clear hg
    go_enter Tryd.func32, Tryd.ntmps32
    go_wp2
    all_goals (go_ret; exact ⟨rfl, rfl⟩)
  · by_cases h : 0 ≤ o ∧ o < xs.length
    · have hg := getV_in h.1 h.2
      obtain ⟨n, rfl⟩ := Int.eq_ofNat_of_zero_le h.1
      have hn : n < xs.length := by omega
      have hcell := hx n hn
      rw [hg]
      clear hx hg h
      go_enter Tryd.func32, Tryd.ntmps32
      go_wp2
      all_goals
        go_ret
        refine ⟨congrArg (fun z => Ending.returned (.int .i64 z)) ?_, rfl⟩
        try simp only [Int.toNat_natCast, List.getElem?_eq_getElem hn, Option.getD_some]
        try omega
    · rw [getV_out h]
      have h' : o < 0 ∨ (xs.length : Int) ≤ o := by omega
      clear h hx
      go_enter Tryd.func32, Tryd.ntmps32
      go_wp2
      all_goals (go_ret; exact ⟨rfl, rfl⟩)

end Go.Proofs.YtjjccjannandlaaDoor
