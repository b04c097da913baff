/- The reader: From, Done. -/
import Derived.Test.YtjjccjannandlaaRead8
set_option linter.unusedVariables false
set_option linter.unusedSimpArgs false
namespace Go.Proofs.Ytjjccjannandlaa
open Go.RowKit Go.BigFrame

set_option maxHeartbeats 1000000 in
theorem From_any (xs : List Int) (v : Value) (w : World) (hx : Sl .u8 w w.heap.size v xs) (hl : xs.length ≤ 1099511627776) :
    Calls Try.prog 36 #[v] w fun e w' => ∃ p S, e = .returned (.pointer (some ⟨p, 0, none⟩)) ∧ w.heap.size ≤ p ∧ Below w.heap.size w w' ∧ Rd w' p xs S 0 0 := by
  obtain ⟨A, c, rfl⟩ := hx.shape
  have HX := Lib.hid hx
  clear hx
  go_enter Try.func36, Try.ntmps36
  go_wp2_with (at_builtin; refine wpList_append_sl rfl _ _ 22 rfl Try.underlying22 infoBytes (by decide) rfl rfl (OwnK.nil_ w w.heap.size) HX.out (by rw [List.length_nil]; omega) (Nat.le_refl _) ?_; intro v' w1 hown hb1; have hs1 := hb1.size; rw [List.nil_append] at hown; have HS1 := Lib.hid hown.sl; clear hown; obtain ⟨A1, c1, rfl⟩ := HS1.out.shape)
  go_ret
  refine ⟨w1.heap.size, .slice A1 xs.length c1, rfl, hs1, hb1.alloc hs1 _, ?_⟩
  have hsl := HS1.out.below (Below.alloc (Below.refl w1.heap.size w1) (Nat.le_refl _) (.cells #[.slice A1 xs.length c1, .int .i64 0, .int .i64 0] 77))
  exact ⟨by simp, hsl, by simp [go_sem], by simp [go_sem], by simp [go_sem], fun i => by simp [go_sem]⟩

def doneR (xs : List Int) (a why : Int) : Int := if why = 0 ∧ a < xs.length then 5 else why
set_option maxHeartbeats 1000000 in
theorem Done_any {xs : List Int} {S : Value} {p : Nat} {a why : Int} {w : World} (hR : Rd w p xs S a why) :
    Calls Try.prog 39 #[.pointer (some ⟨p, 0, none⟩)] w fun e w' => e = .returned (.int .i64 (doneR xs a why)) ∧ Below w.heap.size w w' := by
  obtain ⟨A, c, rfl⟩ := hR.sl.shape
  have hc0 := hR.c0
  have hc1 := hR.c1
  have hc2 := hR.c2
  have hplt := hR.lt
  by_cases hw : why = 0
  · subst hw
    by_cases hlt : a < (xs.length : Int)
    · have e : doneR xs a 0 = 5 := by unfold doneR; rw [if_pos ⟨rfl, hlt⟩]
      rw [e]
      clear e hR
      go_enter Try.func39, Try.ntmps39
      go_wp2
      go_region
      go_wp2
      go_ret
      exact ⟨rfl, Below.drew (Below.refl _ _)⟩
    · have e : doneR xs a 0 = 0 := by unfold doneR; rw [if_neg (fun h => hlt h.2)]
      rw [e]
      clear e hR
      go_enter Try.func39, Try.ntmps39
      go_wp2
      go_region
      go_wp2
      go_ret
      exact ⟨rfl, Below.drew (Below.refl _ _)⟩
  · have e : doneR xs a why = why := by unfold doneR; rw [if_neg (fun h => hw h.1)]
    rw [e]
    have hwb : (why == 0) = false := by simp [hw]
    clear e hR
    go_enter Try.func39, Try.ntmps39
    go_wp2
    go_region
    go_wp2
    go_ret
    exact ⟨rfl, Below.drew (Below.refl _ _)⟩
end Go.Proofs.Ytjjccjannandlaa
