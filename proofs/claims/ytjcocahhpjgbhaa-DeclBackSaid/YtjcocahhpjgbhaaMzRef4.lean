/- The document's reader: From, Done. -/
import Derived.Test.YtjcocahhpjgbhaaMzRef3
set_option maxRecDepth 100000
set_option maxRecDepth 100000
set_option linter.unusedVariables false
set_option linter.unusedSimpArgs false
namespace Go.Proofs.Ytjcocahhpjgbhaa
open Go.RowKit Go.BigFrame

set_option maxHeartbeats 1000000 in
/-- From: its bytes lie in new memory. -/
theorem rFrom_new (xs : List Int) (v : Value) (w : World) (hx : Sl .u8 w w.heap.size v xs) (hl : xs.length ≤ 1099511627776) :
    Calls Try.prog 32 #[v] w fun e w' => ∃ p S, e = .returned (.pointer (some ⟨p, 0, none⟩)) ∧ w.heap.size ≤ p ∧ Below w.heap.size w w' ∧ Rd w' p xs S 0 0 ∧ ∀ b o n c, S = .slice (some ⟨b, o, none⟩) n c → w.heap.size ≤ b := by
  obtain ⟨A, c, rfl⟩ := hx.shape
  have HX := Lib.hid hx
  clear hx
  go_enter Try.func32, Try.ntmps32
  go_wp2_with (at_builtin; refine wpList_append_sl rfl _ _ 26 rfl Try.underlying26 infoBytes (by decide) rfl rfl (OwnK.nil_ w w.heap.size) HX.out (by rw [List.length_nil]; omega) (Nat.le_refl _) ?_; intro v' w1 hown hb1; have hs1 := hb1.size; rw [List.nil_append] at hown; have HS1 := Lib.hid hown.sl; have HSH := Lib.hid hown.shape; clear hown; obtain ⟨A1, c1, rfl⟩ := HS1.out.shape)
  go_ret
  refine ⟨w1.heap.size, .slice A1 xs.length c1, rfl, hs1, hb1.alloc hs1 _, ?_, ?_⟩
  · have hsl := HS1.out.below (Below.alloc (Below.refl w1.heap.size w1) (Nat.le_refl _) (.cells #[.slice A1 xs.length c1, .int .i64 0, .int .i64 0] 90))
    exact ⟨by simp, hsl, by simp [go_sem], by simp [go_sem], by simp [go_sem], fun i => by simp [go_sem]⟩
  · intro b o n c h
    rcases HSH.out with ⟨h1, _⟩ | ⟨g, cap, h1, hg, _⟩
    · rw [h] at h1; cases h1
    · rw [h] at h1
      injection h1 with h1 h2 h3
      injection h1 with h1
      injection h1 with h1
      omega

set_option maxHeartbeats 1000000 in
theorem rDone_any {xs : List Int} {S : Value} {p : Nat} {a why : Int} {w : World} (hR : Rd w p xs S a why) :
    Calls Try.prog 36 #[.pointer (some ⟨p, 0, none⟩)] w fun e w' => e = .returned (.int .i64 (doneR xs a why)) ∧ Below w.heap.size w w' := by
  obtain ⟨A, c, rfl⟩ := hR.sl.shape
  have hc0 := hR.c0
  have hc1 := hR.c1
  have hc2 := hR.c2
  have hplt := hR.lt
  by_cases hw : why = 0
  · subst hw
    by_cases hlt : a < (xs.length : Int)
    · have e : doneR xs a 0 = 5 := by unfold doneR; rw [if_pos ⟨rfl, hlt⟩]
      rw [e]
      clear e hR
      go_enter Try.func36, Try.ntmps36
      go_wp2
      go_region
      go_wp2
      go_ret
      exact ⟨rfl, Below.drew (Below.refl _ _)⟩
    · have e : doneR xs a 0 = 0 := by unfold doneR; rw [if_neg (fun h => hlt h.2)]
      rw [e]
      clear e hR
      go_enter Try.func36, Try.ntmps36
      go_wp2
      go_region
      go_wp2
      go_ret
      exact ⟨rfl, Below.drew (Below.refl _ _)⟩
  · have e : doneR xs a why = why := by unfold doneR; rw [if_neg (fun h => hw h.1)]
    rw [e]
    have hwb : (why == 0) = false := by simp [hw]
    clear e hR
    go_enter Try.func36, Try.ntmps36
    go_wp2
    go_region
    go_wp2
    go_ret
    exact ⟨rfl, Below.drew (Below.refl _ _)⟩
end Go.Proofs.Ytjcocahhpjgbhaa
