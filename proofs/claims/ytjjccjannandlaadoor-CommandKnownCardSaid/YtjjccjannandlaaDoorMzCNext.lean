/- CommandNext: the walk. -/
import Derived.Test.YtjjccjannandlaaDoorMzWorks08
import Derived.Test.YtjjccjannandlaaDoorMzSameEv
set_option maxRecDepth 100000
set_option maxRecDepth 100000
set_option linter.unusedVariables false
set_option linter.unusedSimpArgs false
namespace Go.Proofs.YtjjccjannandlaaDoor
open Go.RowKit Go.BigFrame

theorem getV_nil (o : Int) : getV [] o = 0 := getV_out (by simp)
theorem getV_own (xs : List Int) (o : Int) : getV (joinV xs []) o = getV xs o := by
  rw [getV_joinV, getV_nil]
  have := getV_nonneg xs o
  omega
theorem cmpV_own (xs : List Int) : cmpV (joinV xs []) xs = 0 := by
  unfold cmpV
  rw [(lessV_false _ _).2 fun i => by rw [getV_own]; exact Int.le_refl _, (lessV_false _ _).2 fun i => by rw [getV_own]; exact Int.le_refl _]
  rfl
theorem joinV_own_length (xs : List Int) : (joinV xs []).length = xs.length := by rw [joinV_length]; simp

set_option maxRecDepth 100000 in
set_option maxHeartbeats 8000000 in
/-- Where there is no event: which way it is out of its place. -/
theorem cNext_no (v : Nat → Int) (o lam k g : Int) (xs : List Int) (x : Value) (w : World) (hx : Sl .i64 w w.heap.size x xs) (hl : xs.length ≤ 200) (hg : getV xs o = g) (hk : ¬ k = 0)
    (hev : ∀ W, Below w.heap.size w W → Calls Tryd.prog 10 #[cmdV v, .int .i64 o, x, .int .i64 lam] W fun e w' => e = .returned (.tuple #[zeroV, .int .i64 k]) ∧ Below W.heap.size W w')
    (hway : o < 0 ∨ (0 ≤ o ∧ (xs.length : Int) ≤ o) ∨ (0 ≤ o ∧ o < (xs.length : Int) ∧ lam < 0) ∨ (0 ≤ o ∧ o < (xs.length : Int) ∧ 0 ≤ lam ∧ lam = 9223372036854775807) ∨ (0 ≤ o ∧ o < (xs.length : Int) ∧ 0 ≤ lam ∧ (lam == 9223372036854775807) = false ∧ g = 9223372036854775807)) :
    Calls Tryd.prog 21 #[cmdV v, .int .i64 o, x, .int .i64 lam] w fun e w' => e = .returned (.bool true) ∧ Below w.heap.size w w' := by
  obtain ⟨A, c, rfl⟩ := hx.shape
  have HX := Lib.hid hx
  have HG := Lib.hid hg
  have HEV := Lib.hid hev
  have hkb : (k != 0) = true := by simp [hk]
  have hlI : ¬ (xs.length : Int) > 200 := by omega
  have hb1 : ∀ o, Below w.heap.size w (w.alloc o) := fun o => Bel.grew (Below.refl _ _) _
  clear hx hg hev hk
  rcases hway with h1 | ⟨h1, h2⟩ | ⟨h1, h2, h3⟩ | ⟨h1, h2, h3, rfl⟩ | ⟨h1, h2, h3, h4, rfl⟩
  all_goals
    go_enter Tryd.func21, Tryd.ntmps21
    go_wp2_with fail
    refine (HEV.out _ (hb1 _)).mono ?_
    rintro e w2 ⟨rfl, hb⟩
    have HB2 := Lib.hid (Bel.then (hb1 _) hb)
    clear hb hb1 HEV
    go_wp2_with fail
    refine (sameEv_eq (fun _ => 0) (.slice none 0 0) (.slice none 0 0) [] _ Sl.nil_ Sl.nil_ (by decide)).mono ?_
    rintro e w3 ⟨rfl, hb⟩
    have HB3 := Lib.hid (Bel.then (Bel.grew HB2.out _) hb)
    clear hb HB2
    go_wp2_with fail
  all_goals try
    (refine (get_any xs _ _ o _ (HX.out.below HB3.out)).mono ?_
     rw [HG.out]
     rintro e w4 ⟨rfl, rfl⟩
     go_wp2_with fail)
  all_goals
    refine (works08_any _).mono ?_
    rintro e w5 ⟨rfl, hb⟩
    have HB5 := Lib.hid (Bel.then HB3.out hb)
    clear hb HB3
    go_wp2_with fail
    go_ret
    exact ⟨rfl, HB5.out⟩
end Go.Proofs.YtjjccjannandlaaDoor
