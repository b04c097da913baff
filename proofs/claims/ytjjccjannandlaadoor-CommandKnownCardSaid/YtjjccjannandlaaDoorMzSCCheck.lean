/- command.Check. -/
import Derived.Test.YtjjccjannandlaaDoorMzSCmd
import Derived.Test.YtjjccjannandlaaDoorMg4
set_option maxRecDepth 100000
set_option maxRecDepth 100000
set_option linter.unusedVariables false
set_option linter.unusedSimpArgs false
namespace Go.Proofs.YtjjccjannandlaaDoor
open Go.RowKit Go.BigFrame

/-- What is wrong with a command. -/
def CmdRel (D : Dc) (v : Nat → Int) (c : Int) : Prop := ((v 1 < 0 ∨ v 6 < 0 ∨ v 5 < -1) ∧ c = 1) ∨ ((0 ≤ v 1 ∧ 0 ≤ v 6 ∧ -1 ≤ v 5) ∧ FitsRel D (v 0) (v 2) (v 3) (v 4) c)
set_option maxHeartbeats 4000000 in
theorem cCheck_any (D : Dc) (v : Nat → Int) (w : World) (hD : D.In w w.heap.size) (hT : Tab w) (hL : LenD D) :
    Calls Tryd.prog 13 #[declV D, cmdV v] w fun e w' => CRet (CmdRel D v) w e w' := by
  obtain ⟨ts, ps, tv, pv⟩ := D
  obtain ⟨A, c, h1⟩ := hD.1.shapeL
  obtain ⟨A', c', h2⟩ := hD.2.2.shapeL
  dsimp only at h1 h2
  subst h1 h2
  obtain ⟨W, hW⟩ : ∃ W, W = (w.alloc (.cells #[.slice A ts.length c, .slice A' ps.length c'] 25)).alloc (.cells #[.int .i64 (v 0), .int .i64 (v 1), .int .i64 (v 2), .int .i64 (v 3), .int .i64 (v 4), .int .i64 (v 5), .int .i64 (v 6)] 27) := ⟨_, rfl⟩
  have hB : Below w.heap.size w W := by rw [hW]; exact Bel.grew (Bel.grew (Below.refl _ _) _) _
  have HD := Lib.hid (hD.later hB)
  have HT := Lib.hid (hT.later hB)
  have HB := Lib.hid hB
  have HW := Lib.hid hW
  have HL := Lib.hid hL
  clear hD hT hB hW hL
  by_cases hbad : v 1 < 0 ∨ v 6 < 0 ∨ v 5 < -1
  · have hcs : v 1 < 0 ∨ (0 ≤ v 1 ∧ v 6 < 0) ∨ (0 ≤ v 1 ∧ 0 ≤ v 6 ∧ v 5 < -1) := by omega
    have HR : CmdRel ⟨ts, ps, .slice A ts.length c, .slice A' ps.length c'⟩ v 1 := .inl ⟨hbad, rfl⟩
    clear hbad
    obtain ⟨R, hR⟩ : ∃ R : Int → Prop, R = CmdRel ⟨ts, ps, .slice A ts.length c, .slice A' ps.length c'⟩ v := ⟨_, rfl⟩
    rw [← hR] at HR ⊢
    clear hR
    rcases hcs with h1 | ⟨h1, h2⟩ | ⟨h1, h2, h3⟩
    all_goals
      go_enter Tryd.func13, Tryd.ntmps13
      go_wp2_with fail
      go_ret
      rw [← HW.out]
      exact CRet.mk HB.out HR
  · have h1 : 0 ≤ v 1 := by omega
    have h2 : 0 ≤ v 6 := by omega
    have h3 : -1 ≤ v 5 := by omega
    clear hbad
    go_enter Tryd.func13, Tryd.ntmps13
    go_wp2_with fail
    rw [← HW.out]
    clear HW
    refine (fits_any ⟨ts, ps, .slice A ts.length c, .slice A' ps.length c'⟩ (v 0) (v 2) (v 3) (v 4) W HD.out HT.out HL.out).mono ?_
    rintro e w7 ⟨r, rfl, hr, hb7⟩
    have HB7 := Lib.hid (Bel.then HB.out hb7)
    have HR : CmdRel ⟨ts, ps, .slice A ts.length c, .slice A' ps.length c'⟩ v r := .inr ⟨⟨h1, h2, h3⟩, hr⟩
    obtain ⟨R, hR⟩ : ∃ R : Int → Prop, R = CmdRel ⟨ts, ps, .slice A ts.length c, .slice A' ps.length c'⟩ v := ⟨_, rfl⟩
    rw [← hR] at HR
    have HRR := Lib.hid HR
    have HRE := Lib.hid hR
    clear hr hb7 HR hR
    go_wp2_with fail
    go_ret
    rw [← HRE.out]
    exact CRet.mk HB7.out HRR.out
end Go.Proofs.YtjjccjannandlaaDoor
