/- schema.shows, whatever the projection. -/
import Derived.Test.YtamnligooelmgaaDoorSShows
set_option maxRecDepth 100000
set_option linter.unusedVariables false
set_option linter.unusedSimpArgs false
namespace Go.Proofs.YtamnligooelmgaaDoor
open Go.RowKit Go.BigFrame

set_option maxHeartbeats 4000000 in
theorem shows_none (D : Dc) (p : Pj) (w : World) (hD : D.In w w.heap.size) (hL : LenD D) (hf : ¬ ∃ f, FldAt D p.t p.f f) :
    Calls Tryd.prog 23 #[declV D, pjV p] w fun e w' => e = .returned (.int .i64 8) ∧ Below w.heap.size w w' := by
  obtain ⟨ts, ps, tv, pv⟩ := D
  obtain ⟨A, c, h1⟩ := hD.1.shapeL
  obtain ⟨A', c', h2⟩ := hD.2.2.shapeL
  dsimp only at h1 h2
  subst h1 h2
  obtain ⟨pt, pf, pg, pb, pm⟩ := p
  dsimp only at hf
  obtain ⟨W, hW⟩ : ∃ W, W = (w.alloc (.cells #[.slice A ts.length c, .slice A' ps.length c'] 25)).alloc (.cells #[.int .i64 pt, .int .i64 pf, .int .i64 pg, .int .i64 pb, .int .i64 pm] 47) := ⟨_, rfl⟩
  have hB : Below w.heap.size w W := by rw [hW]; exact Bel.grew (Bel.grew (Below.refl _ _) _) _
  have HD := Lib.hid (hD.later hB)
  have HB := Lib.hid hB
  have HW := Lib.hid hW
  have HL := Lib.hid hL
  have HF := Lib.hid hf
  clear hD hB hW hL hf
  go_enter Tryd.func23, Tryd.ntmps23
  go_wp2_with fail
  rw [← HW.out]
  clear HW
  refine (field_any ⟨ts, ps, .slice A ts.length c, .slice A' ps.length c'⟩ pt pf W HD.out HL.out).mono ?_
  rintro e w2 (⟨t, f', v', q0, q1, q2, q3, rfl, hown, hb⟩ | ⟨hno, rfl, hb⟩)
  · exact absurd ⟨f', t, q0, q1, q2, q3⟩ HF.out
  have HB2 := Lib.hid (Bel.then (Bel.then HB.out hb) (Bel.grew (Below.refl _ _) (.cells #[.int .i64 0, .int .i64 0, .bool false, .slice none 0 0] 33)))
  clear hno hb
  go_wp2_with fail
  go_ret
  exact ⟨rfl, HB2.out⟩
theorem shows_any (D : Dc) (p : Pj) (w : World) (hD : D.In w w.heap.size) (hL : LenD D) :
    Calls Tryd.prog 23 #[declV D, pjV p] w fun e w' => CRet (ShowsRel D p) w e w' := by
  by_cases hf : ∃ f, FldAt D p.t p.f f
  · obtain ⟨f, t, h0, h1, h2, h3⟩ := hf
    obtain ⟨n, hn⟩ := Int.eq_ofNat_of_zero_le h0
    have ht : D.ts[n]? = some t := by rw [hn, Int.toNat_natCast] at h1; exact h1
    have hf : ∃ f, FldAt D p.t p.f f := ⟨f, t, h0, h1, h2, h3⟩
    have go : ∀ (r : Int) (h : _), ((GrpBad D p ∧ r = 8) ∨ (¬ GrpBad D p ∧ KndBad p ∧ r = 2) ∨ (¬ GrpBad D p ∧ ¬ KndBad p ∧ r = 0)) → Calls Tryd.prog 23 #[declV D, pjV p] w fun e w' => CRet (ShowsRel D p) w e w' := fun r h hr =>
      (shows_some D p r t n w hD hL hf hn ht h).mono fun e w' ⟨he, hb⟩ => ⟨r, he, .inr ⟨hf, hr⟩, hb⟩
    by_cases hg : p.g = 3
    · by_cases hk : IsK t p.b 2
      · have hgb : ¬ GrpBad D p := by
          rintro (⟨_, h⟩ | ⟨h, _⟩)
          · exact h ⟨t, h1, hk⟩
          · exact h hg
        by_cases hm : 1 ≤ p.m ∧ p.m ≤ 5
        · refine go 0 (.inr (.inr (.inr (.inl ⟨hg, hk, hm, rfl⟩)))) (.inr (.inr ⟨hgb, ?_, rfl⟩))
          rintro (h | h)
          · omega
          · exact h hm
        · exact go 2 (.inr (.inr (.inl ⟨hg, hk, hm, rfl⟩))) (.inr (.inl ⟨hgb, .inr hm, rfl⟩))
      · refine go 8 (.inl ⟨hg, hk, rfl⟩) (.inl ⟨.inl ⟨hg, ?_⟩, rfl⟩)
        rintro ⟨t', h1', hk'⟩
        have := h1.symm.trans h1'
        injection this with this
        subst this
        exact hk hk'
    · have hgb : (p.g == 3) = false := by simp [hg]
      by_cases hb : p.b = 0
      · have hn : ¬ GrpBad D p := by
          rintro (⟨h, _⟩ | ⟨_, h⟩)
          · exact hg h
          · exact h hb
        by_cases hq : 1 ≤ p.g ∧ p.g ≤ 3
        · by_cases hm : 1 ≤ p.m ∧ p.m ≤ 5
          · refine go 0 (.inr (.inr (.inr (.inr (.inr (.inr ⟨hgb, hb, hq, hm, rfl⟩)))))) (.inr (.inr ⟨hn, ?_, rfl⟩))
            rintro (h | h)
            · exact h hq
            · exact h hm
          · exact go 2 (.inr (.inr (.inr (.inr (.inr (.inl ⟨hgb, hb, hq, hm, rfl⟩)))))) (.inr (.inl ⟨hn, .inr hm, rfl⟩))
        · exact go 2 (.inr (.inr (.inr (.inr (.inl ⟨hgb, hb, hq, rfl⟩))))) (.inr (.inl ⟨hn, .inl hq, rfl⟩))
      · exact go 8 (.inr (.inl ⟨hgb, by simp [hb], rfl⟩)) (.inl ⟨.inr ⟨hg, hb⟩, rfl⟩)
  · exact (shows_none D p w hD hL hf).mono fun e w' ⟨he, hb⟩ => ⟨8, he, .inl ⟨hf, rfl⟩, hb⟩
end Go.Proofs.YtamnligooelmgaaDoor
