/- schema.Fits, whatever is asked; command.Check. -/
import Derived.Test.YtamnligooelmgaaDoorSFits
set_option maxRecDepth 100000
set_option linter.unusedVariables false
set_option linter.unusedSimpArgs false
namespace Go.Proofs.YtamnligooelmgaaDoor
open Go.RowKit Go.BigFrame

theorem neb {a b : Int} (h : a = b) : (a != b) = false := by simp [h]
theorem neb' {a b : Int} (h : a ≠ b) : (a != b) = true := by simp [h]
set_option maxHeartbeats 4000000 in
theorem fits_none (D : Dc) (ti fi op arg : Int) (w : World) (hD : D.In w w.heap.size) (hL : LenD D) (hf : ¬ ∃ f, FldAt D ti fi f) :
    Calls Tryd.prog 15 #[declV D, .int .i64 ti, .int .i64 fi, .int .i64 op, .int .i64 arg] w fun e w' => e = .returned (.int .i64 8) ∧ Below w.heap.size w w' := by
  obtain ⟨ts, ps, tv, pv⟩ := D
  obtain ⟨A, c, h1⟩ := hD.1.shapeL
  obtain ⟨A', c', h2⟩ := hD.2.2.shapeL
  dsimp only at h1 h2
  subst h1 h2
  obtain ⟨W, hW⟩ : ∃ W, W = w.alloc (.cells #[.slice A ts.length c, .slice A' ps.length c'] 25) := ⟨_, rfl⟩
  have hB : Below w.heap.size w W := by rw [hW]; exact Bel.grew (Below.refl _ _) _
  have HD := Lib.hid (hD.later hB)
  have HB := Lib.hid hB
  have HW := Lib.hid hW
  have HL := Lib.hid hL
  have HF := Lib.hid hf
  clear hD hB hW hL hf
  go_enter Tryd.func15, Tryd.ntmps15
  go_wp2_with fail
  rw [← HW.out]
  clear HW
  refine (field_any ⟨ts, ps, .slice A ts.length c, .slice A' ps.length c'⟩ ti fi W HD.out HL.out).mono ?_
  rintro e w2 (⟨t, f', v', q0, q1, q2, q3, rfl, hown, hb⟩ | ⟨hno, rfl, hb⟩)
  · exact absurd ⟨f', t, q0, q1, q2, q3⟩ HF.out
  have HB2 := Lib.hid (Bel.then (Bel.then HB.out hb) (Bel.grew (Below.refl _ _) (.cells #[.int .i64 0, .int .i64 0, .bool false, .slice none 0 0] 33)))
  clear hno hb
  go_wp2_with fail
  go_ret
  exact ⟨rfl, HB2.out⟩
theorem fits_any (D : Dc) (ti fi op arg : Int) (w : World) (hD : D.In w w.heap.size) (hT : Tab w) (hL : LenD D) :
    Calls Tryd.prog 15 #[declV D, .int .i64 ti, .int .i64 fi, .int .i64 op, .int .i64 arg] w fun e w' => CRet (FitsRel D ti fi op arg) w e w' := by
  by_cases hf : ∃ f, FldAt D ti fi f
  · obtain ⟨f, hf⟩ := hf
    have hms : f.ms.length ≤ 1099511627776 := by
      obtain ⟨t, _, h1, _, h2⟩ := hf
      exact (hL.2 t (List.mem_of_getElem? h1)).2 f (List.mem_of_getElem? h2)
    have go : ∀ (r : Int) (h : _), ((¬ OpK f op ∧ r = 2) ∨ (OpK f op ∧ ArgBad f op arg ∧ r = 1) ∨ (OpK f op ∧ ¬ ArgBad f op arg ∧ r = 0)) → Calls Tryd.prog 15 #[declV D, .int .i64 ti, .int .i64 fi, .int .i64 op, .int .i64 arg] w fun e w' => CRet (FitsRel D ti fi op arg) w e w' := fun r h hr =>
      (fits_some D ti fi op arg r f w hD hT hL hf hms h).mono fun e w' ⟨he, hb⟩ => ⟨r, he, .inr ⟨f, hf, hr⟩, hb⟩
    by_cases hop : 1 ≤ op ∧ op ≤ 5
    · rcases (show op = 1 ∨ op = 2 ∨ op = 3 ∨ op = 4 ∨ op = 5 from by omega) with rfl | rfl | rfl | rfl | rfl
      · by_cases hk : (1 : Int) = f.k
        · by_cases ha : arg = 0
          · exact go 1 (.inr (.inr (.inr (.inr (.inr (.inr (.inl ⟨rfl, neb hk, ha, rfl⟩))))))) (.inr (.inl ⟨.inl ⟨rfl, hk.symm⟩, .inl ⟨rfl, ha⟩, rfl⟩))
          · exact go 0 (.inr (.inr (.inr (.inr (.inr (.inr (.inr (.inl ⟨rfl, neb hk, by simp [ha], rfl⟩)))))))) (.inr (.inr ⟨.inl ⟨rfl, hk.symm⟩, (fun h => by unfold ArgBad at h; omega), rfl⟩))
        · exact go 2 (.inr (.inl ⟨rfl, neb' hk, rfl⟩)) (.inl ⟨fun h => by unfold OpK at h; omega, rfl⟩)
      · by_cases hk : (2 : Int) = f.k
        · exact go 0 (.inr (.inr (.inr (.inr (.inr (.inr (.inr (.inr (.inl ⟨rfl, neb hk, rfl⟩))))))))) (.inr (.inr ⟨.inr (.inl ⟨rfl, hk.symm⟩), (fun h => by unfold ArgBad at h; omega), rfl⟩))
        · exact go 2 (.inr (.inr (.inl ⟨rfl, neb' hk, rfl⟩))) (.inl ⟨fun h => by unfold OpK at h; omega, rfl⟩)
      · by_cases hk : (3 : Int) = f.k
        · exact go 0 (.inr (.inr (.inr (.inr (.inr (.inr (.inr (.inr (.inr (.inl ⟨rfl, neb hk, rfl⟩)))))))))) (.inr (.inr ⟨.inr (.inr (.inl ⟨rfl, hk.symm⟩)), (fun h => by unfold ArgBad at h; omega), rfl⟩))
        · exact go 2 (.inr (.inr (.inr (.inl ⟨rfl, neb' hk, rfl⟩)))) (.inl ⟨fun h => by unfold OpK at h; omega, rfl⟩)
      · by_cases hk : (3 : Int) = f.k
        · exact go 0 (.inr (.inr (.inr (.inr (.inr (.inr (.inr (.inr (.inr (.inr (.inl ⟨rfl, neb hk, rfl⟩))))))))))) (.inr (.inr ⟨.inr (.inr (.inr (.inl ⟨rfl, hk.symm⟩))), (fun h => by unfold ArgBad at h; omega), rfl⟩))
        · exact go 2 (.inr (.inr (.inr (.inr (.inl ⟨rfl, neb' hk, rfl⟩))))) (.inl ⟨fun h => by unfold OpK at h; omega, rfl⟩)
      · by_cases hk : (4 : Int) = f.k
        · by_cases ha : 0 ≤ arg ∧ arg ≤ (f.ms.length : Int) - 1
          · exact go 0 (.inr (.inr (.inr (.inr (.inr (.inr (.inr (.inr (.inr (.inr (.inr (.inl ⟨rfl, neb hk, ha, rfl⟩)))))))))))) (.inr (.inr ⟨.inr (.inr (.inr (.inr ⟨rfl, hk.symm⟩))), (fun h => by unfold ArgBad at h; omega), rfl⟩))
          · exact go 1 (.inr (.inr (.inr (.inr (.inr (.inr (.inr (.inr (.inr (.inr (.inr (.inr ⟨rfl, neb hk, ha, rfl⟩)))))))))))) (.inr (.inl ⟨.inr (.inr (.inr (.inr ⟨rfl, hk.symm⟩))), .inr ⟨rfl, ha⟩, rfl⟩))
        · exact go 2 (.inr (.inr (.inr (.inr (.inr (.inl ⟨rfl, neb' hk, rfl⟩)))))) (.inl ⟨fun h => by unfold OpK at h; omega, rfl⟩)
    · exact go 2 (.inl ⟨hop, rfl⟩) (.inl ⟨fun h => by unfold OpK at h; omega, rfl⟩)
  · exact (fits_none D ti fi op arg w hD hL hf).mono fun e w' ⟨he, hb⟩ => ⟨8, he, .inl ⟨hf, rfl⟩, hb⟩
/-- What is asked has one answer. -/
theorem FitsRel.one {D : Dc} {ti fi op arg a b : Int} (h : FitsRel D ti fi op arg a) (k : FitsRel D ti fi op arg b) : a = b := by
  rcases h with ⟨h1, h2⟩ | ⟨f, h1, h2⟩
  · rcases k with ⟨_, k2⟩ | ⟨g, k1, _⟩
    · rw [h2, k2]
    · exact absurd ⟨g, k1⟩ h1
  · rcases k with ⟨k1, _⟩ | ⟨g, k1, k2⟩
    · exact absurd ⟨f, h1⟩ k1
    · have := h1.one k1
      subst this
      rcases h2 with ⟨x, y⟩ | ⟨x, y, z⟩ | ⟨x, y, z⟩
      · rcases k2 with ⟨x', y'⟩ | ⟨x', _⟩ | ⟨x', _⟩
        · rw [y, y']
        · exact absurd x' x
        · exact absurd x' x
      · rcases k2 with ⟨x', _⟩ | ⟨_, y', z'⟩ | ⟨_, y', _⟩
        · exact absurd x x'
        · rw [z, z']
        · exact absurd y y'
      · rcases k2 with ⟨x', _⟩ | ⟨_, y', _⟩ | ⟨_, y', z'⟩
        · exact absurd x x'
        · exact absurd y' y
        · rw [z, z']
end Go.Proofs.YtamnligooelmgaaDoor
