/- quaysideref06.Fits: as schema.Fits. -/
import Derived.Test.YtamnligooelmgaaDoorRSField
import Derived.Test.YtamnligooelmgaaDoorSCmd
set_option maxRecDepth 100000
set_option maxRecDepth 100000
set_option linter.unusedVariables false
set_option linter.unusedSimpArgs false
namespace Go.Proofs.YtamnligooelmgaaDoor
open Go.RowKit Go.BigFrame

/-- The ways through. -/
def RWay (f : Fd) (op arg r : Int) : Prop :=
  ((op == 1) = false ∧ (op == 2) = false ∧ (op == 3) = false ∧ (op == 4) = false ∧ (op == 5) = false ∧ r = 2) ∨
  (op = 1 ∧ (f.k != 1) = true ∧ r = 2) ∨ (op = 2 ∧ (f.k != 2) = true ∧ r = 2) ∨ (op = 3 ∧ (f.k != 3) = true ∧ r = 2) ∨ (op = 4 ∧ (f.k != 3) = true ∧ r = 2) ∨ (op = 5 ∧ (f.k != 4) = true ∧ r = 2) ∨
  (op = 1 ∧ (f.k != 1) = false ∧ arg = 0 ∧ r = 1) ∨ (op = 1 ∧ (f.k != 1) = false ∧ (arg == 0) = false ∧ r = 0) ∨ (op = 2 ∧ (f.k != 2) = false ∧ r = 0) ∨ (op = 3 ∧ (f.k != 3) = false ∧ r = 0) ∨ (op = 4 ∧ (f.k != 3) = false ∧ r = 0) ∨
  (op = 5 ∧ (f.k != 4) = false ∧ arg < 0 ∧ r = 1) ∨ (op = 5 ∧ (f.k != 4) = false ∧ 0 ≤ arg ∧ (f.ms.length : Int) ≤ arg ∧ r = 1) ∨ (op = 5 ∧ (f.k != 4) = false ∧ 0 ≤ arg ∧ arg < (f.ms.length : Int) ∧ r = 0)
set_option maxHeartbeats 16000000 in
theorem rfits_some (D : Dc) (ti fi op arg r : Int) (f : Fd) (w : World) (hD : D.In w w.heap.size) (hL : LenD D) (hf : FldAt D ti fi f) (h : RWay f op arg r) :
    Calls Tryd.prog 16 #[declV D, .int .i64 ti, .int .i64 fi, .int .i64 op, .int .i64 arg] w fun e w' => e = .returned (.int .i64 r) ∧ Below w.heap.size w w' := by
  obtain ⟨ts, ps, tv, pv⟩ := D
  obtain ⟨A, c, h1⟩ := hD.1.shapeL
  obtain ⟨A', c', h2⟩ := hD.2.2.shapeL
  dsimp only at h1 h2
  subst h1 h2
  obtain ⟨W, hW⟩ : ∃ W, W = w.alloc (.cells #[.slice A ts.length c, .slice A' ps.length c'] 25) := ⟨_, rfl⟩
  have hB : Below w.heap.size w W := by rw [hW]; exact Bel.grew (Below.refl _ _) _
  have HD := Lib.hid (hD.later hB)
  have HB := Lib.hid hB
  have HW := Lib.hid hW
  have HL := Lib.hid hL
  have HF := Lib.hid hf
  have H := Lib.hid h
  clear hD hB hW hL hf h
  go_enter Tryd.func16, Tryd.ntmps16
  go_wp2_with fail
  rw [← HW.out]
  clear HW
  refine (rfield_any ⟨ts, ps, .slice A ts.length c, .slice A' ps.length c'⟩ ti fi W HD.out HL.out).mono ?_
  rintro e w2 (⟨t, f', v', q0, q1, q2, q3, rfl, hown, hb⟩ | ⟨hno, rfl, hb⟩)
  rotate_left
  · obtain ⟨t, h⟩ := HF.out
    exact absurd ⟨t, f, h⟩ hno
  have hff : f' = f := FldAt.one (D := ⟨ts, ps, .slice A ts.length c, .slice A' ps.length c'⟩) ⟨t, q0, q1, q2, q3⟩ HF.out
  subst hff
  obtain ⟨A4, c4, h4⟩ := SlR.shapeL hown.sl
  subst h4
  have HB2 := Lib.hid (Bel.then (Bel.then HB.out hb) (Bel.grew (Below.refl _ _) (.cells #[.int .i64 f'.k, .int .i64 f'.p, .bool f'.fl, .slice A4 f'.ms.length c4] 33)))
  clear hown hb q0 q1 q2 q3 HB HD
  obtain ⟨fk, fp, ffl, ms, fv⟩ := f'
  unfold RWay at H
  dsimp only at HB2 H ⊢
  rcases H.out with ⟨o1, o2, o3, o4, o5, rfl⟩ | ⟨rfl, hk, rfl⟩ | ⟨rfl, hk, rfl⟩ | ⟨rfl, hk, rfl⟩ | ⟨rfl, hk, rfl⟩ | ⟨rfl, hk, rfl⟩ | ⟨rfl, hk, rfl, rfl⟩ | ⟨rfl, hk, ha, rfl⟩ | ⟨rfl, hk, rfl⟩ | ⟨rfl, hk, rfl⟩ | ⟨rfl, hk, rfl⟩ | ⟨rfl, hk, ha, rfl⟩ | ⟨rfl, hk, ha, ha', rfl⟩ | ⟨rfl, hk, ha, ha', rfl⟩
  all_goals
    clear H
    go_wp2_with fail
    go_ret
    exact ⟨rfl, HB2.out⟩
set_option maxHeartbeats 4000000 in
theorem rfits_none (D : Dc) (ti fi op arg : Int) (w : World) (hD : D.In w w.heap.size) (hL : LenD D) (hf : ¬ ∃ f, FldAt D ti fi f) :
    Calls Tryd.prog 16 #[declV D, .int .i64 ti, .int .i64 fi, .int .i64 op, .int .i64 arg] w fun e w' => e = .returned (.int .i64 8) ∧ Below w.heap.size w w' := by
  obtain ⟨ts, ps, tv, pv⟩ := D
  obtain ⟨A, c, h1⟩ := hD.1.shapeL
  obtain ⟨A', c', h2⟩ := hD.2.2.shapeL
  dsimp only at h1 h2
  subst h1 h2
  obtain ⟨W, hW⟩ : ∃ W, W = w.alloc (.cells #[.slice A ts.length c, .slice A' ps.length c'] 25) := ⟨_, rfl⟩
  have hB : Below w.heap.size w W := by rw [hW]; exact Bel.grew (Below.refl _ _) _
  have HD := Lib.hid (hD.later hB)
  have HB := Lib.hid hB
  have HW := Lib.hid hW
  have HL := Lib.hid hL
  have HF := Lib.hid hf
  clear hD hB hW hL hf
  go_enter Tryd.func16, Tryd.ntmps16
  go_wp2_with fail
  rw [← HW.out]
  clear HW
  refine (rfield_any ⟨ts, ps, .slice A ts.length c, .slice A' ps.length c'⟩ ti fi W HD.out HL.out).mono ?_
  rintro e w2 (⟨t, f', v', q0, q1, q2, q3, rfl, hown, hb⟩ | ⟨hno, rfl, hb⟩)
  · exact absurd ⟨f', t, q0, q1, q2, q3⟩ HF.out
  have HB2 := Lib.hid (Bel.then (Bel.then HB.out hb) (Bel.grew (Below.refl _ _) (.cells #[.int .i64 0, .int .i64 0, .bool false, .slice none 0 0] 33)))
  clear hno hb
  go_wp2_with fail
  go_ret
  exact ⟨rfl, HB2.out⟩
theorem bne_f {a b : Int} (h : a = b) : (a != b) = false := by simp [h]
theorem bne_t {a b : Int} (h : a ≠ b) : (a != b) = true := by simp [h]
theorem rfits_any (D : Dc) (ti fi op arg : Int) (w : World) (hD : D.In w w.heap.size) (hL : LenD D) :
    Calls Tryd.prog 16 #[declV D, .int .i64 ti, .int .i64 fi, .int .i64 op, .int .i64 arg] w fun e w' => CRet (FitsRel D ti fi op arg) w e w' := by
  by_cases hf : ∃ f, FldAt D ti fi f
  · obtain ⟨f, hf⟩ := hf
    have go : ∀ (r : Int), RWay f op arg r → ((¬ OpK f op ∧ r = 2) ∨ (OpK f op ∧ ArgBad f op arg ∧ r = 1) ∨ (OpK f op ∧ ¬ ArgBad f op arg ∧ r = 0)) → Calls Tryd.prog 16 #[declV D, .int .i64 ti, .int .i64 fi, .int .i64 op, .int .i64 arg] w fun e w' => CRet (FitsRel D ti fi op arg) w e w' := fun r h hr =>
      (rfits_some D ti fi op arg r f w hD hL hf h).mono fun e w' ⟨he, hb⟩ => ⟨r, he, .inr ⟨f, hf, hr⟩, hb⟩
    by_cases hop : op = 1 ∨ op = 2 ∨ op = 3 ∨ op = 4 ∨ op = 5
    · rcases hop with rfl | rfl | rfl | rfl | rfl
      · by_cases hk : f.k = 1
        · by_cases ha : arg = 0
          · exact go 1 (.inr (.inr (.inr (.inr (.inr (.inr (.inl ⟨rfl, bne_f hk, ha, rfl⟩))))))) (.inr (.inl ⟨.inl ⟨rfl, hk⟩, .inl ⟨rfl, ha⟩, rfl⟩))
          · exact go 0 (.inr (.inr (.inr (.inr (.inr (.inr (.inr (.inl ⟨rfl, bne_f hk, by simp [ha], rfl⟩)))))))) (.inr (.inr ⟨.inl ⟨rfl, hk⟩, (fun h => by unfold ArgBad at h; omega), rfl⟩))
        · exact go 2 (.inr (.inl ⟨rfl, bne_t hk, rfl⟩)) (.inl ⟨fun h => by unfold OpK at h; omega, rfl⟩)
      · by_cases hk : f.k = 2
        · exact go 0 (.inr (.inr (.inr (.inr (.inr (.inr (.inr (.inr (.inl ⟨rfl, bne_f hk, rfl⟩))))))))) (.inr (.inr ⟨.inr (.inl ⟨rfl, hk⟩), (fun h => by unfold ArgBad at h; omega), rfl⟩))
        · exact go 2 (.inr (.inr (.inl ⟨rfl, bne_t hk, rfl⟩))) (.inl ⟨fun h => by unfold OpK at h; omega, rfl⟩)
      · by_cases hk : f.k = 3
        · exact go 0 (.inr (.inr (.inr (.inr (.inr (.inr (.inr (.inr (.inr (.inl ⟨rfl, bne_f hk, rfl⟩)))))))))) (.inr (.inr ⟨.inr (.inr (.inl ⟨rfl, hk⟩)), (fun h => by unfold ArgBad at h; omega), rfl⟩))
        · exact go 2 (.inr (.inr (.inr (.inl ⟨rfl, bne_t hk, rfl⟩)))) (.inl ⟨fun h => by unfold OpK at h; omega, rfl⟩)
      · by_cases hk : f.k = 3
        · exact go 0 (.inr (.inr (.inr (.inr (.inr (.inr (.inr (.inr (.inr (.inr (.inl ⟨rfl, bne_f hk, rfl⟩))))))))))) (.inr (.inr ⟨.inr (.inr (.inr (.inl ⟨rfl, hk⟩))), (fun h => by unfold ArgBad at h; omega), rfl⟩))
        · exact go 2 (.inr (.inr (.inr (.inr (.inl ⟨rfl, bne_t hk, rfl⟩))))) (.inl ⟨fun h => by unfold OpK at h; omega, rfl⟩)
      · by_cases hk : f.k = 4
        · rcases Int.lt_or_le arg 0 with ha | ha
          · exact go 1 (.inr (.inr (.inr (.inr (.inr (.inr (.inr (.inr (.inr (.inr (.inr (.inl ⟨rfl, bne_f hk, ha, rfl⟩)))))))))))) (.inr (.inl ⟨.inr (.inr (.inr (.inr ⟨rfl, hk⟩))), .inr ⟨rfl, by omega⟩, rfl⟩))
          · rcases Int.lt_or_le arg f.ms.length with ha' | ha'
            · exact go 0 (.inr (.inr (.inr (.inr (.inr (.inr (.inr (.inr (.inr (.inr (.inr (.inr (.inr ⟨rfl, bne_f hk, ha, ha', rfl⟩))))))))))))) (.inr (.inr ⟨.inr (.inr (.inr (.inr ⟨rfl, hk⟩))), (fun h => by unfold ArgBad at h; omega), rfl⟩))
            · exact go 1 (.inr (.inr (.inr (.inr (.inr (.inr (.inr (.inr (.inr (.inr (.inr (.inr (.inl ⟨rfl, bne_f hk, ha, ha', rfl⟩))))))))))))) (.inr (.inl ⟨.inr (.inr (.inr (.inr ⟨rfl, hk⟩))), .inr ⟨rfl, by omega⟩, rfl⟩))
        · exact go 2 (.inr (.inr (.inr (.inr (.inr (.inl ⟨rfl, bne_t hk, rfl⟩)))))) (.inl ⟨fun h => by unfold OpK at h; omega, rfl⟩)
    · have h1 : op ≠ 1 := fun h => hop (.inl h)
      have h2 : op ≠ 2 := fun h => hop (.inr (.inl h))
      have h3 : op ≠ 3 := fun h => hop (.inr (.inr (.inl h)))
      have h4 : op ≠ 4 := fun h => hop (.inr (.inr (.inr (.inl h))))
      have h5 : op ≠ 5 := fun h => hop (.inr (.inr (.inr (.inr h))))
      exact go 2 (.inl ⟨by simp [h1], by simp [h2], by simp [h3], by simp [h4], by simp [h5], rfl⟩) (.inl ⟨fun h => by unfold OpK at h; omega, rfl⟩)
  · exact (rfits_none D ti fi op arg w hD hL hf).mono fun e w' ⟨he, hb⟩ => ⟨8, he, .inl ⟨hf, rfl⟩, hb⟩
end Go.Proofs.YtamnligooelmgaaDoor
