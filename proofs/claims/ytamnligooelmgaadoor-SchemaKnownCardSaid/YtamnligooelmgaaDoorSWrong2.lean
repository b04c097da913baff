/- schema.wrong, whatever the field. -/
import Derived.Test.YtamnligooelmgaaDoorSWrong
set_option maxRecDepth 100000
set_option linter.unusedVariables false
set_option linter.unusedSimpArgs false
namespace Go.Proofs.YtamnligooelmgaaDoor
open Go.RowKit Go.BigFrame

theorem WrongOk.rel {t : Ty} {f : Fd} {c : Int} (h : WrongOk t f c) (hk : InK f) (hp : PolOk f) : WrongRel t f c := by
  rcases h with ⟨h1, h2⟩ | ⟨h1, h2, h3⟩ | ⟨h1, h2, h3⟩
  · exact .inr (.inr (.inl ⟨hk, hp, h1, h2⟩))
  · exact .inr (.inr (.inr (.inl ⟨hk, hp, h1, h2, h3⟩)))
  · exact .inr (.inr (.inr (.inr ⟨hk, hp, h1, h2, h3⟩)))
theorem pol_cases (fk fp : Int) (ffl : Bool) (ms : List Mv) (v : Value) (hk : 1 ≤ fk ∧ fk ≤ 4) (hp : 1 ≤ fp ∧ fp ≤ 3) :
    (((fk = 1 ∧ fp = 1 ∧ ffl = false) ∨ (fk = 2 ∧ fp = 1 ∧ ffl = false) ∨ (fk = 2 ∧ fp = 2 ∧ ffl = false) ∨ (fk = 2 ∧ fp = 3 ∧ ffl = false) ∨ (fk = 3 ∧ fp = 1 ∧ ffl = false) ∨ (fk = 3 ∧ fp = 2 ∧ ffl = false) ∨ (fk = 4 ∧ fp = 1 ∧ ffl = false) ∨ (fk = 4 ∧ fp = 2 ∧ ffl = false) ∨ (fk = 1 ∧ fp = 1 ∧ ffl = true)) ∧ PolOk ⟨fk, fp, ffl, ms, v⟩) ∨ (((fk = 1 ∧ fp = 2) ∨ (fk = 1 ∧ fp = 3) ∨ (fk = 3 ∧ fp = 3) ∨ (fk = 4 ∧ fp = 3) ∨ (fk = 2 ∧ fp = 1 ∧ ffl = true) ∨ (fk = 2 ∧ fp = 2 ∧ ffl = true) ∨ (fk = 2 ∧ fp = 3 ∧ ffl = true) ∨ (fk = 3 ∧ fp = 1 ∧ ffl = true) ∨ (fk = 3 ∧ fp = 2 ∧ ffl = true) ∨ (fk = 4 ∧ fp = 1 ∧ ffl = true) ∨ (fk = 4 ∧ fp = 2 ∧ ffl = true)) ∧ ¬ PolOk ⟨fk, fp, ffl, ms, v⟩) := by
  rcases (show fk = 1 ∨ fk = 2 ∨ fk = 3 ∨ fk = 4 from by omega) with rfl | rfl | rfl | rfl
  all_goals
    rcases (show fp = 1 ∨ fp = 2 ∨ fp = 3 from by omega) with rfl | rfl | rfl
  all_goals cases ffl
  all_goals first
    | (refine Or.inl ⟨?_, ?_⟩; (· decide); (· simp [PolOk]))
    | (refine Or.inr ⟨?_, ?_⟩; (· decide); (· simp [PolOk]))
theorem wrong_any (t : Ty) (f : Fd) (w : World) (hT : Tab w) (ht : t.In w w.heap.size) (hf : f.In w w.heap.size) (hl : t.fs.length ≤ 1099511627776) (hm : f.ms.length ≤ 1099511627776) :
    Calls Tryd.prog 22 #[tyV t, fdV' f] w fun e w' => CRet (WrongRel t f) w e w' := by
  obtain ⟨fs, tv⟩ := t
  obtain ⟨fk, fp, ffl, ms, fv⟩ := f
  obtain ⟨A, c, h1⟩ := ht.1.shapeL
  obtain ⟨A', c', h2⟩ := SlR.shapeL hf
  dsimp only at h1 h2 hl hm
  subst h1 h2
  by_cases hk : 1 ≤ fk ∧ fk ≤ 4
  · by_cases hp : 1 ≤ fp ∧ fp ≤ 3
    · rcases pol_cases fk fp ffl ms (.slice A' ms.length c') hk hp with ⟨h, hpo⟩ | ⟨h, hpo⟩
      · exact (wrong_ok fs A c fk fp ffl ms A' c' w hT ht hf hl hm h).mono fun e w' ⟨r, he, hr, hb⟩ => ⟨r, he, hr.rel hk hpo, hb⟩
      · exact (wrong_pol fs A c fk fp ffl ms A' c' w hT (.inr h)).mono fun e w' ⟨he, hb⟩ => ⟨1, he, .inr (.inl ⟨hk, hpo, rfl⟩), hb⟩
    · exact (wrong_pol fs A c fk fp ffl ms A' c' w hT (.inl ⟨hk.1, hk.2, hp⟩)).mono fun e w' ⟨he, hb⟩ => ⟨1, he, .inr (.inl ⟨hk, (fun h => hp (by
        have := h.1
        dsimp only at this
        omega)), rfl⟩), hb⟩
  · exact (wrong_kind fs A c fk fp ffl ms A' c' w hk).mono fun e w' ⟨he, hb⟩ => ⟨2, he, .inl ⟨hk, rfl⟩, hb⟩
end Go.Proofs.YtamnligooelmgaaDoor
