/- Declarations as plain data: what is right of them is a function. -/
import Derived.Test.YtamnligooelmgaaDoorSCheck
set_option maxRecDepth 100000
set_option linter.unusedVariables false
set_option linter.unusedSimpArgs false
namespace Go.Proofs.YtamnligooelmgaaDoor

structure PF where
  k : Int
  p : Int
  fl : Bool
  ms : List Mv
deriving DecidableEq
structure PD where
  ts : List (List PF)
  ps : List Pj
deriving DecidableEq
def Fd.pl (f : Fd) : PF := ⟨f.k, f.p, f.fl, f.ms⟩
def Ty.pl (t : Ty) : List PF := t.fs.map Fd.pl
def Dc.pl (D : Dc) : PD := ⟨D.ts.map Ty.pl, D.ps⟩
def kindP (t : List PF) (i : Int) : Option Int := if 0 ≤ i then (t[i.toNat]?).map (·.k) else none
def badP (m : Mv) : Bool := decide (m.a < 0) || decide (m.b < 0) || (decide (m.c = -1) && decide (m.d ≠ 0))
def lostP (t : List PF) (m : Mv) : Bool := decide (m.c ≠ -1) && decide (kindP t m.c ≠ some 1)
def polP (f : PF) : Bool := decide ((f.p = 1 ∨ (f.p = 2 ∧ f.k ≠ 1) ∨ (f.p = 3 ∧ f.k = 2)) ∧ ¬ (f.fl = true ∧ f.k ≠ 1))
def wrongP (t : List PF) (f : PF) : Int := if ¬ (1 ≤ f.k ∧ f.k ≤ 4) then 2 else if polP f = false then 1 else if f.ms.any badP then 1 else if f.ms.any (lostP t) then 8 else 0
def firstP {α : Type} (g : α → Int) : List α → Int
  | [] => 0
  | x :: l => if g x = 0 then firstP g l else g x
def typeP (t : List PF) : Int := firstP (wrongP t) t
def fldP (d : PD) (ti fi : Int) : Option PF := if 0 ≤ ti ∧ 0 ≤ fi then (d.ts[ti.toNat]?).bind (fun t => t[fi.toNat]?) else none
def grpP (d : PD) (p : Pj) : Bool := if p.g = 3 then !decide (((d.ts[p.t.toNat]?).bind fun t => kindP t p.b) = some 2) else decide (p.b ≠ 0)
def kndP (p : Pj) : Bool := !(decide (1 ≤ p.g ∧ p.g ≤ 3) && decide (1 ≤ p.m ∧ p.m ≤ 5))
def showsP (d : PD) (p : Pj) : Int := if (fldP d p.t p.f).isNone then 8 else if grpP d p then 8 else if kndP p then 2 else 0
def manyFP (f : PF) : Bool := decide ((f.k = 4 ∧ ¬ (1 ≤ (f.ms.length : Int) ∧ (f.ms.length : Int) ≤ 16)) ∨ (f.k ≠ 4 ∧ 0 < f.ms.length))
def manyTP (t : List PF) : Bool := decide (¬ (1 ≤ (t.length : Int) ∧ (t.length : Int) ≤ 8)) || t.any manyFP
def manyP (d : PD) : Bool := decide (¬ (1 ≤ (d.ts.length : Int) ∧ (d.ts.length : Int) ≤ 8)) || (decide (8 < d.ps.length) || d.ts.any manyTP)
def chkP (d : PD) : Int := if manyP d then 3 else if firstP typeP d.ts = 0 then firstP (showsP d) d.ps else firstP typeP d.ts
def opP (f : PF) (op : Int) : Bool := (decide (op = 1) && decide (f.k = 1)) || (decide (op = 2) && decide (f.k = 2)) || (decide (op = 3) && decide (f.k = 3)) || (decide (op = 4) && decide (f.k = 3)) || (decide (op = 5) && decide (f.k = 4))
def argP (f : PF) (op arg : Int) : Bool := decide ((op = 1 ∧ arg = 0) ∨ (op = 5 ∧ ¬ (0 ≤ arg ∧ arg ≤ (f.ms.length : Int) - 1)))
def fitsP (d : PD) (ti fi op arg : Int) : Int := match fldP d ti fi with
  | none => 8
  | some f => if opP f op = false then 2 else if argP f op arg then 1 else 0

theorem IsK.pl {t : Ty} {i kd : Int} : IsK t i kd ↔ kindP t.pl i = some kd := by
  unfold IsK kindP Ty.pl
  by_cases h : 0 ≤ i
  · rw [if_pos h, List.getElem?_map]
    cases ht : t.fs[i.toNat]? with
    | none => simp [h]
    | some f => simp [h, Fd.pl]
  · rw [if_neg h]; simp [h]
theorem badM_pl (m : Mv) : BadM m ↔ badP m = true := by
  unfold BadM badP; simp [or_assoc]
theorem lostM_pl (t : Ty) (m : Mv) : LostM t m ↔ lostP t.pl m = true := by
  unfold LostM lostP; rw [IsK.pl]; simp
theorem polOk_pl (f : Fd) : PolOk f ↔ polP f.pl = true := by
  unfold PolOk polP Fd.pl
  exact (decide_eq_true_iff).symm
theorem any_bad {l : List Mv} : (∃ m ∈ l, BadM m) ↔ l.any badP = true := by
  simp only [List.any_eq_true, badM_pl]
theorem any_lost {t : Ty} {l : List Mv} : (∃ m ∈ l, LostM t m) ↔ l.any (lostP t.pl) = true := by
  simp only [List.any_eq_true, lostM_pl]
theorem WrongRel.val {t : Ty} {f : Fd} {c : Int} (h : WrongRel t f c) : c = wrongP t.pl f.pl := by
  have hms : f.pl.ms = f.ms := rfl
  have hk : f.pl.k = f.k := rfl
  unfold WrongRel InK at h
  rw [polOk_pl, any_bad, any_lost] at h
  unfold wrongP
  rw [hms, hk]
  rcases h with ⟨h1, rfl⟩ | ⟨h1, h2, rfl⟩ | ⟨h1, h2, h3, rfl⟩ | ⟨h1, h2, h3, h4, rfl⟩ | ⟨h1, h2, h3, h4, rfl⟩
  · rw [if_pos h1]
  · rw [if_neg (by simpa using h1), if_pos (by simpa using h2)]
  · rw [if_neg (by simpa using h1), if_neg (by simp [h2]), if_pos h3]
  · rw [if_neg (by simpa using h1), if_neg (by simp [h2]), if_neg h3, if_pos h4]
  · rw [if_neg (by simpa using h1), if_neg (by simp [h2]), if_neg h3, if_neg h4]
theorem FirstRel.val {α β : Type} {R : α → Int → Prop} {g : β → Int} {p : α → β} (hg : ∀ x c, R x c → c = g (p x)) : ∀ {l : List α} {c : Int}, FirstRel R l c → c = firstP g (l.map p) := by
  intro l
  induction l with
  | nil =>
    intro c h
    rcases h with ⟨h, _⟩ | ⟨_, i, x, h, _⟩
    · simpa [firstP] using h
    · simp at h
  | cons x l ih =>
    intro c h
    rw [List.map_cons]
    unfold firstP
    rcases h with ⟨h, ha⟩ | ⟨h0, i, y, hi, hy, ha⟩
    · have h0 := hg x 0 (ha x (by simp))
      rw [if_pos h0.symm]
      exact ih (.inl ⟨h, fun z hz => ha z (List.mem_cons_of_mem _ hz)⟩)
    · cases i with
      | zero =>
        have : x = y := by simpa using hi
        subst this
        have h1 := hg x c hy
        rw [if_neg (by rw [← h1]; exact h0)]
        exact h1
      | succ i =>
        have hx := hg x 0 (ha x (by simp))
        rw [if_pos hx.symm]
        exact ih (.inr ⟨h0, i, y, by simpa using hi, hy, fun z hz => ha z (by rw [List.take_succ_cons]; exact List.mem_cons_of_mem _ hz)⟩)
theorem TypeRel.val {t : Ty} {c : Int} (h : TypeRel t c) : c = typeP t.pl := FirstRel.val (fun _ _ h => WrongRel.val h) h
theorem fldAt_pl {D : Dc} {ti fi : Int} {f : Fd} (h : FldAt D ti fi f) : fldP D.pl ti fi = some f.pl := by
  obtain ⟨t, h0, h1, h2, h3⟩ := h
  unfold fldP Dc.pl
  rw [if_pos ⟨h0, h2⟩]
  simp [List.getElem?_map, h1, Ty.pl, h3]
theorem noFld_pl {D : Dc} {ti fi : Int} (h : ¬ ∃ f, FldAt D ti fi f) : fldP D.pl ti fi = none := by
  unfold fldP Dc.pl
  by_cases h0 : 0 ≤ ti ∧ 0 ≤ fi
  · rw [if_pos h0]
    cases h1 : D.ts[ti.toNat]? with
    | none => simp [h1]
    | some t =>
      cases h2 : t.fs[fi.toNat]? with
      | none => simp [h1, Ty.pl, h2]
      | some f => exact absurd ⟨f, t, h0.1, h1, h0.2, h2⟩ h
  · rw [if_neg h0]
theorem FitsRel.val {D : Dc} {ti fi op arg c : Int} (h : FitsRel D ti fi op arg c) : c = fitsP D.pl ti fi op arg := by
  rcases h with ⟨h, rfl⟩ | ⟨f, hf, h⟩
  · unfold fitsP; rw [noFld_pl h]
  · unfold fitsP; rw [fldAt_pl hf]
    have h1 : OpK f op ↔ opP f.pl op = true := by unfold OpK opP Fd.pl; simp [or_assoc]
    have h2 : ArgBad f op arg ↔ argP f.pl op arg = true := by
      unfold ArgBad argP Fd.pl
      exact (decide_eq_true_iff).symm
    rw [h1, h2] at h
    dsimp only
    rcases h with ⟨a, rfl⟩ | ⟨a, b, rfl⟩ | ⟨a, b, rfl⟩
    · rw [if_pos (by simpa using a)]
    · rw [if_neg (by simp [a]), if_pos b]
    · rw [if_neg (by simp [a]), if_neg b]
theorem grpBad_pl (D : Dc) (p : Pj) : GrpBad D p ↔ grpP D.pl p = true := by
  unfold GrpBad grpP
  by_cases h : p.g = 3
  · rw [if_pos h]
    have e : (∃ t, D.ts[p.t.toNat]? = some t ∧ IsK t p.b 2) ↔ (((D.pl.ts[p.t.toNat]?).bind fun t => kindP t p.b) = some 2) := by
      unfold Dc.pl
      simp only [List.getElem?_map]
      cases h1 : D.ts[p.t.toNat]? with
      | none => simp
      | some t => simp [IsK.pl]
    rw [e]; simp [h]
  · rw [if_neg h]; simp [h]
theorem kndBad_pl (p : Pj) : KndBad p ↔ kndP p = true := by
  unfold KndBad kndP
  by_cases h1 : 1 ≤ p.g ∧ p.g ≤ 3 <;> by_cases h2 : 1 ≤ p.m ∧ p.m ≤ 5 <;> simp [h1, h2]
theorem ShowsRel.val {D : Dc} {p : Pj} {c : Int} (h : ShowsRel D p c) : c = showsP D.pl p := by
  unfold ShowsRel at h
  rw [grpBad_pl, kndBad_pl] at h
  unfold showsP
  rcases h with ⟨h, rfl⟩ | ⟨⟨f, hf⟩, h⟩
  · rw [noFld_pl h]; rfl
  · rw [fldAt_pl hf]
    rcases h with ⟨a, rfl⟩ | ⟨a, b, rfl⟩ | ⟨a, b, rfl⟩
    · simp [a]
    · simp [a, b]
    · simp [a, b]
theorem manyF_pl (f : Fd) : ManyF f ↔ manyFP f.pl = true := by
  unfold ManyF manyFP Fd.pl
  exact (decide_eq_true_iff).symm
theorem any_manyF (l : List Fd) : (∃ f ∈ l, ManyF f) ↔ (l.map Fd.pl).any manyFP = true := by
  rw [List.any_map, List.any_eq_true]
  exact ⟨fun ⟨f, h1, h2⟩ => ⟨f, h1, (manyF_pl f).1 h2⟩, fun ⟨f, h1, h2⟩ => ⟨f, h1, (manyF_pl f).2 h2⟩⟩
theorem manyT_pl (t : Ty) : ManyT t ↔ manyTP t.pl = true := by
  have hl : t.pl.length = t.fs.length := List.length_map _
  unfold ManyT manyTP
  rw [Bool.or_eq_true, decide_eq_true_iff, any_manyF, hl]
  exact Iff.rfl
theorem any_manyT (l : List Ty) : (∃ t ∈ l, ManyT t) ↔ (l.map Ty.pl).any manyTP = true := by
  rw [List.any_map, List.any_eq_true]
  exact ⟨fun ⟨f, h1, h2⟩ => ⟨f, h1, (manyT_pl f).1 h2⟩, fun ⟨f, h1, h2⟩ => ⟨f, h1, (manyT_pl f).2 h2⟩⟩
theorem many_pl (D : Dc) : ManyP D ↔ manyP D.pl = true := by
  have hl : D.pl.ts.length = D.ts.length := List.length_map _
  unfold ManyP manyP
  rw [Bool.or_eq_true, Bool.or_eq_true, decide_eq_true_iff, decide_eq_true_iff, any_manyT, hl]
  exact Iff.rfl
theorem ChkRel.val {D : Dc} {c : Int} (h : ChkRel D c) : c = chkP D.pl := by
  unfold ChkRel at h
  rw [many_pl] at h
  unfold chkP
  have hT : ∀ {e : Int}, FirstRel TypeRel D.ts e → e = firstP typeP D.pl.ts := fun h => FirstRel.val (fun _ _ h => TypeRel.val h) h
  have hS : ∀ {e : Int}, FirstRel (ShowsRel D) D.ps e → e = firstP (showsP D.pl) D.pl.ps := fun h => by
    have := FirstRel.val (p := id) (fun _ _ h => ShowsRel.val h) h
    rw [List.map_id] at this
    exact this
  rcases h with ⟨h, rfl⟩ | ⟨h, h2⟩
  · rw [if_pos h]
  · rw [if_neg h]
    rcases h2 with ⟨h0, h1⟩ | ⟨h0, h1⟩
    · have := hT h1
      rw [if_neg (by rw [← this]; exact h0)]; exact this
    · rw [if_pos (hT h0).symm]; exact hS h1
end Go.Proofs.YtamnligooelmgaaDoor
