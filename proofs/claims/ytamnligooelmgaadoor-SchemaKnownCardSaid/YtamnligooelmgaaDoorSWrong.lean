/- schema.wrong. -/
import Derived.Test.YtamnligooelmgaaDoorSMove
import Derived.Test.YtamnligooelmgaaDoorSMany
set_option maxRecDepth 100000
set_option linter.unusedVariables false
set_option linter.unusedSimpArgs false
namespace Go.Proofs.YtamnligooelmgaaDoor
open Go.RowKit Go.BigFrame

/-- The two tables. -/
def kindsL : List Int := [0, 1, 2, 3, 3, 4]
def polL : List Int := [0, 2, 14, 6, 6]
structure Tab (w : World) : Prop where
  sz : 2 ≤ w.heap.size
  kn : ∀ i, i < 6 → w.cell? ⟨0, i, none⟩ = some (.int .i64 (kindsL[i]?.getD 0))
  po : ∀ i, i < 5 → w.cell? ⟨1, i, none⟩ = some (.int .i64 (polL[i]?.getD 0))
theorem Tab.later {w w' : World} (h : Tab w) (hb : Below w.heap.size w w') : Tab w' :=
  ⟨Nat.le_trans h.sz hb.size, fun i hi => (hb.cell (p := ⟨0, i, none⟩) (by have := h.sz; show 0 < _; omega)).trans (h.kn i hi), fun i hi => (hb.cell (p := ⟨1, i, none⟩) (by have := h.sz; show 1 < _; omega)).trans (h.po i hi)⟩
def CRet (R : Int → Prop) (w : World) (e : Ending) (w' : World) : Prop := ∃ c : Int, e = .returned (.int .i64 c) ∧ R c ∧ Below w.heap.size w w'
theorem CRet.mk {R : Int → Prop} {w w' : World} {c : Int} (h : Below w.heap.size w w') (hr : R c) : CRet R w (.returned (.int .i64 c)) w' := ⟨c, rfl, hr, h⟩
def PolOk (f : Fd) : Prop := (f.p = 1 ∨ (f.p = 2 ∧ f.k ≠ 1) ∨ (f.p = 3 ∧ f.k = 2)) ∧ ¬ (f.fl = true ∧ f.k ≠ 1)
def InK (f : Fd) : Prop := 1 ≤ f.k ∧ f.k ≤ 4
/-- What is wrong with a field. -/
def WrongRel (t : Ty) (f : Fd) (c : Int) : Prop :=
  (¬ InK f ∧ c = 2) ∨ (InK f ∧ ¬ PolOk f ∧ c = 1) ∨ (InK f ∧ PolOk f ∧ (∃ m ∈ f.ms, BadM m) ∧ c = 1) ∨ (InK f ∧ PolOk f ∧ ¬ (∃ m ∈ f.ms, BadM m) ∧ (∃ m ∈ f.ms, LostM t m) ∧ c = 8) ∨ (InK f ∧ PolOk f ∧ ¬ (∃ m ∈ f.ms, BadM m) ∧ ¬ (∃ m ∈ f.ms, LostM t m) ∧ c = 0)

section
variable (fs : List Fd) (A : Option Addr) (c : Nat) (fk fp : Int) (ffl : Bool) (ms : List Mv) (A' : Option Addr) (c' : Nat) (w : World)
set_option maxHeartbeats 4000000 in
theorem wrong_kind (h : ¬ (1 ≤ fk ∧ fk ≤ 4)) :
    Calls Tryd.prog 22 #[.agg #[.slice A fs.length c], .agg #[.int .i64 fk, .int .i64 fp, .bool ffl, .slice A' ms.length c']] w fun e w' => e = .returned (.int .i64 2) ∧ Below w.heap.size w w' := by
  have hB : ∀ o o', Below w.heap.size w ((w.alloc o).alloc o') := fun o o' => Bel.grew (Bel.grew (Below.refl _ _) _) _
  go_enter Tryd.func22, Tryd.ntmps22
  go_wp2_with fail
  refine (within_no _ 1 4 _ h).mono ?_
  rintro e w2 ⟨rfl, rfl⟩
  go_wp2_with fail
  go_ret
  exact ⟨rfl, hB _ _⟩
set_option maxRecDepth 100000 in
set_option maxHeartbeats 8000000 in
theorem wrong_pol (hT : Tab w) (h : (1 ≤ fk ∧ fk ≤ 4 ∧ ¬ (1 ≤ fp ∧ fp ≤ 3)) ∨ (fk = 1 ∧ fp = 2) ∨ (fk = 1 ∧ fp = 3) ∨ (fk = 3 ∧ fp = 3) ∨ (fk = 4 ∧ fp = 3) ∨ (fk = 2 ∧ fp = 1 ∧ ffl = true) ∨ (fk = 2 ∧ fp = 2 ∧ ffl = true) ∨ (fk = 2 ∧ fp = 3 ∧ ffl = true) ∨ (fk = 3 ∧ fp = 1 ∧ ffl = true) ∨ (fk = 3 ∧ fp = 2 ∧ ffl = true) ∨ (fk = 4 ∧ fp = 1 ∧ ffl = true) ∨ (fk = 4 ∧ fp = 2 ∧ ffl = true)) :
    Calls Tryd.prog 22 #[.agg #[.slice A fs.length c], .agg #[.int .i64 fk, .int .i64 fp, .bool ffl, .slice A' ms.length c']] w fun e w' => e = .returned (.int .i64 1) ∧ Below w.heap.size w w' := by
  obtain ⟨W, hW⟩ : ∃ W, W = (w.alloc (.cells #[.slice A fs.length c] 45)).alloc (.cells #[.int .i64 fk, .int .i64 fp, .bool ffl, .slice A' ms.length c'] 33) := ⟨_, rfl⟩
  have hB : Below w.heap.size w W := by rw [hW]; exact Bel.grew (Bel.grew (Below.refl _ _) _) _
  have hF := Has.new (w.alloc (.cells #[.slice A fs.length c] 45)) #[.int .i64 fk, .int .i64 fp, .bool ffl, .slice A' ms.length c'] 33
  rw [← hW, World.size_alloc] at hF
  have hT' := hT.later hB
  have hsz : 1 < W.heap.size := by have := hT'.sz; omega
  have p1 := hT'.po 1 (by decide)
  have p2 := hT'.po 2 (by decide)
  have p3 := hT'.po 3 (by decide)
  have p4 := hT'.po 4 (by decide)
  dsimp only [polL, List.getElem?_cons_zero, List.getElem?_cons_succ, Option.getD_some] at p1 p2 p3 p4
  have b0 : bits BinOp.and IntKind.i64 0 1 = 0 := by kernel_rfl
  have b1 : bits BinOp.and IntKind.i64 1 1 = 1 := by kernel_rfl
  have b3 : bits BinOp.and IntKind.i64 3 1 = 1 := by kernel_rfl
  have b7 : bits BinOp.and IntKind.i64 7 1 = 1 := by kernel_rfl
  have hlt := hF.1
  have hc := hF.2
  have HB := Lib.hid hB
  have HW := Lib.hid hW
  clear hT hT' hB hF hW
  rcases h with ⟨hk0, hk1, hp⟩ | ⟨rfl, rfl⟩ | ⟨rfl, rfl⟩ | ⟨rfl, rfl⟩ | ⟨rfl, rfl⟩ | ⟨rfl, rfl, rfl⟩ | ⟨rfl, rfl, rfl⟩ | ⟨rfl, rfl, rfl⟩ | ⟨rfl, rfl, rfl⟩ | ⟨rfl, rfl, rfl⟩ | ⟨rfl, rfl, rfl⟩ | ⟨rfl, rfl, rfl⟩
  · go_enter Tryd.func22, Tryd.ntmps22
    go_wp2_with fail
    rw [← HW.out]
    refine (within_yes _ 1 4 _ ⟨hk0, hk1⟩).mono ?_
    rintro e w2 ⟨rfl, rfl⟩
    clear HW
    go_wp2_with fail
    refine wp_region_later (by kernel_rfl) (by kernel_rfl) ?_
    repeat (any_goals (first | go_big_quiet_step ((go_at_call 24; have hC := within_no fp 1 3 (Later.w ‹_›) hp; with_reducible exact Later.callS hC))))
    refine wpQuiet_nil ?_
    intro x
    obtain ⟨w3, hb3⟩ := x
    have HB3 := Lib.hid (Bel.then HB.out hb3)
    dsimp only
    clear hb3
    go_wp2_with fail
    go_ret
    exact ⟨rfl, HB3.out⟩
  all_goals
    go_enter Tryd.func22, Tryd.ntmps22
    go_wp2_with fail
    rw [← HW.out]
    refine (within_yes _ 1 4 _ (by decide)).mono ?_
    rintro e w2 ⟨rfl, rfl⟩
    clear HW
    go_wp2_with fail
    refine wp_region_later (by kernel_rfl) (by kernel_rfl) ?_
    repeat (any_goals (first | go_big_quiet_step ((go_at_call 24; first | (have hC := within_yes 1 1 3 (Later.w ‹_›) (by decide); with_reducible exact Later.callS hC) | (have hC := within_yes 2 1 3 (Later.w ‹_›) (by decide); with_reducible exact Later.callS hC) | (have hC := within_yes 3 1 3 (Later.w ‹_›) (by decide); with_reducible exact Later.callS hC)))))
    refine wpQuiet_nil ?_
    intro x
    obtain ⟨w3, hb3⟩ := x
    have HB3 := Lib.hid (Bel.then HB.out hb3)
    dsimp only
    clear hb3
    go_wp2_with fail
    go_ret
    exact ⟨rfl, HB3.out⟩
end
def WrongOk (t : Ty) (f : Fd) (c : Int) : Prop := ((∃ m ∈ f.ms, BadM m) ∧ c = 1) ∨ (¬ (∃ m ∈ f.ms, BadM m) ∧ (∃ m ∈ f.ms, LostM t m) ∧ c = 8) ∨ (¬ (∃ m ∈ f.ms, BadM m) ∧ ¬ (∃ m ∈ f.ms, LostM t m) ∧ c = 0)
set_option maxRecDepth 100000 in
set_option maxHeartbeats 16000000 in
theorem wrong_ok (fs : List Fd) (A : Option Addr) (c : Nat) (fk fp : Int) (ffl : Bool) (ms : List Mv) (A' : Option Addr) (c' : Nat) (w : World) (hT : Tab w) (ht : Ty.In w w.heap.size ⟨fs, .slice A fs.length c⟩) (hf : SlR 4 w w.heap.size (.slice A' ms.length c') (ms.map Mv.cells)) (hl : fs.length ≤ 1099511627776) (hm : ms.length ≤ 1099511627776)
    (h : (fk = 1 ∧ fp = 1 ∧ ffl = false) ∨ (fk = 2 ∧ fp = 1 ∧ ffl = false) ∨ (fk = 2 ∧ fp = 2 ∧ ffl = false) ∨ (fk = 2 ∧ fp = 3 ∧ ffl = false) ∨ (fk = 3 ∧ fp = 1 ∧ ffl = false) ∨ (fk = 3 ∧ fp = 2 ∧ ffl = false) ∨ (fk = 4 ∧ fp = 1 ∧ ffl = false) ∨ (fk = 4 ∧ fp = 2 ∧ ffl = false) ∨ (fk = 1 ∧ fp = 1 ∧ ffl = true)) :
    Calls Tryd.prog 22 #[.agg #[.slice A fs.length c], .agg #[.int .i64 fk, .int .i64 fp, .bool ffl, .slice A' ms.length c']] w fun e w' => CRet (WrongOk ⟨fs, .slice A fs.length c⟩ ⟨fk, fp, ffl, ms, .slice A' ms.length c'⟩) w e w' := by
  obtain ⟨W, hW⟩ : ∃ W, W = (w.alloc (.cells #[.slice A fs.length c] 45)).alloc (.cells #[.int .i64 fk, .int .i64 fp, .bool ffl, .slice A' ms.length c'] 33) := ⟨_, rfl⟩
  have hB : Below w.heap.size w W := by rw [hW]; exact Bel.grew (Bel.grew (Below.refl _ _) _) _
  have hF := Has.new (w.alloc (.cells #[.slice A fs.length c] 45)) #[.int .i64 fk, .int .i64 fp, .bool ffl, .slice A' ms.length c'] 33
  have hG := (Has.new w #[.slice A fs.length c] 45).grow (.cells #[.int .i64 fk, .int .i64 fp, .bool ffl, .slice A' ms.length c'] 33)
  rw [← hW] at hG
  rw [← hW, World.size_alloc] at hF
  have hT' := hT.later hB
  have hsz : 1 < W.heap.size := by have := hT'.sz; omega
  have p1 := hT'.po 1 (by decide)
  have p2 := hT'.po 2 (by decide)
  have p3 := hT'.po 3 (by decide)
  have p4 := hT'.po 4 (by decide)
  dsimp only [polL, List.getElem?_cons_zero, List.getElem?_cons_succ, Option.getD_some] at p1 p2 p3 p4
  have b0 : bits BinOp.and IntKind.i64 0 1 = 0 := by kernel_rfl
  have b1 : bits BinOp.and IntKind.i64 1 1 = 1 := by kernel_rfl
  have b3 : bits BinOp.and IntKind.i64 3 1 = 1 := by kernel_rfl
  have b7 : bits BinOp.and IntKind.i64 7 1 = 1 := by kernel_rfl
  have hlt := hF.1
  have hc := hF.2
  have HF := Lib.hid hF
  have HG := Lib.hid hG
  have HB := Lib.hid hB
  have HW := Lib.hid hW
  have HTI := Lib.hid (ht.later hB)
  have HFI := Lib.hid (hf.later hB)
  clear hT hT' hB hF hW hG ht hf
  rcases h with ⟨rfl, rfl, rfl⟩ | ⟨rfl, rfl, rfl⟩ | ⟨rfl, rfl, rfl⟩ | ⟨rfl, rfl, rfl⟩ | ⟨rfl, rfl, rfl⟩ | ⟨rfl, rfl, rfl⟩ | ⟨rfl, rfl, rfl⟩ | ⟨rfl, rfl, rfl⟩ | ⟨rfl, rfl, rfl⟩
  all_goals
    go_enter Tryd.func22, Tryd.ntmps22
    go_wp2_with fail
    rw [← HW.out]
    refine (within_yes _ 1 4 _ (by decide)).mono ?_
    rintro e w2 ⟨rfl, rfl⟩
    clear HW
    go_wp2_with fail
    refine wp_region_later (by kernel_rfl) (by kernel_rfl) ?_
    repeat (any_goals (first | go_big_quiet_step ((go_at_call 24; first | (have hC := within_yes 1 1 3 (Later.w ‹_›) (by decide); with_reducible exact Later.callS hC) | (have hC := within_yes 2 1 3 (Later.w ‹_›) (by decide); with_reducible exact Later.callS hC) | (have hC := within_yes 3 1 3 (Later.w ‹_›) (by decide); with_reducible exact Later.callS hC)))))
    refine wpQuiet_nil ?_
    intro x
    obtain ⟨w3, hb3⟩ := x
    have HB3 := Lib.hid (Bel.then HB.out hb3)
    have HT3 := Lib.hid (HTI.out.later hb3)
    have HF3 := Lib.hid (HFI.out.later hb3)
    have HG3 := Lib.hid (HG.out.later hb3)
    have HH3 := Lib.hid (HF.out.later hb3)
    have hc3 := HH3.out.2
    have hlt3 := HH3.out.1
    dsimp only
    clear hb3 HB HTI HFI HG HF hc hlt p1 p2 p3 p4 b0 b1 b3 b7 hsz
    go_wp2_with fail
    refine (containsBad_any ms _ _ HF3.out hm).mono ?_
    rintro e w4 ⟨bb, rfl, hbp, hb4⟩
    have HB4 := Lib.hid (Bel.then HB3.out hb4)
    have HT4 := Lib.hid (HT3.out.later hb4)
    have HF4 := Lib.hid (HF3.out.later hb4)
    have HG4 := Lib.hid (HG3.out.later hb4)
    have HH4 := Lib.hid (HH3.out.later hb4)
    clear hb4 HB3 HT3 HF3 HG3 HH3 hc3 hlt3
    cases bb
    · have HN : Hid (¬ ∃ m ∈ ms, BadM m) := Lib.hid (fun h => by have := hbp.2 h; cases this)
      clear hbp
      have hc4 := HH4.out.2
      have hlt4 := HH4.out.1
      go_wp2_with fail
      refine (containsLost_any ms _ _ HF4.out hm ⟨fs, .slice A fs.length c⟩ w.heap.size HT4.out hl HG4.out.1 (by rw [HG4.out.2]; rfl)).mono ?_
      rintro e w5 ⟨b5, rfl, hbp, hb5⟩
      have HB5 := Lib.hid (Bel.then HB4.out hb5)
      clear hb5 HB4 HT4 HF4 HG4 HH4 hc4 hlt4
      cases b5
      · have HN2 : Hid (¬ ∃ m ∈ ms, LostM ⟨fs, .slice A fs.length c⟩ m) := Lib.hid (fun h => by have := hbp.2 h; cases this)
        clear hbp
        go_wp2_with fail
        go_ret
        exact CRet.mk HB5.out (.inr (.inr ⟨HN.out, HN2.out, rfl⟩))
      · have HP2 : Hid (∃ m ∈ ms, LostM ⟨fs, .slice A fs.length c⟩ m) := Lib.hid (hbp.1 rfl)
        clear hbp
        go_wp2_with fail
        go_ret
        exact CRet.mk HB5.out (.inr (.inl ⟨HN.out, HP2.out, rfl⟩))
    · have HP : Hid (∃ m ∈ ms, BadM m) := Lib.hid (hbp.1 rfl)
      clear hbp HT4 HF4 HG4 HH4
      go_wp2_with fail
      go_ret
      exact CRet.mk HB4.out (.inl ⟨HP.out, rfl⟩)
end Go.Proofs.YtamnligooelmgaaDoor
