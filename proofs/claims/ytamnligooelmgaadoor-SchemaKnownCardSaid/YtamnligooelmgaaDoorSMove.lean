/- schema.wrong's two closures, and slices.ContainsFunc over moves. -/
import Derived.Test.YtamnligooelmgaaDoorSKit
set_option maxRecDepth 100000
set_option linter.unusedVariables false
set_option linter.unusedSimpArgs false
namespace Go.Proofs.YtamnligooelmgaaDoor
open Go.RowKit Go.BigFrame

def IRet (P : Prop) (w : World) (e : Ending) (w' : World) : Prop := ∃ i : Int, e = .returned (.int .i64 i) ∧ (0 ≤ i ↔ P) ∧ Below w.heap.size w w'
theorem take_snoc' {α : Type} {l : List α} {k : Nat} {x : α} (h : l[k]? = some x) : l.take (k + 1) = l.take k ++ [x] := by
  obtain ⟨hlt, he⟩ := List.getElem?_eq_some_iff.1 h
  rw [List.take_succ_eq_append_getElem hlt, he]
theorem all_snoc' {α : Type} {l : List α} {x : α} {P : α → Prop} (h : ∀ y ∈ l, P y) (hx : P x) : ∀ y ∈ l ++ [x], P y := by
  intro y hy
  rcases List.mem_append.1 hy with hy | hy
  · exact h y hy
  · have : y = x := by simpa using hy
    rw [this]; exact hx
def BadM (m : Mv) : Prop := m.a < 0 ∨ m.b < 0 ∨ (m.c = -1 ∧ m.d ≠ 0)
def LostM (t : Ty) (m : Mv) : Prop := m.c ≠ -1 ∧ ¬ IsK t m.c 1
theorem bad_any (m : Mv) (w : World) : Calls Tryd.prog 29 #[mvV m] w fun e w' => BRet (BadM m) w e w' := by
  obtain ⟨a, b, c, d⟩ := m
  have hB : ∀ o, Below w.heap.size w (w.alloc o) := fun o => Bel.grew (Below.refl _ _) _
  have hc : (a < 0) ∨ (0 ≤ a ∧ b < 0) ∨ (0 ≤ a ∧ 0 ≤ b ∧ (c == -1) = false) ∨ (0 ≤ a ∧ 0 ≤ b ∧ c = -1 ∧ (d != 0) = true) ∨ (0 ≤ a ∧ 0 ≤ b ∧ c = -1 ∧ d = 0) := by
    by_cases h1 : a < 0
    · exact .inl h1
    by_cases h2 : b < 0
    · exact .inr (.inl ⟨by omega, h2⟩)
    by_cases h3 : c = -1
    · by_cases h4 : d = 0
      · exact .inr (.inr (.inr (.inr ⟨by omega, by omega, h3, h4⟩)))
      · exact .inr (.inr (.inr (.inl ⟨by omega, by omega, h3, by simp [h4]⟩)))
    · exact .inr (.inr (.inl ⟨by omega, by omega, by simp [h3]⟩))
  rcases hc with h1 | ⟨h1, h2⟩ | ⟨h1, h2, h3⟩ | ⟨h1, h2, rfl, h4⟩ | ⟨h1, h2, rfl, rfl⟩
  all_goals
    go_enter Tryd.func29, Tryd.ntmps29
    go_wp2_with fail
    go_ret
    first
      | exact BRet.yes (hB _) (.inl h1)
      | exact BRet.yes (hB _) (.inr (.inl h2))
      | exact BRet.yes (hB _) (.inr (.inr ⟨rfl, by simpa using h4⟩))
      | exact ⟨_, rfl, ⟨fun h => absurd (show a < 0 ∨ b < 0 by simpa using h) (by omega), fun h => by
          rcases h with h | h | ⟨h, h'⟩
          · dsimp only at h; omega
          · dsimp only at h; omega
          · dsimp only at h h'
            first
              | exact absurd rfl h'
              | (subst h; simp at h3)⟩, hB _⟩
set_option maxHeartbeats 2000000 in
theorem lost_any (m : Mv) (t : Ty) (q : Nat) (w : World) (ht : t.In w w.heap.size) (hl : t.fs.length ≤ 1099511627776) (hq : q < w.heap.size) (hc : w.cell? ⟨q, 0, none⟩ = some t.v) :
    Calls Tryd.prog 30 #[mvV m, .pointer (some ⟨q, 0, none⟩)] w fun e w' => BRet (LostM t m) w e w' := by
  obtain ⟨a, b, c, d⟩ := m
  have hB : ∀ o, Below w.heap.size w (w.alloc o) := fun o => Bel.grew (Below.refl _ _) _
  by_cases h1 : c = -1
  · have hb : (c != -1) = false := by simp [h1]
    have H1 := Lib.hid h1
    clear h1 ht
    go_enter Tryd.func30, Tryd.ntmps30
    go_wp2_with fail
    go_ret
    exact BRet.no (hB _) (fun h => h.1 H1.out)
  · have hb : (c != -1) = true := by simp [h1]
    have H1 := Lib.hid h1
    have HI := Lib.hid (fun o => is_any t c 1 (w.alloc o) (ht.later (hB o)) hl)
    clear h1 ht
    go_enter Tryd.func30, Tryd.ntmps30
    go_wp2_with fail
    refine (HI.out _).mono ?_
    rintro e w2 ⟨b2, rfl, hbp, hb2⟩
    have HB2 := Lib.hid (Bel.then (hB _) hb2)
    clear hb2
    cases b2
    · have HN : Hid (¬ IsK t c 1) := Lib.hid (fun h => by have := hbp.2 h; cases this)
      clear hbp
      go_wp2_with fail
      go_ret
      exact BRet.yes HB2.out ⟨H1.out, HN.out⟩
    · have HP : Hid (IsK t c 1) := Lib.hid (hbp.1 rfl)
      clear hbp
      go_wp2_with fail
      go_ret
      exact BRet.no HB2.out (fun h => h.2 HP.out)

set_option maxHeartbeats 4000000 in
theorem indexBad_any (ms : List Mv) (v : Value) (w : World) (hx : SlR 4 w w.heap.size v (ms.map Mv.cells)) (hl : ms.length ≤ 1099511627776) :
    Calls Tryd.prog 33 #[v, .func (.func 29) #[] #[]] w fun e w' => IRet (∃ m ∈ ms, BadM m) w e w' := by
  obtain ⟨A, c, rfl⟩ := hx.shapeL
  have HX := Lib.hid hx
  clear hx
  go_enter Tryd.func33, Tryd.ntmps33
  go_wp2_with fail
  go_loopw [8] (fun i wr => ∃ k : Nat, k ≤ ms.length ∧ i = .int .i64 k ∧ Below w.heap.size w wr ∧ Hid (∀ m ∈ ms.take k, ¬ BadM m)) (fun i _ => ms.length - (intOf i).toNat)
  case atStart => exact ⟨0, Nat.zero_le _, rfl, Below.refl _ _, Lib.hid (by simp)⟩
  case round =>
    obtain ⟨k, hk, rfl, hb, HS⟩ := hrel
    have HB := Lib.hid hb
    clear hb
    by_cases hlt : k < ms.length
    · obtain ⟨m, hm⟩ : ∃ m, ms[k]? = some m := ⟨_, List.getElem?_eq_getElem hlt⟩
      have HMM := Lib.hid (List.mem_of_getElem? hm)
      have HT := Lib.hid (take_snoc' hm)
      obtain ⟨b, off, rfl, hbb, hcap, hcx⟩ := (HX.out.later HB.out).at hm
      have h0 := hcx 0 _ rfl
      have h1 := hcx 1 _ rfl
      have h2 := hcx 2 _ rfl
      have h3 := hcx 3 _ rfl
      rw [Nat.add_zero] at h0
      have hkI : (k : Int) < (ms.length : Int) := by omega
      clear hcx hm
      go_wp2_with fail
      refine (bad_any m _).mono ?_
      rintro e w2 ⟨bb, rfl, hbp, hb2⟩
      have HB2 := Lib.hid (Bel.then HB.out hb2)
      clear hb2
      cases bb
      · have HN : Hid (¬ BadM m) := Lib.hid (fun h => by have := hbp.2 h; cases this)
        clear hbp
        go_wp2_with fail
        go_roundw
        case rel =>
          refine ⟨k + 1, by omega, by go_num, HB2.out, ?_⟩
          rw [HT.out]
          exact Lib.hid (all_snoc' HS.out HN.out)
        case measure => simp [intOf]; omega
      · have HP : Hid (BadM m) := Lib.hid (hbp.1 rfl)
        clear hbp
        go_wp2_with fail
        go_ret
        exact ⟨_, rfl, ⟨fun _ => ⟨m, HMM.out, HP.out⟩, fun _ => by omega⟩, HB2.out⟩
    · have hk4 : k = ms.length := by omega
      subst hk4
      rw [List.take_length] at HS
      go_wp2_with fail
      go_ret
      exact ⟨_, rfl, ⟨fun h => by omega, fun ⟨m, hm, h⟩ => absurd h (HS.out m hm)⟩, HB.out⟩
theorem containsBad_any (ms : List Mv) (v : Value) (w : World) (hx : SlR 4 w w.heap.size v (ms.map Mv.cells)) (hl : ms.length ≤ 1099511627776) :
    Calls Tryd.prog 32 #[v, .func (.func 29) #[] #[]] w fun e w' => BRet (∃ m ∈ ms, BadM m) w e w' := by
  have HI := Lib.hid (indexBad_any ms v w hx hl)
  clear hx
  go_enter Tryd.func32, Tryd.ntmps32
  go_wp2_with fail
  refine HI.out.mono ?_
  rintro e w2 ⟨i, rfl, hp, hb⟩
  have HP := Lib.hid hp
  have HB := Lib.hid hb
  clear hp hb
  by_cases h0 : 0 ≤ i
  · have H0 := Lib.hid h0
    go_wp2_with fail
    go_ret
    first
      | exact BRet.yes HB.out (HP.out.1 H0.out)
      | (rw [show decide (0 ≤ i) = true from decide_eq_true H0.out]; exact BRet.yes HB.out (HP.out.1 H0.out))
      | (refine (congrArg (fun z => BRet (∃ m ∈ ms, BadM m) w (.returned (.bool z)) w2) (decide_eq_true H0.out)).mpr ?_; exact BRet.yes HB.out (HP.out.1 H0.out))
  · have H0 := Lib.hid h0
    go_wp2_with fail
    go_ret
    first
      | exact BRet.no HB.out (fun h => by have := HP.out.2 h; omega)
      | (refine (congrArg (fun z => BRet (∃ m ∈ ms, BadM m) w (.returned (.bool z)) w2) (decide_eq_false (by omega))).mpr ?_; exact BRet.no HB.out (fun h => by have := HP.out.2 h; omega))
set_option maxHeartbeats 4000000 in
theorem indexLost_any (ms : List Mv) (v : Value) (w : World) (hx : SlR 4 w w.heap.size v (ms.map Mv.cells)) (hl : ms.length ≤ 1099511627776) (t : Ty) (q : Nat) (ht : t.In w w.heap.size) (hfl : t.fs.length ≤ 1099511627776) (hq : q < w.heap.size) (hc : w.cell? ⟨q, 0, none⟩ = some t.v) :
    Calls Tryd.prog 33 #[v, .func (.func 30) #[] #[.pointer (some ⟨q, 0, none⟩)]] w fun e w' => IRet (∃ m ∈ ms, LostM t m) w e w' := by
  obtain ⟨A, c, rfl⟩ := hx.shapeL
  have HX := Lib.hid hx
  have HTI := Lib.hid (And.intro ht (And.intro hq hc))
  clear ht hq hc
  clear hx
  go_enter Tryd.func33, Tryd.ntmps33
  go_wp2_with fail
  go_loopw [8] (fun i wr => ∃ k : Nat, k ≤ ms.length ∧ i = .int .i64 k ∧ Below w.heap.size w wr ∧ Hid (∀ m ∈ ms.take k, ¬ LostM t m)) (fun i _ => ms.length - (intOf i).toNat)
  case atStart => exact ⟨0, Nat.zero_le _, rfl, Below.refl _ _, Lib.hid (by simp)⟩
  case round =>
    obtain ⟨k, hk, rfl, hb, HS⟩ := hrel
    have HB := Lib.hid hb
    clear hb
    by_cases hlt : k < ms.length
    · obtain ⟨m, hm⟩ : ∃ m, ms[k]? = some m := ⟨_, List.getElem?_eq_getElem hlt⟩
      have HMM := Lib.hid (List.mem_of_getElem? hm)
      have HT := Lib.hid (take_snoc' hm)
      obtain ⟨b, off, rfl, hbb, hcap, hcx⟩ := (HX.out.later HB.out).at hm
      have h0 := hcx 0 _ rfl
      have h1 := hcx 1 _ rfl
      have h2 := hcx 2 _ rfl
      have h3 := hcx 3 _ rfl
      rw [Nat.add_zero] at h0
      have hkI : (k : Int) < (ms.length : Int) := by omega
      clear hcx hm
      go_wp2_with fail
      refine (lost_any m t q _ (HTI.out.1.later HB.out) hfl (Nat.lt_of_lt_of_le HTI.out.2.1 HB.out.size) ((HB.out.cell (p := ⟨q, 0, none⟩) HTI.out.2.1).trans HTI.out.2.2)).mono ?_
      rintro e w2 ⟨bb, rfl, hbp, hb2⟩
      have HB2 := Lib.hid (Bel.then HB.out hb2)
      clear hb2
      cases bb
      · have HN : Hid (¬ LostM t m) := Lib.hid (fun h => by have := hbp.2 h; cases this)
        clear hbp
        go_wp2_with fail
        go_roundw
        case rel =>
          refine ⟨k + 1, by omega, by go_num, HB2.out, ?_⟩
          rw [HT.out]
          exact Lib.hid (all_snoc' HS.out HN.out)
        case measure => simp [intOf]; omega
      · have HP : Hid (LostM t m) := Lib.hid (hbp.1 rfl)
        clear hbp
        go_wp2_with fail
        go_ret
        exact ⟨_, rfl, ⟨fun _ => ⟨m, HMM.out, HP.out⟩, fun _ => by omega⟩, HB2.out⟩
    · have hk4 : k = ms.length := by omega
      subst hk4
      rw [List.take_length] at HS
      go_wp2_with fail
      go_ret
      exact ⟨_, rfl, ⟨fun h => by omega, fun ⟨m, hm, h⟩ => absurd h (HS.out m hm)⟩, HB.out⟩
theorem containsLost_any (ms : List Mv) (v : Value) (w : World) (hx : SlR 4 w w.heap.size v (ms.map Mv.cells)) (hl : ms.length ≤ 1099511627776) (t : Ty) (q : Nat) (ht : t.In w w.heap.size) (hfl : t.fs.length ≤ 1099511627776) (hq : q < w.heap.size) (hc : w.cell? ⟨q, 0, none⟩ = some t.v) :
    Calls Tryd.prog 32 #[v, .func (.func 30) #[] #[.pointer (some ⟨q, 0, none⟩)]] w fun e w' => BRet (∃ m ∈ ms, LostM t m) w e w' := by
  have HI := Lib.hid (indexLost_any ms v w hx hl t q ht hfl hq hc)
  clear hx
  go_enter Tryd.func32, Tryd.ntmps32
  go_wp2_with fail
  refine HI.out.mono ?_
  rintro e w2 ⟨i, rfl, hp, hb⟩
  have HP := Lib.hid hp
  have HB := Lib.hid hb
  clear hp hb
  by_cases h0 : 0 ≤ i
  · have H0 := Lib.hid h0
    go_wp2_with fail
    go_ret
    first
      | exact BRet.yes HB.out (HP.out.1 H0.out)
      | (rw [show decide (0 ≤ i) = true from decide_eq_true H0.out]; exact BRet.yes HB.out (HP.out.1 H0.out))
      | (refine (congrArg (fun z => BRet (∃ m ∈ ms, LostM t m) w (.returned (.bool z)) w2) (decide_eq_true H0.out)).mpr ?_; exact BRet.yes HB.out (HP.out.1 H0.out))
  · have H0 := Lib.hid h0
    go_wp2_with fail
    go_ret
    first
      | exact BRet.no HB.out (fun h => by have := HP.out.2 h; omega)
      | (refine (congrArg (fun z => BRet (∃ m ∈ ms, LostM t m) w (.returned (.bool z)) w2) (decide_eq_false (by omega))).mpr ?_; exact BRet.no HB.out (fun h => by have := HP.out.2 h; omega))
end Go.Proofs.YtamnligooelmgaaDoor
