/- quaysideref06.one. -/
import Derived.Test.YtamnligooelmgaaDoorRKind
import Derived.Test.YtamnligooelmgaaDoorRSField
set_option maxRecDepth 100000
set_option maxRecDepth 100000
set_option linter.unusedVariables false
set_option linter.unusedSimpArgs false
namespace Go.Proofs.YtamnligooelmgaaDoor
open Go.RowKit Go.BigFrame

theorem beqf {a b : Int} (h : a ≠ b) : (a == b) = false := beq_eq_false_iff_ne.2 h
theorem beqt {a b : Int} (h : a = b) : (a == b) = true := by simp [h]
theorem bnef {a b : Int} (h : a = b) : (a != b) = false := by simp [h]
theorem bnet {a b : Int} (h : a ≠ b) : (a != b) = true := bne_iff_ne.2 h
/-- The ways to a policy that serves, with the floor. -/
def PolWay (fk fp : Int) (fl : Bool) : Prop :=
  ((fp == 1) = true ∧ (fl = false ∨ (fl = true ∧ (fk != 1) = false))) ∨ ((fp == 1) = false ∧ (fp == 2) = true ∧ (fk != 1) = true ∧ fl = false) ∨ ((fp == 1) = false ∧ (fp == 2) = false ∧ (fp == 3) = true ∧ (fk == 2) = true ∧ fl = false)
def PolNot (fk fp : Int) (fl : Bool) : Prop :=
  ((fp == 1) = false ∧ (fp == 2) = true ∧ (fk != 1) = false ∧ (fp == 3) = false) ∨ ((fp == 1) = false ∧ (fp == 2) = false ∧ (fp == 3) = false) ∨ ((fp == 1) = false ∧ (fp == 2) = false ∧ (fp == 3) = true ∧ (fk == 2) = false) ∨
  ((fp == 1) = true ∧ fl = true ∧ (fk != 1) = true) ∨ ((fp == 1) = false ∧ (fp == 2) = true ∧ (fk != 1) = true ∧ fl = true) ∨ ((fp == 1) = false ∧ (fp == 2) = false ∧ (fp == 3) = true ∧ (fk == 2) = true ∧ (fk != 1) = true ∧ fl = true)
theorem polWay {f : Fd} (h : PolOk f) : PolWay f.k f.p f.fl := by
  obtain ⟨h1, h2⟩ := h
  unfold PolWay
  rcases h1 with h1 | ⟨h1, h3⟩ | ⟨h1, h3⟩
  · refine .inl ⟨beqt h1, ?_⟩
    cases hf : f.fl with
    | false => exact .inl rfl
    | true =>
      refine .inr ⟨rfl, bnef ?_⟩
      by_cases hk : f.k = 1
      · exact hk
      · exact absurd ⟨hf, hk⟩ h2
  · refine .inr (.inl ⟨beqf (by omega), beqt h1, bnet h3, ?_⟩)
    cases hf : f.fl with
    | false => rfl
    | true => exact absurd ⟨hf, h3⟩ h2
  · refine .inr (.inr ⟨beqf (by omega), beqf (by omega), beqt h1, beqt h3, ?_⟩)
    cases hf : f.fl with
    | false => rfl
    | true => exact absurd ⟨hf, by omega⟩ h2
theorem polNot {f : Fd} (h : ¬ PolOk f) : PolNot f.k f.p f.fl := by
  unfold PolNot
  by_cases h1 : f.p = 1
  · refine .inr (.inr (.inr (.inl ?_)))
    cases hf : f.fl with
    | false => exact absurd ⟨.inl h1, fun ⟨h, _⟩ => by rw [hf] at h; cases h⟩ h
    | true =>
      by_cases hk : f.k = 1
      · exact absurd ⟨.inl h1, fun ⟨_, h⟩ => h hk⟩ h
      · exact ⟨beqt h1, rfl, bnet hk⟩
  · by_cases h2 : f.p = 2
    · by_cases hk : f.k = 1
      · exact .inl ⟨beqf h1, beqt h2, bnef hk, beqf (by omega)⟩
      · refine .inr (.inr (.inr (.inr (.inl ?_))))
        cases hf : f.fl with
        | false => exact absurd ⟨.inr (.inl ⟨h2, hk⟩), fun ⟨h, _⟩ => by rw [hf] at h; cases h⟩ h
        | true => exact ⟨beqf h1, beqt h2, bnet hk, rfl⟩
    · by_cases h3 : f.p = 3
      · by_cases hk : f.k = 2
        · refine .inr (.inr (.inr (.inr (.inr ?_))))
          cases hf : f.fl with
          | false => exact absurd ⟨.inr (.inr ⟨h3, hk⟩), fun ⟨h, _⟩ => by rw [hf] at h; cases h⟩ h
          | true => exact ⟨beqf h1, beqf h2, beqt h3, beqt hk, bnet (by omega), rfl⟩
        · exact .inr (.inr (.inl ⟨beqf h1, beqf h2, beqt h3, beqf hk⟩))
      · exact .inr (.inl ⟨beqf h1, beqf h2, beqf h3⟩)
set_option maxHeartbeats 8000000 in
theorem rone_early (t : Ty) (f : Fd) (w : World) (r : Int) (ht : t.In w w.heap.size) (hf : f.In w w.heap.size)
    (h : (f.k < 1 ∧ r = 2) ∨ (1 ≤ f.k ∧ 4 < f.k ∧ r = 2) ∨ (1 ≤ f.k ∧ f.k ≤ 4 ∧ PolNot f.k f.p f.fl ∧ r = 1)) :
    Calls Tryd.prog 27 #[tyV t, fdV' f] w fun e w' => e = .returned (.int .i64 r) ∧ Below w.heap.size w w' := by
  obtain ⟨fs, tv⟩ := t
  obtain ⟨A, c, h1⟩ := ht.1.shapeL
  dsimp only at h1
  subst h1
  obtain ⟨fk, fp, ffl, ms, mv⟩ := f
  obtain ⟨A3, c3, h3⟩ := SlR.shapeL hf
  dsimp only at h3 h
  subst h3
  have hB : ∀ o o', Below w.heap.size w ((w.alloc o).alloc o') := fun o o' => Bel.grew (Bel.grew (Below.refl _ _) _) _
  clear ht hf
  unfold PolNot at h
  rcases h with ⟨h1, rfl⟩ | ⟨h1, h2, rfl⟩ | ⟨h1, h2, ⟨a, b, d, e⟩ | ⟨a, b, d⟩ | ⟨a, b, d, e⟩ | ⟨a, rfl, d⟩ | ⟨a, b, d, rfl⟩ | ⟨a, b, d, e, e', rfl⟩, rfl⟩
  all_goals
    go_enter Tryd.func27, Tryd.ntmps27
    go_wp2_with fail
    go_ret
    exact ⟨rfl, hB _ _⟩
/-- The ways of a move. -/
def BadWay (a b c d : Int) (r : Bool) : Prop := (a < 0 ∧ r = true) ∨ (0 ≤ a ∧ b < 0 ∧ r = true) ∨ (0 ≤ a ∧ 0 ≤ b ∧ (c == -1) = false ∧ r = false) ∨ (0 ≤ a ∧ 0 ≤ b ∧ (c == -1) = true ∧ (d != 0) = true ∧ r = true) ∨ (0 ≤ a ∧ 0 ≤ b ∧ (c == -1) = true ∧ (d != 0) = false ∧ r = false)
theorem badWay (m : Mv) : ∃ r, BadWay m.a m.b m.c m.d r ∧ (r = true ↔ BadM m) := by
  unfold BadWay BadM
  by_cases h1 : m.a < 0
  · exact ⟨true, .inl ⟨h1, rfl⟩, ⟨fun _ => .inl h1, fun _ => rfl⟩⟩
  by_cases h2 : m.b < 0
  · exact ⟨true, .inr (.inl ⟨by omega, h2, rfl⟩), ⟨fun _ => .inr (.inl h2), fun _ => rfl⟩⟩
  by_cases h3 : m.c = -1
  · by_cases h4 : m.d = 0
    · exact ⟨false, .inr (.inr (.inr (.inr ⟨by omega, by omega, beqt h3, bnef h4, rfl⟩))), ⟨(fun h => by cases h), fun h => by omega⟩⟩
    · exact ⟨true, .inr (.inr (.inr (.inl ⟨by omega, by omega, beqt h3, bnet h4, rfl⟩))), ⟨fun _ => .inr (.inr ⟨h3, h4⟩), fun _ => rfl⟩⟩
  · exact ⟨false, .inr (.inr (.inl ⟨by omega, by omega, beqf h3, rfl⟩)), ⟨(fun h => by cases h), fun h => by omega⟩⟩
def LateRel (t : Ty) (ms : List Mv) (c : Int) : Prop := ((∃ m ∈ ms, BadM m) ∧ c = 1) ∨ (¬ (∃ m ∈ ms, BadM m) ∧ (∃ m ∈ ms, LostM t m) ∧ c = 8) ∨ (¬ (∃ m ∈ ms, BadM m) ∧ ¬ (∃ m ∈ ms, LostM t m) ∧ c = 0)
set_option maxHeartbeats 16000000 in
theorem rone_late (t : Ty) (f : Fd) (w : World) (ht : t.In w w.heap.size) (hf : f.In w w.heap.size) (hl : t.fs.length ≤ 1099511627776) (hm : f.ms.length ≤ 1099511627776)
    (h1 : 1 ≤ f.k) (h2 : f.k ≤ 4) (h : PolWay f.k f.p f.fl) :
    Calls Tryd.prog 27 #[tyV t, fdV' f] w fun e w' => CRet (LateRel t f.ms) w e w' := by
  obtain ⟨fs, tv⟩ := t
  obtain ⟨A, c, h1'⟩ := ht.1.shapeL
  dsimp only at h1' hl
  subst h1'
  obtain ⟨fk, fp, ffl, ms, mv⟩ := f
  obtain ⟨A3, c3, h3⟩ := SlR.shapeL hf
  dsimp only at h3 h h1 h2 hm ⊢
  subst h3
  obtain ⟨W, hW⟩ : ∃ W, W = (w.alloc (.cells #[.slice A fs.length c] 45)).alloc (.cells #[.int .i64 fk, .int .i64 fp, .bool ffl, .slice A3 ms.length c3] 33) := ⟨_, rfl⟩
  have hB : Below w.heap.size w W := by rw [hW]; exact Bel.grew (Bel.grew (Below.refl _ _) _) _
  have hC : Has W w.heap.size #[.slice A fs.length c] := by rw [hW]; exact (Has.new w _ _).grow _
  have hR : Has W (w.heap.size + 1) #[.int .i64 fk, .int .i64 fp, .bool ffl, .slice A3 ms.length c3] := by rw [hW]; exact Has.new1 _ _ _ (by simp)
  have HM : Hid (SlR 4 W W.heap.size (.slice A3 ms.length c3) (ms.map Mv.cells)) := Lib.hid (SlR.later hf hB)
  have HT := Lib.hid (ht.later hB)
  have HB := Lib.hid hB
  have HW := Lib.hid hW
  have HC := Lib.hid hC
  have HR := Lib.hid hR
  have hmI : (ms.length : Int) ≤ 1099511627776 := by omega
  obtain ⟨R, hRR⟩ : ∃ R : Int → Prop, R = LateRel ⟨fs, .slice A fs.length c⟩ ms := ⟨_, rfl⟩
  have HRR := Lib.hid hRR
  rw [← hRR]
  clear hB hW hC hR ht hf hRR
  unfold PolWay at h
  rcases h with ⟨a, rfl | ⟨rfl, b⟩⟩ | ⟨a, b, d, rfl⟩ | ⟨a, b, d, e, rfl⟩
  all_goals
    go_enter Tryd.func27, Tryd.ntmps27
    go_wp2_with fail
    rw [← HW.out]
    clear HW
    go_loopw [6] (fun i wr => ∃ k : Nat, k ≤ ms.length ∧ i = .int .i64 k ∧ Below W.heap.size W wr ∧ Hid (∀ m ∈ ms.take k, ¬ BadM m)) (fun i _ => ms.length - (intOf i).toNat)
    case atStart => exact ⟨0, Nat.zero_le _, rfl, Below.refl _ _, Lib.hid (by simp)⟩
    case round =>
      obtain ⟨k, hk, rfl, hb, HS⟩ := hrel
      have hr := (HR.out.later hb).2
      have hrl := (HR.out.later hb).1
      by_cases hlt : k < ms.length
      · obtain ⟨mo, hmo⟩ : ∃ mo, ms[k]? = some mo := ⟨_, List.getElem?_eq_getElem hlt⟩
        have HTS := Lib.hid (take_snoc hmo)
        have HMM := Lib.hid (List.mem_of_getElem? hmo)
        obtain ⟨b3, off3, rfl, hb3, hcap3, hcz⟩ := (SlR.later HM.out hb).at hmo
        obtain ⟨bw, hway, hbw⟩ := badWay mo
        have HBWI := Lib.hid hbw
        obtain ⟨M, hM⟩ : ∃ M, M = mo := ⟨_, rfl⟩
        rw [← hM] at HTS HMM HBWI
        have hz0 := hcz 0 _ rfl
        have hz1 := hcz 1 _ rfl
        have hz2 := hcz 2 _ rfl
        have hz3 := hcz 3 _ rfl
        rw [Nat.add_zero] at hz0
        obtain ⟨m0, m1, m2, m3⟩ := mo
        dsimp only at hz0 hz1 hz2 hz3 hway
        have hkI : (k : Int) < (ms.length : Int) := by omega
        have HBk := Lib.hid (Bel.grew hb (.cells #[.int .i64 m0, .int .i64 m1, .int .i64 m2, .int .i64 m3] 39))
        have HWAY := Lib.hid hway
        unfold BadWay at HWAY
        clear hcz hmo hM hway hbw hb
        rcases HWAY.out with ⟨k1, rfl⟩ | ⟨k1, k2, rfl⟩ | ⟨k1, k2, k3, rfl⟩ | ⟨k1, k2, k3, k4, rfl⟩ | ⟨k1, k2, k3, k4, rfl⟩
        · have HX : Hid (R 1) := by rw [HRR.out]; exact Lib.hid (.inl ⟨⟨M, HMM.out, HBWI.out.1 rfl⟩, rfl⟩)
          clear HWAY
          go_wp2_with fail
          go_ret
          exact CRet.mk (Bel.then HB.out HBk.out) HX.out
        · have HX : Hid (R 1) := by rw [HRR.out]; exact Lib.hid (.inl ⟨⟨M, HMM.out, HBWI.out.1 rfl⟩, rfl⟩)
          clear HWAY
          go_wp2_with fail
          go_ret
          exact CRet.mk (Bel.then HB.out HBk.out) HX.out
        · have HNF : Hid (¬ BadM M) := Lib.hid fun h => by have := HBWI.out.2 h; cases this
          clear HWAY
          go_wp2_with fail
          go_roundw
          case rel =>
            refine ⟨k + 1, by omega, by go_num, HBk.out, ?_⟩
            rw [HTS.out]
            exact Lib.hid (all_snoc HS.out HNF.out)
          case measure => simp [intOf]; omega
        · have HX : Hid (R 1) := by rw [HRR.out]; exact Lib.hid (.inl ⟨⟨M, HMM.out, HBWI.out.1 rfl⟩, rfl⟩)
          clear HWAY
          go_wp2_with fail
          go_ret
          exact CRet.mk (Bel.then HB.out HBk.out) HX.out
        · have HNF : Hid (¬ BadM M) := Lib.hid fun h => by have := HBWI.out.2 h; cases this
          clear HWAY
          go_wp2_with fail
          go_roundw
          case rel =>
            refine ⟨k + 1, by omega, by go_num, HBk.out, ?_⟩
            rw [HTS.out]
            exact Lib.hid (all_snoc HS.out HNF.out)
          case measure => simp [intOf]; omega
      · have hk' : k = ms.length := by omega
        subst hk'
        rw [List.take_length] at HS
        have HNB : Hid (¬ ∃ m ∈ ms, BadM m) := Lib.hid fun ⟨m, h1, h2⟩ => HS.out m h1 h2
        obtain ⟨W1, hW1⟩ : ∃ W1, W1 = wr := ⟨_, rfl⟩
        rw [← hW1] at hb hr hrl ⊢
        have HB1 := Lib.hid hb
        clear hW1 hb
        go_wp2_with fail
        clear hr
        go_loopw [8] (fun i wr => ∃ k : Nat, k ≤ ms.length ∧ i = .int .i64 k ∧ Below W.heap.size W wr ∧ Hid (∀ m ∈ ms.take k, ¬ LostM ⟨fs, .slice A fs.length c⟩ m)) (fun i _ => ms.length - (intOf i).toNat)
        case atStart => exact ⟨0, Nat.zero_le _, rfl, HB1.out, Lib.hid (by simp)⟩
        case round =>
          obtain ⟨k, hk, rfl, hb, HS2⟩ := hrel
          have hr := (HR.out.later hb).2
          have hrl := (HR.out.later hb).1
          have hc := (HC.out.later hb).2
          have hcl := (HC.out.later hb).1
          by_cases hlt : k < ms.length
          · obtain ⟨mo, hmo⟩ : ∃ mo, ms[k]? = some mo := ⟨_, List.getElem?_eq_getElem hlt⟩
            have HTS := Lib.hid (take_snoc hmo)
            have HMM := Lib.hid (List.mem_of_getElem? hmo)
            obtain ⟨b3, off3, rfl, hb3, hcap3, hcz⟩ := (SlR.later HM.out hb).at hmo
            obtain ⟨M, hM⟩ : ∃ M, M = mo := ⟨_, rfl⟩
            rw [← hM] at HTS HMM
            have hz2 := hcz 2 _ rfl
            obtain ⟨m0, m1, m2, m3⟩ := mo
            dsimp only at hz2
            have hkI : (k : Int) < (ms.length : Int) := by omega
            have HBk := Lib.hid hb
            have HTW := Lib.hid (HT.out.later hb)
            have HMc : Hid (M.c = m2) := by rw [hM]; exact Lib.hid rfl
            clear hcz hmo hM hb
            by_cases hm1 : m2 = -1
            · have hq : (m2 != -1) = false := bnef hm1
              have HNF : Hid (¬ LostM ⟨fs, .slice A fs.length c⟩ M) := Lib.hid fun h => h.1 (HMc.out.trans hm1)
              clear hm1
              go_wp2_with fail
              refine wp_region_later (by kernel_rfl) (by kernel_rfl) ?_
              repeat (any_goals (first | go_big_quiet_step (fail)))
              refine wpQuiet_nil ?_
              intro x
              obtain ⟨w4, hb4⟩ := x
              dsimp only
              have HB4 := Lib.hid (Bel.then HBk.out hb4)
              clear hb4 hz2 hr hc
              go_wp2_with fail
              go_roundw
              case rel =>
                refine ⟨k + 1, by omega, by go_num, HB4.out, ?_⟩
                rw [HTS.out]
                exact Lib.hid (all_snoc HS2.out HNF.out)
              case measure => simp [intOf]; omega
            · have hq : (m2 != -1) = true := bnet hm1
              obtain ⟨g, hg⟩ : ∃ g, g = (kindP (Ty.pl ⟨fs, .slice A fs.length c⟩) m2).getD 0 := ⟨_, rfl⟩
              have HG := Lib.hid hg
              have hkind : ∀ W : World, (⟨fs, .slice A fs.length c⟩ : Ty).In W W.heap.size → Calls Tryd.prog 28 #[tyV ⟨fs, .slice A fs.length c⟩, .int .i64 m2] W fun e w' => e = .returned (.int .i64 g) ∧ Below W.heap.size W w' := fun W h => by rw [hg]; exact rkind_any _ m2 W h hl
              have HKIND := Lib.hid hkind
              have HM1 := Lib.hid hm1
              clear hm1 hg hkind
              by_cases hg1 : g = 1
              · have hq2 : (g != 1) = false := bnef hg1
                have HNF : Hid (¬ LostM ⟨fs, .slice A fs.length c⟩ M) := Lib.hid fun h => h.2 (IsK.pl.2 (by
                  rw [HMc.out]
                  cases hkp : kindP (Ty.pl ⟨fs, .slice A fs.length c⟩) m2 with
                  | none => have := HG.out; rw [hkp] at this; simp at this; omega
                  | some x => have := HG.out; rw [hkp] at this; simp at this; rw [← this, hg1]))
                clear hg1
                go_wp2_with fail
                refine wp_region_later (by kernel_rfl) (by kernel_rfl) ?_
                repeat (any_goals (first | go_big_quiet_step ((go_at_call 28; have hC := HKIND.out (Later.w ‹_›) (HTW.out.later (Later.h ‹_›)); with_reducible exact Later.call hC))))
                refine wpQuiet_nil ?_
                intro x
                obtain ⟨w4, hb4⟩ := x
                dsimp only
                have HB4 := Lib.hid (Bel.then HBk.out hb4)
                clear hb4 hz2 hr hc
                go_wp2_with fail
                go_roundw
                case rel =>
                  refine ⟨k + 1, by omega, by go_num, HB4.out, ?_⟩
                  rw [HTS.out]
                  exact Lib.hid (all_snoc HS2.out HNF.out)
                case measure => simp [intOf]; omega
              · have hq2 : (g != 1) = true := bnet hg1
                have HX : Hid (R 8) := by
                  rw [HRR.out]
                  refine Lib.hid (.inr (.inl ⟨HNB.out, ⟨M, HMM.out, ?_, fun h => hg1 ?_⟩, rfl⟩))
                  · rw [HMc.out]; exact HM1.out
                  · have := IsK.pl.1 h
                    rw [HMc.out] at this
                    rw [HG.out, this]; rfl
                clear hg1
                go_wp2_with fail
                refine wp_region_later (by kernel_rfl) (by kernel_rfl) ?_
                repeat (any_goals (first | go_big_quiet_step ((go_at_call 28; have hC := HKIND.out (Later.w ‹_›) (HTW.out.later (Later.h ‹_›)); with_reducible exact Later.call hC))))
                refine wpQuiet_nil ?_
                intro x
                obtain ⟨w4, hb4⟩ := x
                dsimp only
                have HB4 := Lib.hid (Bel.then HBk.out hb4)
                clear hb4 hz2 hr hc
                go_wp2_with fail
                go_ret
                exact CRet.mk (Bel.then HB.out HB4.out) HX.out
          · have hk' : k = ms.length := by omega
            subst hk'
            rw [List.take_length] at HS2
            have HX : Hid (R 0) := by rw [HRR.out]; exact Lib.hid (.inr (.inr ⟨HNB.out, fun ⟨m, h1, h2⟩ => HS2.out m h1 h2, rfl⟩))
            have HBk := Lib.hid hb
            clear hb
            go_wp2_with fail
            go_ret
            exact CRet.mk (Bel.then HB.out HBk.out) HX.out
theorem rone_any (t : Ty) (f : Fd) (w : World) (ht : t.In w w.heap.size) (hf : f.In w w.heap.size) (hl : t.fs.length ≤ 1099511627776) (hm : f.ms.length ≤ 1099511627776) :
    Calls Tryd.prog 27 #[tyV t, fdV' f] w fun e w' => CRet (WrongRel t f) w e w' := by
  by_cases hk : InK f
  · by_cases hp : PolOk f
    · refine (rone_late t f w ht hf hl hm hk.1 hk.2 (polWay hp)).mono fun e w' ⟨c, he, hr, hb⟩ => ⟨c, he, ?_, hb⟩
      rcases hr with ⟨h1, h2⟩ | ⟨h1, h2, h3⟩ | ⟨h1, h2, h3⟩
      · exact .inr (.inr (.inl ⟨hk, hp, h1, h2⟩))
      · exact .inr (.inr (.inr (.inl ⟨hk, hp, h1, h2, h3⟩)))
      · exact .inr (.inr (.inr (.inr ⟨hk, hp, h1, h2, h3⟩)))
    · exact (rone_early t f w 1 ht hf (.inr (.inr ⟨hk.1, hk.2, polNot hp, rfl⟩))).mono fun e w' ⟨he, hb⟩ => ⟨1, he, .inr (.inl ⟨hk, hp, rfl⟩), hb⟩
  · refine (rone_early t f w 2 ht hf ?_).mono fun e w' ⟨he, hb⟩ => ⟨2, he, .inl ⟨hk, rfl⟩, hb⟩
    unfold InK at hk
    by_cases h1 : f.k < 1
    · exact .inl ⟨h1, rfl⟩
    · exact .inr (.inl ⟨by omega, by omega, rfl⟩)
end Go.Proofs.YtamnligooelmgaaDoor
