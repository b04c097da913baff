/- The document's Put of an event. -/
import Derived.Test.YtjjccjannandlaaMzEPut2
import Derived.Test.YtjjccjannandlaaMzRef4
set_option maxRecDepth 100000
set_option linter.unusedVariables false
set_option linter.unusedSimpArgs false
namespace Go.Proofs.Ytjjccjannandlaa
open Go.RowKit Go.BigFrame

/-- A slice that has just been written out is the call's own. -/
theorem OwnK.built {k : IntKind} {e : TypeId} (w : World) (cs : Array Value) (xs : List Int) (n b : Nat) (h : cs.toList = xs.map (Value.int k)) (hn : n = xs.length) (hb : b = w.heap.size) (hl : n ≤ 4398046511104) :
    OwnK k e (w.alloc (.cells cs e)) w.heap.size (.slice (some ⟨b, 0, none⟩) n n) xs := by
  subst hn hb
  have hsz : cs.size = xs.length := by rw [← Array.length_toList, h, List.length_map]
  refine ⟨by simp, .inr ⟨w.heap.size, xs.length, cs, rfl, Nat.le_refl _, heap_alloc_new w _, Nat.le_refl _, by unfold maxLen; omega, by omega, ?_⟩⟩
  rw [h, List.take_of_length_le (by simp)]

set_option maxHeartbeats 2000000 in
theorem rPut_many (f : Nat → Int) (dv : Value) (deps : List Int) (w : World) (hd : Sl .i64 w w.heap.size dv deps) (hl : 64 < deps.length) :
    Calls Try.prog 30 #[evV f dv] w fun e w' => e = .returned (.tuple #[.slice none 0 0, .int .i64 3]) ∧ Below w.heap.size w w' := by
  obtain ⟨A, c, rfl⟩ := hd.shape
  clear hd
  have hB : ∀ o, Below w.heap.size w (w.alloc o) := fun o => (Below.refl w.heap.size w).alloc (Nat.le_refl _) o
  go_enter Try.func30, Try.ntmps30
  have hI : ¬ ((deps.length : Int) ≤ 64) := by omega
  go_wp2_with fail
  simp [bodyPost, results, Try.results30, go_sem, hB]

set_option maxHeartbeats 4000000 in
theorem erPut_any (f : Nat → Int) (dv : Value) (deps : List Int) (w : World) (hd : Sl .i64 w w.heap.size dv deps) (hl : deps.length ≤ 64) (h64 : Ev64 f deps) (ha : I64s (evL f deps)) :
    Calls Try.prog 30 #[evV f dv] w fun e w' => ∃ r, e = .returned (.tuple #[r, .int .i64 0]) ∧ OwnBytes w' w.heap.size r (encs (evL f deps)) ∧ Below w.heap.size w w' := by
  obtain ⟨A, c, rfl⟩ := hd.shape
  have hI : ¬ (deps.length : Int) > 64 := by omega
  obtain ⟨W1, hW1⟩ : ∃ W1, W1 = (w.alloc (.cells #[.int .i64 (f 0), .int .i64 (f 1), .int .i64 (f 2), .slice A deps.length c, .int .i64 (f 3), .int .i64 (f 4), .int .i64 (f 5), .int .i64 (f 6), .int .i64 (f 7), .int .i64 (f 8)] 39)).alloc (.cells #[.int .i64 (f 0), .int .i64 (f 1), .int .i64 (f 2), .int .i64 (deps.length : Int)] 3) := ⟨_, rfl⟩
  have hB : Below w.heap.size w W1 := by rw [hW1]; exact Bel.grew (Bel.grew (Below.refl _ _) _) _
  have hC : Cells10 W1 w.heap.size (evC f (.slice A deps.length c)) := by
    intro o ho
    rw [hW1]
    rcases (show o = 0 ∨ o = 1 ∨ o = 2 ∨ o = 3 ∨ o = 4 ∨ o = 5 ∨ o = 6 ∨ o = 7 ∨ o = 8 ∨ o = 9 from by omega) with rfl | rfl | rfl | rfl | rfl | rfl | rfl | rfl | rfl | rfl
    all_goals simp [go_sem, evC]
  have hs : W1.heap.size = w.heap.size + 2 := by rw [hW1]; simp
  have hO : OwnInts W1 (w.heap.size + 1) (.slice (some ⟨w.heap.size + 1, 0, none⟩) 4 4) (headL f deps.length) := by
    rw [hW1]
    have := OwnK.built (k := .i64) (e := 3) (w.alloc (.cells #[.int .i64 (f 0), .int .i64 (f 1), .int .i64 (f 2), .slice A deps.length c, .int .i64 (f 3), .int .i64 (f 4), .int .i64 (f 5), .int .i64 (f 6), .int .i64 (f 7), .int .i64 (f 8)] 39)) #[.int .i64 (f 0), .int .i64 (f 1), .int .i64 (f 2), .int .i64 (deps.length : Int)] (headL f deps.length) 4 (w.heap.size + 1) rfl rfl (by simp) (by decide)
    rwa [show (w.alloc (.cells #[.int .i64 (f 0), .int .i64 (f 1), .int .i64 (f 2), .slice A deps.length c, .int .i64 (f 3), .int .i64 (f 4), .int .i64 (f 5), .int .i64 (f 6), .int .i64 (f 7), .int .i64 (f 8)] 39)).heap.size = w.heap.size + 1 from by simp] at this
  have HX := Lib.hid (hd.later hB)
  have HB := Lib.hid hB
  have HC := Lib.hid hC
  have HW := Lib.hid hW1
  have HS := Lib.hid hs
  have HO := Lib.hid hO
  have HA := Lib.hid ha
  have HLN : Hid ((headL f deps.length).length + deps.length ≤ 4398046511104) := Lib.hid (by show 4 + _ ≤ _; omega)
  have HLT : Hid ((headL f deps.length ++ deps).length + (tailL f).length ≤ 4398046511104) := Lib.hid (by rw [List.length_append]; show 4 + _ + 6 ≤ _; omega)
  clear hd hB hC hW1 hs ha h64 hO
  go_enter Try.func30, Try.ntmps30
  go_wp2_with (first
    | (at_builtin; rw [← HW.out]; refine wpList_append_sl rfl _ _ 35 rfl Try.underlying35 infoInts (by decide) rfl rfl HO.out HX.out HLN.out (by have := HS.out; omega) ?_; intro v1 w1 hown1 hb1; obtain ⟨ys, hys⟩ : ∃ ys, ys = headL f deps.length ++ deps := ⟨_, rfl⟩; rw [← hys] at hown1 HLT; have HO1 := Lib.hid hown1; have HB1 := Lib.hid (HB.out.trans (hb1.mono (Nat.le_succ _))); have HC1 := Lib.hid (HC.out.below (Nat.lt_succ_self _) hb1); have HS1 : Hid (w.heap.size + 2 ≤ w1.heap.size) := Lib.hid (by have := hb1.size; have := HS.out; omega); have hsh := hown1.sl.shape; have HYS := Lib.hid hys; clear hown1 hb1 HO HX HLN HC HB HS HW hys; obtain ⟨A1, c1, rfl⟩ := hsh; have d4 := (HC1.out 4 (by decide)).1; have d5 := (HC1.out 5 (by decide)).1; have d6 := (HC1.out 6 (by decide)).1; have d7 := (HC1.out 7 (by decide)).1; have d8 := (HC1.out 8 (by decide)).1; have d9 := (HC1.out 9 (by decide)).1; dsimp only [evC] at d4 d5 d6 d7 d8 d9)
    | (at_builtin; refine wpList_append_sl rfl _ _ 35 rfl Try.underlying35 infoInts (by decide) rfl rfl (HO1.out.grow _) (Sl.built w1 _ _ (tailL f) 6 _ rfl rfl rfl) HLT.out (by rw [World.size_alloc]; have := HS1.out; omega) ?_; intro v2 w2 hown2 hb2; obtain ⟨zs, hzs⟩ : ∃ zs, zs = ys ++ tailL f := ⟨_, rfl⟩; rw [← hzs] at hown2; have HO2 := Lib.hid hown2; have HB2 := Lib.hid ((HB1.out.alloc (by have := HS1.out; omega) _).trans (hb2.mono (Nat.le_succ _))); have HZS : Hid (zs = evL f deps) := Lib.hid (by rw [hzs, HYS.out]; rfl); have hsh := hown2.sl.shape; clear hown2 hb2 HO1 HB1 HC1 HS1 HLT d4 d5 d6 d7 d8 d9 hzs HYS; obtain ⟨A2, c2, rfl⟩ := hsh))
  have hlen : zs.length = deps.length + 10 := by rw [HZS.out]; unfold evL; simp
  have HL2 := Lib.hid HO2.out.sl
  rw [← HZS.out] at HA
  clear HO2
  have HLEN := Lib.hid hlen
  clear hlen
  go_loopw [5, 6] (fun b i wr => ∃ k : Nat, k ≤ zs.length ∧ i = .int .i64 k ∧ OwnBytes wr w2.heap.size b (encs (zs.take k)) ∧ Below w2.heap.size w2 wr) (fun _ i _ => zs.length - (intOf i).toNat)
  case atStart => exact ⟨0, Nat.zero_le _, rfl, by simpa [encs] using OwnK.nil_ _ _, Below.refl _ _⟩
  case round =>
    obtain ⟨k, hk, rfl, hown, hb⟩ := hrel
    have HO := Lib.hid hown
    have HB := Lib.hid hb
    clear hown hb
    by_cases hlt : k < zs.length
    · obtain ⟨b, off, rfl, hbB, hcap, hcx⟩ := (HL2.out.below HB.out).elem hlt
      have HT : Hid (encs (zs.take (k + 1)) = encs (zs.take k) ++ encI (zs[k]?.getD 0)) := by rw [take_succ' hlt, encs_snoc]; exact Lib.hid rfl
      obtain ⟨x, hx⟩ : ∃ x, x = zs[k]?.getD 0 := ⟨_, rfl⟩
      have hbk := HA.out x (by rw [hx, List.getElem?_eq_getElem hlt]; exact List.getElem_mem _)
      rw [← hx] at hcx HT
      have hle := encs_le (l := zs.take k) (fun y hy => HA.out y (List.mem_of_mem_take hy))
      have HL : Hid ((encs (zs.take k)).length ≤ 1099511627776) := by
        rw [List.length_take] at hle
        have := HLEN.out
        exact Lib.hid (by omega)
      have hs2 := HB.out.size
      have hkI : (k : Int) < (zs.length : Int) := by omega
      have hln : zs.length ≤ 74 := by have := HLEN.out; omega
      clear hle hx
      go_wp2_with fail
      refine (rint_any _ x _ _ _ HO.out.sl (Nat.le_refl _) HL.out hbk.1 hbk.2).mono ?_
      rintro e w3 ⟨r, rfl, hr, hb3⟩
      rw [← HT.out] at hr
      have HR := Lib.hid (hr.down hs2)
      have HB3 := Lib.hid (Bel.then HB.out hb3)
      clear hr hb3
      go_wp2_with fail
      go_roundw
      case rel => exact ⟨k + 1, by omega, by go_num, HR.out, HB3.out⟩
      case measure => simp [intOf]; omega
    · have hk4 : k = zs.length := by omega
      subst hk4
      rw [List.take_length, HZS.out] at HO
      have hO := HO.out.down (B' := w.heap.size) HB2.out.size
      have hB := Bel.then HB2.out HB.out
      clear HO HB HL2
      go_wp2_with fail
      simp [bodyPost, results, Try.results30, go_sem, hB]
      exact hO
end Go.Proofs.Ytjjccjannandlaa
