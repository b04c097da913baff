/- The document's Put of a command. -/
import Derived.Test.YtjjccjannandlaaRef4
import Derived.Test.YtjjccjannandlaaCmdP
import Derived.Test.YtjjccjannandlaaKitInts
set_option linter.unusedVariables false
set_option linter.unusedSimpArgs false
namespace Go.Proofs.Ytjjccjannandlaa
open Go.RowKit Go.BigFrame

set_option maxHeartbeats 4000000 in
theorem rPut_any (v : Nat → Int) (w : World) (h64 : V64 v) :
    Calls Try.prog 17 #[cmdV v] w fun e w' => ∃ r, e = .returned r ∧ OwnBytes w' w.heap.size r (encs (firstN v 7)) ∧ Below w.heap.size w w' := by
  have H64 := Lib.hid h64
  clear h64
  go_enter Try.func17, Try.ntmps17
  go_wp2_with fail
  obtain ⟨w1, hw1⟩ : ∃ w1, w1 = (w.alloc (.cells #[.int .i64 (v 0), .int .i64 (v 1), .int .i64 (v 2), .int .i64 (v 3), .int .i64 (v 4), .int .i64 (v 5), .int .i64 (v 6)] 24)).alloc (.cells #[.int .i64 (v 0), .int .i64 (v 1), .int .i64 (v 2), .int .i64 (v 3), .int .i64 (v 4), .int .i64 (v 5), .int .i64 (v 6)] 3) := ⟨_, rfl⟩
  rw [← hw1]
  have hB1 : Below w.heap.size w w1 := by rw [hw1]; exact Bel.grew (Bel.grew (Below.refl _ _) _) _
  have hs1 : w1.heap.size = w.heap.size + 2 := by rw [hw1]; simp
  have hc : ∀ i, i < 7 → w1.cell? ⟨w.heap.size + 1, i, none⟩ = some (.int .i64 (v i)) := by
    intro i hi
    rw [hw1]
    rcases (show i = 0 ∨ i = 1 ∨ i = 2 ∨ i = 3 ∨ i = 4 ∨ i = 5 ∨ i = 6 from by omega) with rfl | rfl | rfl | rfl | rfl | rfl | rfl
    all_goals simp [go_sem]
  have HC := Lib.hid hc
  have HB1 := Lib.hid hB1
  have HS1 := Lib.hid hs1
  clear hw1 hc hB1 hs1
  go_loopw [4, 5] (fun b i wr => ∃ k : Nat, k ≤ 7 ∧ i = .int .i64 k ∧ OwnBytes wr w1.heap.size b (encs (firstN v k)) ∧ Below w1.heap.size w1 wr) (fun _ i _ => 7 - (intOf i).toNat)
  case atStart => exact ⟨0, by omega, rfl, OwnK.nil_ _ _, Below.refl _ _⟩
  case round =>
    obtain ⟨k, hk, rfl, hown, hb⟩ := hrel
    have HO := Lib.hid hown
    have HB := Lib.hid hb
    clear hown hb
    by_cases hk7 : k < 7
    · have hck : wr.cell? ⟨w.heap.size + 1, k, none⟩ = some (.int .i64 (v k)) := by
        have h2 := HS1.out
        exact (HB.out.cell (p := ⟨w.heap.size + 1, k, none⟩) (by show w.heap.size + 1 < _; omega)).trans (HC.out k hk7)
      have hbk := H64.out k hk7
      have hlen := encs_le (firstN_64 H64.out (k := k) (by omega))
      have HSU := Lib.hid (congrArg encs (firstN_succ v k))
      have HL : Hid ((encs (firstN v k)).length ≤ 1099511627776) := by
        rw [firstN_length] at hlen
        exact Lib.hid (by omega)
      obtain ⟨x, hx⟩ : ∃ x, x = v k := ⟨_, rfl⟩
      rw [← hx] at hck hbk HSU
      have hs2 := HB.out.size
      have hkI : (k : Int) < 7 := by omega
      clear hlen hx
      go_wp2_with fail
      refine (rint_any _ x _ _ _ HO.out.sl (Nat.le_refl _) HL.out hbk.1 hbk.2).mono ?_
      rintro e w3 ⟨r, rfl, hr, hb3⟩
      rw [← encs_snoc, ← HSU.out] at hr
      have HR := Lib.hid (hr.down hs2)
      have HB3 := Lib.hid (Bel.then HB.out hb3)
      clear hr hb3
      go_wp2_with fail
      go_roundw
      case rel => exact ⟨k + 1, by omega, by go_num, HR.out, HB3.out⟩
      case measure => simp [intOf]; omega
    · have hk4 : k = 7 := by omega
      subst hk4
      go_wp2
      go_ret
      exact ⟨_, rfl, HO.out.down HB1.out.size, Bel.then HB1.out HB.out⟩
end Go.Proofs.Ytjjccjannandlaa
