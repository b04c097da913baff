/- SameEvent, of two that are alike. -/
import Derived.Test.YtjjccjannandlaaDoorMzCEvent
set_option maxRecDepth 100000
set_option maxRecDepth 100000
set_option linter.unusedVariables false
set_option linter.unusedSimpArgs false
namespace Go.Proofs.YtjjccjannandlaaDoor
open Go.RowKit Go.BigFrame

set_option maxHeartbeats 4000000 in
theorem sameEv_eq (e : Nat → Int) (dv du : Value) (xs : List Int) (w : World) (hx : Sl .i64 w w.heap.size dv xs) (hy : Sl .i64 w w.heap.size du xs) (hl : xs.length ≤ 1099511627776) :
    Calls Tryd.prog 12 #[evV e dv, evV e du] w fun r w' => r = .returned (.bool true) ∧ Below w.heap.size w w' := by
  obtain ⟨A, c, rfl⟩ := hx.shape
  obtain ⟨A', c', rfl⟩ := hy.shape
  have hb : ∀ o1 o2, Below w.heap.size w ((w.alloc o1).alloc o2) := fun o1 o2 => Bel.grew (Bel.grew (Below.refl _ _) _) _
  obtain ⟨W, hW⟩ : ∃ W, W = (w.alloc (.cells #[.int .i64 (e 0), .int .i64 (e 1), .int .i64 (e 2), .slice A xs.length c, .int .i64 (e 3), .int .i64 (e 4), .int .i64 (e 5), .int .i64 (e 6), .int .i64 (e 7), .int .i64 (e 8)] 37)).alloc (.cells #[.int .i64 (e 0), .int .i64 (e 1), .int .i64 (e 2), .slice A' xs.length c', .int .i64 (e 3), .int .i64 (e 4), .int .i64 (e 5), .int .i64 (e 6), .int .i64 (e 7), .int .i64 (e 8)] 37) := ⟨_, rfl⟩
  have hB : Below w.heap.size w W := by rw [hW]; exact hb _ _
  have h1 : Has W w.heap.size #[.int .i64 (e 0), .int .i64 (e 1), .int .i64 (e 2), .slice A xs.length c, .int .i64 (e 3), .int .i64 (e 4), .int .i64 (e 5), .int .i64 (e 6), .int .i64 (e 7), .int .i64 (e 8)] := by rw [hW]; exact (Has.new w _ _).grow _
  have h2 : Has W (w.heap.size + 1) #[.int .i64 (e 0), .int .i64 (e 1), .int .i64 (e 2), .slice A' xs.length c', .int .i64 (e 3), .int .i64 (e 4), .int .i64 (e 5), .int .i64 (e 6), .int .i64 (e 7), .int .i64 (e 8)] := by rw [hW]; exact Has.new1 _ _ _ (by rw [World.size_alloc])
  have HS := Lib.hid (sameInts_is (hx.later hB) (hy.later hB) (b := true) (decide_eq_true rfl) hl)
  have HW := Lib.hid hW
  have H1 := Lib.hid h1
  have H2 := Lib.hid h2
  have HB := Lib.hid hB
  clear hx hy hW h1 h2 hB hb
  go_enter Tryd.func12, Tryd.ntmps12
  go_wp2_with fail
  rw [← HW.out]
  refine HS.out.mono ?_
  rintro r w2 ⟨rfl, hb⟩
  have H1' := Lib.hid (H1.out.later hb)
  have H2' := Lib.hid (H2.out.later hb)
  have HB2 := Lib.hid (Bel.then HB.out hb)
  clear hb H1 H2 HB HS HW
  have hc1 := H1'.out.2
  have hc2 := H2'.out.2
  go_wp2_with fail
  go_ret
  exact ⟨rfl, HB2.out⟩
end Go.Proofs.YtjjccjannandlaaDoor
