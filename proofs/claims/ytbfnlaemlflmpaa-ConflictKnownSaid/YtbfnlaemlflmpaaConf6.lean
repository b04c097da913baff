/- The walks of ConflictTells and ConflictBoth: they return true. -/
import Derived.Test.YtbfnlaemlflmpaaConf5
set_option linter.unusedVariables false
set_option linter.unusedSimpArgs false
namespace Go.Proofs.Ytbfnlaemlflmpaa
open Go.RowKit Go.BigFrame

set_option maxHeartbeats 400000 in
theorem conflictTells_any (k p : Int) (fl : Bool) (mv : Value) (e e' : Ev) (d d' : Value) (xs xs' : List Int) (w : World) (hs : Sl .i64 w w.heap.size d xs) (hs' : Sl .i64 w w.heap.size d' xs') :
    Calls Try.prog 3 #[fdV k p fl mv, e.val d, e'.val d'] w
      fun r w' => r = .returned (.bool true) ∧ Below w.heap.size w w' := by
  have b0 : ∀ o1 o2 o3 (x : Later (((w.alloc o1).alloc o2).alloc o3)), Below w.heap.size w x.w := fun o1 o2 o3 x => Bel.then (Bel.grew (Bel.grew (Bel.grew (Below.refl _ _) _) _) _) x.h
  have b1 : ∀ o1 o2 o3 (x : Later (((w.alloc o1).alloc o2).alloc o3)), w.heap.size ≤ x.w.heap.size := fun o1 o2 o3 x => (b0 o1 o2 o3 x).size
  obtain ⟨A, c, rfl⟩ := hs.shape
  obtain ⟨A', c', rfl⟩ := hs'.shape
  have HS := Lib.hid hs
  have HS' := Lib.hid hs'
  clear hs hs'
  by_cases hl : 100 < xs.length ∨ 100 < xs'.length
  · go_enter Try.func3, Try.ntmps3
    go_wp2_with (go_at_call 13; refine (works12_any _).mono ?_; rintro r w1 ⟨rfl, hb1⟩)
    all_goals
      first
        | (go_ret; exact ⟨rfl, Bel.then (Bel.grew (Bel.grew (Bel.grew (Below.refl _ _) _) _) _) hb1⟩)
        | (exfalso; omega)
  · have hl1 : xs.length ≤ 100 := by omega
    have hl2 : xs'.length ≤ 100 := by omega
    clear hl
    cases hag : agn k e.op e.arg e'.op e'.arg <;> cases hvd : vd k p e e' xs xs'
    all_goals
      have HAG := Lib.hid hag
      have HVD := Lib.hid hvd
      clear hag hvd
      go_enter Try.func3, Try.ntmps3
      go_wp2_with fail
      refine wp_region_later (by kernel_rfl) (by kernel_rfl) ?_
      repeat (any_goals (first
        | go_big_quiet_step (first
          | (go_at_call 14; exact Later.callB (against_any k p fl mv e.op e.arg e'.op e'.arg _) HAG.out)
          | (go_at_call 15; exact Later.callB (ragainst_any k p fl mv e.op e.arg e'.op e'.arg _) HAG.out)
          | (go_at_call 16; exact Later.callB (voids_any k p fl mv e e' _ _ w.heap.size xs xs' _ (HS.out.below (b0 _ _ _ _)) (HS'.out.below (b0 _ _ _ _)) (b1 _ _ _ _)) HVD.out)
          | (go_at_call 17; exact Later.callB (rvoids_any k p fl mv e e' _ _ w.heap.size xs xs' _ (HS.out.below (b0 _ _ _ _)) (HS'.out.below (b0 _ _ _ _)) (b1 _ _ _ _)) HVD.out)
          | (go_at_call 13; exact Later.call (works12_any _)))))
      refine wpQuiet_nil ?_
      intro x
      obtain ⟨w3, hb3⟩ := x
      go_wp2
      go_ret
      exact ⟨rfl, Bel.then (Bel.grew (Bel.grew (Bel.grew (Below.refl _ _) _) _) _) hb3⟩

end Go.Proofs.Ytbfnlaemlflmpaa
