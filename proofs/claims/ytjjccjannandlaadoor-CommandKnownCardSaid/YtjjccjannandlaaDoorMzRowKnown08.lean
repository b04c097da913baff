/- CommandKnown: it returns true. No condition; the two listed tables are tied to the program's text. -/
import Derived.Test.YtjjccjannandlaaDoorMzKnown08
import Derived.Test.YtjjccjannandlaaDoorMzSTab
import Derived.Test.YtjjccjannandlaaDoorOpen
set_option maxRecDepth 100000
set_option maxRecDepth 100000
set_option linter.unusedVariables false
set_option linter.unusedSimpArgs false
namespace Go.Proofs.YtjjccjannandlaaDoor
open Go.ChangeShapes Go.WideShapes Go.ChangeAt Go.RowKit

set_option maxRecDepth 100000 in
theorem commandKnown_lifted (os : Os) (started : os.Started) (H : Type) (enc : TypeId × Value → H) :
    ReturnsInHanded {} Tryd.checked os 5 .any (fun w args => (Rows.commandKnownSpec.pre enc Tryd.prog Tryd.f5 [] false w args ∧ laidMetH Tryd.prog [("quayside/schema.policies", Rows.laid_quayside_schema_policies), ("quayside/schema.kinds", Rows.laid_quayside_schema_kinds)] w) ∧ sizedMet enc Tryd.prog Tryd.f5 (OpenSpec.ofChange Rows.commandKnownSpec) false w args)
      (Rows.commandKnownSpec.post enc Tryd.prog Tryd.f5 false true false false) := by
  refine returnsInHanded_of_change_and (C := Tryd.checked) (X := fun w _ => laidMetH Tryd.prog [("quayside/schema.policies", Rows.laid_quayside_schema_policies), ("quayside/schema.kinds", Rows.laid_quayside_schema_kinds)] w) (fun _ _ _ hh h => h.of_heap hh) Tryd.own started (by kernel_rfl) Tryd.func5
    (ChangeSpec.witness_shaped (enc := enc) (C := Tryd.checked) (os := os) (X := fun w _ => laidMetH Tryd.prog [("quayside/schema.policies", Rows.laid_quayside_schema_policies), ("quayside/schema.kinds", Rows.laid_quayside_schema_kinds)] w) false (World.doorLaid Tryd.prog 19 os) #[] 8 rfl (World.shaped_of_RefB (by kernel_rfl) (by kernel_rfl)) (by kernel_rfl) (by kernel_rfl) (by kernel_rfl) (door_met os _)) ?_
  intro W base args ds gs before hval0 hW _ hsz0 hL _
  have hval : ∀ (j : Nat) t v, Tryd.f5.params[j]? = some t → args[j]? = some v → Value.okWide Tryd.prog W .any base t v := hval0
  have hW' := hW
  obtain ⟨p, q, hA0, hV, rfl, hfz, hnd⟩ := hW
  have hA : DataW.TrodAll enc Tryd.prog W 0 (fun _ => true) true Tryd.f5.params.toList args.toList ds p := hA0
  rw [Tryd.params5] at hA hval
  obtain ⟨rfl, rfl, rfl⟩ := trodAll_none hA
  have hT := tab_of_laid hL
  clear hA0 hval0 hL
  refine (commandKnown_any W hT).mono fun r W' ⟨he, hb⟩ => ?_
  subst he
  exact ⟨_, rfl, law_post Tryd.laidOut hW' rfl (fun l hl => by match l, hl with | [], _ => rfl) rfl Tryd.underlying4 (by kernel_rfl) hb⟩

theorem commandKnown_holds : Rows.CommandKnownSaid :=
  OpenClaim.holds_of_wide 5 Tryd.f5 rfl rfl rfl rfl rfl rfl rfl ⟨rfl, rfl, rfl, rfl, rfl⟩ rfl rfl rfl rfl rfl (by kernel_rfl) Tryd.func5 (by kernel_rfl)
    (of_decide_eq_true (by kernel_rfl)) (by unfold Func.isWrapper; first | (rw [if_pos (by decide +kernel)]; kernel_rfl) | (rw [if_neg (by decide +kernel)]; exact ⟨rfl, rfl⟩))
    (fun os started H enc _ => commandKnown_lifted os started H enc)
/-- The statement: the row, its listed variables tied to the program's text. -/
theorem commandKnown_card : Rows.CommandKnownCardSaid :=
  Claim7.holds_tied_plain_at .later [] [.data, .data] true (true, "a7da0ede6b774aaedec88b5dd6caa20be37e97a59f55ba52086a1114488a103b") true
    commandKnown_holds (fun _ h => by cases h) (by kernel_rfl) (fun _ h => by cases h) commandKnown_row_tie rfl ⟨rfl, rfl⟩ (by kernel_rfl) rfl
    (fun f fn hf hfn => by
      obtain rfl : f = 5 := Option.some.inj ((show Tryd.prog.funcNamed "quayside/quaysidelaw08.CommandKnown" = some 5 by kernel_rfl).symm.trans hf) |>.symm
      obtain rfl : fn = Tryd.f5 := (Option.some.inj (Tryd.func5.symm.trans hfn)).symm
      exact ⟨by kernel_rfl, fun j t ht => by
        rw [Tryd.params5] at ht
        simp at ht⟩)
    (by kernel_rfl)
#print axioms commandKnown_card
end Go.Proofs.YtjjccjannandlaaDoor
