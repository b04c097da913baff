/- DeclBytes: any declarations have the bytes of the document, or none; any bytes are its declarations, or none; what is handed in stays. -/
import Derived.Test.YtjcocahhpjgbhaaMzDBytes
import Derived.Test.YtjcocahhpjgbhaaMzDOpen2
set_option maxRecDepth 100000
set_option maxRecDepth 100000
set_option linter.unusedVariables false
set_option linter.unusedSimpArgs false
namespace Go.Proofs.Ytjcocahhpjgbhaa
open Go.ChangeShapes Go.WideShapes Go.ChangeAt Go.RowKit

set_option maxRecDepth 100000 in
theorem declBytes_lifted (os : Os) (started : os.Started) (H : Type) (enc : TypeId × Value → H) :
    ReturnsInHanded {} Try.checked os 3 .any (Rows.declBytesSpec.pre6 enc Try.prog Try.f3 Rows.declBytesRow.domain false) (Rows.declBytesSpec.post enc Try.prog Try.f3 false true false false) := by
  refine returnsInHanded_of_change (C := Try.checked) Try.own started (by kernel_rfl) Try.func3
    (ChangeSpec.witness6 (enc := enc) (C := Try.checked) false ⟨#[], #[.agg #[.slice none 0 0, .slice none 0 0], .slice none 0 0], []⟩ 8 (by kernel_rfl) (by kernel_rfl) (by kernel_rfl) (by kernel_rfl)) ?_
  intro W base args ds gs before hval0 hW _ _
  have hval : ∀ (j : Nat) t v, Try.f3.params[j]? = some t → args[j]? = some v → Value.okWide Try.prog W .any base t v := hval0
  have hW' := hW
  obtain ⟨p, q, hA0, hV, rfl, hfz, hnd⟩ := hW
  have hA : DataW.TrodAll enc Try.prog W 0 (fun _ => true) true Try.f3.params.toList args.toList ds p := hA0
  rw [Try.params3] at hA hval
  obtain ⟨v0, v1, d0, d1, p0, p1, rfl, rfl, rfl, h0, h1⟩ := trodAll_two hA
  obtain ⟨D0, rfl, s0, m0⟩ := open_decl (hval 0 25 v0 rfl rfl) h0
  obtain ⟨xs1, s1, m1, r1⟩ := open_sl Try.underlying26 Try.underlying5 Try.cellsByte (hval 1 26 v1 rfl rfl) h1
  clear hA0 hval0
  refine (declBytes_any D0 xs1 v1 W s0 m0 s1 (bytes_wf r1)).mono fun r W' ⟨he, hb⟩ => ?_
  subst he
  exact ⟨_, rfl, law_post Try.laidOut hW' rfl (fun l hl => by match l, hl with | [a, b], _ => rfl) rfl Try.underlying4 (by kernel_rfl) hb⟩

theorem declBytes_holds : Rows.DeclBytesSaid :=
  OpenClaim.holds_of_wide 3 Try.f3 rfl rfl rfl rfl rfl rfl rfl ⟨rfl, rfl, rfl, rfl, rfl⟩ rfl rfl rfl rfl rfl (by kernel_rfl) Try.func3 (by kernel_rfl)
    (of_decide_eq_true (by kernel_rfl)) (by unfold Func.isWrapper; first | (rw [if_pos (by decide +kernel)]; kernel_rfl) | (rw [if_neg (by decide +kernel)]; exact ⟨rfl, rfl⟩))
    (fun os started H enc _ => declBytes_lifted os started H enc)
#print axioms declBytes_holds
end Go.Proofs.Ytjcocahhpjgbhaa
