/- What the row's listed variables give the walks: the two tables of schema. -/
import Derived.Test.YtamnligooelmgaaDoorCards
import Derived.Test.YtamnligooelmgaaDoorTie
import Derived.Test.YtamnligooelmgaaDoorSWrong
import Derived.Test.YtamnligooelmgaaDoorOpenS
import Derived.ProofKit
import Derived.LaidMore
import Derived.OpenShut
set_option maxRecDepth 100000
set_option linter.unusedVariables false
set_option linter.unusedSimpArgs false
namespace Go.Proofs.YtamnligooelmgaaDoor
open Go.ChangeShapes Go.WideShapes Go.ChangeAt Go.RowKit

theorem gPol : Tryd.prog.globalNamed "quayside/schema.policies" = some 1 := by kernel_rfl
theorem gKin : Tryd.prog.globalNamed "quayside/schema.kinds" = some 0 := by kernel_rfl
theorem tPol : (Tryd.prog.globals[1]?).map (·.type) = some 59 := by kernel_rfl
theorem tKin : (Tryd.prog.globals[0]?).map (·.type) = some 58 := by kernel_rfl
theorem cells_arr5 : Tryd.prog.cellsOf 59 = 5 := by kernel_rfl
theorem cells_arr6 : Tryd.prog.cellsOf 58 = 6 := by kernel_rfl

/-- An array of integers whose reading is known. -/
theorem arr_cells {H : Type} {enc : TypeId × Value → H} {P : Program} {w : World} {base : Nat} {spare : Nat → Bool} {held : Bool} {fuel n : Nat} {t e : TypeId} {cs : List Value} {q : List MemPlace} {ns : List Int} (ht : P.underlying t = some (.array n e)) (he : P.underlying e = some (.int .i64)) (hc : P.cellsOf e = 1) (hct : P.cellsOf t = n) (hn : ns.length = n)
    (h : DataW.trod enc P w base spare held fuel t cs = some (.agg (ns.map fun k => .lit (.int .i64 k)), q)) : ∀ i, i < n → cs[i]? = some (.int .i64 (ns[i]?.getD 0)) := by
  obtain ⟨xs, m, rfl, hx, hlen, hxn, hel⟩ := DataW.trod_array ht h
  simp only [Prod.mk.injEq, DataW.agg.injEq] at hx
  intro i hi
  have h1 := hel i hi
  rw [hc, Nat.mul_one] at h1
  have hxi : xs[i]? = some xs[i] := List.getElem?_eq_getElem (by omega)
  rw [hxi] at h1
  obtain ⟨k, e1, e2, _⟩ := DataW.trod_int he h1
  have e3 : (xs.map (·.1))[i]? = (ns.map fun k => (DataW.lit (.int .i64 k) : DataW H))[i]? := by rw [← hx.1]
  rw [List.getElem?_map, List.getElem?_map, hxi, List.getElem?_eq_getElem (by omega : i < ns.length)] at e3
  simp only [Option.map_some, Option.some.injEq, e2, DataW.lit.injEq, Lit.int.injEq, true_and] at e3
  have e4 : cs[i]? = ((cs.drop i).take 1)[0]? := by rw [List.getElem?_take_of_lt (by decide), List.getElem?_drop, Nat.add_zero]
  rw [e4, e1, List.getElem?_eq_getElem (by omega : i < ns.length), e3]
  rfl

theorem tab_of_laid {W : World} (h : laidMetH Tryd.prog [("quayside/schema.policies", Rows.laid_quayside_schema_policies), ("quayside/schema.kinds", Rows.laid_quayside_schema_kinds)] W) : Tab W := by
  rw [MakeChecks.laidMetH_plain _ _ _ (by kernel_rfl)] at h
  obtain ⟨ps, ⟨g0, t0, cs0, f0, p0, q0, hg0, ht0, hv0, hd0, ⟨g1, t1, cs1, f1, p1, q1, hg1, ht1, hv1, hd1, _, _⟩, _⟩, _, _⟩ := h
  obtain rfl := Option.some.inj (gPol.symm.trans hg0)
  obtain rfl := Option.some.inj (gKin.symm.trans hg1)
  obtain rfl := Option.some.inj (tPol.symm.trans ht0)
  obtain rfl := Option.some.inj (tKin.symm.trans ht1)
  have c0 := arr_cells (ns := polL) Tryd.underlying59 Tryd.underlying3 Tryd.cellsOneInt cells_arr5 rfl hd0
  have c1 := arr_cells (ns := kindsL) Tryd.underlying58 Tryd.underlying3 Tryd.cellsOneInt cells_arr6 rfl hd1
  have v0 : ∀ i, i < 5 → W.cell? ⟨1, i, none⟩ = some (.int .i64 (polL[i]?.getD 0)) := fun i hi => by
    have := World.var?_cell hg0 hv0 i
    rw [this, ← c0 i hi]
    simp
  have v1 : ∀ i, i < 6 → W.cell? ⟨0, i, none⟩ = some (.int .i64 (kindsL[i]?.getD 0)) := fun i hi => by
    have := World.var?_cell hg1 hv1 i
    rw [this, ← c1 i hi]
    simp
  refine ⟨?_, v1, v0⟩
  rcases Nat.lt_or_ge 1 W.heap.size with h | h
  · exact h
  · have := v0 0 (by decide)
    simp [World.cell?, Array.getElem?_eq_none h] at this

/-- The door's own heap meets the condition. -/
theorem door_met (os : Os) (args : Array Value) : laidMetH Tryd.prog [("quayside/schema.policies", Rows.laid_quayside_schema_policies), ("quayside/schema.kinds", Rows.laid_quayside_schema_kinds)] ((World.doorLaid Tryd.prog 19 os).forCall (fun _ _ => 0) ⟨#[], args, []⟩).memory :=
  laidMetH_of_parts3 (fuel := 8) (laidMet_of_run' 8 (by kernel_rfl) (by kernel_rfl)) (by kernel_rfl) (by kernel_rfl)
end Go.Proofs.YtamnligooelmgaaDoor
