/- Arguments opened, with the form's own reach: slices of integers, slices of structs, a struct's fields. -/
import Derived.Test.YtamnligooelmgaaDoorOpenS
import Derived.Test.YtamnligooelmgaaDoorKitR
import Derived.SizedLaws
import Derived.Deep.Slices
set_option maxRecDepth 100000
set_option linter.unusedVariables false
set_option linter.unusedSimpArgs false
namespace Go.Proofs.YtamnligooelmgaaDoor
open Go.ChangeShapes Go.WideShapes Go.ChangeAt Go.RowKit

/-- No string, slice or map that is read weighs more than M. -/
def Wt {H : Type} (P : Program) (t : TypeId) (d : DataW H) (M : Nat) : Prop := ∀ m ∈ d.weights P t, m ≤ M
section
variable {H : Type} {enc : TypeId × Value → H} {P : Program} {w : World} {base : Nat} {held : Bool}
theorem wt_arg {ts : List TypeId} {ds : List (DataW H)} (h : (DataW.weightsEach P ts ds).all (· ≤ reachBytes) = true) {j : Nat} {t : TypeId} {d : DataW H} (ht : ts[j]? = some t) (hd : ds[j]? = some d) : Wt P t d reachBytes := fun m hm => by
  have := List.all_eq_true.1 h _ (DataW.weights_mem_each ht hd m hm)
  simpa using this

/-- A slice of integers that came in. -/
theorem ints_of_trod {t e : TypeId} {k : IntKind} {fuel : Nat} {v : Value} {x : DataW H × List MemPlace} (ht : P.underlying t = some (.slice e)) (he : P.underlying e = some (.int k)) (hc : P.cellsOf e = 1)
    (h : DataW.trod enc P w base (fun _ => true) held fuel t [v] = some x) :
    ∃ xs : List Int, Sl k w w.heap.size v xs ∧ xs.length ≤ maxLen ∧ (∀ n ∈ xs, (Lit.int k n).wf = true) ∧ ∀ M, Wt P t x.1 M → xs.length * P.bytesOf e ≤ M := by
  rcases open_ints ht he hc h with ⟨hv, _⟩ | ⟨a, len, cap, zs, hv, _, hl, hm, hz, hx, hcell, hwf⟩
  · simp only [List.cons.injEq, and_true] at hv
    subst hv
    exact ⟨[], Sl.nil_, by simp [maxLen], by simp, by simp⟩
  · simp only [List.cons.injEq, and_true] at hv
    subst hv
    simp only [if_true] at hz
    have hlen : (zs.take len).length = len := by simp; omega
    refine ⟨zs.take len, ?_, by omega, fun n hn => hwf n (List.mem_of_mem_take hn), fun M hM => ?_⟩
    · rcases Nat.eq_zero_or_pos len with h0 | h0
      · subst h0
        exact .inl ⟨some a, cap, rfl, rfl⟩
      · obtain ⟨b, off, rfl, hc'⟩ := ints_at hcell (by omega)
        refine .inr ⟨b, off, cap, by rw [hlen], ?_, by omega, fun i hi => ?_⟩
        · have := hc' 0 (by omega)
          rcases Nat.lt_or_ge b w.heap.size with hlt | hge
          · exact hlt
          · simp [World.cell?, Array.getElem?_eq_none hge] at this
        · rw [hc' i (by omega), List.getD_eq_getElem?_getD, List.getElem?_take_of_lt (by omega)]
    · rw [hlen]
      refine Nat.le_trans (Nat.mul_le_mul_right _ hl) ?_
      subst hx
      have := hM ((lits (H := H) k (zs.take len)).length * P.bytesOf e + (lits (H := H) k (zs.drop len)).length * P.bytesOf e) (by simp [DataW.weights, ht, Nat.add_mul])
      simp only [lits, List.length_map, ← Nat.add_mul] at this
      rw [← List.length_append, List.take_append_drop, hz] at this
      exact this

/-- A slice of structs that came in. -/
theorem elems_of_trod {t e : TypeId} {fuel : Nat} {v : Value} {x : DataW H × List MemPlace} (ht : P.underlying t = some (.slice e)) (hc : 0 < P.cellsOf e) (h : DataW.trod enc P w base (fun _ => true) held fuel t [v] = some x) :
    ∃ (rows : List (List Value)), SlR (P.cellsOf e) w w.heap.size v rows ∧ rows.length ≤ maxLen ∧ (∀ M, Wt P t x.1 M → rows.length * P.bytesOf e ≤ M) ∧
      ∀ r ∈ rows, ∃ n y, DataW.trod enc P w base (fun _ => true) held n e r = some y ∧ r.length = P.cellsOf e ∧ ∀ M, Wt P t x.1 M → Wt P e y.1 M := by
  rcases Go.Deep.open_slice ht h with ⟨hv, _⟩ | ⟨a, len, cap, m, n, D, Pl, hv, _, hl, hm, hmm, hx, hcell⟩
  · simp only [List.cons.injEq, and_true] at hv
    subst hv
    exact ⟨[], .inl ⟨none, 0, rfl, rfl⟩, by simp, by simp, by simp⟩
  · simp only [List.cons.injEq, and_true] at hv
    subst hv
    simp only [if_true] at hmm
    subst hmm
    obtain ⟨C, hC⟩ := Go.Deep.choose_lt hcell
    have hlen : ((List.range len).map C).length = len := by simp
    have hmem : ∀ i, i < m → ∀ M, Wt P t x.1 M → Wt P e (D i) M := by
      intro i hi M hM k hk
      refine hM k ?_
      subst hx
      simp only [DataW.weights, ht, List.mem_cons, List.mem_append]
      have key : ∀ (l : List (DataW H)), D i ∈ l → k ∈ DataW.weightsAll P e l := by
        intro l
        induction l with
        | nil => intro h; cases h
        | cons d l ih =>
          intro h
          simp only [DataW.weightsAll, List.mem_append]
          rcases List.mem_cons.1 h with rfl | h
          · exact .inl hk
          · exact .inr (ih h)
      by_cases hil : i < len
      · exact .inr (.inl (key _ (List.mem_map.2 ⟨i, by simpa using hil, rfl⟩)))
      · exact .inr (.inr (key _ (List.mem_map.2 ⟨i - len, by simp; omega, by rw [show len + (i - len) = i from by omega]⟩)))
    refine ⟨(List.range len).map C, ?_, by omega, fun M hM => ?_, fun r hr => ?_⟩
    · rcases Nat.eq_zero_or_pos len with h0 | h0
      · subst h0
        exact .inl ⟨some a, m, rfl, rfl⟩
      · obtain ⟨b, off, spot⟩ := a
        have h00 := (World.cells?_some (hC 0 (by omega)).1).2
        have hspot : spot = none := by
          have h1 := h00.2 0 (by omega)
          rw [List.getElem?_eq_getElem (by omega)] at h1
          simpa [Addr.add] using World.cell?_spot h1
        subst hspot
        have hcc : ∀ i, i < len → ∀ j u, (C i)[j]? = some u → w.cell? ⟨b, off + i * P.cellsOf e + j, none⟩ = some u := by
          intro i hi j u hu
          obtain ⟨h1, h2⟩ := (World.cells?_some (hC i (by omega)).1).2
          have hj : j < P.cellsOf e := by
            have := (List.getElem?_eq_some_iff.1 hu).1
            omega
          have := h2 j hj
          rw [hu, Go.Deep.add_add, Go.WideShapes.add_plain, ← Nat.add_assoc] at this
          exact this
        refine .inr ⟨b, off, m, by rw [hlen], ?_, by omega, fun i r hr => ?_⟩
        · have h1 := h00.2 0 (by omega)
          rw [List.getElem?_eq_getElem (by omega)] at h1
          have := hcc 0 (by omega) 0 _ (List.getElem?_eq_getElem (by omega))
          rcases Nat.lt_or_ge b w.heap.size with hlt | hge
          · exact hlt
          · simp [World.cell?, Array.getElem?_eq_none hge] at this
        · rw [List.getElem?_map] at hr
          by_cases hi : i < len
          · rw [List.getElem?_range hi] at hr
            simp only [Option.map_some, Option.some.injEq] at hr
            subst hr
            exact hcc i hi
          · rw [List.getElem?_eq_none (by simp; omega)] at hr; cases hr
    · rw [hlen]
      refine Nat.le_trans (Nat.mul_le_mul_right _ hl) ?_
      subst hx
      have := hM (((List.range len).map D).length * P.bytesOf e + ((List.range (m - len)).map fun j => D (len + j)).length * P.bytesOf e) (by simp [DataW.weights, ht, Nat.add_mul])
      simp only [List.length_map, List.length_range, ← Nat.add_mul] at this
      rw [show len + (m - len) = m from by omega] at this
      exact this
    · obtain ⟨i, hi, rfl⟩ := List.mem_map.1 hr
      have hi' : i < len := by simpa using hi
      exact ⟨n, _, (hC i (by omega)).2, (World.cells?_some (hC i (by omega)).1).2.1, hmem i (by omega)⟩

/-- A struct's fields. -/
theorem flds_of_trod {t : TypeId} {fs : Array Field} {fuel : Nat} {cs : List Value} {x : DataW H × List MemPlace} (ht : P.underlying t = some (.struct fs)) (h : DataW.trod enc P w base (fun _ => true) held fuel t cs = some x) :
    cs.length = P.cellsOf t ∧ ∃ n, ∀ (i : Nat) (t' off : Nat), (fs[i]?).map (fun f => (f.type, f.offset)) = some (t', off) → ∃ y, DataW.trod enc P w base (fun _ => true) held n t' ((cs.drop off).take (P.cellsOf t')) = some y ∧ ∀ M, Wt P t x.1 M → Wt P t' y.1 M := by
  obtain ⟨xs, n, _, hx, hlen, hsz, hg⟩ := DataW.trod_struct ht h
  refine ⟨hlen, n, fun i t' off hf => ?_⟩
  cases hfi : fs[i]? with
  | none => rw [hfi] at hf; cases hf
  | some f =>
    rw [hfi] at hf
    simp only [Option.map_some, Option.some.injEq, Prod.mk.injEq] at hf
    obtain ⟨rfl, rfl⟩ := hf
    have hi : i < xs.length := by
      rw [hsz]
      exact (Array.getElem?_eq_some_iff.1 hfi).1
    refine ⟨_, (hg i f hfi).trans (List.getElem?_eq_getElem hi), fun M hM k hk => ?_⟩
    refine hM k ?_
    subst hx
    simp only [DataW.weights, ht]
    exact DataW.weights_mem_each (j := i) (t := f.type) (by simp [hfi]) (by rw [List.getElem?_map, List.getElem?_eq_getElem hi]; rfl) k hk
end
end Go.Proofs.YtamnligooelmgaaDoor
