/- The reader: reading, whatever it does. -/
import Derived.Test.YtjjccjannandlaaRead5
set_option linter.unusedVariables false
set_option linter.unusedSimpArgs false
namespace Go.Proofs.Ytjjccjannandlaa
open Go.RowKit Go.BigFrame

set_option maxHeartbeats 2000000 in
/-- An error is there: nothing is done. -/
theorem reading_skip (g : FuncId) (cap : Array Value) {xs : List Int} {S : Value} {p : Nat} {a why : Int} {w : World} (hR : Rd w p xs S a why) (hw : ¬ why = 0) :
    Calls Try.prog 52 #[.pointer (some ⟨p, 0, none⟩), .func (.func g) #[] cap] w fun e w' => e = .returned (.tuple #[]) ∧ Below w.heap.size w w' := by
  have hc2 := hR.c2
  have hplt := hR.lt
  have hwb : (why != 0) = true := by simp [hw]
  go_enter_defers Try.func52, Try.ntmps52
  go_wp2
  have hB := (Below.refl w.heap.size w).alloc (Nat.le_refl _) (.cells #[.pointer (some ⟨p, 0, none⟩)] 57)
  simp [bodyPostD, Leaves, settle, results, Try.results52, hB]

set_option maxHeartbeats 4000000 in
/-- It is done. -/
theorem reading_ok (g : FuncId) (cap : Array Value) (Q : World → Prop) {xs : List Int} {S : Value} {p : Nat} {a : Int} {w : World} (hR : Rd w p xs S a 0)
    (hen : ∀ W : World, (callFunc g cap).run Try.prog W = .ok (.enter g cap) W) (hdo : ∀ w1, Below w.heap.size w w1 → Calls Try.prog g cap w1 fun e w' => e = .returned (.tuple #[]) ∧ Q w') :
    Calls Try.prog 52 #[.pointer (some ⟨p, 0, none⟩), .func (.func g) #[] cap] w fun e w' => e = .returned (.tuple #[]) ∧ Q w' := by
  have hmf : ∀ (fn : Fn) (first cap : Array Value) (w : World), (Instr.makeFunc fn first cap).run Try.prog w = .ok (.func fn first cap) w := fun _ _ _ _ => rfl
  have hc1 := hR.c1
  have hc2 := hR.c2
  have hplt := hR.lt
  go_enter_defers Try.func52, Try.ntmps52
  have hB := ((Below.refl w.heap.size w).alloc (Nat.le_refl _) (.cells #[.pointer (some ⟨p, 0, none⟩)] 57)).alloc (by simp) (.cells #[.int .i64 a] 3)
  go_wp2_with fail
  refine (hdo _ hB).mono ?_
  rintro e w' ⟨rfl, hq⟩
  go_wp2_with fail
  refine leaves_cons (f := 63) (args := #[.pointer (some ⟨w.heap.size + 1, 0, none⟩), .pointer (some ⟨w.heap.size, 0, none⟩)]) (by simp) (by simp [go_sem]) ?_
  refine (catch_idle _ _ _).mono ?_
  rintro e u' w'' ⟨rfl, rfl, rfl⟩
  simp [Leaves, settle, results, Try.results52, go_sem, hq]

theorem But.cell {p : Nat} {w w' : World} (h : But p w w') {b o : Nat} (hb : b < w.heap.size) (hp : b ≠ p) : w'.cell? ⟨b, o, none⟩ = w.cell? ⟨b, o, none⟩ := World.cell?_of_block (w := w) (a := ⟨b, o, none⟩) (h.block b hb hp)

set_option maxHeartbeats 4000000 in
/-- It halts: nothing was read, and why is laid. -/
theorem reading_no (g : FuncId) (cap : Array Value) (c : Int) {xs : List Int} {S : Value} {p : Nat} {a : Int} {w : World} (hR : Rd w p xs S a 0)
    (hen : ∀ W : World, (callFunc g cap).run Try.prog W = .ok (.enter g cap) W) (hdo : ∀ w1, Below w.heap.size w w1 → Calls Try.prog g cap w1 fun e w' => e = .panicked (haltP c) ∧ But p w1 w' ∧ ∃ a', Rd w' p xs S a' 0) :
    Calls Try.prog 52 #[.pointer (some ⟨p, 0, none⟩), .func (.func g) #[] cap] w fun e w' => e = .returned (.tuple #[]) ∧ But p w w' ∧ Rd w' p xs S a c := by
  have hmf : ∀ (fn : Fn) (first cap : Array Value) (w : World), (Instr.makeFunc fn first cap).run Try.prog w = .ok (.func fn first cap) w := fun _ _ _ _ => rfl
  have hc1 := hR.c1
  have hc2 := hR.c2
  have hplt := hR.lt
  go_enter_defers Try.func52, Try.ntmps52
  have hB := ((Below.refl w.heap.size w).alloc (Nat.le_refl _) (.cells #[.pointer (some ⟨p, 0, none⟩)] 57)).alloc (by simp) (.cells #[.int .i64 a] 3)
  have hq0 : ((w.alloc (.cells #[.pointer (some ⟨p, 0, none⟩)] 57)).alloc (.cells #[.int .i64 a] 3)).cell? ⟨w.heap.size + 1, 0, none⟩ = some (.int .i64 a) := by simp [go_sem]
  have hr0 : ((w.alloc (.cells #[.pointer (some ⟨p, 0, none⟩)] 57)).alloc (.cells #[.int .i64 a] 3)).cell? ⟨w.heap.size, 0, none⟩ = some (.pointer (some ⟨p, 0, none⟩)) := by simp [go_sem]
  go_wp2_with fail
  refine (hdo _ hB).mono ?_
  rintro e w' ⟨rfl, hBut, a', hR'⟩
  have hq1 := (hBut.cell (o := 0) (by simp) (by omega)).trans hq0
  have hr1 := (hBut.cell (o := 0) (by simp; omega) (by omega)).trans hr0
  refine leaves_cons (f := 63) (args := #[.pointer (some ⟨w.heap.size + 1, 0, none⟩), .pointer (some ⟨w.heap.size, 0, none⟩)]) (by simp) (by simp [go_sem]) ?_
  refine (catch_halt _ _ _ _ _ _ _ _ _ hq1 hr1 hR'.c1 hR'.c2 hR'.fz).mono ?_
  rintro e u' w'' ⟨rfl, rfl, rfl⟩
  have hfin := (hR'.setAt a).setWhy c
  have hBF : But p w _ := ((But.of hB).trans hBut).store 1 (.int .i64 a)
  have hBF2 := hBF.store 2 (.int .i64 c)
  simp [Leaves, settle, results, Try.results52, go_sem, hfin, hBF2]
end Go.Proofs.Ytjjccjannandlaa
