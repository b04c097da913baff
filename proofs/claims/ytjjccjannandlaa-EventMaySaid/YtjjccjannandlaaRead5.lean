/- The reader: reading, its deferred closure. -/
import Derived.Test.YtjjccjannandlaaRead4
set_option linter.unusedVariables false
set_option linter.unusedSimpArgs false
namespace Go.Proofs.Ytjjccjannandlaa
open Go.RowKit Go.BigFrame

set_option maxHeartbeats 4000000 in
theorem catch_idle (q r : Addr) (w : World) :
    CallsD Try.prog 63 #[.pointer (some q), .pointer (some r)] .returning w fun e u' w' => e = .returned (.tuple #[]) ∧ u' = .returning ∧ w' = w := by
  refine callsD_of_wpS Try.func63 rfl fun c₀ cs hu => ?_
  apply wpS_seq
  apply wpS_region
  simp [wpOpsS, go_sem, recoverD, hu, Try.ntmps63, Exit.thenS]
  refine wpS_of_wp ?_
  rw [show (#[Value.pointer (some q), Value.pointer (some r)] ++ (Array.replicate 17 undef).setIfInBounds 3 Value.nilIface) = #[Value.pointer (some q), Value.pointer (some r), undef, undef, undef, Value.nilIface, undef, undef, undef, undef, undef, undef, undef, undef, undef, undef, undef, undef, undef] from rfl]
  have hnil : ∀ w : World, (binOp BinOp.eql 20 .nilIface .nilIface).run Try.prog w = .ok (.bool true) w := fun _ => by kernel_rfl
  go_wp2
  cases c₀
  simp_all [bodyPostS, results, Try.results63]

set_option maxHeartbeats 4000000 in
theorem catch_halt (q r : Nat) (p : Nat) (from_ c x y : Int) (older : List PanicEntry) (w : World) (hq : w.cell? ⟨q, 0, none⟩ = some (.int .i64 from_)) (hr : w.cell? ⟨r, 0, none⟩ = some (.pointer (some ⟨p, 0, none⟩)))
    (h1 : w.cell? ⟨p, 1, none⟩ = some (.int .i64 x)) (h2 : w.cell? ⟨p, 2, none⟩ = some (.int .i64 y)) (hf : ∀ i, w.frozen? ⟨p, i, none⟩ = false) :
    CallsD Try.prog 63 #[.pointer (some ⟨q, 0, none⟩), .pointer (some ⟨r, 0, none⟩)] (.panicking ({ v := .iface 89 (.int .i64 c), recovered := false } :: older)) w fun e u' w' =>
      e = .returned (.tuple #[]) ∧ u' = .panicking ({ v := .iface 89 (.int .i64 c), recovered := true } :: older) ∧ w' = (w.setCell ⟨p, 1, none⟩ (.int .i64 from_)).setCell ⟨p, 2, none⟩ (.int .i64 c) := by
  refine callsD_of_wpS Try.func63 rfl fun c₀ cs hu => ?_
  apply wpS_seq
  apply wpS_region
  simp [wpOpsS, go_sem, recoverD, hu, Try.ntmps63, Exit.thenS]
  refine wpS_of_wp ?_
  rw [show (#[Value.pointer (some ⟨q, 0, none⟩), Value.pointer (some ⟨r, 0, none⟩)] ++ (Array.replicate 17 undef).setIfInBounds 3 (Value.iface 89 (.int .i64 c))) = #[Value.pointer (some ⟨q, 0, none⟩), Value.pointer (some ⟨r, 0, none⟩), undef, undef, undef, Value.iface 89 (.int .i64 c), undef, undef, undef, undef, undef, undef, undef, undef, undef, undef, undef, undef, undef] from rfl]
  have hnil : ∀ w : World, (binOp BinOp.eql 20 (.iface 89 (.int .i64 c)) .nilIface).run Try.prog w = .ok (.bool false) w := fun _ => by kernel_rfl
  have hta : ∀ w : World, (Instr.typeAssert (.iface 89 (.int .i64 c)) 20 89 true).run Try.prog w = .ok (.tuple #[.int .i64 c, .bool true]) w := fun _ => by kernel_rfl
  go_wp2
  simp [bodyPostS, results, Try.results63]
end Go.Proofs.Ytjjccjannandlaa
