/- The reader: Count. -/
import Derived.Test.YtjjccjannandlaaRead7
set_option linter.unusedVariables false
set_option linter.unusedSimpArgs false
namespace Go.Proofs.Ytjjccjannandlaa
open Go.RowKit Go.BigFrame

set_option maxHeartbeats 1000000 in
theorem count1_ok {xs : List Int} {S : Value} {p a k q1 q3 q2 : Nat} {n x most : Int} {w : World} (hR : Rd w p xs S a 0) (hl : xs.length ≤ 1099511627776) (hb : Bytes xs) (hn : countR (xs.drop a) most = .inr (n, k))
    (h1 : w.cell? ⟨q1, 0, none⟩ = some (.pointer (some ⟨p, 0, none⟩))) (h3 : w.cell? ⟨q3, 0, none⟩ = some (.int .i64 most)) (h2 : w.cell? ⟨q2, 0, none⟩ = some (.int .i64 x)) (hf : w.frozen? ⟨q2, 0, none⟩ = false) (hp2 : p < q2) (hlt : q2 < w.heap.size) :
    Calls Try.prog 60 #[.pointer (some ⟨q1, 0, none⟩), .pointer (some ⟨q3, 0, none⟩), .pointer (some ⟨q2, 0, none⟩)] w fun e w' => e = .returned (.tuple #[]) ∧ Wrote p q2 xs S ((a + k : Nat) : Int) (.int .i64 n) w w' := by
  have HN := Lib.hid (count_ok hR hl hb hn)
  clear hR hb hn
  go_enter Try.func60, Try.ntmps60
  go_wp2_with fail
  refine HN.out.mono ?_
  rintro e w1 ⟨rfl, hB1, hR1⟩
  have h2' := (hB1.cell (o := 0) hlt (by omega)).trans h2
  have hf' := (hB1.frozen (o := 0) hlt (by omega)).trans hf
  have HR1 := Lib.hid hR1
  clear hR1
  go_wp2_with fail
  go_end0
  exact ⟨rfl, w1, hB1, rfl, HR1.out.other hp2 0 _, World.cell?_setCell_same _ _ _ h2', by rw [World.frozen?_setCell]; exact hf'⟩
theorem count1_no {xs : List Int} {S : Value} {p a q1 q3 q2 : Nat} {c most : Int} {w : World} (hR : Rd w p xs S a 0) (hl : xs.length ≤ 1099511627776) (ha : a ≤ xs.length) (hb : Bytes xs) (hn : countR (xs.drop a) most = .inl c)
    (h1 : w.cell? ⟨q1, 0, none⟩ = some (.pointer (some ⟨p, 0, none⟩))) (h3 : w.cell? ⟨q3, 0, none⟩ = some (.int .i64 most)) :
    Calls Try.prog 60 #[.pointer (some ⟨q1, 0, none⟩), .pointer (some ⟨q3, 0, none⟩), .pointer (some ⟨q2, 0, none⟩)] w fun e w' => e = .panicked (haltP c) ∧ But p w w' ∧ ∃ a', Rd w' p xs S a' 0 := by
  have HN := Lib.hid (count_no hR hl ha hb hn)
  clear hR hb hn
  go_enter Try.func60, Try.ntmps60
  go_wp2_with fail
  refine HN.out.mono ?_
  rintro e w1 ⟨rfl, hB1, hR1⟩
  exact ⟨rfl, rfl, hB1, hR1⟩

set_option maxHeartbeats 2000000 in
theorem Count_any {xs : List Int} {S : Value} {p a : Nat} {why most : Int} {w : World} (hR : Rd w p xs S a why) (hl : xs.length ≤ 1099511627776) (ha : a ≤ xs.length) (hb : Bytes xs) (r : Int × Int × Int) (hr : stepR (countR (xs.drop a) most) a why = r) :
    Calls Try.prog 50 #[.pointer (some ⟨p, 0, none⟩), .int .i64 most] w fun e w' => e = .returned (.int .i64 r.1) ∧ But p w w' ∧ Rd w' p xs S r.2.1 r.2.2 := by
  have hmf : ∀ (fn : Fn) (first cap : Array Value) (w : World), (Instr.makeFunc fn first cap).run Try.prog w = .ok (.func fn first cap) w := fun _ _ _ _ => rfl
  have hsz : (((w.alloc (.cells #[.pointer (some ⟨p, 0, none⟩)] 57)).alloc (.cells #[.int .i64 most] 3)).alloc (.cells #[.int .i64 0] 3)).heap.size = w.heap.size + 3 := by simp
  have hc1 : (((w.alloc (.cells #[.pointer (some ⟨p, 0, none⟩)] 57)).alloc (.cells #[.int .i64 most] 3)).alloc (.cells #[.int .i64 0] 3)).cell? ⟨w.heap.size, 0, none⟩ = some (.pointer (some ⟨p, 0, none⟩)) := by simp [go_sem]
  have hm1 : (((w.alloc (.cells #[.pointer (some ⟨p, 0, none⟩)] 57)).alloc (.cells #[.int .i64 most] 3)).alloc (.cells #[.int .i64 0] 3)).cell? ⟨w.heap.size + 1, 0, none⟩ = some (.int .i64 most) := by simp [go_sem]
  have hc2 : (((w.alloc (.cells #[.pointer (some ⟨p, 0, none⟩)] 57)).alloc (.cells #[.int .i64 most] 3)).alloc (.cells #[.int .i64 0] 3)).cell? ⟨w.heap.size + 2, 0, none⟩ = some (.int .i64 0) := by simp [go_sem]
  have hf2 : (((w.alloc (.cells #[.pointer (some ⟨p, 0, none⟩)] 57)).alloc (.cells #[.int .i64 most] 3)).alloc (.cells #[.int .i64 0] 3)).frozen? ⟨w.heap.size + 2, 0, none⟩ = false := by simp [go_sem]
  have hB := (((Below.refl w.heap.size w).alloc (Nat.le_refl _) (.cells #[.pointer (some ⟨p, 0, none⟩)] 57)).alloc (by simp) (.cells #[.int .i64 most] 3)).alloc (by simp; omega) (.cells #[.int .i64 0] 3)
  have hplt := hR.lt
  have HH := Lib.hid (reading_num (g := 60) (cap := #[.pointer (some ⟨w.heap.size, 0, none⟩), .pointer (some ⟨w.heap.size + 1, 0, none⟩), .pointer (some ⟨w.heap.size + 2, 0, none⟩)]) (r := countR (xs.drop a) most) hR hB (by omega) (by rw [hsz]; omega) hc2 hf2 (fun W => by kernel_rfl)
    (fun n k w1 hw hn hb1 => by
      subst hw
      exact count1_ok ((hR.below hB).below hb1) hl hb hn ((hb1.cell (p := ⟨w.heap.size, 0, none⟩) (by rw [hsz]; simp)).trans hc1) ((hb1.cell (p := ⟨w.heap.size + 1, 0, none⟩) (by rw [hsz]; simp)).trans hm1) ((hb1.cell (p := ⟨w.heap.size + 2, 0, none⟩) (by rw [hsz]; simp)).trans hc2) ((hb1.frozen (p := ⟨w.heap.size + 2, 0, none⟩) (by rw [hsz]; simp)).trans hf2) (by omega) (by have := hb1.size; omega))
    (fun c w1 hw hn hb1 => by
      subst hw
      exact count1_no ((hR.below hB).below hb1) hl ha hb hn ((hb1.cell (p := ⟨w.heap.size, 0, none⟩) (by rw [hsz]; simp)).trans hc1) ((hb1.cell (p := ⟨w.heap.size + 1, 0, none⟩) (by rw [hsz]; simp)).trans hm1)))
  rw [hr] at HH
  clear hb hr hc1 hm1 hc2 hf2 hB hsz ha
  go_enter Try.func50, Try.ntmps50
  go_wp2_with fail
  refine HH.out.mono ?_
  rintro e w' ⟨rfl, hB2, hR2, hc2, hf2⟩
  have HR2 := Lib.hid hR2
  clear hR2 hR
  go_wp2_with fail
  have hc3 := World.cell?_setCell_same w' ⟨w.heap.size + 2, 0, none⟩ (.int .i64 r.1) hc2
  have hB3 := hB2.fresh (q := w.heap.size + 2) (by omega) 0 (.int .i64 r.1)
  have hR3 := HR2.out.other (q := w.heap.size + 2) (by omega) 0 (.int .i64 r.1)
  simp [bodyPost, results, Try.results50, go_sem, hc3, hB3, hR3]
end Go.Proofs.Ytjjccjannandlaa
