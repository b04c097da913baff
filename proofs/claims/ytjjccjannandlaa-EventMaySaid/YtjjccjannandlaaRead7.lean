/- The reader: Int and Count. -/
import Derived.Test.YtjjccjannandlaaRead6
set_option linter.unusedVariables false
set_option linter.unusedSimpArgs false
namespace Go.Proofs.Ytjjccjannandlaa
open Go.RowKit Go.BigFrame

theorem But.fresh {p : Nat} {a b : World} (h : But p a b) {q : Nat} (hq : a.heap.size ≤ q) (o : Nat) (v : Value) : But p a (b.setCell ⟨q, o, none⟩ v) :=
  ⟨h.os, h.tape, h.output, by simpa [World.setCell] using h.size, fun k hk hp => (Below.heap_setCell _ _ _ _ (by simp; omega)).trans (h.block k hk hp)⟩
theorem Rd.below1 {w w' : World} {p : Nat} {xs : List Int} {S : Value} {a why : Int} (h : Rd w p xs S a why) (hb : Below (p + 1) w w') : Rd w' p xs S a why :=
  ⟨Nat.lt_of_lt_of_le h.lt hb.size, h.sl.below (hb.mono (Nat.le_succ _)), (hb.cell (p := ⟨p, 0, none⟩) (Nat.lt_succ_self _)).trans h.c0, (hb.cell (p := ⟨p, 1, none⟩) (Nat.lt_succ_self _)).trans h.c1, (hb.cell (p := ⟨p, 2, none⟩) (Nat.lt_succ_self _)).trans h.c2, fun i => (hb.frozen (p := ⟨p, i, none⟩) (Nat.lt_succ_self _)).trans (h.fz i)⟩
theorem Rd.other {w : World} {p : Nat} {xs : List Int} {S : Value} {a why : Int} (h : Rd w p xs S a why) {q : Nat} (hq : p < q) (o : Nat) (v : Value) : Rd (w.setCell ⟨q, o, none⟩ v) p xs S a why :=
  h.below1 ((Below.refl _ _).setCell (by simp; omega) v)
theorem But.frozen {p : Nat} {w w' : World} (h : But p w w') {b o : Nat} (hb : b < w.heap.size) (hp : b ≠ p) : w'.frozen? ⟨b, o, none⟩ = w.frozen? ⟨b, o, none⟩ := World.frozen?_of_block (w := w) (a := ⟨b, o, none⟩) (h.block b hb hp)

/-- What a reading's closure leaves that wrote a number. -/
def Wrote (p q2 : Nat) (xs : List Int) (S : Value) (a : Int) (v : Value) (w1 w' : World) : Prop := ∃ w2, But p w1 w2 ∧ w' = w2.setCell ⟨q2, 0, none⟩ v ∧ Rd w' p xs S a 0 ∧ w'.cell? ⟨q2, 0, none⟩ = some v ∧ w'.frozen? ⟨q2, 0, none⟩ = false

set_option maxHeartbeats 1000000 in
theorem int1_ok {xs : List Int} {S : Value} {p a k q1 q2 : Nat} {n x : Int} {w : World} (hR : Rd w p xs S a 0) (hl : xs.length ≤ 1099511627776) (hb : Bytes xs) (hn : numR (xs.drop a) = .inr (n, k))
    (h1 : w.cell? ⟨q1, 0, none⟩ = some (.pointer (some ⟨p, 0, none⟩))) (h2 : w.cell? ⟨q2, 0, none⟩ = some (.int .i64 x)) (hf : w.frozen? ⟨q2, 0, none⟩ = false) (hp2 : p < q2) (hlt : q2 < w.heap.size) :
    Calls Try.prog 53 #[.pointer (some ⟨q1, 0, none⟩), .pointer (some ⟨q2, 0, none⟩)] w fun e w' => e = .returned (.tuple #[]) ∧ Wrote p q2 xs S ((a + k : Nat) : Int) (.int .i64 n) w w' := by
  have HN := Lib.hid (number_ok hR hl hb hn)
  clear hR hb hn
  go_enter Try.func53, Try.ntmps53
  go_wp2_with fail
  refine HN.out.mono ?_
  rintro e w1 ⟨rfl, hB1, hR1⟩
  have h2' := (hB1.cell (o := 0) hlt (by omega)).trans h2
  have hf' := (hB1.frozen (o := 0) hlt (by omega)).trans hf
  have HR1 := Lib.hid hR1
  clear hR1
  go_wp2_with fail
  go_end0
  exact ⟨rfl, w1, hB1, rfl, HR1.out.other hp2 0 _, World.cell?_setCell_same _ _ _ h2', by rw [World.frozen?_setCell]; exact hf'⟩
theorem int1_no {xs : List Int} {S : Value} {p a q1 q2 : Nat} {c : Int} {w : World} (hR : Rd w p xs S a 0) (hl : xs.length ≤ 1099511627776) (ha : a ≤ xs.length) (hb : Bytes xs) (hn : numR (xs.drop a) = .inl c)
    (h1 : w.cell? ⟨q1, 0, none⟩ = some (.pointer (some ⟨p, 0, none⟩))) :
    Calls Try.prog 53 #[.pointer (some ⟨q1, 0, none⟩), .pointer (some ⟨q2, 0, none⟩)] w fun e w' => e = .panicked (haltP c) ∧ But p w w' ∧ ∃ a', Rd w' p xs S a' 0 := by
  have HN := Lib.hid (number_no hR hl ha hb hn)
  clear hR hb hn
  go_enter Try.func53, Try.ntmps53
  go_wp2_with fail
  refine HN.out.mono ?_
  rintro e w1 ⟨rfl, hB1, hR1⟩
  exact ⟨rfl, rfl, hB1, hR1⟩

/-- What a reading of a number hands back; where the reader stands; why it failed. -/
def stepR (r : Int ⊕ (Int × Nat)) (a : Nat) (why : Int) : Int × Int × Int :=
  if why = 0 then (match r with | .inl c => (0, a, c) | .inr (n, k) => (n, ((a + k : Nat) : Int), 0)) else (0, a, why)

/-- A reading through a closure that writes its number into a new variable. -/
theorem reading_num {g : FuncId} {cap : Array Value} {xs : List Int} {S : Value} {p a q2 : Nat} {why : Int} {r : Int ⊕ (Int × Nat)} {w W : World} (hR : Rd w p xs S a why) (hB : Below w.heap.size w W) (hq : w.heap.size ≤ q2) (hlt : q2 < W.heap.size)
    (h2 : W.cell? ⟨q2, 0, none⟩ = some (.int .i64 0)) (hf : W.frozen? ⟨q2, 0, none⟩ = false) (hen : ∀ W : World, (callFunc g cap).run Try.prog W = .ok (.enter g cap) W)
    (hok : ∀ n k w1, why = 0 → r = .inr (n, k) → Below W.heap.size W w1 → Calls Try.prog g cap w1 fun e w' => e = .returned (.tuple #[]) ∧ Wrote p q2 xs S ((a + k : Nat) : Int) (.int .i64 n) w1 w')
    (hno : ∀ c w1, why = 0 → r = .inl c → Below W.heap.size W w1 → Calls Try.prog g cap w1 fun e w' => e = .panicked (haltP c) ∧ But p w1 w' ∧ ∃ a', Rd w' p xs S a' 0) :
    Calls Try.prog 52 #[.pointer (some ⟨p, 0, none⟩), .func (.func g) #[] cap] W fun e w' => e = .returned (.tuple #[]) ∧ But p w w' ∧ Rd w' p xs S (stepR r a why).2.1 (stepR r a why).2.2 ∧
      w'.cell? ⟨q2, 0, none⟩ = some (.int .i64 (stepR r a why).1) ∧ w'.frozen? ⟨q2, 0, none⟩ = false := by
  have hp2 : p < q2 := Nat.lt_of_lt_of_le hR.lt hq
  by_cases hw : why = 0
  · subst hw
    cases r with
    | inr v =>
      obtain ⟨n, k⟩ := v
      refine (reading_ok g cap (fun w' => ∃ w1, Below W.heap.size W w1 ∧ Wrote p q2 xs S ((a + k : Nat) : Int) (.int .i64 n) w1 w') (hR.below hB) hen fun w1 hb1 => (hok n k w1 rfl rfl hb1).mono fun e w' h => ⟨h.1, w1, hb1, h.2⟩).mono ?_
      rintro e w' ⟨rfl, w1, hb1, w2, hB2, rfl, hR2, hc, hfz⟩
      exact ⟨rfl, ((((But.of hB).trans (But.of hb1))).trans hB2).fresh hq 0 _, hR2, hc, hfz⟩
    | inl c =>
      refine (reading_no g cap c (hR.below hB) hen fun w1 hb1 => hno c w1 rfl rfl hb1).mono ?_
      rintro e w' ⟨rfl, hB2, hR2⟩
      exact ⟨rfl, (But.of hB).trans hB2, hR2, (hB2.cell hlt (by omega)).trans h2, (hB2.frozen hlt (by omega)).trans hf⟩
  · have e : stepR r a why = (0, (a : Int), why) := by unfold stepR; rw [if_neg hw]
    rw [e]
    refine (reading_skip g cap (hR.below hB) hw).mono ?_
    rintro e w' ⟨rfl, hb⟩
    exact ⟨rfl, But.of (hB.trans (hb.mono hB.size)), (hR.below hB).below hb, (hb.cell (p := ⟨q2, 0, none⟩) hlt).trans h2, (hb.frozen (p := ⟨q2, 0, none⟩) hlt).trans hf⟩

set_option maxHeartbeats 2000000 in
theorem Int_any {xs : List Int} {S : Value} {p a : Nat} {why : Int} {w : World} (hR : Rd w p xs S a why) (hl : xs.length ≤ 1099511627776) (ha : a ≤ xs.length) (hb : Bytes xs) (r : Int × Int × Int) (hr : stepR (numR (xs.drop a)) a why = r) :
    Calls Try.prog 38 #[.pointer (some ⟨p, 0, none⟩)] w fun e w' => e = .returned (.int .i64 r.1) ∧ But p w w' ∧ Rd w' p xs S r.2.1 r.2.2 := by
  have hmf : ∀ (fn : Fn) (first cap : Array Value) (w : World), (Instr.makeFunc fn first cap).run Try.prog w = .ok (.func fn first cap) w := fun _ _ _ _ => rfl
  have hsz : ((w.alloc (.cells #[.pointer (some ⟨p, 0, none⟩)] 57)).alloc (.cells #[.int .i64 0] 3)).heap.size = w.heap.size + 2 := by simp
  have hc1 : ((w.alloc (.cells #[.pointer (some ⟨p, 0, none⟩)] 57)).alloc (.cells #[.int .i64 0] 3)).cell? ⟨w.heap.size, 0, none⟩ = some (.pointer (some ⟨p, 0, none⟩)) := by simp [go_sem]
  have hc2 : ((w.alloc (.cells #[.pointer (some ⟨p, 0, none⟩)] 57)).alloc (.cells #[.int .i64 0] 3)).cell? ⟨w.heap.size + 1, 0, none⟩ = some (.int .i64 0) := by simp [go_sem]
  have hf2 : ((w.alloc (.cells #[.pointer (some ⟨p, 0, none⟩)] 57)).alloc (.cells #[.int .i64 0] 3)).frozen? ⟨w.heap.size + 1, 0, none⟩ = false := by simp [go_sem]
  have hB := ((Below.refl w.heap.size w).alloc (Nat.le_refl _) (.cells #[.pointer (some ⟨p, 0, none⟩)] 57)).alloc (by simp) (.cells #[.int .i64 0] 3)
  have hplt := hR.lt
  have HH := Lib.hid (reading_num (g := 53) (cap := #[.pointer (some ⟨w.heap.size, 0, none⟩), .pointer (some ⟨w.heap.size + 1, 0, none⟩)]) (r := numR (xs.drop a)) hR hB (Nat.le_succ _) (by rw [hsz]; omega) hc2 hf2 (fun W => by kernel_rfl)
    (fun n k w1 hw hn hb1 => by
      subst hw
      exact int1_ok ((hR.below hB).below hb1) hl hb hn ((hb1.cell (p := ⟨w.heap.size, 0, none⟩) (by rw [hsz]; simp)).trans hc1) ((hb1.cell (p := ⟨w.heap.size + 1, 0, none⟩) (by rw [hsz]; simp)).trans hc2) ((hb1.frozen (p := ⟨w.heap.size + 1, 0, none⟩) (by rw [hsz]; simp)).trans hf2) (by omega) (by have := hb1.size; omega))
    (fun c w1 hw hn hb1 => by
      subst hw
      exact int1_no ((hR.below hB).below hb1) hl ha hb hn ((hb1.cell (p := ⟨w.heap.size, 0, none⟩) (by rw [hsz]; simp)).trans hc1)))
  rw [hr] at HH
  clear hb hr hc1 hc2 hf2 hB hsz ha
  go_enter Try.func38, Try.ntmps38
  go_wp2_with fail
  refine HH.out.mono ?_
  rintro e w' ⟨rfl, hB2, hR2, hc2, hf2⟩
  have HR2 := Lib.hid hR2
  clear hR2 hR
  go_wp2_with fail
  have hq1 : w.heap.size.succ = w.heap.size + 1 := rfl
  rw [hq1] at hc2 hf2
  have hc3 := World.cell?_setCell_same w' ⟨w.heap.size + 1, 0, none⟩ (.int .i64 r.1) hc2
  have hB3 := hB2.fresh (Nat.le_succ _) 0 (.int .i64 r.1)
  rw [hq1] at hB3
  have hR3 := HR2.out.other (q := w.heap.size + 1) (by omega) 0 (.int .i64 r.1)
  simp [bodyPost, results, Try.results38, go_sem, hc3, hB3, hR3]
end Go.Proofs.Ytjjccjannandlaa
