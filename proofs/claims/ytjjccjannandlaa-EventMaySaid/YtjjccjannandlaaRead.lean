/- The reader: worlds, must, take. -/
import Derived.Test.YtjjccjannandlaaPack3
import Derived.Defers
import Derived.Recover
import Derived.RegionCalls
import Derived.RegionDies
set_option linter.unusedVariables false
set_option linter.unusedSimpArgs false
namespace Go.Proofs.Ytjjccjannandlaa
open Go.RowKit Go.BigFrame

/-- Of the old blocks p alone may have turned. -/
structure But (p : Nat) (w w' : World) : Prop where
  os : w'.os = w.os
  tape : w'.tape = w.tape
  output : w'.output = w.output
  size : w.heap.size ≤ w'.heap.size
  block : ∀ k, k < w.heap.size → k ≠ p → w'.heap[k]? = w.heap[k]?
theorem But.refl (p : Nat) (w : World) : But p w w := ⟨rfl, rfl, rfl, Nat.le_refl _, fun _ _ _ => rfl⟩
theorem But.trans {p : Nat} {a b c : World} (h : But p a b) (k : But p b c) : But p a c :=
  ⟨k.os.trans h.os, k.tape.trans h.tape, k.output.trans h.output, Nat.le_trans h.size k.size, fun i hi hp => (k.block i (Nat.lt_of_lt_of_le hi h.size) hp).trans (h.block i hi hp)⟩
theorem But.of {p : Nat} {a b : World} (h : Below a.heap.size a b) : But p a b := ⟨h.os, h.tape, h.output, h.size, fun k hk _ => h.block k hk⟩
theorem But.below {p B : Nat} {a b : World} (h : But p a b) (hp : B ≤ p) (hB : B ≤ a.heap.size) : Below B a b := ⟨h.os, h.tape, h.output, h.size, fun k hk => h.block k (by omega) (by omega)⟩
theorem But.drewN {p : Nat} {a b : World} (h : But p a b) (n : Nat) : But p a (b.drewN n) := ⟨h.os, h.tape, h.output, h.size, h.block⟩
theorem But.store {p : Nat} {a b : World} (h : But p a b) (o : Nat) (v : Value) : But p a (b.setCell ⟨p, o, none⟩ v) :=
  h.trans ⟨rfl, rfl, rfl, by simp [World.setCell], fun k hk hp => Below.heap_setCell _ _ _ _ (by intro e; exact hp (by simpa using e))⟩
theorem But.alloc {p : Nat} {a b : World} (h : But p a b) (o : Obj) : But p a (b.alloc o) := h.trans (But.of ((Below.refl _ _).alloc (Nat.le_refl _) o))
/-- What the call owns above p is kept. -/
theorem OwnK.but {k : IntKind} {e : TypeId} {w w' : World} {B p : Nat} {v : Value} {xs : List Int} (h : OwnK k e w B v xs) (hp : p < B) (hb : But p w w') : OwnK k e w' B v xs := by
  refine ⟨h.1, ?_⟩
  rcases h.2 with h2 | ⟨g, cap, cur, hv, hg, hh, r⟩
  · exact .inl h2
  · have hlt : g < w.heap.size := by
      rcases Nat.lt_or_ge g w.heap.size with hlt | hge
      · exact hlt
      · rw [Array.getElem?_eq_none hge] at hh; cases hh
    exact .inr ⟨g, cap, cur, hv, hg, (hb.block g hlt (by omega)).trans hh, r⟩

/-- The reader at block p. -/
structure Rd (w : World) (p : Nat) (xs : List Int) (S : Value) (a : Int) (why : Int) : Prop where
  lt : p < w.heap.size
  sl : Sl .u8 w p S xs
  c0 : w.cell? ⟨p, 0, none⟩ = some S
  c1 : w.cell? ⟨p, 1, none⟩ = some (.int .i64 a)
  c2 : w.cell? ⟨p, 2, none⟩ = some (.int .i64 why)
  fz : ∀ i, w.frozen? ⟨p, i, none⟩ = false
theorem Rd.below {w w' : World} {p : Nat} {xs : List Int} {S : Value} {a why : Int} (h : Rd w p xs S a why) (hb : Below w.heap.size w w') : Rd w' p xs S a why :=
  ⟨Nat.lt_of_lt_of_le h.lt hb.size, h.sl.below (hb.mono (Nat.le_of_lt h.lt)), (hb.cell (p := ⟨p, 0, none⟩) h.lt).trans h.c0, (hb.cell (p := ⟨p, 1, none⟩) h.lt).trans h.c1, (hb.cell (p := ⟨p, 2, none⟩) h.lt).trans h.c2, fun i => (hb.frozen (p := ⟨p, i, none⟩) h.lt).trans (h.fz i)⟩
theorem Rd.drewN {w : World} {p : Nat} {xs : List Int} {S : Value} {a why : Int} (h : Rd w p xs S a why) (n : Nat) : Rd (w.drewN n) p xs S a why := h.below (Bel.drewN (Below.refl _ _) n)
theorem Rd.setAt {w : World} {p : Nat} {xs : List Int} {S : Value} {a why : Int} (h : Rd w p xs S a why) (a' : Int) : Rd (w.setCell ⟨p, 1, none⟩ (.int .i64 a')) p xs S a' why := by
  refine ⟨by simpa [World.setCell] using h.lt, h.sl.below ((But.refl p w).store 1 _ |>.below (Nat.le_refl _) (Nat.le_of_lt h.lt)), (World.cell?_setCell_other w ⟨p, 1, none⟩ ⟨p, 0, none⟩ _ (by simp)).trans h.c0, World.cell?_setCell_same w _ _ h.c1, (World.cell?_setCell_other w ⟨p, 1, none⟩ ⟨p, 2, none⟩ _ (by simp)).trans h.c2, fun i => ?_⟩
  · rw [World.frozen?_setCell]; exact h.fz i
theorem Rd.setWhy {w : World} {p : Nat} {xs : List Int} {S : Value} {a why : Int} (h : Rd w p xs S a why) (y : Int) : Rd (w.setCell ⟨p, 2, none⟩ (.int .i64 y)) p xs S a y := by
  refine ⟨by simpa [World.setCell] using h.lt, h.sl.below ((But.refl p w).store 2 _ |>.below (Nat.le_refl _) (Nat.le_of_lt h.lt)), (World.cell?_setCell_other w ⟨p, 2, none⟩ ⟨p, 0, none⟩ _ (by simp)).trans h.c0, (World.cell?_setCell_other w ⟨p, 2, none⟩ ⟨p, 1, none⟩ _ (by simp)).trans h.c1, World.cell?_setCell_same w _ _ h.c2, fun i => ?_⟩
  · rw [World.frozen?_setCell]; exact h.fz i

/-- A piece of a slice. -/
theorem Sl.piece {k : IntKind} {w : World} {B L c a n : Nat} {A : Option Addr} {xs : List Int} (h : Sl k w B (.slice A L c) xs) (hn : a + n ≤ xs.length) : Sl k w B (sliced A a (a + n) c 1) ((xs.drop a).take n) := by
  have hlen : ((xs.drop a).take n).length = n := by simp; omega
  rcases h with ⟨A', c', hv, rfl⟩ | ⟨b, off, c', hv, hlt, hc, hx⟩
  · obtain ⟨rfl, rfl⟩ : a = 0 ∧ n = 0 := by simp at hn; omega
    exact .inl ⟨_, _, rfl, rfl⟩
  · injection hv with h1 h2 h3
    subst h1 h3
    by_cases hca : c = a
    · have h0 : n = 0 := by omega
      subst h0
      have e : Go.sliced (some ⟨b, off, none⟩) a (a + 0) c 1 = .slice (if c = a then some ⟨b, off, none⟩ else (some (⟨b, off, none⟩ : Addr)).map (·.add (a * 1))) 0 (c - a) := by
        unfold Go.sliced
        rw [show a + 0 - a = 0 from by omega]
      exact .inl ⟨_, _, e, by simp⟩
    · refine .inr ⟨b, off + a, c - a, ?_, hlt, by omega, fun i hi => ?_⟩
      · unfold sliced
        rw [if_neg hca, hlen, show a + n - a = n from by omega]
        simp [Addr.add_lit]
      · rw [hlen] at hi
        have := hx (a + i) (by omega)
        rw [← Nat.add_assoc] at this
        rw [this, List.getElem?_take_of_lt hi, List.getElem?_drop]
theorem run_cut (A : Option Addr) (L c a n : Nat) (h : a + n ≤ c) (W : World) :
    (Instr.sliceAt 22 (.slice A L c) (some (.int .i64 (a : Int))) (some (.int .i64 ((a : Int) + (n : Int)))) none).run Try.prog W = .ok (sliced A a (a + n) c 1) W := by
  obtain ⟨i0, hi, hz0, hz1, hz2⟩ := info_parts infoBytes
  have hu : Try.prog.underlying 22 = some (.slice (Try.prog.elem 22)) := by kernel_rfl
  have he : Try.prog.elem 22 = 5 := by kernel_rfl
  rw [run_sliceAt_slice (h := hu), run_slice_lh (ht := hu) (h0 := by omega) (h1 := by omega) (h2 := by omega), he]
  rw [show ((a : Int) + (n : Int)).toNat = a + n from by omega, show ((a : Int)).toNat = a from by omega]
  simp [sizeOf, typeInfo, hi, hz1, Result.andThen]

/-- A halt's panic. -/
abbrev haltP (c : Int) : List PanicEntry := [{ v := .iface 89 (.int .i64 c), recovered := false }]
set_option maxHeartbeats 400000 in
theorem must_ok (c : Int) (w : World) : Calls Try.prog 65 #[.bool true, .int .i64 c] w fun e w' => e = .returned (.tuple #[]) ∧ w = w' := by
  have hnot : ∀ (x : Bool) (w : World), (Op.unary .not (.bool x)).run Try.prog w = .ok (.bool (!x)) w := fun _ _ => rfl
  go_enter Try.func65, Try.ntmps65
  go_wp2
  go_end0
  exact ⟨rfl, rfl⟩
set_option maxHeartbeats 400000 in
theorem must_no (c : Int) (w : World) : Calls Try.prog 65 #[.bool false, .int .i64 c] w fun e w' => e = .panicked (haltP c) ∧ w = w' := by
  have hnot : ∀ (x : Bool) (w : World), (Op.unary .not (.bool x)).run Try.prog w = .ok (.bool (!x)) w := fun _ _ => rfl
  go_enter Try.func65, Try.ntmps65
  go_wp2
  exact ⟨rfl, rfl, rfl⟩

/-- take: there is enough. -/
theorem take_ok (xs : List Int) (S : Value) (p a n : Nat) (why : Int) (w : World) (hR : Rd w p xs S a why) (hl : xs.length ≤ 1099511627776) (h : a + n ≤ xs.length) :
    Calls Try.prog 64 #[.pointer (some ⟨p, 0, none⟩), .int .i64 n] w fun e w' => ∃ r, e = .returned r ∧ But p w w' ∧ Rd w' p xs S ((a + n : Nat) : Int) why ∧ Sl .u8 w' p r ((xs.drop a).take n) := by
  obtain ⟨A, c, rfl⟩ := hR.sl.shape
  have hc0 := hR.c0
  have hc1 := hR.c1
  have hc2 := hR.c2
  have hfz := hR.fz
  have hnot : ∀ (x : Bool) (w : World), (Op.unary .not (.bool x)).run Try.prog w = .ok (.bool (!x)) w := fun _ _ => rfl
  have hplt := hR.lt
  have hle : (n : Int) ≤ (xs.length : Int) - (a : Int) := by omega
  go_enter Try.func64, Try.ntmps64
  go_wp2
  refine wp_region_later (by kernel_rfl) (by kernel_rfl) ?_
  repeat (any_goals (first | go_big_quiet_step (first | (go_at_call 65; have hC := must_ok 4 (Later.w ‹_›); with_reducible exact Later.callS hC))))
  refine wpQuiet_nil ?_
  intro x
  obtain ⟨w1, hb1⟩ := x
  have hR1 := hR.below hb1
  have hs1 := hb1.size
  have hB1 : But p w w1 := But.of hb1
  dsimp only
  clear hb1 hc0 hc1 hc2 hfz hR hplt
  have hplt := hR1.lt
  have hc1 := hR1.c1
  have hfz := hR1.fz
  have hcap : a + n ≤ c ∨ xs = [] := by
    rcases hR1.sl with ⟨A', c', hv, rfl⟩ | ⟨b, off, c', hv, hlt, hc, hx⟩
    · exact .inr rfl
    · injection hv with _ _ h3; subst h3; exact .inl (by omega)
  have hcap' : a + n ≤ c := by
    rcases hcap with h' | rfl
    · exact h'
    · simp at h; omega
  have hsl := fun W : World => run_cut A xs.length c a n hcap' W
  have hRS : Sl .u8 (w1.setCell ⟨p, 1, none⟩ (.int .i64 ((a : Int) + (n : Int)))) p (sliced A a (a + n) c 1) ((xs.drop a).take n) := (hR1.setAt _).sl.piece h
  generalize sliced A a (a + n) c 1 = r at hsl hRS
  have HRS := Lib.hid hRS
  clear hRS hcap hcap'
  go_wp2
  have hR2 := hR1.setAt ((a : Int) + (n : Int))
  have hB2 := hB1.store 1 (.int .i64 ((a : Int) + (n : Int)))
  generalize w1.setCell ⟨p, 1, none⟩ (.int .i64 ((a : Int) + (n : Int))) = w2 at *
  clear hR1 hB1 hc1 hfz hplt
  have hc0 := hR2.c0
  have hc1 := hR2.c1
  have hsub : IntKind.i64.wrap ((a : Int) + (n : Int) - (n : Int)) = (a : Int) := by
    rw [show (a : Int) + (n : Int) - (n : Int) = (a : Int) from by omega]; exact IntWalk.i64_in _ (by omega)
  have hsub' : (a : Int) + (n : Int) - (n : Int) = (a : Int) := by omega
  go_region
  go_wp2
  go_ret
  exact ⟨_, rfl, hB2.drewN 1, hR2.below (Below.drew (Below.refl _ _)), HRS.out⟩

set_option maxHeartbeats 1000000 in
/-- take: there is not. -/
theorem take_no (xs : List Int) (S : Value) (p a n : Nat) (why : Int) (w : World) (hR : Rd w p xs S a why) (hl : xs.length ≤ 1099511627776) (hn : n ≤ 1099511627776) (ha : a ≤ xs.length) (h : xs.length < a + n) :
    Calls Try.prog 64 #[.pointer (some ⟨p, 0, none⟩), .int .i64 n] w fun e w' => e = .panicked (haltP 4) ∧ But p w w' ∧ Rd w' p xs S a why := by
  obtain ⟨A, c, rfl⟩ := hR.sl.shape
  have hc0 := hR.c0
  have hc1 := hR.c1
  have hplt := hR.lt
  have hle : ¬ (n : Int) ≤ (xs.length : Int) - (a : Int) := by omega
  go_enter Try.func64, Try.ntmps64
  go_wp2
  have hdec : decide ((n : Int) ≤ IntKind.i64.wrap ((xs.length : Int) - (a : Int))) = false := by
    rw [IntWalk.i64_in _ (by omega)]; exact decide_eq_false (by omega)
  go_region_dies
  all_goals
    refine (must_no 4 _).mono ?_
    rintro e w' ⟨rfl, rfl⟩
    exact ⟨rfl, rfl, But.of (Below.drew (Below.refl _ _)), hR.below (Below.drew (Below.refl _ _))⟩
end Go.Proofs.Ytjjccjannandlaa
