/- The reader: Blob. -/
import Derived.Test.YtamnligooelmgaaReadC
set_option linter.unusedVariables false
set_option linter.unusedSimpArgs false
namespace Go.Proofs.Ytamnligooelmgaa
open Go.RowKit Go.BigFrame

theorem numR_le {l : List Int} {n : Int} {k : Nat} (h : numR l = .inr (n, k)) : k ≤ l.length ∧ 1 ≤ k := by
  cases l with
  | nil => cases h
  | cons x t =>
    rw [numR_cons] at h
    split at h
    · cases h
    split at h
    · cases h
    rename_i h2
    split at h
    · cases h
    split at h
    all_goals
      split at h
      · injection h with h
        injection h with e1 e2
        subst e2
        exact ⟨by rw [List.length_cons]; omega, by omega⟩
      · cases h
theorem countR_num {l : List Int} {n most : Int} {k : Nat} (h : countR l most = .inr (n, k)) : numR l = .inr (n, k) ∧ 0 ≤ n ∧ n ≤ most := by
  unfold countR at h
  split at h
  · cases h
  · rename_i n' k' hn
    split at h
    · rename_i hc
      injection h with h
      injection h with e1 e2
      subst e1 e2
      exact ⟨hn, hc⟩
    · cases h

/-- A row that is read. -/
def blobR (l : List Int) : Int ⊕ (List Int × Nat) :=
  match countR l 2147483647 with
  | .inl c => .inl c
  | .inr (n, k) => if k + n.toNat ≤ l.length then .inr ((l.drop k).take n.toNat, k + n.toNat) else .inl 4
/-- What a reading of a row hands back; where the reader stands; why it failed. -/
def stepB (r : Int ⊕ (List Int × Nat)) (a : Nat) (why : Int) : List Int × Int × Int :=
  if why = 0 then (match r with | .inl c => ([], a, c) | .inr (n, k) => (n, ((a + k : Nat) : Int), 0)) else ([], a, why)

/-- A reading through a closure that writes its row into a new variable. -/
theorem reading_row {g : FuncId} {cap : Array Value} {xs : List Int} {S : Value} {p a q2 : Nat} {why : Int} {r : Int ⊕ (List Int × Nat)} {w W : World} (hR : Rd w p xs S a why) (hB : Below w.heap.size w W) (hq : w.heap.size ≤ q2) (hlt : q2 < W.heap.size)
    (h2 : W.cell? ⟨q2, 0, none⟩ = some (.slice none 0 0)) (hf : W.frozen? ⟨q2, 0, none⟩ = false) (hen : ∀ W : World, (callFunc g cap).run Try.prog W = .ok (.enter g cap) W)
    (hok : ∀ ys k w1, why = 0 → r = .inr (ys, k) → Below W.heap.size W w1 → Calls Try.prog g cap w1 fun e w' => e = .returned (.tuple #[]) ∧ WroteB p q2 w1.heap.size xs ys S ((a + k : Nat) : Int) w1 w')
    (hno : ∀ c w1, why = 0 → r = .inl c → Below W.heap.size W w1 → Calls Try.prog g cap w1 fun e w' => e = .panicked (haltP c) ∧ But p w1 w' ∧ ∃ a', Rd w' p xs S a' 0) :
    Calls Try.prog 29 #[.pointer (some ⟨p, 0, none⟩), .func (.func g) #[] cap] W fun e w' => e = .returned (.tuple #[]) ∧ But p w w' ∧ Rd w' p xs S (stepB r a why).2.1 (stepB r a why).2.2 ∧
      ∃ v, w'.cell? ⟨q2, 0, none⟩ = some v ∧ w'.frozen? ⟨q2, 0, none⟩ = false ∧ OwnBytes w' W.heap.size v (stepB r a why).1 := by
  have hp2 : p < q2 := Nat.lt_of_lt_of_le hR.lt hq
  by_cases hw : why = 0
  · subst hw
    cases r with
    | inr v =>
      obtain ⟨ys, k⟩ := v
      refine (reading_ok g cap (fun w' => ∃ w1, Below W.heap.size W w1 ∧ WroteB p q2 w1.heap.size xs ys S ((a + k : Nat) : Int) w1 w') (hR.below hB) hen fun w1 hb1 => (hok ys k w1 rfl rfl hb1).mono fun e w' h => ⟨h.1, w1, hb1, h.2⟩).mono ?_
      rintro e w' ⟨rfl, w1, hb1, w2, v, hB2, rfl, hR2, hc, hfz, hown⟩
      refine ⟨rfl, ((((But.of hB).trans (But.of hb1))).trans hB2).fresh hq 0 _, hR2, v, hc, hfz, ?_⟩
      exact (hown.down hb1.size).but hlt ((But.refl q2 w2).store 0 v)
    | inl c =>
      refine (reading_no g cap c (hR.below hB) hen fun w1 hb1 => hno c w1 rfl rfl hb1).mono ?_
      rintro e w' ⟨rfl, hB2, hR2⟩
      exact ⟨rfl, (But.of hB).trans hB2, hR2, _, (hB2.cell hlt (by omega)).trans h2, (hB2.frozen hlt (by omega)).trans hf, OwnK.nil_ _ _⟩
  · have e : stepB r a why = ([], (a : Int), why) := by unfold stepB; rw [if_neg hw]
    rw [e]
    refine (reading_skip g cap (hR.below hB) hw).mono ?_
    rintro e w' ⟨rfl, hb⟩
    exact ⟨rfl, But.of (hB.trans (hb.mono hB.size)), (hR.below hB).below hb, _, (hb.cell (p := ⟨q2, 0, none⟩) hlt).trans h2, (hb.frozen (p := ⟨q2, 0, none⟩) hlt).trans hf, OwnK.nil_ _ _⟩

set_option maxHeartbeats 2000000 in
theorem Blob_any {xs : List Int} {S : Value} {p a : Nat} {why : Int} {w : World} (hR : Rd w p xs S a why) (hl : xs.length ≤ 1099511627776) (ha : a ≤ xs.length) (hb : Bytes xs) (r : List Int × Int × Int) (hr : stepB (blobR (xs.drop a)) a why = r) :
    Calls Try.prog 23 #[.pointer (some ⟨p, 0, none⟩)] w fun e w' => ∃ v, e = .returned v ∧ But p w w' ∧ Rd w' p xs S r.2.1 r.2.2 ∧ OwnBytes w' w.heap.size v r.1 := by
  have hmf : ∀ (fn : Fn) (first cap : Array Value) (w : World), (Instr.makeFunc fn first cap).run Try.prog w = .ok (.func fn first cap) w := fun _ _ _ _ => rfl
  have hsz : ((w.alloc (.cells #[.pointer (some ⟨p, 0, none⟩)] 35)).alloc (.cells #[.slice none 0 0] 22)).heap.size = w.heap.size + 2 := by simp
  have hc1 : ((w.alloc (.cells #[.pointer (some ⟨p, 0, none⟩)] 35)).alloc (.cells #[.slice none 0 0] 22)).cell? ⟨w.heap.size, 0, none⟩ = some (.pointer (some ⟨p, 0, none⟩)) := by simp [go_sem]
  have hc2 : ((w.alloc (.cells #[.pointer (some ⟨p, 0, none⟩)] 35)).alloc (.cells #[.slice none 0 0] 22)).cell? ⟨w.heap.size + 1, 0, none⟩ = some (.slice none 0 0) := by simp [go_sem]
  have hf2 : ((w.alloc (.cells #[.pointer (some ⟨p, 0, none⟩)] 35)).alloc (.cells #[.slice none 0 0] 22)).frozen? ⟨w.heap.size + 1, 0, none⟩ = false := by simp [go_sem]
  have hB := ((Below.refl w.heap.size w).alloc (Nat.le_refl _) (.cells #[.pointer (some ⟨p, 0, none⟩)] 35)).alloc (by simp) (.cells #[.slice none 0 0] 22)
  have hplt := hR.lt
  have HH := Lib.hid (reading_row (g := 32) (cap := #[.pointer (some ⟨w.heap.size + 1, 0, none⟩), .pointer (some ⟨w.heap.size, 0, none⟩)]) (r := blobR (xs.drop a)) hR hB (Nat.le_succ _) (by rw [hsz]; omega) hc2 hf2 (fun W => by kernel_rfl)
    (fun ys k w1 hw hn hb1 => by
      subst hw
      unfold blobR at hn
      split at hn
      · cases hn
      · rename_i n k' hcn
        split at hn
        · rename_i hle
          injection hn with hn
          injection hn with e1 e2
          subst e1 e2
          obtain ⟨hnum, hn0, hn1⟩ := countR_num hcn
          obtain ⟨m, rfl⟩ := Int.eq_ofNat_of_zero_le hn0
          rw [List.length_drop] at hle
          have := numR_le hnum
          rw [List.length_drop] at this
          have hh := blob1_ok (n := m) (k := k') ((hR.below hB).below hb1) hl hb hcn (by simp at hle; omega) ((hb1.cell (p := ⟨w.heap.size, 0, none⟩) (by rw [hsz]; simp)).trans hc1) ((hb1.cell (p := ⟨w.heap.size + 1, 0, none⟩) (by rw [hsz]; simp)).trans hc2) ((hb1.frozen (p := ⟨w.heap.size + 1, 0, none⟩) (by rw [hsz]; simp)).trans hf2) (by omega) (by have := hb1.size; omega) (by omega) (by have := hb1.size; omega)
          rw [List.drop_drop]
          rw [show ((m : Int)).toNat = m from Int.toNat_natCast m, ← Nat.add_assoc]
          exact hh
        · cases hn)
    (fun c w1 hw hn hb1 => by
      subst hw
      have hcell1 := (hb1.cell (p := ⟨w.heap.size, 0, none⟩) (by rw [hsz]; simp)).trans hc1
      have hcell2 := (hb1.cell (p := ⟨w.heap.size + 1, 0, none⟩) (by rw [hsz]; simp)).trans hc2
      unfold blobR at hn
      split at hn
      · rename_i c' hcn
        injection hn with hn
        subst hn
        exact blob1_num ((hR.below hB).below hb1) hl ha hb hcn hcell1 hcell2
      · rename_i n k' hcn
        split at hn
        · cases hn
        · rename_i hle
          injection hn with hn
          subst hn
          obtain ⟨hnum, hn0, hn1⟩ := countR_num hcn
          obtain ⟨m, rfl⟩ := Int.eq_ofNat_of_zero_le hn0
          rw [List.length_drop] at hle
          have hk := numR_le hnum
          rw [List.length_drop] at hk
          exact blob1_short (n := m) (k := k') ((hR.below hB).below hb1) hl hb hcn (by omega) (by omega) (by simp at hle; omega) hcell1 hcell2 (by omega) (by have := hb1.size; omega) (by omega) (by have := hb1.size; omega)))
  rw [hr] at HH
  clear hb hr hc1 hc2 hf2 hB hsz ha
  go_enter Try.func23, Try.ntmps23
  go_wp2_with fail
  refine HH.out.mono ?_
  rintro e w' ⟨rfl, hB2, hR2, v, hc2, hf2, hown⟩
  have HR2 := Lib.hid hR2
  have hown2 := hown.down (B' := w.heap.size + 1 + 1) (by simp)
  have HOWN := Lib.hid hown2
  obtain ⟨A4, c4, rfl⟩ := hown.sl.shape
  clear hR2 hR hown hown2
  go_wp2_with fail
  have hq1 : w.heap.size.succ = w.heap.size + 1 := rfl
  rw [hq1] at hc2 hf2
  have hc3 := World.cell?_setCell_same w' ⟨w.heap.size + 1, 0, none⟩ (.slice A4 r.1.length c4) hc2
  have hB3 := hB2.fresh (Nat.le_succ _) 0 (.slice A4 r.1.length c4)
  rw [hq1] at hB3
  have hR3 := HR2.out.other (q := w.heap.size + 1) (by omega) 0 (.slice A4 r.1.length c4)
  have hown3 := ((HOWN.out.but (p := w.heap.size + 1) (by omega) ((But.refl (w.heap.size + 1) w').store 0 (.slice A4 r.1.length c4)))).down (B' := w.heap.size) (by omega)
  simp [bodyPost, results, Try.results23, go_sem, hc3, hB3, hR3, hown3]
end Go.Proofs.Ytamnligooelmgaa
