/- The reader: Blob. -/
import Derived.Test.YtjjccjannandlaaReadC
set_option linter.unusedVariables false
set_option linter.unusedSimpArgs false
namespace Go.Proofs.Ytjjccjannandlaa
open Go.RowKit Go.BigFrame

theorem numR_le {l : List Int} {n : Int} {k : Nat} (h : numR l = .inr (n, k)) : k ≤ l.length ∧ 1 ≤ k := by
  cases l with
  | nil => cases h
  | cons x t =>
    rw [numR_cons] at h
    split at h
    · cases h
    split at h
    · cases h
    rename_i h2
    split at h
    · cases h
    split at h
    all_goals
      split at h
      · injection h with h
        injection h with e1 e2
        subst e2
        exact ⟨by rw [List.length_cons]; omega, by omega⟩
      · cases h
theorem countR_num {l : List Int} {n most : Int} {k : Nat} (h : countR l most = .inr (n, k)) : numR l = .inr (n, k) ∧ 0 ≤ n ∧ n ≤ most := by
  unfold countR at h
  split at h
  · cases h
  · rename_i n' k' hn
    split at h
    · rename_i hc
      injection h with h
      injection h with e1 e2
      subst e1 e2
      exact ⟨hn, hc⟩
    · cases h

/-- A row that is read. -/
def blobR (l : List Int) : Int ⊕ (List Int × Nat) :=
  match countR l 2147483647 with
  | .inl c => .inl c
  | .inr (n, k) => if k + n.toNat ≤ l.length then .inr ((l.drop k).take n.toNat, k + n.toNat) else .inl 4
/-- What a reading of a row hands back; where the reader stands; why it failed. -/
def stepB (r : Int ⊕ (List Int × Nat)) (a : Nat) (why : Int) : List Int × Int × Int :=
  if why = 0 then (match r with | .inl c => ([], a, c) | .inr (n, k) => (n, ((a + k : Nat) : Int), 0)) else ([], a, why)

/-- A reading through a closure that writes its row into a new variable. -/
theorem reading_row {g : FuncId} {cap : Array Value} {xs : List Int} {S : Value} {p a q2 : Nat} {why : Int} {r : Int ⊕ (List Int × Nat)} {w W : World} (hR : Rd w p xs S a why) (hB : Below w.heap.size w W) (hq : w.heap.size ≤ q2) (hlt : q2 < W.heap.size)
    (h2 : W.cell? ⟨q2, 0, none⟩ = some (.slice none 0 0)) (hf : W.frozen? ⟨q2, 0, none⟩ = false) (hen : ∀ W : World, (callFunc g cap).run Try.prog W = .ok (.enter g cap) W)
    (hok : ∀ ys k w1, why = 0 → r = .inr (ys, k) → Below W.heap.size W w1 → Calls Try.prog g cap w1 fun e w' => e = .returned (.tuple #[]) ∧ WroteB p q2 w1.heap.size xs ys S ((a + k : Nat) : Int) w1 w')
    (hno : ∀ c w1, why = 0 → r = .inl c → Below W.heap.size W w1 → Calls Try.prog g cap w1 fun e w' => e = .panicked (haltP c) ∧ But p w1 w' ∧ ∃ a', Rd w' p xs S a' 0) :
    Calls Try.prog 52 #[.pointer (some ⟨p, 0, none⟩), .func (.func g) #[] cap] W fun e w' => e = .returned (.tuple #[]) ∧ But p w w' ∧ Rd w' p xs S (stepB r a why).2.1 (stepB r a why).2.2 ∧
      ∃ v, w'.cell? ⟨q2, 0, none⟩ = some v ∧ w'.frozen? ⟨q2, 0, none⟩ = false ∧ OwnBytes w' W.heap.size v (stepB r a why).1 := by
  have hp2 : p < q2 := Nat.lt_of_lt_of_le hR.lt hq
  by_cases hw : why = 0
  · subst hw
    cases r with
    | inr v =>
      obtain ⟨ys, k⟩ := v
      refine (reading_ok g cap (fun w' => ∃ w1, Below W.heap.size W w1 ∧ WroteB p q2 w1.heap.size xs ys S ((a + k : Nat) : Int) w1 w') (hR.below hB) hen fun w1 hb1 => (hok ys k w1 rfl rfl hb1).mono fun e w' h => ⟨h.1, w1, hb1, h.2⟩).mono ?_
      rintro e w' ⟨rfl, w1, hb1, w2, v, hB2, rfl, hR2, hc, hfz, hown⟩
      refine ⟨rfl, ((((But.of hB).trans (But.of hb1))).trans hB2).fresh hq 0 _, hR2, v, hc, hfz, ?_⟩
      exact (hown.down hb1.size).but hlt ((But.refl q2 w2).store 0 v)
    | inl c =>
      refine (reading_no g cap c (hR.below hB) hen fun w1 hb1 => hno c w1 rfl rfl hb1).mono ?_
      rintro e w' ⟨rfl, hB2, hR2⟩
      exact ⟨rfl, (But.of hB).trans hB2, hR2, _, (hB2.cell hlt (by omega)).trans h2, (hB2.frozen hlt (by omega)).trans hf, OwnK.nil_ _ _⟩
  · have e : stepB r a why = ([], (a : Int), why) := by unfold stepB; rw [if_neg hw]
    rw [e]
    refine (reading_skip g cap (hR.below hB) hw).mono ?_
    rintro e w' ⟨rfl, hb⟩
    exact ⟨rfl, But.of (hB.trans (hb.mono hB.size)), (hR.below hB).below hb, _, (hb.cell (p := ⟨q2, 0, none⟩) hlt).trans h2, (hb.frozen (p := ⟨q2, 0, none⟩) hlt).trans hf, OwnK.nil_ _ _⟩

end Go.Proofs.Ytjjccjannandlaa
