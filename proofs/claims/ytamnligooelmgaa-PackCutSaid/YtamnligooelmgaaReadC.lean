/- The reader: Blob's closure where there is not enough. -/
import Derived.Test.YtamnligooelmgaaReadB
set_option linter.unusedVariables false
set_option linter.unusedSimpArgs false
namespace Go.Proofs.Ytamnligooelmgaa
open Go.RowKit Go.BigFrame

set_option maxHeartbeats 8000000 in
theorem blob1_short {xs : List Int} {S : Value} {p a k n q1 q2 : Nat} {w : World} (hR : Rd w p xs S a 0) (hl : xs.length ≤ 1099511627776) (hb : Bytes xs) (hn : countR (xs.drop a) 2147483647 = .inr ((n : Int), k)) (hn1 : n ≤ 1099511627776) (hak : a + k ≤ xs.length) (hle : xs.length < a + k + n)
    (h1 : w.cell? ⟨q1, 0, none⟩ = some (.pointer (some ⟨p, 0, none⟩))) (h2 : w.cell? ⟨q2, 0, none⟩ = some (.slice none 0 0)) (hp1 : p < q1) (hlt1 : q1 < w.heap.size) (hp2 : p < q2) (hlt : q2 < w.heap.size) :
    Calls Try.prog 32 #[.pointer (some ⟨q2, 0, none⟩), .pointer (some ⟨q1, 0, none⟩)] w fun e w' => e = .panicked (haltP 4) ∧ But p w w' ∧ ∃ a', Rd w' p xs S a' 0 := by
  have HN := Lib.hid (count_ok (hR.below (Below.drew (Below.refl _ _))) hl hb hn)
  have HT : Hid (∀ w2, Rd w2 p xs S ((a + k : Nat) : Int) 0 → _) := fun w2 h => take_no xs S p (a + k) n 0 w2 h hl hn1 hak hle
  have hne1 : q1 ≠ p := by omega
  have hne2 : q2 ≠ p := by omega
  have hd1 : w.drew.cell? ⟨q1, 0, none⟩ = some (.pointer (some ⟨p, 0, none⟩)) := h1
  have hd2 : w.drew.cell? ⟨q2, 0, none⟩ = some (.slice none 0 0) := h2
  have hlt1' : q1 < w.drew.heap.size := hlt1
  have hlt' : q2 < w.drew.heap.size := hlt
  clear hb hn hR
  go_enter Try.func32, Try.ntmps32
  go_wp2
  go_region_law (first
    | (go_simp; go_at_call 34; refine HN.out.mono ?_; rintro e w2 ⟨rfl, hB2, hR2⟩; have hc1' := (hB2.cell (o := 0) hlt1' hne1).trans hd1; have hc2' := (hB2.cell (o := 0) hlt' hne2).trans hd2; have HR2 := Lib.hid hR2; clear hR2; try dsimp only)
    | (go_simp; go_at_call 33; refine dies_step (P := Try.prog) (md := .any) (a := ⟨#[], []⟩) (w := w) ((HT.out _ HR2.out).mono ?_) ?_; focus (rintro e w3 ⟨rfl, hB3, hR3⟩; exact ⟨rfl, rfl, (But.of (Below.drew (Below.refl _ _))).trans (hB2.trans hB3), _, hR3⟩)))
  all_goals trivial
end Go.Proofs.Ytamnligooelmgaa
