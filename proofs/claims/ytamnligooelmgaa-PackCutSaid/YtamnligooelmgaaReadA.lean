/- The reader: Blob. -/
import Derived.Test.YtamnligooelmgaaRead9
import Derived.Test.YtamnligooelmgaaKitE
set_option linter.unusedVariables false
set_option linter.unusedSimpArgs false
namespace Go.Proofs.Ytamnligooelmgaa
open Go.RowKit Go.BigFrame

/-- What a reading's closure leaves that wrote a row of its own. -/
def WroteB (p q2 B : Nat) (xs ys : List Int) (S : Value) (a : Int) (w1 w' : World) : Prop := ∃ w2 v, But p w1 w2 ∧ w' = w2.setCell ⟨q2, 0, none⟩ v ∧ Rd w' p xs S a 0 ∧ w'.cell? ⟨q2, 0, none⟩ = some v ∧ w'.frozen? ⟨q2, 0, none⟩ = false ∧ OwnBytes w2 B v ys

set_option maxHeartbeats 8000000 in
theorem blob1_ok {xs : List Int} {S : Value} {p a k n q1 q2 : Nat} {w : World} (hR : Rd w p xs S a 0) (hl : xs.length ≤ 1099511627776) (hb : Bytes xs) (hn : countR (xs.drop a) 2147483647 = .inr ((n : Int), k)) (hle : a + k + n ≤ xs.length)
    (h1 : w.cell? ⟨q1, 0, none⟩ = some (.pointer (some ⟨p, 0, none⟩))) (h2 : w.cell? ⟨q2, 0, none⟩ = some (.slice none 0 0)) (hf : w.frozen? ⟨q2, 0, none⟩ = false) (hp1 : p < q1) (hlt1 : q1 < w.heap.size) (hp2 : p < q2) (hlt : q2 < w.heap.size) :
    Calls Try.prog 32 #[.pointer (some ⟨q2, 0, none⟩), .pointer (some ⟨q1, 0, none⟩)] w fun e w' => e = .returned (.tuple #[]) ∧ WroteB p q2 w.heap.size xs ((xs.drop (a + k)).take n) S ((a + k + n : Nat) : Int) w w' := by
  have HN := Lib.hid (count_ok (hR.below (Below.drew (Below.refl _ _))) hl hb hn)
  obtain ⟨ys, hys⟩ : ∃ ys, ys = (xs.drop (a + k)).take n := ⟨_, rfl⟩
  have hylen : ys.length = n := by rw [hys]; simp; omega
  rw [← hys]
  have HT : Hid (∀ w2, Rd w2 p xs S ((a + k : Nat) : Int) 0 → _) := fun w2 h => take_ok xs S p (a + k) n 0 w2 h hl hle
  rw [← hys] at HT
  clear hys
  have hne1 : q1 ≠ p := by omega
  have hne2 : q2 ≠ p := by omega
  have hd1 : w.drew.cell? ⟨q1, 0, none⟩ = some (.pointer (some ⟨p, 0, none⟩)) := h1
  have hd2 : w.drew.cell? ⟨q2, 0, none⟩ = some (.slice none 0 0) := h2
  have hdf : w.drew.frozen? ⟨q2, 0, none⟩ = false := hf
  have hds : w.drew.heap.size = w.heap.size := rfl
  have hlt1' : q1 < w.drew.heap.size := hlt1
  have hlt' : q2 < w.drew.heap.size := hlt
  have hlen : ([] : List Int).length + ys.length ≤ 4398046511104 := by rw [List.length_nil]; omega
  have HLEN := Lib.hid hlen
  clear hb hn hR hlen hylen
  go_enter Try.func32, Try.ntmps32
  go_wp2
  go_region_law (first
    | (go_simp; go_at_call 34; refine HN.out.mono ?_; rintro e w2 ⟨rfl, hB2, hR2⟩; have hc1' := (hB2.cell (o := 0) hlt1' hne1).trans hd1; have hc2' := (hB2.cell (o := 0) hlt' hne2).trans hd2; have hcf' := (hB2.frozen (o := 0) hlt' hne2).trans hdf; have hlt2 := Nat.lt_of_lt_of_le hlt' hB2.size; have hlt12 := Nat.lt_of_lt_of_le hlt1' hB2.size; have HR2 := Lib.hid hR2; clear hR2; try dsimp only)
    | (go_simp; go_at_call 33; refine (HT.out _ HR2.out).mono ?_; rintro e w3 ⟨r, rfl, hB3, hR3, hS3⟩; have hc1'' := (hB3.cell (o := 0) hlt12 hne1).trans hc1'; have hc2'' := (hB3.cell (o := 0) hlt2 hne2).trans hc2'; have hcf'' := (hB3.frozen (o := 0) hlt2 hne2).trans hcf'; have hlt3 := Nat.lt_of_lt_of_le hlt2 hB3.size; have HR3 := Lib.hid hR3; clear hR3; try dsimp only)
    | (refine step_append_sl rfl _ _ 22 rfl Try.underlying22 infoBytes (by decide) rfl rfl (OwnK.nil_ w3 w3.heap.size) (hS3.more (by have := HR3.out.lt; omega)) HLEN.out (Nat.le_refl _) ?_; intro v' w4 hown hb4; have hc2a := (hb4.cell (p := ⟨q2, 0, none⟩) hlt3).trans hc2''; have hcfa := (hb4.frozen (p := ⟨q2, 0, none⟩) hlt3).trans hcf''; rw [List.nil_append] at hown; have HOWN := Lib.hid hown; clear hown; obtain ⟨A4, c4, rfl⟩ := HOWN.out.sl.shape))
  all_goals
    go_wp2
    go_end0
    refine ⟨rfl, w4, _, ((But.of (Below.drew (Below.refl _ _))).trans (hB2.trans hB3)).trans (But.of hb4), rfl, ((HR3.out.below hb4).other hp2 0 _), World.cell?_setCell_same _ _ _ hc2a, by rw [World.frozen?_setCell]; exact hcfa, HOWN.out.down (Nat.le_trans hB2.size hB3.size)⟩
end Go.Proofs.Ytamnligooelmgaa
