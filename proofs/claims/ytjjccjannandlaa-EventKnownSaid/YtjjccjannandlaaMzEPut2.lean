/- event.Put. -/
import Derived.Test.YtjjccjannandlaaMzEPut
import Derived.Test.YtjjccjannandlaaMzCells10
set_option maxRecDepth 100000
set_option linter.unusedVariables false
set_option linter.unusedSimpArgs false
namespace Go.Proofs.Ytjjccjannandlaa
open Go.RowKit Go.BigFrame

/-- An event's cells. -/
def evC (f : Nat → Int) (dv : Value) : Nat → Value
  | 0 => .int .i64 (f 0)
  | 1 => .int .i64 (f 1)
  | 2 => .int .i64 (f 2)
  | 3 => dv
  | 4 => .int .i64 (f 3)
  | 5 => .int .i64 (f 4)
  | 6 => .int .i64 (f 5)
  | 7 => .int .i64 (f 6)
  | 8 => .int .i64 (f 7)
  | _ => .int .i64 (f 8)
abbrev headL (f : Nat → Int) (n : Nat) : List Int := [f 0, f 1, f 2, (n : Int)]
abbrev tailL (f : Nat → Int) : List Int := [f 3, f 4, f 5, f 6, f 7, f 8]
/-- An event's numbers. -/
def evL (f : Nat → Int) (deps : List Int) : List Int := headL f deps.length ++ deps ++ tailL f
def Ev64 (f : Nat → Int) (deps : List Int) : Prop := (∀ i, i < 9 → -9223372036854775808 ≤ f i ∧ f i ≤ 9223372036854775807) ∧ I64s deps
theorem Ev64.head {f : Nat → Int} {deps : List Int} (h : Ev64 f deps) (hl : deps.length ≤ 1099511627776) : I64s (headL f deps.length) := by
  have h0 := h.1 0 (by omega); have h1 := h.1 1 (by omega); have h2 := h.1 2 (by omega)
  intro x hx
  simp only [headL, List.mem_cons, List.not_mem_nil, or_false] at hx
  rcases hx with rfl | rfl | rfl | rfl
  · exact h0
  · exact h1
  · exact h2
  · omega
theorem Ev64.tail {f : Nat → Int} {deps : List Int} (h : Ev64 f deps) : I64s (tailL f) := by
  intro x hx
  simp only [tailL, List.mem_cons, List.not_mem_nil, or_false] at hx
  rcases hx with rfl | rfl | rfl | rfl | rfl | rfl
  · exact h.1 3 (by omega)
  · exact h.1 4 (by omega)
  · exact h.1 5 (by omega)
  · exact h.1 6 (by omega)
  · exact h.1 7 (by omega)
  · exact h.1 8 (by omega)
theorem Cells10.but {w w' : World} {p q : Nat} {f : Nat → Value} (h : Cells10 w q f) (hq : q < w.heap.size) (hp : q ≠ p) (hb : But p w w') : Cells10 w' q f := fun o ho => ⟨(hb.cell hq hp).trans (h o ho).1, (hb.frozen hq hp).trans (h o ho).2⟩

set_option maxHeartbeats 2000000 in
theorem ePut_many (f : Nat → Int) (dv : Value) (deps : List Int) (w : World) (hd : Sl .i64 w w.heap.size dv deps) (hl : 64 < deps.length) :
    Calls Try.prog 29 #[evV f dv] w fun e w' => e = .returned (.tuple #[.slice none 0 0, .int .i64 3]) ∧ Below w.heap.size w w' := by
  obtain ⟨A, c, rfl⟩ := hd.shape
  clear hd
  go_enter Try.func29, Try.ntmps29
  have hI : ¬ ((deps.length : Int) ≤ 64) := by omega
  have hB : ∀ o, Below w.heap.size w (w.alloc o) := fun o => (Below.refl w.heap.size w).alloc (Nat.le_refl _) o
  go_wp2_with fail
  simp [bodyPost, results, Try.results29, go_sem, hB]

set_option maxHeartbeats 4000000 in
theorem ePut_any (f : Nat → Int) (dv : Value) (deps : List Int) (w : World) (hd : Sl .i64 w w.heap.size dv deps) (hl : deps.length ≤ 64) (h64 : Ev64 f deps) :
    Calls Try.prog 29 #[evV f dv] w fun e w' => ∃ r, e = .returned (.tuple #[r, .int .i64 0]) ∧ OwnBytes w' w.heap.size r (encs (evL f deps)) ∧ Below w.heap.size w w' := by
  have hds : ∀ b o n c, dv = .slice (some ⟨b, o, none⟩) n c → 0 < deps.length → b < w.heap.size := by
    intro b o n c h h0
    subst h
    obtain ⟨A, c', hv⟩ := hd.shape
    injection hv with h1 h2 h3
    subst h1 h2 h3
    obtain ⟨b', off, h, h', _⟩ := hd.elem h0
    injection h with h; injection h with h
    omega
  obtain ⟨A, c, rfl⟩ := hd.shape
  have HD := Lib.hid hd
  have HDS := Lib.hid hds
  have H64 := Lib.hid h64
  clear hd h64 hds
  have hI : (deps.length : Int) ≤ 64 := by omega
  obtain ⟨w2, hw2⟩ : ∃ w2, w2 = (w.alloc (.cells #[.int .i64 (f 0), .int .i64 (f 1), .int .i64 (f 2), .slice A deps.length c, .int .i64 (f 3), .int .i64 (f 4), .int .i64 (f 5), .int .i64 (f 6), .int .i64 (f 7), .int .i64 (f 8)] 39)).alloc (.cells #[.slice none 0 0] 22) := ⟨_, rfl⟩
  have hB2 : Below w.heap.size w w2 := by rw [hw2]; exact ((Below.refl _ _).alloc (Nat.le_refl _) _).alloc (by simp) _
  have hs2 : w2.heap.size = w.heap.size + 2 := by rw [hw2]; simp
  have hc : Cells10 w2 w.heap.size (evC f (.slice A deps.length c)) := by
    intro o ho
    rw [hw2]
    rcases (show o = 0 ∨ o = 1 ∨ o = 2 ∨ o = 3 ∨ o = 4 ∨ o = 5 ∨ o = 6 ∨ o = 7 ∨ o = 8 ∨ o = 9 from by omega) with rfl | rfl | rfl | rfl | rfl | rfl | rfl | rfl | rfl | rfl
    all_goals simp [go_sem, evC]
  have hq : w2.cell? ⟨w.heap.size + 1, 0, none⟩ = some (.slice none 0 0) ∧ w2.frozen? ⟨w.heap.size + 1, 0, none⟩ = false := by
    rw [hw2]; simp [go_sem]
  have HW2 := Lib.hid hw2
  have HB2 := Lib.hid hB2
  have HS2 := Lib.hid hs2
  have HC := Lib.hid hc
  have HQ := Lib.hid hq
  clear hw2 hB2 hs2 hc hq
  go_enter Try.func29, Try.ntmps29
  go_wp2_with fail
  rw [← HW2.out]
  have hs2 := HS2.out
  have h4 : Sl .i64 (w2.alloc (.cells #[.int .i64 (f 0), .int .i64 (f 1), .int .i64 (f 2), .int .i64 (deps.length : Int)] 3)) (w2.alloc (.cells #[.int .i64 (f 0), .int .i64 (f 1), .int .i64 (f 2), .int .i64 (deps.length : Int)] 3)).heap.size (.slice (some ⟨w.heap.size + 1 + 1, 0, none⟩) 4 4) (headL f deps.length) := Sl.built w2 _ _ _ 4 _ rfl rfl (by omega)
  refine (lay_any (headL f deps.length) [] _ _ (w.heap.size + 1) _ h4 (fun b o n c h _ => by injection h with h1 h2 h3; injection h1 with h1; injection h1 with h1; omega) (by simp; omega) (by simp [go_sem, HQ.out, hs2]) (by simp [go_sem, HQ.out, hs2]) (OwnK.nil_ _ _) (H64.out.head (by omega)) (by simp) (by simp)).mono ?_
  rintro e w3 ⟨v1, rfl, hb1, hc1, hf1, ho1⟩
  rw [List.nil_append] at ho1
  have hg3 : Below w2.heap.size w2 (w2.alloc (.cells #[.int .i64 (f 0), .int .i64 (f 1), .int .i64 (f 2), .int .i64 (deps.length : Int)] 3)) := (Below.refl _ _).alloc (Nat.le_refl _) _
  have hsa := hb1.size
  simp only [World.size_alloc] at hsa
  have HB3 := Lib.hid (HB2.out.trans ((hg3.mono (by omega)).trans (hb1.below (B := w.heap.size) (by omega) (by simp; omega))))
  have HC3 := Lib.hid ((HC.out.below (B := w2.heap.size) (by omega) hg3).but (by simp; omega) (by omega) hb1)
  have HS3 : Hid (w.heap.size + 2 ≤ w3.heap.size) := by exact Lib.hid (by omega)
  have HO3 := Lib.hid ho1
  have HQ3 := Lib.hid (And.intro hc1 hf1)
  clear h4 hb1 hc1 hf1 ho1 hg3 hsa hs2 HC HQ HW2 HB2 HS2
  obtain ⟨d0, e0⟩ := HC3.out 3 (by decide)
  dsimp only [evC] at d0
  go_wp2_with fail
  have hs3 := HS3.out
  refine (lay_any deps (encs (headL f deps.length)) _ _ (w.heap.size + 1) _ ((HD.out.below HB3.out).more (by omega)) (fun b o n c h h0 => by have := HDS.out b o n c h h0; omega) (by omega) HQ3.out.1 HQ3.out.2 HO3.out H64.out.2 ?_ (by omega)).mono ?_
  · have := encs_le (H64.out.head (deps := deps) (by omega)); simp at this; omega
  rintro e w4 ⟨v2, rfl, hb2, hc2, hf2, ho2⟩
  have HB4 := Lib.hid (HB3.out.trans (hb2.below (B := w.heap.size) (by omega) (by omega)))
  have HC4 := Lib.hid (HC3.out.but (by omega) (by omega) hb2)
  have HS4 : Hid (w.heap.size + 2 ≤ w4.heap.size) := by have := hb2.size; exact Lib.hid (by omega)
  have HO4 := Lib.hid ho2
  have HQ4 := Lib.hid (And.intro hc2 hf2)
  clear hb2 hc2 hf2 ho2 hs3 HC3 HQ3 HO3 HB3 HS3 d0 e0
  obtain ⟨⟨_, _⟩, ⟨_, _⟩, ⟨_, _⟩, ⟨_, _⟩, ⟨c4, _⟩, ⟨c5, _⟩, ⟨c6, _⟩, ⟨c7, _⟩, ⟨c8, _⟩, ⟨c9, _⟩⟩ := And.intro (HC4.out 0 (by decide)) (And.intro (HC4.out 1 (by decide)) (And.intro (HC4.out 2 (by decide)) (And.intro (HC4.out 3 (by decide)) (And.intro (HC4.out 4 (by decide)) (And.intro (HC4.out 5 (by decide)) (And.intro (HC4.out 6 (by decide)) (And.intro (HC4.out 7 (by decide)) (And.intro (HC4.out 8 (by decide)) (HC4.out 9 (by decide))))))))))
  dsimp only [evC] at c4 c5 c6 c7 c8 c9
  go_wp2_with fail
  have hs4 := HS4.out
  obtain ⟨w5, hw5⟩ : ∃ w5, w5 = w4.alloc (.cells #[.int .i64 (f 3), .int .i64 (f 4), .int .i64 (f 5), .int .i64 (f 6), .int .i64 (f 7), .int .i64 (f 8)] 3) := ⟨_, rfl⟩
  have hg5 : Below w4.heap.size w4 w5 := by rw [hw5]; exact (Below.refl _ _).alloc (Nat.le_refl _) _
  have h6 : Sl .i64 w5 w5.heap.size (.slice (some ⟨w4.heap.size, 0, none⟩) 6 6) (tailL f) := by rw [hw5]; exact Sl.built w4 _ _ _ 6 _ rfl rfl rfl
  have hs5 := hg5.size
  rw [← hw5]
  refine (lay_any (tailL f) (encs (headL f deps.length) ++ encs deps) _ _ (w.heap.size + 1) _ h6 (fun b o n c h _ => by injection h with h1 h2 h3; injection h1 with h1; injection h1 with h1; omega) (by omega) ((hg5.cell (p := ⟨w.heap.size + 1, 0, none⟩) (by show w.heap.size + 1 < _; omega)).trans HQ4.out.1) ((hg5.frozen (p := ⟨w.heap.size + 1, 0, none⟩) (by show w.heap.size + 1 < _; omega)).trans HQ4.out.2) (HO4.out.later hg5) H64.out.tail ?_ (by simp)).mono ?_
  · have h1 := encs_le (H64.out.head (deps := deps) (by omega)); have h2 := encs_le H64.out.2; simp at h1; rw [List.length_append]; omega
  rintro e w6 ⟨v3, rfl, hb3, hc3, hf3, ho3⟩
  have HB6 := Lib.hid (HB4.out.trans ((hg5.mono (by omega)).trans (hb3.below (B := w.heap.size) (by omega) (by omega))))
  have he : (encs (headL f deps.length) ++ encs deps) ++ encs (tailL f) = encs (evL f deps) := by unfold evL; rw [encs_append, encs_append]
  rw [he] at ho3
  have HO6 := Lib.hid (ho3.down (B' := w.heap.size) (by omega))
  clear hw5 hb3 ho3 he h6 hg5 hs5 hs4 HC4 HQ4 HO4 HB4 HS4 hf3
  go_wp2_with fail
  have hO := HO6.out
  have hB := HB6.out
  simp [bodyPost, results, Try.results29, go_sem, hB]
  exact hO
end Go.Proofs.Ytjjccjannandlaa
