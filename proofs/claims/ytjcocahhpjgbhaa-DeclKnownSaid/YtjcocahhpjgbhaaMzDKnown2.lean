/- DeclKnown: the walk. -/
import Derived.Test.YtjcocahhpjgbhaaMzDMany
set_option maxRecDepth 100000
set_option maxRecDepth 100000
set_option maxRecDepth 100000
set_option linter.unusedVariables false
set_option linter.unusedSimpArgs false
namespace Go.Proofs.Ytjcocahhpjgbhaa
open Go.RowKit Go.BigFrame

def knB : Nat → List Int
  | 0 => []
  | 1 => [1]
  | 2 => [1, 20]
  | 3 => [1, 1, 1, 1, 1, 1, 1, 1, 1, 2]
  | 4 => [0, 0]
  | 5 => [0, 0, 0]
  | 6 => [17, 1]
  | _ => []
def knE : Nat → Int
  | 0 => 4
  | 1 => 4
  | 2 => 3
  | 3 => 3
  | 4 => 0
  | 5 => 5
  | 6 => 3
  | _ => 0
theorem knB_E : ∀ k : Fin 7, dGetE (knB k) = knE k := by decide +kernel
theorem knB_b : ∀ k : Fin 7, ∀ d ∈ knB k, 0 ≤ d ∧ d ≤ 255 := by decide
theorem knB_l : ∀ k : Fin 7, (knB k).length ≤ 10 := by decide
def kwL (w : World) : Array Value := #[.slice (some ⟨w.heap.size, 0, none⟩) 0 0, .slice (some ⟨w.heap.size + 1, 0, none⟩) 1 1, .slice (some ⟨w.heap.size + 1 + 1, 0, none⟩) 2 2, .slice (some ⟨w.heap.size + 1 + 1 + 1, 0, none⟩) 10 10, .slice (some ⟨w.heap.size + 1 + 1 + 1 + 1, 0, none⟩) 2 2, .slice (some ⟨w.heap.size + 1 + 1 + 1 + 1 + 1, 0, none⟩) 3 3, .slice (some ⟨w.heap.size + 1 + 1 + 1 + 1 + 1 + 1, 0, none⟩) 2 2]
def kwE : Array Value := #[.int .i64 4, .int .i64 4, .int .i64 3, .int .i64 3, .int .i64 0, .int .i64 5, .int .i64 3]
def kwW (w : World) : World := ((((((((w.alloc (.cells #[] 5)).alloc (.cells #[.int .u8 1] 5)).alloc (.cells #[.int .u8 1, .int .u8 20] 5)).alloc (.cells #[.int .u8 1, .int .u8 1, .int .u8 1, .int .u8 1, .int .u8 1, .int .u8 1, .int .u8 1, .int .u8 1, .int .u8 1, .int .u8 2] 5)).alloc (.cells #[.int .u8 0, .int .u8 0] 5)).alloc (.cells #[.int .u8 0, .int .u8 0, .int .u8 0] 5)).alloc (.cells #[.int .u8 17, .int .u8 1] 5)).alloc (.cells (kwL w) 26)).alloc (.cells kwE 30)
/-- The slices, the codes, in memory. -/
def KwSt (w : World) (b : Nat) : Prop := (∀ k, k < 7 → ∃ g n, w.cell? ⟨b + 1 + 1 + 1 + 1 + 1 + 1 + 1, k, none⟩ = some (.slice (some ⟨g, 0, none⟩) n n) ∧ n = (knB k).length ∧ Sl .u8 w w.heap.size (.slice (some ⟨g, 0, none⟩) n n) (knB k)) ∧ (∀ k, k < 7 → w.cell? ⟨b + 1 + 1 + 1 + 1 + 1 + 1 + 1 + 1, k, none⟩ = some (.int .i64 (knE k))) ∧ b + 1 + 1 + 1 + 1 + 1 + 1 + 1 + 1 < w.heap.size
theorem KwSt.later {w w' : World} {b : Nat} (h : KwSt w b) (hb : Below w.heap.size w w') : KwSt w' b := by
  refine ⟨fun k hk => ?_, fun k hk => (hb.cell (p := ⟨b + 1 + 1 + 1 + 1 + 1 + 1 + 1 + 1, k, none⟩) h.2.2).trans (h.2.1 k hk), Nat.lt_of_lt_of_le h.2.2 hb.size⟩
  obtain ⟨g, n, h1, h2, h3⟩ := h.1 k hk
  have hl : b + 1 + 1 + 1 + 1 + 1 + 1 + 1 < w.heap.size := by have := h.2.2; omega
  exact ⟨g, n, (hb.cell (p := ⟨b + 1 + 1 + 1 + 1 + 1 + 1 + 1, k, none⟩) hl).trans h1, h2, h3.later hb⟩
theorem kwW_st (w : World) : KwSt (kwW w) w.heap.size ∧ Below w.heap.size w (kwW w) := by
  obtain ⟨W0, h0⟩ : ∃ W, W = w.alloc (.cells #[] 5) := ⟨_, rfl⟩
  obtain ⟨W1, h1⟩ : ∃ W, W = W0.alloc (.cells #[.int .u8 1] 5) := ⟨_, rfl⟩
  obtain ⟨W2, h2⟩ : ∃ W, W = W1.alloc (.cells #[.int .u8 1, .int .u8 20] 5) := ⟨_, rfl⟩
  obtain ⟨W3, h3⟩ : ∃ W, W = W2.alloc (.cells #[.int .u8 1, .int .u8 1, .int .u8 1, .int .u8 1, .int .u8 1, .int .u8 1, .int .u8 1, .int .u8 1, .int .u8 1, .int .u8 2] 5) := ⟨_, rfl⟩
  obtain ⟨W4, h4⟩ : ∃ W, W = W3.alloc (.cells #[.int .u8 0, .int .u8 0] 5) := ⟨_, rfl⟩
  obtain ⟨W5, h5⟩ : ∃ W, W = W4.alloc (.cells #[.int .u8 0, .int .u8 0, .int .u8 0] 5) := ⟨_, rfl⟩
  obtain ⟨W6, h6⟩ : ∃ W, W = W5.alloc (.cells #[.int .u8 17, .int .u8 1] 5) := ⟨_, rfl⟩
  obtain ⟨W7, h7⟩ : ∃ W, W = W6.alloc (.cells (kwL w) 26) := ⟨_, rfl⟩
  obtain ⟨W8, h8⟩ : ∃ W, W = W7.alloc (.cells kwE 30) := ⟨_, rfl⟩
  have e : kwW w = W8 := by rw [h8, h7, h6, h5, h4, h3, h2, h1, h0]; rfl
  rw [e]
  have s0 : W0.heap.size = w.heap.size + 1 := by rw [h0]; simp
  have b0 : Below w.heap.size w W0 := by rw [h0]; exact Bel.grew (Below.refl _ _) _
  have s1 : W1.heap.size = w.heap.size + 1 + 1 := by rw [h1]; simp [s0]
  have b1 : Below W0.heap.size W0 W1 := by rw [h1]; exact Bel.grew (Below.refl _ _) _
  have s2 : W2.heap.size = w.heap.size + 1 + 1 + 1 := by rw [h2]; simp [s1]
  have b2 : Below W1.heap.size W1 W2 := by rw [h2]; exact Bel.grew (Below.refl _ _) _
  have s3 : W3.heap.size = w.heap.size + 1 + 1 + 1 + 1 := by rw [h3]; simp [s2]
  have b3 : Below W2.heap.size W2 W3 := by rw [h3]; exact Bel.grew (Below.refl _ _) _
  have s4 : W4.heap.size = w.heap.size + 1 + 1 + 1 + 1 + 1 := by rw [h4]; simp [s3]
  have b4 : Below W3.heap.size W3 W4 := by rw [h4]; exact Bel.grew (Below.refl _ _) _
  have s5 : W5.heap.size = w.heap.size + 1 + 1 + 1 + 1 + 1 + 1 := by rw [h5]; simp [s4]
  have b5 : Below W4.heap.size W4 W5 := by rw [h5]; exact Bel.grew (Below.refl _ _) _
  have s6 : W6.heap.size = w.heap.size + 1 + 1 + 1 + 1 + 1 + 1 + 1 := by rw [h6]; simp [s5]
  have b6 : Below W5.heap.size W5 W6 := by rw [h6]; exact Bel.grew (Below.refl _ _) _
  have s7 : W7.heap.size = w.heap.size + 1 + 1 + 1 + 1 + 1 + 1 + 1 + 1 := by rw [h7]; simp [s6]
  have b7 : Below W6.heap.size W6 W7 := by rw [h7]; exact Bel.grew (Below.refl _ _) _
  have s8 : W8.heap.size = w.heap.size + 1 + 1 + 1 + 1 + 1 + 1 + 1 + 1 + 1 := by rw [h8]; simp [s7]
  have b8 : Below W7.heap.size W7 W8 := by rw [h8]; exact Bel.grew (Below.refl _ _) _
  have c8 : Below W8.heap.size W8 W8 := Below.refl _ _
  have c7 : Below W7.heap.size W7 W8 := Bel.then b8 c8
  have c6 : Below W6.heap.size W6 W8 := Bel.then b7 c7
  have c5 : Below W5.heap.size W5 W8 := Bel.then b6 c6
  have c4 : Below W4.heap.size W4 W8 := Bel.then b5 c5
  have c3 : Below W3.heap.size W3 W8 := Bel.then b4 c4
  have c2 : Below W2.heap.size W2 W8 := Bel.then b3 c3
  have c1 : Below W1.heap.size W1 W8 := Bel.then b2 c2
  have c0 : Below W0.heap.size W0 W8 := Bel.then b1 c1
  have t7 : Has W8 (w.heap.size + 1 + 1 + 1 + 1 + 1 + 1 + 1) (kwL w) := (show Has W7 (w.heap.size + 1 + 1 + 1 + 1 + 1 + 1 + 1) (kwL w) from by rw [h7]; exact Has.new1 _ _ _ (by rw [s6])).later c7
  have t8 : Has W8 (w.heap.size + 1 + 1 + 1 + 1 + 1 + 1 + 1 + 1) kwE := by rw [h8]; exact Has.new1 _ _ _ (by rw [s7])
  have q0 : Sl .u8 W8 W8.heap.size (.slice (some ⟨w.heap.size, 0, none⟩) 0 0) (knB 0) := Sl.later (show Sl .u8 W0 W0.heap.size (.slice (some ⟨w.heap.size, 0, none⟩) 0 0) (knB 0) from by rw [h0]; exact Sl.built w _ 5 (knB 0) 0 _ rfl rfl rfl) c0
  have q1 : Sl .u8 W8 W8.heap.size (.slice (some ⟨w.heap.size + 1, 0, none⟩) 1 1) (knB 1) := Sl.later (show Sl .u8 W1 W1.heap.size (.slice (some ⟨w.heap.size + 1, 0, none⟩) 1 1) (knB 1) from by rw [h1]; exact Sl.built W0 _ 5 (knB 1) 1 _ rfl rfl s0.symm) c1
  have q2 : Sl .u8 W8 W8.heap.size (.slice (some ⟨w.heap.size + 1 + 1, 0, none⟩) 2 2) (knB 2) := Sl.later (show Sl .u8 W2 W2.heap.size (.slice (some ⟨w.heap.size + 1 + 1, 0, none⟩) 2 2) (knB 2) from by rw [h2]; exact Sl.built W1 _ 5 (knB 2) 2 _ rfl rfl s1.symm) c2
  have q3 : Sl .u8 W8 W8.heap.size (.slice (some ⟨w.heap.size + 1 + 1 + 1, 0, none⟩) 10 10) (knB 3) := Sl.later (show Sl .u8 W3 W3.heap.size (.slice (some ⟨w.heap.size + 1 + 1 + 1, 0, none⟩) 10 10) (knB 3) from by rw [h3]; exact Sl.built W2 _ 5 (knB 3) 10 _ rfl rfl s2.symm) c3
  have q4 : Sl .u8 W8 W8.heap.size (.slice (some ⟨w.heap.size + 1 + 1 + 1 + 1, 0, none⟩) 2 2) (knB 4) := Sl.later (show Sl .u8 W4 W4.heap.size (.slice (some ⟨w.heap.size + 1 + 1 + 1 + 1, 0, none⟩) 2 2) (knB 4) from by rw [h4]; exact Sl.built W3 _ 5 (knB 4) 2 _ rfl rfl s3.symm) c4
  have q5 : Sl .u8 W8 W8.heap.size (.slice (some ⟨w.heap.size + 1 + 1 + 1 + 1 + 1, 0, none⟩) 3 3) (knB 5) := Sl.later (show Sl .u8 W5 W5.heap.size (.slice (some ⟨w.heap.size + 1 + 1 + 1 + 1 + 1, 0, none⟩) 3 3) (knB 5) from by rw [h5]; exact Sl.built W4 _ 5 (knB 5) 3 _ rfl rfl s4.symm) c5
  have q6 : Sl .u8 W8 W8.heap.size (.slice (some ⟨w.heap.size + 1 + 1 + 1 + 1 + 1 + 1, 0, none⟩) 2 2) (knB 6) := Sl.later (show Sl .u8 W6 W6.heap.size (.slice (some ⟨w.heap.size + 1 + 1 + 1 + 1 + 1 + 1, 0, none⟩) 2 2) (knB 6) from by rw [h6]; exact Sl.built W5 _ 5 (knB 6) 2 _ rfl rfl s5.symm) c6
  refine ⟨⟨fun k hk => ?_, fun k hk => ?_, t8.1⟩, Bel.then b0 c0⟩
  · rcases (show k = 0 ∨ k = 1 ∨ k = 2 ∨ k = 3 ∨ k = 4 ∨ k = 5 ∨ k = 6 from by omega) with rfl | rfl | rfl | rfl | rfl | rfl | rfl
    · exact ⟨_, _, t7.2 0, rfl, q0⟩
    · exact ⟨_, _, t7.2 1, rfl, q1⟩
    · exact ⟨_, _, t7.2 2, rfl, q2⟩
    · exact ⟨_, _, t7.2 3, rfl, q3⟩
    · exact ⟨_, _, t7.2 4, rfl, q4⟩
    · exact ⟨_, _, t7.2 5, rfl, q5⟩
    · exact ⟨_, _, t7.2 6, rfl, q6⟩
  · rcases (show k = 0 ∨ k = 1 ∨ k = 2 ∨ k = 3 ∨ k = 4 ∨ k = 5 ∨ k = 6 from by omega) with rfl | rfl | rfl | rfl | rfl | rfl | rfl
    · exact t8.2 0
    · exact t8.2 1
    · exact t8.2 2
    · exact t8.2 3
    · exact t8.2 4
    · exact t8.2 5
    · exact t8.2 6
set_option maxHeartbeats 8000000 in
theorem declKnown_any (w : World) : Calls Try.prog 6 #[] w fun e w' => e = .returned (.bool true) ∧ Below w.heap.size w w' := by
  go_enter Try.func6, Try.ntmps6
  go_wp2_with fail
  go_loopw [1] (fun i wr => ∃ k : Nat, k ≤ 41 ∧ i = .int .i64 k ∧ Below w.heap.size w wr) (fun i _ => 41 - (intOf i).toNat)
  case atStart => exact ⟨0, Nat.zero_le _, rfl, Below.refl _ _⟩
  case round =>
    obtain ⟨k, hk, rfl, hb⟩ := hrel
    have HB := Lib.hid hb
    clear hb
    by_cases hlt : k < 41
    · have hkI : (k : Int) < 41 := by omega
      go_wp2_with fail
      refine (declMany_any (k : Int) wr (by omega) (by omega)).mono ?_
      rintro e w1 ⟨rfl, hb1⟩
      have HB1 := Lib.hid (Bel.then HB.out hb1)
      clear hb1
      go_wp2_with fail
      go_roundw
      case rel => exact ⟨k + 1, by omega, by go_num, HB1.out⟩
      case measure => simp [intOf]; omega
    · have hk' : k = 41 := by omega
      subst hk'
      rw [show ((41 : Nat) : Int) = 41 from rfl]
      obtain ⟨w1, rfl⟩ : ∃ X, X = wr := ⟨_, rfl⟩
      obtain ⟨W, hW⟩ : ∃ W, W = kwW w1 := ⟨_, rfl⟩
      have hst := kwW_st w1
      rw [← hW] at hst
      have HST := Lib.hid hst.1
      have HB2 := Lib.hid (Bel.then HB.out hst.2)
      have HW := Lib.hid hW
      clear hst hW
      go_wp2_with fail
      change Code.wp _ _ _ _ (kwW w1)
      rw [← HW.out]
      clear HW
      obtain ⟨a, ha⟩ : ∃ a, a = w1.heap.size := ⟨_, rfl⟩
      rw [← ha] at HST ⊢
      clear ha
      go_loopw [4] (fun i wr => ∃ k : Nat, k ≤ 7 ∧ i = .int .i64 k ∧ Below W.heap.size W wr) (fun i _ => 7 - (intOf i).toNat)
      case atStart => exact ⟨0, Nat.zero_le _, rfl, Below.refl _ _⟩
      case round =>
        obtain ⟨k, hk, rfl, hb⟩ := hrel
        have HBk := Lib.hid hb
        have HS := Lib.hid (HST.out.later hb)
        clear hb
        by_cases hlt : k < 7
        · obtain ⟨g, n, c1, hn, hs⟩ := HS.out.1 k hlt
          have c2 := HS.out.2.1 k hlt
          have hl8 := HS.out.2.2
          have hkI : (k : Int) < 7 := by omega
          have HE := Lib.hid (knB_E ⟨k, hlt⟩)
          have HBB := Lib.hid (knB_b ⟨k, hlt⟩)
          have HLL := Lib.hid (knB_l ⟨k, hlt⟩)
          obtain ⟨E, hE⟩ : ∃ E, E = knE k := ⟨_, rfl⟩
          have HEE : Hid (dGetE (knB k) = E) := Lib.hid (by rw [hE]; exact HE.out)
          rw [← hE] at c2
          have HSL := Lib.hid hs
          clear hs hn hE
          go_wp2_with fail
          refine (dGet_any (knB k) _ wr HSL.out (by have : (knB k).length ≤ 10 := HLL.out; omega) HBB.out (dGetD (knB k)) E rfl HEE.out).mono ?_
          rintro e w2 ⟨G, rfl, hG, hpl, hb2⟩
          have c2' := (hb2.cell (p := ⟨a + 1 + 1 + 1 + 1 + 1 + 1 + 1 + 1, k, none⟩) hl8).trans c2
          have hl8' : a + 1 + 1 + 1 + 1 + 1 + 1 + 1 + 1 < w2.heap.size := Nat.lt_of_lt_of_le hl8 hb2.size
          obtain ⟨gt, gp, hgv⟩ : ∃ gt gp, gt = G.tv ∧ gp = G.pv := ⟨_, _, rfl, rfl⟩
          dsimp only [declV]
          obtain ⟨A1, n1, h1⟩ := hG.inn.1.shapeL
          obtain ⟨A2, n2, h2⟩ := hG.inn.2.2.shapeL
          obtain ⟨l1, hl1⟩ : ∃ n, n = G.ts.length := ⟨_, rfl⟩
          obtain ⟨l2, hl2⟩ : ∃ n, n = G.ps.length := ⟨_, rfl⟩
          rw [← hl1] at h1
          rw [← hl2] at h2
          rw [h1, h2]
          have hB2 : Below W.heap.size W (w2.alloc (.cells #[.slice A1 l1 n1, .slice A2 l2 n2] 25)) := Bel.grew (Bel.then HBk.out hb2) _
          have HB2' := Lib.hid hB2
          clear hG hpl hb2 hgv h1 h2 hl1 hl2 hB2 c1 c2
          go_wp2_with fail
          go_roundw
          case rel => exact ⟨k + 1, by omega, by go_num, HB2'.out⟩
          case measure => simp [intOf]; omega
        · have hk' : k = 7 := by omega
          subst hk'
          go_wp2_with fail
          refine (known07_any wr).mono ?_
          rintro e w5 ⟨rfl, hb5⟩
          have HB5 := Lib.hid (Bel.then (Bel.then HB2.out HBk.out) hb5)
          clear hb5
          go_wp2_with fail
          go_ret
          exact ⟨rfl, HB5.out⟩
end Go.Proofs.Ytjcocahhpjgbhaa
