/- EventKnown: the walk. -/
import Derived.Test.YtjjccjannandlaaMzEBytes
import Derived.Lib.Hide
set_option maxRecDepth 100000
set_option linter.unusedVariables false
set_option linter.unusedSimpArgs false
namespace Go.Proofs.Ytjjccjannandlaa
open Go.RowKit Go.BigFrame

def laF : Nat → Int
  | 0 => 0
  | 1 => 9223372036854775807
  | 2 => 9223372036854775807
  | 3 => 7
  | 4 => 9223372036854775807
  | 5 => 7
  | 6 => 5
  | 7 => -9223372036854775808
  | 8 => 9223372036854775807
  | _ => 0
theorem la64 : Ev64 laF [9223372036854775806] := by
  refine ⟨fun i hi => ?_, fun x hx => ?_⟩
  · rcases (show i = 0 ∨ i = 1 ∨ i = 2 ∨ i = 3 ∨ i = 4 ∨ i = 5 ∨ i = 6 ∨ i = 7 ∨ i = 8 from by omega) with rfl | rfl | rfl | rfl | rfl | rfl | rfl | rfl | rfl
    all_goals decide
  · simp only [List.mem_cons, List.not_mem_nil, or_false] at hx
    subst hx; decide
theorem la_l : ([9223372036854775806] : List Int).length ≤ 64 := by decide
theorem la_l' : ([9223372036854775806] : List Int).length ≤ 1099511627776 := by decide
theorem la_len : (encs (evL laF [9223372036854775806])).length ≤ 1099511627776 := by
  have := encs_le (la64.all (by decide))
  rw [evL_length] at this
  simp at this
  omega
theorem la_chk : chkE laF [9223372036854775806] 1 = 0 := by decide +kernel
theorem la_max : laF 1 ≤ 9223372036854775807 := by decide
theorem z_chk : chkE (fun _ => 0) [] 0 = 1 := by decide +kernel
theorem z_max : (fun _ => 0 : Nat → Int) 1 ≤ 9223372036854775807 := by decide
theorem sm_chkn : chkE smF [0, 2] (-1) = 1 := by decide +kernel
theorem e2 : eE [2] = 4 := by decide +kernel
theorem e11 : eE [0, 0, 0, 0, 0, 0, 0, 0, 0, 0, 0] = 5 := by decide +kernel
theorem e10 : eE [0, 0, 0, 0, 0, 0, 0, 0, 0, 0] = 0 := by decide +kernel
theorem g10 : gD [0, 0, 0, 0, 0, 0, 0, 0, 0, 0] = [] := by decide +kernel
theorem f10 : ∀ i, i < 9 → gF [0, 0, 0, 0, 0, 0, 0, 0, 0, 0] i = 0 := by
  intro i hi
  rcases (show i = 0 ∨ i = 1 ∨ i = 2 ∨ i = 3 ∨ i = 4 ∨ i = 5 ∨ i = 6 ∨ i = 7 ∨ i = 8 from by omega) with rfl | rfl | rfl | rfl | rfl | rfl | rfl | rfl | rfl
  all_goals decide +kernel
theorem mk11 (w : World) : (Instr.makeSlice 22 (.int .i64 11) (.int .i64 11)).run Try.prog w = .ok (.slice (some ⟨w.heap.size, 0, none⟩) 11 11) (w.alloc (.cells #[.int .u8 0, .int .u8 0, .int .u8 0, .int .u8 0, .int .u8 0, .int .u8 0, .int .u8 0, .int .u8 0, .int .u8 0, .int .u8 0, .int .u8 0] 5)) := by kernel_rfl
theorem mk10 (w : World) : (Instr.makeSlice 22 (.int .i64 10) (.int .i64 10)).run Try.prog w = .ok (.slice (some ⟨w.heap.size, 0, none⟩) 10 10) (w.alloc (.cells #[.int .u8 0, .int .u8 0, .int .u8 0, .int .u8 0, .int .u8 0, .int .u8 0, .int .u8 0, .int .u8 0, .int .u8 0, .int .u8 0] 5)) := by kernel_rfl
def z65 : Array Value := #[.int .i64 0, .int .i64 0, .int .i64 0, .int .i64 0, .int .i64 0, .int .i64 0, .int .i64 0, .int .i64 0, .int .i64 0, .int .i64 0, .int .i64 0, .int .i64 0, .int .i64 0, .int .i64 0, .int .i64 0, .int .i64 0, .int .i64 0, .int .i64 0, .int .i64 0, .int .i64 0, .int .i64 0, .int .i64 0, .int .i64 0, .int .i64 0, .int .i64 0, .int .i64 0, .int .i64 0, .int .i64 0, .int .i64 0, .int .i64 0, .int .i64 0, .int .i64 0, .int .i64 0, .int .i64 0, .int .i64 0, .int .i64 0, .int .i64 0, .int .i64 0, .int .i64 0, .int .i64 0, .int .i64 0, .int .i64 0, .int .i64 0, .int .i64 0, .int .i64 0, .int .i64 0, .int .i64 0, .int .i64 0, .int .i64 0, .int .i64 0, .int .i64 0, .int .i64 0, .int .i64 0, .int .i64 0, .int .i64 0, .int .i64 0, .int .i64 0, .int .i64 0, .int .i64 0, .int .i64 0, .int .i64 0, .int .i64 0, .int .i64 0, .int .i64 0, .int .i64 0]
theorem mk65 (w : World) : (Instr.makeSlice 35 (.int .i64 65) (.int .i64 65)).run Try.prog w = .ok (.slice (some ⟨w.heap.size, 0, none⟩) 65 65) (w.alloc (.cells z65 3)) := by kernel_rfl
def l65 : List Int := List.replicate 65 0
theorem sl65 (w : World) : Sl .i64 (w.alloc (.cells z65 3)) (w.alloc (.cells z65 3)).heap.size (.slice (some ⟨w.heap.size, 0, none⟩) 65 65) l65 := Sl.built w _ _ l65 65 _ (by kernel_rfl) rfl rfl
theorem sl11 (w : World) : Sl .u8 (w.alloc (.cells #[.int .u8 0, .int .u8 0, .int .u8 0, .int .u8 0, .int .u8 0, .int .u8 0, .int .u8 0, .int .u8 0, .int .u8 0, .int .u8 0, .int .u8 0] 5)) (w.alloc (.cells #[.int .u8 0, .int .u8 0, .int .u8 0, .int .u8 0, .int .u8 0, .int .u8 0, .int .u8 0, .int .u8 0, .int .u8 0, .int .u8 0, .int .u8 0] 5)).heap.size (.slice (some ⟨w.heap.size, 0, none⟩) 11 11) [0, 0, 0, 0, 0, 0, 0, 0, 0, 0, 0] := Sl.built w _ _ [0, 0, 0, 0, 0, 0, 0, 0, 0, 0, 0] 11 _ rfl rfl rfl
theorem sl10 (w : World) : Sl .u8 (w.alloc (.cells #[.int .u8 0, .int .u8 0, .int .u8 0, .int .u8 0, .int .u8 0, .int .u8 0, .int .u8 0, .int .u8 0, .int .u8 0, .int .u8 0] 5)) (w.alloc (.cells #[.int .u8 0, .int .u8 0, .int .u8 0, .int .u8 0, .int .u8 0, .int .u8 0, .int .u8 0, .int .u8 0, .int .u8 0, .int .u8 0] 5)).heap.size (.slice (some ⟨w.heap.size, 0, none⟩) 10 10) [0, 0, 0, 0, 0, 0, 0, 0, 0, 0] := Sl.built w _ _ [0, 0, 0, 0, 0, 0, 0, 0, 0, 0] 10 _ rfl rfl rfl
abbrev la10 (q : Nat) : Array Value := #[.int .i64 0, .int .i64 9223372036854775807, .int .i64 9223372036854775807, .slice (some ⟨q, 0, none⟩) 1 1, .int .i64 7, .int .i64 9223372036854775807, .int .i64 7, .int .i64 5, .int .i64 (-9223372036854775808), .int .i64 9223372036854775807]

set_option maxRecDepth 100000 in
set_option maxHeartbeats 16000000 in
theorem eventKnown_any (w : World) :
    Calls Try.prog 10 #[] w fun e w' => e = .returned (.bool true) ∧ Below w.heap.size w w' := by
  go_enter Try.func10, Try.ntmps10
  go_wp2_with fail
  obtain ⟨W1, hW1⟩ : ∃ W1, W1 = (w.alloc (.cells #[.int .i64 9223372036854775806] 3)).alloc (.cells (la10 w.heap.size) 39) := ⟨_, rfl⟩
  have H1 := Lib.hid (show Has W1 (w.heap.size + 1) (la10 w.heap.size) by rw [hW1]; exact Has.new1 _ _ _ (by simp))
  have S1 : Hid (Sl .i64 W1 W1.heap.size (.slice (some ⟨w.heap.size, 0, none⟩) 1 1) [9223372036854775806]) := by rw [hW1]; exact Lib.hid ((Sl.one w _ _ _ rfl).later (Bel.grew (Below.refl _ _) _))
  have B1 := Lib.hid (show Below w.heap.size w W1 by rw [hW1]; exact Bel.grew (Bel.grew (Below.refl _ _) _) _)
  change Calls _ _ _ ((w.alloc (.cells #[.int .i64 9223372036854775806] 3)).alloc (.cells (la10 w.heap.size) 39)) _
  rw [← hW1]
  clear hW1
  refine (ePut_any laF _ [9223372036854775806] _ S1.out la_l la64).mono ?_
  rintro e w2 ⟨r, rfl, hown, hb⟩
  obtain ⟨P, hP⟩ : ∃ P, P = encs (evL laF [9223372036854775806]) := ⟨_, rfl⟩
  have HPB : Hid (Bytes P) := by rw [hP]; exact Lib.hid (encs_byte (la64.all la_l'))
  have HPL : Hid (P.length ≤ 1099511627776) := by rw [hP]; exact Lib.hid la_len
  have HPE : Hid (eE P = 0) := by rw [hP]; exact Lib.hid (eE_back la64 la_l)
  have HPD : Hid (gD P = [9223372036854775806]) := by rw [hP]; exact Lib.hid (gD_back la64 la_l)
  have HPF : Hid (∀ i, i < 9 → gF P i = laF i) := by rw [hP]; exact Lib.hid fun i hi => gF_back la64 la_l hi
  rw [← hP] at hown
  have SP := Lib.hid (OwnK.sl hown)
  have B12 := Lib.hid hb
  clear hP hown hb
  go_wp2_with fail
  refine (eGet_any P _ _ SP.out HPL.out HPB.out (gF P) 0 [9223372036854775806] rfl HPE.out HPD.out).mono ?_
  rintro e w3 ⟨dv, rfl, hown, hb⟩
  rw [evV_congr HPF.out]
  have S3 := Lib.hid (OwnK.sl (hown : OwnK .i64 3 _ _ _ _))
  have B13 := Lib.hid (Bel.then B12.out hb)
  obtain ⟨A3, c3, h3⟩ := S3.out.shape
  subst h3
  clear hown hb B12 SP HPB HPL HPE HPD HPF
  go_wp2_with fail
  obtain ⟨W4, hW4⟩ : ∃ W4, W4 = w3.alloc (.cells (cells10 laF (.slice A3 1 c3)) 39) := ⟨_, rfl⟩
  have hg4 : Below w3.heap.size w3 W4 := by rw [hW4]; exact Bel.grew (Below.refl _ _) _
  have H4 := Lib.hid (show Has W4 w3.heap.size (cells10 laF (.slice A3 1 c3)) by rw [hW4]; exact Has.new _ _ _)
  have B14 := Lib.hid (Bel.then B13.out hg4)
  have S4 := Lib.hid (S3.out.later hg4)
  have hs4 : w3.heap.size + 1 = W4.heap.size := by rw [hW4]; simp
  change Calls _ _ _ ((w3.alloc (.cells (cells10 laF (.slice A3 1 c3)) 39)).alloc (.cells #[.int .u8 2] 5)) _
  rw [← hW4, hs4]
  clear hW4 hg4 B13 S3 hs4
  refine (eGet_any [2] _ _ (Sl.one W4 _ 2 _ rfl) (by decide) (by intro d hd; simp at hd; omega) (fun _ => 0) 4 [] (gF_no (by rw [e2]; decide)) e2 (gD_no (by rw [e2]; decide))).mono ?_
  rintro e w5 ⟨dv5, rfl, hown, hb⟩
  have B45 := Lib.hid (Bel.then (Bel.grew (Below.refl _ _) _) hb)
  obtain ⟨A5, c5, h5⟩ := (OwnK.sl (hown : OwnK .i64 3 _ _ _ _)).shape
  subst h5
  have hmk11 := mk11
  have hmk10 := mk10
  have hmk65 := mk65
  clear hown hb
  go_wp2_with fail
  obtain ⟨W6, hW6⟩ : ∃ W6, W6 = w5.alloc (.cells (cells10 (fun _ => 0) (.slice A5 0 c5)) 39) := ⟨_, rfl⟩
  have hg : Below w5.heap.size w5 W6 := by rw [hW6]; exact Bel.grew (Below.refl _ _) _
  have B46 := Lib.hid (Bel.then B45.out hg)
  have hs6 : w5.heap.size + 1 = W6.heap.size := by rw [hW6]; simp
  change Calls _ _ _ ((w5.alloc (.cells (cells10 (fun _ => 0) (.slice A5 0 c5)) 39)).alloc (.cells #[.int .u8 0, .int .u8 0, .int .u8 0, .int .u8 0, .int .u8 0, .int .u8 0, .int .u8 0, .int .u8 0, .int .u8 0, .int .u8 0, .int .u8 0] 5)) _
  rw [← hW6, hs6]
  clear hW6 hg B45 hs6
  refine (eGet_any _ _ _ (sl11 W6) (by decide) (by intro d hd; simp at hd; omega) (fun _ => 0) 5 [] (gF_no (by rw [e11]; decide)) e11 (gD_no (by rw [e11]; decide))).mono ?_
  rintro e w7 ⟨dv7, rfl, hown, hb⟩
  have B47 := Lib.hid (Bel.then B46.out (Bel.then (Bel.grew (Below.refl _ _) _) hb))
  obtain ⟨A7, c7, h7⟩ := (OwnK.sl (hown : OwnK .i64 3 _ _ _ _)).shape
  subst h7
  clear hown hb B46
  go_wp2_with fail
  obtain ⟨W8, hW8⟩ : ∃ W8, W8 = w7.alloc (.cells (cells10 (fun _ => 0) (.slice A7 0 c7)) 39) := ⟨_, rfl⟩
  have hg : Below w7.heap.size w7 W8 := by rw [hW8]; exact Bel.grew (Below.refl _ _) _
  have B48 := Lib.hid (Bel.then B47.out hg)
  have hs8 : w7.heap.size + 1 = W8.heap.size := by rw [hW8]; simp
  change Calls _ _ _ ((w7.alloc (.cells (cells10 (fun _ => 0) (.slice A7 0 c7)) 39)).alloc (.cells #[.int .u8 0, .int .u8 0, .int .u8 0, .int .u8 0, .int .u8 0, .int .u8 0, .int .u8 0, .int .u8 0, .int .u8 0, .int .u8 0] 5)) _
  rw [← hW8, hs8]
  clear hW8 hg B47 hs8
  obtain ⟨g, hg⟩ : ∃ g, gF [0, 0, 0, 0, 0, 0, 0, 0, 0, 0] = g := ⟨_, rfl⟩
  have hgv : ∀ dv, evV g dv = evV (fun _ => 0) dv := fun dv => evV_congr (fun i hi => by rw [← hg]; exact f10 i hi) dv
  refine (eGet_any _ _ _ (sl10 W8) (by decide) (by intro d hd; simp at hd; omega) g 0 [] hg e10 g10).mono ?_
  rintro e w9 ⟨dv9, rfl, hown, hb⟩
  rw [hgv]
  have B49 := Lib.hid (Bel.then B48.out (Bel.then (Bel.grew (Below.refl _ _) _) hb))
  have S9 := Lib.hid (OwnK.sl (hown : OwnK .i64 3 _ _ _ _))
  obtain ⟨A9, c9, h9⟩ := S9.out.shape
  subst h9
  clear hg hgv hown hb B48
  go_wp2_with fail
  obtain ⟨WA, hWA⟩ : ∃ WA, WA = w9.alloc (.cells (cells10 (fun _ => 0) (.slice A9 0 c9)) 39) := ⟨_, rfl⟩
  have hg : Below w9.heap.size w9 WA := by rw [hWA]; exact Bel.grew (Below.refl _ _) _
  have H9 := Lib.hid (show Has WA w9.heap.size (cells10 (fun _ => 0) (.slice A9 0 c9)) by rw [hWA]; exact Has.new _ _ _)
  have B4A := Lib.hid (Bel.then B49.out hg)
  have SA := Lib.hid (S9.out.later hg)
  have hsA : w9.heap.size + 1 = WA.heap.size := by rw [hWA]; simp
  change Calls _ _ _ ((w9.alloc (.cells (cells10 (fun _ => 0) (.slice A9 0 c9)) 39)).alloc (.cells z65 3)) _
  rw [← hWA, hsA]
  clear hWA hg B49 hsA S9
  refine (ePut_many (fun _ => 0) _ l65 _ (sl65 WA) (by decide)).mono ?_
  rintro e wB ⟨rfl, hb⟩
  have BAB := Lib.hid (Bel.then (Bel.grew (Below.refl _ _) _) hb)
  have B4B := Lib.hid (Bel.then B4A.out BAB.out)
  have B1B := Lib.hid (Bel.then B14.out B4B.out)
  have HB1 := Lib.hid (H1.out.later B1B.out)
  have HB4 := Lib.hid (H4.out.later B4B.out)
  have HB9 := Lib.hid (H9.out.later BAB.out)
  have SB1 := Lib.hid (S1.out.later B1B.out)
  have SB4 := Lib.hid (S4.out.later B4B.out)
  have SB9 := Lib.hid (SA.out.later BAB.out)
  have BWB := Lib.hid (Bel.then B1.out B1B.out)
  clear hb B4A B14 B4B B1B BAB H1 H4 H9 S1 S4 SA B1 hmk10 hmk11 hmk65
  have hc1 := HB1.out.2
  have hl1 := HB1.out.1
  go_wp2_with fail
  refine (eCheck_any laF _ [9223372036854775806] 1 _ SB1.out la_l' la_max 0 la_chk).mono ?_
  rintro e x1 ⟨rfl, hb⟩
  have BC := Lib.hid hb
  clear hb hc1 hl1
  have hc1 := (HB1.out.later BC.out).2
  have hl1 := (HB1.out.later BC.out).1
  have hc4 := (HB4.out.later BC.out).2
  have hl4 := (HB4.out.later BC.out).1
  go_wp2_with fail
  refine (sameEv_eq laF _ _ [9223372036854775806] _ (SB4.out.later BC.out) (SB1.out.later BC.out) la_l').mono ?_
  rintro e x2 ⟨rfl, hb⟩
  have BC := Lib.hid (Bel.then BC.out hb)
  clear hb hc1 hl1 hc4 hl4
  have hc9 := (HB9.out.later BC.out).2
  have hl9 := (HB9.out.later BC.out).1
  go_wp2_with fail
  refine (sameEv_eq (fun _ => 0) _ (.slice none 0 0) [] _ (SB9.out.later BC.out) Sl.nil_ (by decide)).mono ?_
  rintro e x3 ⟨rfl, hb⟩
  have BC := Lib.hid (Bel.then BC.out hb)
  clear hb hc9 hl9
  go_wp2_with fail
  refine (eCheck_any (fun _ => 0) (.slice none 0 0) [] 0 _ Sl.nil_ (by decide) z_max 1 z_chk).mono ?_
  rintro e x4 ⟨rfl, hb⟩
  have BC := Lib.hid (Bel.then BC.out hb)
  clear hb
  go_wp2_with fail
  refine (small_any _).mono ?_
  rintro e x5 ⟨cS, rfl, hS, hb⟩
  have BC := Lib.hid (Bel.then BC.out hb)
  have HSS := Lib.hid hS
  clear hb hS
  go_wp2_with fail
  refine (eCheck_any smF _ [0, 2] (-1) _ HSS.out sm_l sm_max 1 sm_chkn).mono ?_
  rintro e x6 ⟨rfl, hb⟩
  have BC := Lib.hid (Bel.then BC.out hb)
  clear hb
  go_wp2_with fail
  refine (known05_any _).mono ?_
  rintro e x7 ⟨rfl, hb⟩
  have BC := Lib.hid (Bel.then BC.out hb)
  clear hb
  go_wp2_with fail
  go_ret
  exact ⟨rfl, Bel.then BWB.out BC.out⟩
end Go.Proofs.Ytjjccjannandlaa
