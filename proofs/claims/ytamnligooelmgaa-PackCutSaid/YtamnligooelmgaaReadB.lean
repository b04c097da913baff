/- The reader: Blob's closure where it halts. -/
import Derived.Test.YtamnligooelmgaaReadA
set_option linter.unusedVariables false
set_option linter.unusedSimpArgs false
namespace Go.Proofs.Ytamnligooelmgaa
open Go.RowKit Go.BigFrame

set_option maxHeartbeats 4000000 in
theorem blob1_num {xs : List Int} {S : Value} {p a q1 q2 : Nat} {c : Int} {w : World} (hR : Rd w p xs S a 0) (hl : xs.length ≤ 1099511627776) (ha : a ≤ xs.length) (hb : Bytes xs) (hn : countR (xs.drop a) 2147483647 = .inl c)
    (h1 : w.cell? ⟨q1, 0, none⟩ = some (.pointer (some ⟨p, 0, none⟩))) (h2 : w.cell? ⟨q2, 0, none⟩ = some (.slice none 0 0)) :
    Calls Try.prog 32 #[.pointer (some ⟨q2, 0, none⟩), .pointer (some ⟨q1, 0, none⟩)] w fun e w' => e = .panicked (haltP c) ∧ But p w w' ∧ ∃ a', Rd w' p xs S a' 0 := by
  have HN := Lib.hid (count_no (hR.below (Below.drew (Below.refl _ _))) hl ha hb hn)
  clear hb hn hR
  go_enter Try.func32, Try.ntmps32
  go_wp2
  go_region_dies
  all_goals
    refine HN.out.mono ?_
    rintro e w2 ⟨rfl, hB2, hR2⟩
    exact ⟨rfl, rfl, (But.of (Below.drew (Below.refl _ _))).trans hB2, hR2⟩
end Go.Proofs.Ytamnligooelmgaa
