/- The chapter's event: small, known. -/
import Derived.Test.YtjjccjannandlaaMzEvP
import Derived.Test.YtjjccjannandlaaMzECheck
import Derived.Test.YtjjccjannandlaaMzEGet
import Derived.Test.YtjjccjannandlaaMzSameEv
import Derived.Test.YtjjccjannandlaaMg1
import Derived.Deep.RegionHeld3
set_option maxRecDepth 100000
set_option linter.unusedVariables false
set_option linter.unusedSimpArgs false
namespace Go.Proofs.Ytjjccjannandlaa
open Go.RowKit Go.BigFrame

def smF : Nat → Int
  | 0 => 1
  | 1 => 3
  | 2 => 5
  | 6 => 2
  | _ => 0
theorem sm64 : Ev64 smF [0, 2] := by
  refine ⟨fun i hi => ?_, fun x hx => ?_⟩
  · rcases (show i = 0 ∨ i = 1 ∨ i = 2 ∨ i = 3 ∨ i = 4 ∨ i = 5 ∨ i = 6 ∨ i = 7 ∨ i = 8 from by omega) with rfl | rfl | rfl | rfl | rfl | rfl | rfl | rfl | rfl
    all_goals decide
  · simp only [List.mem_cons, List.not_mem_nil, or_false] at hx
    rcases hx with rfl | rfl <;> decide
def smB : List Int := [1, 1, 1, 3, 1, 5, 1, 2, 0, 1, 2, 0, 0, 0, 1, 2, 0, 0]
theorem smB_is : encs (evL smF [0, 2]) = smB := by decide +kernel
theorem smB_byte : Bytes smB := by rw [← smB_is]; exact encs_byte (sm64.all (by decide))

set_option maxHeartbeats 1000000 in
theorem small_any (w : World) : Calls Try.prog 33 #[] w fun e w' => ∃ c : Nat, e = .returned (evV smF (.slice (some ⟨c, 0, none⟩) 2 2)) ∧ Sl .i64 w' w'.heap.size (.slice (some ⟨c, 0, none⟩) 2 2) [0, 2] ∧ Below w.heap.size w w' := by
  go_enter Try.func33, Try.ntmps33
  go_wp2_with fail
  obtain ⟨W, hW⟩ : ∃ W, W = (w.alloc (.cells #[.int .i64 1, .int .i64 3, .int .i64 5, .slice (some ⟨w.heap.size + 1, 0, none⟩) 2 2, .int .i64 0, .int .i64 0, .int .i64 0, .int .i64 2, .int .i64 0, .int .i64 0] 39)).alloc (.cells #[.int .i64 0, .int .i64 2] 3) := ⟨_, rfl⟩
  have hB : Below w.heap.size w W := by rw [hW]; exact Bel.grew (Bel.grew (Below.refl _ _) _) _
  have hS : Sl .i64 W W.heap.size (.slice (some ⟨w.heap.size + 1, 0, none⟩) 2 2) [0, 2] := by rw [hW]; exact Sl.built _ _ _ [0, 2] 2 _ rfl rfl (by simp)
  have hC : Has W w.heap.size #[.int .i64 1, .int .i64 3, .int .i64 5, .slice (some ⟨w.heap.size + 1, 0, none⟩) 2 2, .int .i64 0, .int .i64 0, .int .i64 0, .int .i64 2, .int .i64 0, .int .i64 0] := by rw [hW]; exact (Has.new w _ _).grow _
  rw [← hW]
  clear hW
  have hc := hC.2
  simp [bodyPost, results, Try.results33, go_sem, hc, hB]
  exact ⟨w.heap.size + 1, ⟨rfl, rfl, rfl, rfl, rfl, rfl, rfl, rfl, rfl, rfl⟩, hS⟩

theorem sm_chk2 : chkE smF [0, 2] 2 = 0 := by decide +kernel
theorem sm_chk3 : chkE smF [0, 2] 3 = 1 := by decide +kernel
theorem sm_l : ([0, 2] : List Int).length ≤ 1099511627776 := by decide
theorem smB_l : smB.length ≤ 1099511627776 := by decide
theorem sm_max : smF 1 ≤ 9223372036854775807 := by decide
theorem smB_lit (w : World) : Sl .u8 (w.alloc (.cells #[.int .u8 1, .int .u8 1, .int .u8 1, .int .u8 3, .int .u8 1, .int .u8 5, .int .u8 1, .int .u8 2, .int .u8 0, .int .u8 1, .int .u8 2, .int .u8 0, .int .u8 0, .int .u8 0, .int .u8 1, .int .u8 2, .int .u8 0, .int .u8 0] 5)) (w.alloc (.cells #[.int .u8 1, .int .u8 1, .int .u8 1, .int .u8 3, .int .u8 1, .int .u8 5, .int .u8 1, .int .u8 2, .int .u8 0, .int .u8 1, .int .u8 2, .int .u8 0, .int .u8 0, .int .u8 0, .int .u8 1, .int .u8 2, .int .u8 0, .int .u8 0] 5)).heap.size (.slice (some ⟨w.heap.size, 0, none⟩) 18 18) smB := Sl.built w _ _ smB 18 _ rfl rfl rfl
theorem smB_same {w : World} {v : Value} {b : Nat} (h : Sl .u8 w w.heap.size v smB) (hb : b = w.heap.size) :
    Calls Try.prog 15 #[v, .slice (some ⟨b, 0, none⟩) 18 18] (w.alloc (.cells #[.int .u8 1, .int .u8 1, .int .u8 1, .int .u8 3, .int .u8 1, .int .u8 5, .int .u8 1, .int .u8 2, .int .u8 0, .int .u8 1, .int .u8 2, .int .u8 0, .int .u8 0, .int .u8 0, .int .u8 1, .int .u8 2, .int .u8 0, .int .u8 0] 5)) fun e w' => e = .returned (.bool true) ∧ Below w.heap.size w w' := by
  subst hb
  exact (sameBytes_is (h.later (Bel.grew (Below.refl _ _) _)) (smB_lit w) (b := true) (decide_eq_true rfl) smB_l).mono fun e w' ⟨he, hb⟩ => ⟨he, Bel.then (Bel.grew (Below.refl _ _) _) hb⟩

set_option maxHeartbeats 4000000 in
/-- The chapter's event is known. -/
theorem known05_any (w : World) : Calls Try.prog 25 #[] w fun e w' => e = .returned (.bool true) ∧ Below w.heap.size w w' := by
  go_enter Try.func25, Try.ntmps25
  go_wp2_with fail
  refine (small_any _).mono ?_
  rintro e w1 ⟨c, rfl, hs, hb⟩
  have HB1 := Lib.hid hb
  have HS1 := Lib.hid hs
  clear hs hb
  go_wp2_with fail
  refine (ePut_any smF _ [0, 2] _ HS1.out (by decide) sm64).mono ?_
  rintro e w2 ⟨r, rfl, hown, hb⟩
  rw [smB_is] at hown
  have HB2 := Lib.hid (Bel.then HB1.out hb)
  have HS2 := Lib.hid (OwnK.sl hown)
  obtain ⟨A2, c2, rfl⟩ := hown.sl.shape
  clear hown hb HB1 HS1
  go_wp2_with fail
  obtain ⟨g, hg⟩ : ∃ g, gF smB = g := ⟨_, rfl⟩
  have hgv : ∀ dv, evV g dv = evV smF dv := fun dv => evV_congr (fun i hi => by rw [← hg, ← smB_is]; exact gF_back sm64 (by decide) hi) dv
  refine (eGet_any smB _ _ HS2.out (by decide) smB_byte g 0 [0, 2] hg (by rw [← smB_is]; exact eE_back sm64 (by decide)) (by rw [← smB_is]; exact gD_back sm64 (by decide))).mono ?_
  rintro e w3 ⟨dv, rfl, hown, hb⟩
  rw [hgv]
  have HB3 := Lib.hid (Bel.then HB2.out hb)
  have HX3 := Lib.hid (OwnK.sl (hown : OwnK .i64 3 _ _ _ _))
  have HS3 := Lib.hid (HS2.out.later hb)
  obtain ⟨A3, c3, h3⟩ := hown.sl.shape
  subst h3
  clear hg hgv hown hb HB2 HS2
  go_wp2_with fail
  obtain ⟨W, hW⟩ : ∃ W, W = w3.alloc (.cells #[.int .i64 1, .int .i64 3, .int .i64 5, .slice A3 2 c3, .int .i64 0, .int .i64 0, .int .i64 0, .int .i64 2, .int .i64 0, .int .i64 0] 39) := ⟨_, rfl⟩
  have hgr : Below w3.heap.size w3 W := by rw [hW]; exact Bel.grew (Below.refl _ _) _
  have hE : Has W w3.heap.size #[.int .i64 1, .int .i64 3, .int .i64 5, .slice A3 2 c3, .int .i64 0, .int .i64 0, .int .i64 0, .int .i64 2, .int .i64 0, .int .i64 0] := by rw [hW]; exact Has.new _ _ _
  have HWB := Lib.hid (Bel.then HB3.out hgr)
  have HXW := Lib.hid (HX3.out.later hgr)
  have HSW := Lib.hid (HS3.out.later hgr)
  have hlt := hE.1
  have hc := hE.2
  change Code.wp _ _ _ _ (w3.alloc (.cells #[.int .i64 1, .int .i64 3, .int .i64 5, .slice A3 2 c3, .int .i64 0, .int .i64 0, .int .i64 0, .int .i64 2, .int .i64 0, .int .i64 0] 39))
  rw [← hW]
  have HB : Hid (Below W.heap.size W W.drew) := Lib.hid (Below.drew (Below.refl _ _))
  clear hW hgr hE HB3 HX3 HS3
  go_region_held3 (fun w' => w'.cell? ⟨w3.heap.size, 0, none⟩ = some (.int .i64 1) ∧ w'.cell? ⟨w3.heap.size, 1, none⟩ = some (.int .i64 3) ∧ w'.cell? ⟨w3.heap.size, 2, none⟩ = some (.int .i64 5) ∧ w'.cell? ⟨w3.heap.size, 3, none⟩ = some (.slice A3 2 c3) ∧ w'.cell? ⟨w3.heap.size, 4, none⟩ = some (.int .i64 0) ∧ w'.cell? ⟨w3.heap.size, 5, none⟩ = some (.int .i64 0) ∧ w'.cell? ⟨w3.heap.size, 6, none⟩ = some (.int .i64 0) ∧ w'.cell? ⟨w3.heap.size, 7, none⟩ = some (.int .i64 2) ∧ w'.cell? ⟨w3.heap.size, 8, none⟩ = some (.int .i64 0) ∧ w'.cell? ⟨w3.heap.size, 9, none⟩ = some (.int .i64 0)) (go_keep) (first
    | (go_at_call 33; refine (small_any _).mono ?_; rintro e wS ⟨cS, rfl, hS, bS⟩; have HSS := Lib.hid hS; clear hS; have HB := Lib.hid (Bel.then HB.out bS); have kS := fun o => HB.out.cell (p := ⟨w3.heap.size, o, none⟩) hlt; clear bS)
    | (go_at_call 27; (first | with_reducible refine (eCheck_any smF _ [0, 2] 2 _ HSS.out sm_l sm_max 0 sm_chk2).mono ?_ | with_reducible refine (eCheck_any smF _ [0, 2] 3 _ HSS.out sm_l sm_max 1 sm_chk3).mono ?_); rintro e wC ⟨rfl, bC⟩; have HB := Lib.hid (Bel.then HB.out bC); have kC := fun o => HB.out.cell (p := ⟨w3.heap.size, o, none⟩) hlt; clear bC)
    | (go_at_call 15; refine (smB_same (HSW.out.later HB.out) rfl).mono ?_; rintro e wY ⟨rfl, bY⟩; have HB := Lib.hid (Bel.then HB.out bY); have kY := fun o => HB.out.cell (p := ⟨w3.heap.size, o, none⟩) hlt; clear bY)
    | (go_at_call 22; refine (sameEv_eq smF (.slice A3 2 c3) _ [0, 2] _ (HXW.out.later HB.out) HSS.out sm_l).mono ?_; rintro e wZ ⟨rfl, bZ⟩; have HB := Lib.hid (Bel.then HB.out bZ); have kZ := fun o => HB.out.cell (p := ⟨w3.heap.size, o, none⟩) hlt; clear bZ))
  all_goals
    go_wp2_with fail
    go_ret
    exact ⟨rfl, Bel.then HWB.out HB.out⟩
end Go.Proofs.Ytjjccjannandlaa
