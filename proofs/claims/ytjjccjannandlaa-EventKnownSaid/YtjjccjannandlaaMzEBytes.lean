/- EventBytes: the walk. -/
import Derived.Test.YtjjccjannandlaaMzEChecks
import Derived.Test.YtjjccjannandlaaMzERGet
set_option maxRecDepth 100000
set_option linter.unusedVariables false
set_option linter.unusedSimpArgs false
namespace Go.Proofs.Ytjjccjannandlaa
open Go.RowKit Go.BigFrame

def putK (ds : List Int) : Int := if ds.length ≤ 64 then 0 else 3
def putP (f : Nat → Int) (ds : List Int) : List Int := if ds.length ≤ 64 then encs (evL f ds) else []
theorem putP_len {f : Nat → Int} {ds : List Int} (h : Ev64 f ds) : (putP f ds).length ≤ 1099511627776 := by
  unfold putP
  split
  · rename_i hl
    have := encs_le (h.all (ds := ds) (by omega))
    rw [evL_length] at this
    omega
  · simp
theorem ePut_all (f : Nat → Int) (dv : Value) (ds : List Int) (w : World) (hd : Sl .i64 w w.heap.size dv ds) (h64 : Ev64 f ds) (k : Int) (P : List Int) (hk : putK ds = k) (hP : putP f ds = P) :
    Calls Try.prog 29 #[evV f dv] w fun e w' => ∃ r, e = .returned (.tuple #[r, .int .i64 k]) ∧ OwnBytes w' w.heap.size r P ∧ Below w.heap.size w w' := by
  by_cases hl : ds.length ≤ 64
  · have h1 : k = 0 := by rw [← hk]; unfold putK; rw [if_pos hl]
    have h2 : P = encs (evL f ds) := by rw [← hP]; unfold putP; rw [if_pos hl]
    subst h1 h2
    exact ePut_any f dv ds w hd hl h64
  · have h1 : k = 3 := by rw [← hk]; unfold putK; rw [if_neg hl]
    have h2 : P = [] := by rw [← hP]; unfold putP; rw [if_neg hl]
    subst h1 h2
    exact (ePut_many f dv ds w hd (by omega)).mono fun e w' ⟨he, hb⟩ => ⟨_, he, OwnK.nil_ _ _, hb⟩
theorem rPut_all (f : Nat → Int) (dv : Value) (ds : List Int) (w : World) (hd : Sl .i64 w w.heap.size dv ds) (h64 : Ev64 f ds) (k : Int) (P : List Int) (hk : putK ds = k) (hP : putP f ds = P) :
    Calls Try.prog 30 #[evV f dv] w fun e w' => ∃ r, e = .returned (.tuple #[r, .int .i64 k]) ∧ OwnBytes w' w.heap.size r P ∧ Below w.heap.size w w' := by
  by_cases hl : ds.length ≤ 64
  · have h1 : k = 0 := by rw [← hk]; unfold putK; rw [if_pos hl]
    have h2 : P = encs (evL f ds) := by rw [← hP]; unfold putP; rw [if_pos hl]
    subst h1 h2
    exact erPut_any f dv ds w hd hl h64 (h64.all (by omega))
  · have h1 : k = 3 := by rw [← hk]; unfold putK; rw [if_neg hl]
    have h2 : P = [] := by rw [← hP]; unfold putP; rw [if_neg hl]
    subst h1 h2
    exact (rPut_many f dv ds w hd (by omega)).mono fun e w' ⟨he, hb⟩ => ⟨_, he, OwnK.nil_ _ _, hb⟩

set_option maxRecDepth 100000 in
set_option maxHeartbeats 8000000 in
theorem eventBytes_any (f : Nat → Int) (dv : Value) (ds xs : List Int) (x : Value) (w : World) (hd : Sl .i64 w w.heap.size dv ds) (h64 : Ev64 f ds) (hx : Sl .u8 w w.heap.size x xs) (hb : Bytes xs) :
    Calls Try.prog 7 #[evV f dv, x] w fun e w' => e = .returned (.bool true) ∧ Below w.heap.size w w' := by
  obtain ⟨A, c, rfl⟩ := hx.shape
  obtain ⟨A0, c0, rfl⟩ := hd.shape
  have hb1 : Below w.heap.size w (w.alloc (.cells (cells10 f (.slice A0 ds.length c0)) 39)) := Bel.grew (Below.refl _ _) _
  by_cases hbig : 200 < (ds.length : Int) ∨ ((ds.length : Int) ≤ 200 ∧ 4096 < (xs.length : Int))
  · have HB1 := Lib.hid hb1
    clear hb1 hx hd
    rcases hbig with h1 | ⟨h1, h2⟩
    all_goals
      go_enter Try.func7, Try.ntmps7
      go_wp2_with fail
      refine (known05_any _).mono ?_
      rintro e w1 ⟨rfl, hb⟩
      have HB := Lib.hid (Bel.then HB1.out hb)
      clear hb
      go_wp2_with fail
      go_ret
      exact ⟨rfl, HB.out⟩
  · have hlI : ¬ (ds.length : Int) > 200 := by omega
    have hlJ : ¬ (xs.length : Int) > 4096 := by omega
    have HC1 := Lib.hid (Has.new w (cells10 f (.slice A0 ds.length c0)) 39)
    have HB1 := Lib.hid hb1
    have HD1 := Lib.hid (hd.later hb1)
    have HX := Lib.hid hx
    have HBY := Lib.hid hb
    have H64 := Lib.hid h64
    obtain ⟨k, hk⟩ : ∃ k, putK ds = k := ⟨_, rfl⟩
    obtain ⟨P, hP⟩ : ∃ P, putP f ds = P := ⟨_, rfl⟩
    have HK := Lib.hid hk
    have HP := Lib.hid hP
    clear hb1 hx hd hb h64 hbig hk hP
    have hc1 := HC1.out.2
    have hlt1 := HC1.out.1
    go_enter Try.func7, Try.ntmps7
    go_wp2_with fail
    refine (ePut_all f _ ds _ HD1.out H64.out k P HK.out HP.out).mono ?_
    rintro e w2 ⟨r2, rfl, hown, hb⟩
    have HP2 := Lib.hid (OwnK.sl hown)
    have HB2 := Lib.hid (Bel.then HB1.out hb)
    have HC2 := Lib.hid (HC1.out.later hb)
    have HD2 := Lib.hid (HD1.out.later hb)
    obtain ⟨A2, k2, rfl⟩ := HP2.out.shape
    clear hb hown HC1 HB1 HD1 hc1 hlt1
    have hc2 := HC2.out.2
    have hlt2 := HC2.out.1
    go_wp2_with fail
    refine (rPut_all f _ ds _ HD2.out H64.out k P HK.out HP.out).mono ?_
    rintro e w3 ⟨r3, rfl, hown, hb⟩
    have HQ3 := Lib.hid (OwnK.sl hown)
    have HP3 := Lib.hid (HP2.out.later hb)
    have HB3 := Lib.hid (Bel.then HB2.out hb)
    obtain ⟨A3, k3, rfl⟩ := HQ3.out.shape
    clear hb hown HC2 HB2 HD2 hc2 hlt2 HP2
    go_wp2_with fail
    refine (sameBytes_is HP3.out HQ3.out (b := true) (decide_eq_true rfl) (by rw [← HP.out]; exact putP_len H64.out)).mono ?_
    rintro e w4 ⟨rfl, hb⟩
    have HB4 := Lib.hid (Bel.then HB3.out hb)
    clear hb HB3 HP3 HQ3
    go_wp2_with fail
    obtain ⟨d, hd⟩ : ∃ d, eE xs = d := ⟨_, rfl⟩
    obtain ⟨g, hg⟩ : ∃ g, gF xs = g := ⟨_, rfl⟩
    obtain ⟨gs, hgs⟩ : ∃ gs, gD xs = gs := ⟨_, rfl⟩
    have HG := Lib.hid (And.intro hg (And.intro hd hgs))
    have HGL : Hid (gs.length ≤ 64) := Lib.hid (by
      rw [← hgs]
      unfold gD
      split
      · unfold eD; rw [firstN_length]; exact eN_le xs
      · exact Nat.zero_le _)
    clear hd hg hgs
    refine (eGet_any xs _ _ (HX.out.later HB4.out) (by omega) HBY.out g d gs HG.out.1 HG.out.2.1 HG.out.2.2).mono ?_
    rintro e w5 ⟨dv5, rfl, hown, hb⟩
    have HO5 := Lib.hid (OwnK.sl (hown : OwnK .i64 3 _ _ _ _))
    have HB5 := Lib.hid (Bel.then HB4.out hb)
    obtain ⟨A5, k5, rfl⟩ := HO5.out.shape
    clear hb hown HB4
    go_wp2_with fail
    have hgr : Below w5.heap.size w5 (w5.alloc (.cells (cells10 g (.slice A5 gs.length k5)) 39)) := Bel.grew (Below.refl _ _) _
    refine (erGet_any xs _ _ (HX.out.later (Bel.then HB5.out hgr)) (by omega) HBY.out g d gs HG.out.1 HG.out.2.1 HG.out.2.2).mono ?_
    rintro e w6 ⟨dv6, rfl, hown, hb⟩
    have HO6 := Lib.hid (OwnK.sl (hown : OwnK .i64 3 _ _ _ _))
    have HE6 := Lib.hid ((Has.new w5 (cells10 g (.slice A5 gs.length k5)) 39).later hb)
    have HO56 := Lib.hid ((HO5.out.later hgr).later hb)
    have HB6 := Lib.hid (Bel.then (Bel.then HB5.out hgr) hb)
    obtain ⟨A6, k6, rfl⟩ := HO6.out.shape
    clear hb hown HB5 HO5 hgr
    have hc6 := HE6.out.2
    have hlt6 := HE6.out.1
    go_wp2_with fail
    have hgr : Below w6.heap.size w6 (w6.alloc (.cells (cells10 g (.slice A6 gs.length k6)) 39)) := Bel.grew (Below.refl _ _) _
    refine (sameEv_eq g _ _ gs _ (HO56.out.later hgr) (HO6.out.later hgr) (by have := HGL.out; omega)).mono ?_
    rintro e w7 ⟨rfl, hb⟩
    have HB7 := Lib.hid (Bel.then (Bel.then HB6.out hgr) hb)
    clear hb HB6 HO56 HO6 hgr hc6 hlt6
    go_wp2_with fail
    refine (known05_any _).mono ?_
    rintro e w8 ⟨rfl, hb⟩
    have HB8 := Lib.hid (Bel.then HB7.out hb)
    clear hb HB7
    go_wp2_with fail
    go_ret
    exact ⟨rfl, HB8.out⟩
end Go.Proofs.Ytjjccjannandlaa
