/- event.Get. -/
import Derived.Test.YtjjccjannandlaaMzEGetP
import Derived.Test.YtjjccjannandlaaMg2
set_option maxRecDepth 100000
set_option linter.unusedVariables false
set_option linter.unusedSimpArgs false
namespace Go.Proofs.Ytjjccjannandlaa
open Go.RowKit Go.BigFrame

/-- The pointers that a loop goes through. -/
def Ptrs (w : World) (a q o n : Nat) : Prop := a < w.heap.size ∧ ∀ i, i < n → w.cell? ⟨a, i, none⟩ = some (.pointer (some ⟨q, o + i, none⟩))
theorem Ptrs.but {w w' : World} {p a q o n : Nat} (h : Ptrs w a q o n) (hp : a ≠ p) (hb : But p w w') : Ptrs w' a q o n := ⟨Nat.lt_of_lt_of_le h.1 hb.size, fun i hi => (hb.cell h.1 hp).trans (h.2 i hi)⟩
theorem Ptrs.set {w : World} {a q o n b k : Nat} (h : Ptrs w a q o n) (hp : a ≠ b) (v : Value) : Ptrs (w.setCell ⟨b, k, none⟩ v) a q o n := ⟨by simpa [World.setCell] using h.1, fun i hi => (World.cell?_setCell_other w ⟨b, k, none⟩ ⟨a, i, none⟩ _ (by simp [hp])).trans (h.2 i hi)⟩

set_option maxHeartbeats 4000000 in
theorem eGet_any (xs : List Int) (v : Value) (w : World) (hx : Sl .u8 w w.heap.size v xs) (hl : xs.length ≤ 1099511627776) (hb : Bytes xs) (g : Nat → Int) (d : Int) (gs : List Int) (hg : gF xs = g) (hd : eE xs = d) (hgs : gD xs = gs) :
    Calls Try.prog 31 #[v] w fun e w' => ∃ dv, e = .returned (.tuple #[evV g dv, .int .i64 d]) ∧ OwnInts w' w.heap.size dv gs ∧ Below w.heap.size w w' := by
  obtain ⟨A, c, rfl⟩ := hx.shape
  have HX := Lib.hid hx
  have HBY := Lib.hid hb
  have HD := Lib.hid hd
  have HGF := Lib.hid hg
  have HGS := Lib.hid hgs
  clear hx hb hd hg hgs
  obtain ⟨w1, hw1⟩ : ∃ w1, w1 = w.alloc (.cells #[.int .i64 0, .int .i64 0, .int .i64 0, .slice none 0 0, .int .i64 0, .int .i64 0, .int .i64 0, .int .i64 0, .int .i64 0, .int .i64 0] 39) := ⟨_, rfl⟩
  have hB1 : Below w.heap.size w w1 := by rw [hw1]; exact (Below.refl _ _).alloc (Nat.le_refl _) _
  have hs1 : w1.heap.size = w.heap.size + 1 := by rw [hw1]; simp
  have h10 : ∀ w : World, Cells10 (w.alloc (.cells #[.int .i64 0, .int .i64 0, .int .i64 0, .slice none 0 0, .int .i64 0, .int .i64 0, .int .i64 0, .int .i64 0, .int .i64 0, .int .i64 0] 39)) w.heap.size (evC (fun _ => 0) (.slice none 0 0)) := by
    intro w o ho
    rcases (show o = 0 ∨ o = 1 ∨ o = 2 ∨ o = 3 ∨ o = 4 ∨ o = 5 ∨ o = 6 ∨ o = 7 ∨ o = 8 ∨ o = 9 from by omega) with rfl | rfl | rfl | rfl | rfl | rfl | rfl | rfl | rfl | rfl
    all_goals simp [go_sem, evC]
  have H10 := Lib.hid h10
  have HR1 : Hid (Cells10 w1 w.heap.size (evC (fun _ => 0) (.slice none 0 0))) := by rw [hw1]; exact h10 w
  have HW1 := Lib.hid hw1
  have HB1 := Lib.hid hB1
  have HS1 := Lib.hid hs1
  clear hw1 hB1 hs1 h10
  go_enter Try.func31, Try.ntmps31
  go_wp2_with fail
  rw [← HW1.out]
  refine (From_new xs _ w1 ((HX.out.below HB1.out).more HB1.out.size) hl).mono ?_
  rintro e w3 ⟨p, S, rfl, hp, hb3, hR, hS⟩
  obtain ⟨w4, hw4⟩ : ∃ w4, w4 = w3.alloc (.cells #[.int .i64 0, .int .i64 0, .int .i64 0, .slice none 0 0, .int .i64 0, .int .i64 0, .int .i64 0, .int .i64 0, .int .i64 0, .int .i64 0] 39) := ⟨_, rfl⟩
  obtain ⟨q, hq⟩ : ∃ q, q = w3.heap.size := ⟨_, rfl⟩
  have hp' : w.heap.size + 1 ≤ p := by have := HS1.out; omega
  have hb4 : Below w3.heap.size w3 w4 := by rw [hw4]; exact (Below.refl _ _).alloc (Nat.le_refl _) _
  have hs4 : w4.heap.size = q + 1 := by rw [hw4, hq]; simp
  have HG4 : Hid (GS w p q xs S w4 (0, 0) (fun _ => 0) (.slice none 0 0)) := by
    refine ⟨HB1.out.trans ((hb3.mono (by have := HS1.out; omega)).trans (hb4.mono ?_)), by omega, by rw [hq]; exact hR.lt, by omega, hR.below hb4, ((HR1.out.below (B := w1.heap.size) (by have := HS1.out; omega) hb3).below (B := w3.heap.size) ?_ hb4), by rw [hq, hw4]; exact H10.out w3⟩
    · have h1 := hb3.size; have := HS1.out; omega
    · have h1 := hb3.size; have := HS1.out; omega
  have HS4 := Lib.hid hs4
  have HW4 := Lib.hid hw4
  have HQ := Lib.hid hq
  clear hp hb3 hR hS hp' hb4 hs4 hw4 hq HB1 HS1 HW1 HR1
  go_wp2_with fail
  rw [← HQ.out, ← HW4.out]
  obtain ⟨w5, hw5⟩ : ∃ w5, w5 = w4.alloc (.cells #[.pointer (some ⟨q, 0, none⟩), .pointer (some ⟨q, 1, none⟩), .pointer (some ⟨q, 2, none⟩)] 59) := ⟨_, rfl⟩
  rw [← hw5]
  have HA5 : Hid (Ptrs w5 (q + 1) q 0 3) := by
    have := HS4.out
    refine ⟨by rw [hw5]; simp; omega, fun i hi => ?_⟩
    rw [hw5]
    rcases (show i = 0 ∨ i = 1 ∨ i = 2 from by omega) with rfl | rfl | rfl
    all_goals simp [go_sem, this]
  have HG5 : Hid (GS w p q xs S w5 (0, 0) (fun _ => 0) (.slice none 0 0)) := HG4.out.later (by rw [hw5]; exact (Below.refl _ _).alloc (Nat.le_refl _) _)
  clear hw5 HS4 HW4 HQ HG4 H10
  go_loopw [20] (fun i wr => ∃ k : Nat, k ≤ 3 ∧ i = .int .i64 k ∧ GS w p q xs S wr (rdN xs (0, 0) k) (fun j => if j < k then valN xs (0, 0) j else 0) (.slice none 0 0) ∧ Ptrs wr (q + 1) q 0 3) (fun i _ => 3 - (intOf i).toNat)
  case atStart => exact ⟨0, by omega, rfl, by simpa [rdN] using HG5.out, HA5.out⟩
  case round =>
    obtain ⟨k, hk, rfl, hG, hA⟩ := hrel
    have HG := Lib.hid hG
    have HA := Lib.hid hA
    have hhi := hG.hi
    have hlo := hG.lo
    have hlt := hG.lt
    clear hG hA HG5 HA5
    have hle := rdN_le (xs := xs) (st := (0, 0)) (Nat.zero_le _) k
    obtain ⟨st, hst⟩ : ∃ st, rdN xs (0, 0) k = st := ⟨_, rfl⟩
    rw [hst] at HG hle
    by_cases hk3 : k < 3
    · have hkI : (k : Int) < 3 := by omega
      obtain ⟨r, hr⟩ : ∃ r, nextI xs st = r := ⟨_, rfl⟩
      have HV : Hid (valN xs (0, 0) k = r.1) := by unfold valN; rw [hst, hr]; exact Lib.hid rfl
      have HN : Hid (rdN xs (0, 0) (k + 1) = r.2) := by rw [rdN_succ, hst, hr]; exact Lib.hid rfl
      have HNR := Lib.hid hr
      have hck := HA.out.2 k hk3
      rw [Nat.zero_add] at hck
      clear hst hr
      go_wp2_with fail
      refine (Int_next HG.out.rd hl hle HBY.out r HNR.out).mono ?_
      rintro e w6 ⟨rfl, hb6, hR6⟩
      have HG6 := Lib.hid (HG.out.but hb6 hR6)
      have HA6 := Lib.hid (HA.out.but (by omega) hb6)
      have hoff : offE k = k := by unfold offE; rw [if_pos hk3]
      obtain ⟨hce, hfe⟩ := HG6.out.ev k (by omega)
      obtain ⟨ov, hov⟩ : ∃ ov, ov = evC (fun j => if j < k then valN xs (0, 0) j else 0) (.slice none 0 0) k := ⟨_, rfl⟩
      rw [← hov] at hce
      clear hov hb6 hR6 HG HA
      go_wp2_with fail
      go_roundw
      case rel =>
        refine ⟨k + 1, by omega, by go_num, ?_, HA6.out.set (by omega) _⟩
        rw [HN.out]
        refine HG6.out.set (by omega) (fun o ho => ?_)
        have h := evC_num (fun j => if j < k then valN xs (0, 0) j else 0) (.slice none 0 0) r.1 (i := k) (o := o) (by omega) ho
        rw [hoff] at h
        rw [← h]
        congr 1
        funext j
        by_cases hj : j = k
        · subst hj; rw [if_pos (by omega), if_pos rfl, HV.out]
        · by_cases hj2 : j < k
          · rw [if_pos (by omega), if_neg hj, if_pos hj2]
          · rw [if_neg (by omega), if_neg hj, if_neg hj2]
      case measure => simp [intOf]; omega
    · have hk4 : k = 3 := by omega
      subst hk4
      obtain ⟨r, hr⟩ : ∃ r, nextC xs 64 st = r := ⟨_, rfl⟩
      have HC : Hid (eC xs = r) := by unfold eC; rw [hst, hr]; exact Lib.hid rfl
      have hle2 : r.2.1 ≤ xs.length := by rw [← hr]; exact nextC_le hle
      have hbd := nextC_bound xs st
      rw [hr] at hbd
      obtain ⟨⟨n, hn⟩, hn64⟩ : (∃ n : Nat, r.1 = (n : Int)) ∧ r.1 ≤ 64 := ⟨⟨r.1.toNat, by omega⟩, hbd.2⟩
      have HNN : Hid (eN xs = n) := by unfold eN; rw [HC.out, hn]; exact Lib.hid (by omega)
      have hn' : n ≤ 64 := by omega
      have HNR := Lib.hid hr
      clear hst hr hbd HA
      go_wp2_with fail
      refine (Count_next HG.out.rd hl hle HBY.out r HNR.out).mono ?_
      rw [hn]
      rintro e w6 ⟨rfl, hb6, hR6⟩
      have HG6 := Lib.hid (HG.out.but hb6 hR6)
      obtain ⟨s0, hs0⟩ : ∃ s0, r.2 = s0 := ⟨_, rfl⟩
      rw [hs0] at HG6 hle2
      have HS0 : Hid ((eC xs).2 = s0) := by rw [HC.out, hs0]; exact Lib.hid rfl
      clear hb6 hR6 HG hn hn64 HNR HC hs0
      go_wp2_with fail
      obtain ⟨F, hF⟩ : ∃ F : Nat → Int, F = fun j => if j < 3 then valN xs (0, 0) j else 0 := ⟨_, rfl⟩
      rw [← hF] at HG6
      have HF := Lib.hid hF
      clear hF
      clear hk hk3 hle hlt
      obtain ⟨W0, rfl⟩ : ∃ W, W = wr := ⟨_, rfl⟩
      go_loopw [31] (fun i wr => ∃ k : Nat, k ≤ n ∧ i = .int .i64 k ∧ Hid (∃ dv, GS w p q xs S wr (rdN xs s0 k) F dv ∧ OwnInts wr (q + 1) dv (firstN (valN xs s0) k))) (fun i _ => n - (intOf i).toNat)
      case atStart => exact ⟨0, by omega, rfl, Lib.hid ⟨_, HG6.out, OwnK.nil_ _ _⟩⟩
      case round =>
        obtain ⟨k, hk, rfl, HGO⟩ := hrel
        obtain ⟨dv, hG, hO⟩ := HGO.out
        have hlt := hG.lt
        have hle := rdN_le (xs := xs) hle2 k
        obtain ⟨st2, hst⟩ : ∃ st2, rdN xs s0 k = st2 := ⟨_, rfl⟩
        rw [hst] at hG hle
        by_cases hkn : k < n
        · have hkI : (k : Int) < (n : Int) := by omega
          obtain ⟨r2, hr⟩ : ∃ r2, nextI xs st2 = r2 := ⟨_, rfl⟩
          have HV : Hid (firstN (valN xs s0) (k + 1) = firstN (valN xs s0) k ++ [r2.1]) := by rw [firstN_succ]; unfold valN; rw [hst, hr]; exact Lib.hid rfl
          have HN : Hid (rdN xs s0 (k + 1) = r2.2) := by rw [rdN_succ, hst, hr]; exact Lib.hid rfl
          have HNR := Lib.hid hr
          have hlen : (firstN (valN xs s0) k).length = k := by simp
          obtain ⟨ds, hds⟩ : ∃ ds, ds = firstN (valN xs s0) k := ⟨_, rfl⟩
          rw [← hds] at HV hO hlen
          obtain ⟨A2, c2, rfl⟩ := hO.sl.shape
          have hGd := hG.later (Below.drew (Below.refl _ _))
          have HG := Lib.hid hGd
          have HO : Hid (OwnInts wr.drew (q + 1) (.slice A2 ds.length c2) ds) := hO.later (Below.drew (Below.refl _ _))
          obtain ⟨hc3, hf3⟩ := hGd.ev 3 (by omega)
          have hltd : q < wr.drew.heap.size := hlt
          dsimp only [evC] at hc3
          have HLN : Hid (ds.length + [r2.1].length ≤ 4398046511104) := by rw [List.length_cons, List.length_nil]; exact Lib.hid (by omega)
          have hqp : q ≠ p := by omega
          obtain ⟨nx, hnx⟩ : ∃ nx, nx = ds ++ [r2.1] := ⟨_, rfl⟩
          have HNX := Lib.hid hnx
          have HNL : Hid (nx.length = k + 1) := by rw [hnx, List.length_append, hlen]; exact Lib.hid rfl
          have HQP := Lib.hid hhi
          clear HG6 HGO hst hr hlen hds hnx hG hGd hO hhi hlo
          go_wp2_with fail
          go_region_law (first
            | (go_simp; go_at_call 38; refine (Int_next HG.out.rd hl hle HBY.out r2 HNR.out).mono ?_; rintro e w7 ⟨rfl, hb7, hR7⟩; have hc7 := (hb7.cell (o := 3) hltd hqp).trans hc3; have hf7 := (hb7.frozen (o := 3) hltd hqp).trans hf3; have hlt7 := Nat.lt_of_lt_of_le hltd hb7.size; have HG7 := Lib.hid (HG.out.but hb7 hR7); have HO7 := Lib.hid (HO.out.but (Nat.lt_succ_of_lt HQP.out) hb7); clear hb7 hR7; try dsimp only)
            | (refine step_append_sl rfl _ _ 35 rfl Try.underlying35 infoInts (by decide) rfl rfl (HO7.out.grow _) (Sl.one _ _ _ _ rfl) HLN.out (by rw [World.size_alloc]; exact Nat.le_succ_of_le HG7.out.lt) ?_; intro v' w8 hown hb8; have hc8 := (hb8.cell (p := ⟨q, 3, none⟩) (Nat.lt_succ_self q)).trans ((World.cell?_alloc_past _ _ _ hlt7).trans hc7); have hf8 := (hb8.frozen (p := ⟨q, 3, none⟩) (Nat.lt_succ_self q)).trans ((World.frozen?_alloc_past _ _ _ hlt7).trans hf7); rw [← HNX.out] at hown; have HOWN := Lib.hid hown; have HB8 := Lib.hid hb8; obtain ⟨A8, c8, rfl⟩ := hown.sl.shape; clear hown hb8))
          all_goals
            go_wp2_with fail
            go_roundw
            case rel =>
              refine ⟨k + 1, by omega, by go_num, Lib.hid (Exists.intro (Value.slice A8 nx.length c8) (And.intro ?_ ?_))⟩
              · rw [HN.out]
                exact ((HG7.out.later ((Below.refl _ _).alloc (Nat.le_refl _) _)).far HB8.out).set (by omega) (fun o ho => evC_deps F _ _ ho)
              · rw [HV.out, ← HNX.out]
                exact HOWN.out.set (Nat.lt_succ_self q) 3 _
            case measure => simp [intOf]; omega
        · have hk4 : k = n := by omega
          subst hk4
          have HE : Hid (eS xs = st2) := by unfold eS; rw [HS0.out, HNN.out, hst]; exact Lib.hid rfl
          have HED : Hid (eD xs = firstN (valN xs s0) k) := by unfold eD; rw [HS0.out, HNN.out]; exact Lib.hid rfl
          rw [← HED.out] at hO
          obtain ⟨ds, hds⟩ : ∃ ds, eD xs = ds := ⟨_, rfl⟩
          rw [hds] at hO
          have HDS := Lib.hid hds
          have HG := Lib.hid hG
          have HO := Lib.hid hO
          clear HG6 HGO hst hds hG hO HS0 HNN HED hkn hle2 hlt
          go_wp2_with fail
          obtain ⟨W1, rfl⟩ : ∃ W, W = wr := ⟨_, rfl⟩
          obtain ⟨a, ha⟩ : ∃ a, a = W1.heap.size := ⟨_, rfl⟩
          rw [← ha]
          obtain ⟨w9, hw9⟩ : ∃ w9, w9 = W1.alloc (.cells #[.pointer (some ⟨q, 4, none⟩), .pointer (some ⟨q, 5, none⟩), .pointer (some ⟨q, 6, none⟩), .pointer (some ⟨q, 7, none⟩), .pointer (some ⟨q, 8, none⟩), .pointer (some ⟨q, 9, none⟩)] 59) := ⟨_, rfl⟩
          rw [← hw9]
          have hb9 : Below W1.heap.size W1 w9 := by rw [hw9]; exact (Below.refl _ _).alloc (Nat.le_refl _) _
          have HA9 : Hid (Ptrs w9 a q 4 6) := by
            refine ⟨by rw [hw9, ha]; simp, fun i hi => ?_⟩
            rw [hw9, ha]
            rcases (show i = 0 ∨ i = 1 ∨ i = 2 ∨ i = 3 ∨ i = 4 ∨ i = 5 from by omega) with rfl | rfl | rfl | rfl | rfl | rfl
            all_goals simp [go_sem]
          have HG9 := Lib.hid (HG.out.later hb9)
          have HO9 := Lib.hid (HO.out.later hb9)
          have hqa : q < a := by rw [ha]; exact HG.out.lt
          clear hw9 hb9 HG HO ha
          obtain ⟨dv9, hdv⟩ : ∃ dv9, dv9 = dv := ⟨_, rfl⟩
          rw [← hdv] at HG9 HO9
          clear hdv
          go_loopw [49] (fun i wr => ∃ k : Nat, k ≤ 6 ∧ i = .int .i64 k ∧ GS w p q xs S wr (rdN xs st2 k) (fun j => if j < 3 + k then eF xs j else 0) dv9 ∧ Ptrs wr a q 4 6 ∧ OwnInts wr (q + 1) dv9 ds) (fun i _ => 6 - (intOf i).toNat)
          case atStart =>
            refine ⟨0, by omega, rfl, ?_, HA9.out, HO9.out⟩
            have := HG9.out
            rw [HF.out] at this
            have e : (fun j => if j < 3 then valN xs (0, 0) j else 0) = (fun j => if j < 3 + 0 then eF xs j else 0) := by
              funext j
              unfold eF
              by_cases hj : j < 3
              · rw [if_pos hj, if_pos (by omega), if_pos hj]
              · rw [if_neg hj, if_neg (by omega)]
            rw [← e]
            exact this
          case round =>
            obtain ⟨m, hm, rfl, hG, hA, hO⟩ := hrel
            have HG := Lib.hid hG
            have HA := Lib.hid hA
            have HO := Lib.hid hO
            have hlt := hG.lt
            clear hG hA hO HG9 HA9 HO9
            have hle3 := rdN_le (xs := xs) hle m
            obtain ⟨st3, hst⟩ : ∃ st3, rdN xs st2 m = st3 := ⟨_, rfl⟩
            rw [hst] at HG hle3
            by_cases hm6 : m < 6
            · have hmI : (m : Int) < 6 := by omega
              obtain ⟨r2, hr⟩ : ∃ r2, nextI xs st3 = r2 := ⟨_, rfl⟩
              have HV : Hid (eF xs (3 + m) = r2.1) := by unfold eF; rw [if_neg (by omega), HE.out, show 3 + m - 3 = m from by omega]; unfold valN; rw [hst, hr]; exact Lib.hid rfl
              have HN : Hid (rdN xs st2 (m + 1) = r2.2) := by rw [rdN_succ, hst, hr]; exact Lib.hid rfl
              have HNR := Lib.hid hr
              have hck := HA.out.2 m hm6
              clear hst hr
              go_wp2_with fail
              refine (Int_next HG.out.rd hl hle3 HBY.out r2 HNR.out).mono ?_
              rintro e w7 ⟨rfl, hb7, hR7⟩
              have HG7 := Lib.hid (HG.out.but hb7 hR7)
              have HA7 := Lib.hid (HA.out.but (by omega) hb7)
              have HO7 := Lib.hid (HO.out.but (by omega) hb7)
              have hoff : offE (3 + m) = 4 + m := by unfold offE; rw [if_neg (by omega)]; omega
              obtain ⟨hce, hfe⟩ := HG7.out.ev (4 + m) (by omega)
              obtain ⟨ov, hov⟩ : ∃ ov, ov = evC (fun j => if j < 3 + m then eF xs j else 0) dv9 (4 + m) := ⟨_, rfl⟩
              rw [← hov] at hce
              clear hov hb7 hR7 HG HA HO
              go_wp2_with fail
              go_roundw
              case rel =>
                refine ⟨m + 1, by omega, by go_num, ?_, HA7.out.set (by omega) _, HO7.out.set (by omega) _ _⟩
                rw [HN.out]
                refine HG7.out.set (by omega) (fun o ho => ?_)
                have h := evC_num (fun j => if j < 3 + m then eF xs j else 0) dv9 r2.1 (i := 3 + m) (o := o) (by omega) ho
                rw [hoff] at h
                rw [← h]
                congr 1
                funext j
                by_cases hj : j = 3 + m
                · subst hj; rw [if_pos (by omega), if_pos rfl, HV.out]
                · by_cases hj2 : j < 3 + m
                  · rw [if_pos (by omega), if_neg hj, if_pos hj2]
                  · rw [if_neg (by omega), if_neg hj, if_neg hj2]
              case measure => simp [intOf]; omega
            · have hm4 : m = 6 := by omega
              subst hm4
              have HDD : Hid (doneR xs (st3.1 : Int) st3.2 = d) := by
                rw [← HD.out]; unfold eE doneN; rw [HE.out, hst]; exact Lib.hid rfl
              go_wp2_with fail
              refine (Done_any HG.out.rd).mono ?_
              rw [HDD.out]
              rintro e w7 ⟨rfl, hb7⟩
              have HG7 := Lib.hid (HG.out.later hb7)
              have HO7 := Lib.hid (HO.out.later hb7)
              have HLH := Lib.hid (And.intro hlo hhi)
              clear hb7 HG HO HA hst hqa hlt hle hle3 HE hlo hhi
              obtain ⟨⟨r0, f0⟩, ⟨r1, f1⟩, ⟨r2, f2⟩, ⟨r3, f3⟩, ⟨r4, f4⟩, ⟨r5, f5⟩, ⟨r6, f6⟩, ⟨r7, f7⟩, ⟨r8, f8⟩, ⟨r9, f9⟩⟩ := And.intro (HG7.out.res 0 (by decide)) (And.intro (HG7.out.res 1 (by decide)) (And.intro (HG7.out.res 2 (by decide)) (And.intro (HG7.out.res 3 (by decide)) (And.intro (HG7.out.res 4 (by decide)) (And.intro (HG7.out.res 5 (by decide)) (And.intro (HG7.out.res 6 (by decide)) (And.intro (HG7.out.res 7 (by decide)) (And.intro (HG7.out.res 8 (by decide)) (HG7.out.res 9 (by decide))))))))))
              dsimp only [evC] at r0 r1 r2 r3 r4 r5 r6 r7 r8 r9
              by_cases hd0 : d = 0
              · have hdb : (d != 0) = false := by simp [hd0]
                have hgg : g = eF xs := by rw [← HGF.out]; funext i; unfold gF; rw [if_pos (by rw [HD.out]; exact hd0)]
                have hgd : gs = ds := by rw [← HGS.out, ← HDS.out]; unfold gD; rw [if_pos (by rw [HD.out]; exact hd0)]
                have hev : Cells10 w7 q (evC g dv9) := by
                  intro o ho
                  have h := HG7.out.ev o ho
                  rw [← hgg] at h
                  have e : evC (fun j => if j < 3 + 6 then g j else 0) dv9 o = evC g dv9 o := by
                    rcases (show o = 0 ∨ o = 1 ∨ o = 2 ∨ o = 3 ∨ o = 4 ∨ o = 5 ∨ o = 6 ∨ o = 7 ∨ o = 8 ∨ o = 9 from by omega) with rfl | rfl | rfl | rfl | rfl | rfl | rfl | rfl | rfl | rfl
                    all_goals rfl
                  rw [← e]; exact h
                rw [← hgd] at HO7
                obtain ⟨A9, c9, rfl⟩ := HO7.out.sl.shape
                obtain ⟨q0, q1, q2, q3, q4, q5, q6, q7, q8, q9⟩ := And.intro (hev 0 (by decide)).1 (And.intro (hev 1 (by decide)).1 (And.intro (hev 2 (by decide)).1 (And.intro (hev 3 (by decide)).1 (And.intro (hev 4 (by decide)).1 (And.intro (hev 5 (by decide)).1 (And.intro (hev 6 (by decide)).1 (And.intro (hev 7 (by decide)).1 (And.intro (hev 8 (by decide)).1 (hev 9 (by decide)).1))))))))
                dsimp only [evC] at q0 q1 q2 q3 q4 q5 q6 q7 q8 q9
                have HCf := Lib.hid (HG7.out.res.store (evC g (.slice A9 gs.length c9)))
                have HBf := Lib.hid (Below.store10 HG7.out.below (Nat.le_refl _) (evC g (.slice A9 gs.length c9)))
                have HOf := Lib.hid (((HO7.out : OwnK .i64 3 _ _ _ _).store10 (q := w.heap.size) (fun b hb => by have := own_base HO7.out.row b hb; have := HLH.out.1; have := HLH.out.2; omega) (evC g (.slice A9 gs.length c9))).down (B' := w.heap.size) (by have := HLH.out.1; have := HLH.out.2; omega))
                clear hev HG7 HO7 HX HBY HLH HGF HGS HD HDS HDD hgg hgd HF
                subst hd0
                go_wp2_with fail
                change bodyPost _ _ _ _ _ (store10 w7 w.heap.size (evC g (.slice A9 gs.length c9)))
                obtain ⟨wf, hwf⟩ : ∃ wf, wf = store10 w7 w.heap.size (evC g (.slice A9 gs.length c9)) := ⟨_, rfl⟩
                rw [← hwf] at HCf HBf HOf ⊢
                clear hwf q0 q1 q2 q3 q4 q5 q6 q7 q8 q9 r0 r1 r2 r3 r4 r5 r6 r7 r8 r9
                obtain ⟨c0, c1, c2, c3, c4, c5, c6, c7, c8, c10⟩ := And.intro (HCf.out 0 (by decide)).1 (And.intro (HCf.out 1 (by decide)).1 (And.intro (HCf.out 2 (by decide)).1 (And.intro (HCf.out 3 (by decide)).1 (And.intro (HCf.out 4 (by decide)).1 (And.intro (HCf.out 5 (by decide)).1 (And.intro (HCf.out 6 (by decide)).1 (And.intro (HCf.out 7 (by decide)).1 (And.intro (HCf.out 8 (by decide)).1 (HCf.out 9 (by decide)).1))))))))
                dsimp only [evC] at c0 c1 c2 c3 c4 c5 c6 c7 c8 c10
                have hBf := HBf.out
                have hOf := HOf.out
                simp [bodyPost, results, Try.results31, go_sem, c0, c1, c2, c3, c4, c5, c6, c7, c8, c10, hBf]
                exact hOf
              · have hdb : (d != 0) = true := by simp [hd0]
                have hgg : g = fun _ => 0 := by rw [← HGF.out]; funext i; unfold gF; rw [if_neg (by rw [HD.out]; exact hd0)]
                have hgd : gs = [] := by rw [← HGS.out]; unfold gD; rw [if_neg (by rw [HD.out]; exact hd0)]
                have HCf := Lib.hid (HG7.out.res.store (evC (fun _ => 0) (.slice none 0 0)))
                have HBf := Lib.hid (Below.store10 HG7.out.below (Nat.le_refl _) (evC (fun _ => 0) (.slice none 0 0)))
                clear HG7 HO7 HX HBY HLH HGF HGS HD HDS HDD HF
                subst hgg hgd
                go_wp2_with fail
                change bodyPost _ _ _ _ _ (store10 w7 w.heap.size (evC (fun _ => 0) (.slice none 0 0)))
                obtain ⟨wf, hwf⟩ : ∃ wf, wf = store10 w7 w.heap.size (evC (fun _ => 0) (.slice none 0 0)) := ⟨_, rfl⟩
                rw [← hwf] at HCf HBf ⊢
                clear hwf r0 r1 r2 r3 r4 r5 r6 r7 r8 r9
                obtain ⟨c0, c1, c2, c3, c4, c5, c6, c7, c8, c10⟩ := And.intro (HCf.out 0 (by decide)).1 (And.intro (HCf.out 1 (by decide)).1 (And.intro (HCf.out 2 (by decide)).1 (And.intro (HCf.out 3 (by decide)).1 (And.intro (HCf.out 4 (by decide)).1 (And.intro (HCf.out 5 (by decide)).1 (And.intro (HCf.out 6 (by decide)).1 (And.intro (HCf.out 7 (by decide)).1 (And.intro (HCf.out 8 (by decide)).1 (HCf.out 9 (by decide)).1))))))))
                dsimp only [evC] at c0 c1 c2 c3 c4 c5 c6 c7 c8 c10
                have hBf := HBf.out
                simp [bodyPost, results, Try.results31, go_sem, c0, c1, c2, c3, c4, c5, c6, c7, c8, c10, hBf]
                exact OwnK.nil_ _ _
end Go.Proofs.Ytjjccjannandlaa
