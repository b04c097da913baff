/- Walks of pack.Blob, and of the reference's Int and Blob. -/
import Derived.Test.YtjjccjannandlaaPack2
import Derived.Test.YtjjccjannandlaaKitD
set_option linter.unusedVariables false
set_option linter.unusedSimpArgs false
namespace Go.Proofs.Ytjjccjannandlaa
open Go.RowKit Go.BigFrame

/-- The digits, the lowest first. -/
def loD (u : Nat) : Nat → List Int
  | 0 => []
  | k + 1 => loD u k ++ [((u / 256 ^ k % 256 : Nat) : Int)]
theorem loD_length (u k : Nat) : (loD u k).length = k := by induction k with
  | zero => rfl
  | succ k ih => simp [loD, ih]
theorem loD_get {u K m : Nat} (h : m < K) : (loD u K)[m]?.getD 0 = ((u / 256 ^ m % 256 : Nat) : Int) := by
  induction K with
  | zero => omega
  | succ k ih =>
    by_cases hm : m = k
    · subst hm; simp [loD, List.getElem?_append_right, loD_length]
    · simp only [loD]
      rw [List.getElem?_append_left (by rw [loD_length]; omega)]
      exact ih (by omega)

theorem enc_take {n H : Int} {u K m : Nat} (h : encI n = H :: beD u K) (hm : m < K) : (encI n).take (1 + (K - m)) = (encI n).take (1 + (K - (m + 1))) ++ [((u / 256 ^ m % 256 : Nat) : Int)] := by
  rw [h, show 1 + (K - m) = (K - (m + 1)) + 1 + 1 from by omega, show 1 + (K - (m + 1)) = (K - (m + 1)) + 1 from by omega, List.take_succ_cons, List.take_succ_cons, beD_take (m := m) (by omega)]
  rfl

set_option maxHeartbeats 2000000 in
theorem rint_any (xs : List Int) (n : Int) (v : Value) (B : Nat) (w : World) (hx : Sl .u8 w B v xs) (hB : B ≤ w.heap.size) (hl : xs.length ≤ 1099511627776) (h0 : -9223372036854775808 ≤ n) (h1 : n ≤ 9223372036854775807) :
    Calls Try.prog 44 #[v, .int .i64 n] w fun e w' => ∃ r, e = .returned r ∧ OwnBytes w' w.heap.size r (xs ++ encI n) ∧ Below w.heap.size w w' := by
  obtain ⟨A, c, rfl⟩ := hx.shape
  have hu := mag_lt h0 h1
  obtain ⟨hd, hhd⟩ : ∃ hd : Int, hd = if n < 0 then 16 else 0 := ⟨_, rfl⟩
  have henc : encI n = ((nb (mag n) : Int) + (if n < 0 then 16 else 0)) :: beD (mag n) (nb (mag n)) := rfl
  rw [← hhd] at henc
  have HSZ := Lib.hid (rsize_any n w h0 h1)
  have hK8 := nb_le (u := mag n) (by omega)
  have hiff : ∀ k, k < nb (mag n) ↔ 256 ^ k ≤ mag n := fun k => nb_iff (by omega)
  obtain ⟨u, hue⟩ : ∃ u, u = mag n := ⟨_, rfl⟩
  rw [← hue] at hu henc hK8 HSZ hiff
  obtain ⟨K, hKe⟩ : ∃ K, K = nb u := ⟨_, rfl⟩
  rw [← hKe] at henc hK8 hiff
  have HENC := Lib.hid henc
  have HIFF := Lib.hid hiff
  have HX := Lib.hid hx
  have HHD := Lib.hid hhd
  clear hx hue hKe henc hiff hhd
  go_enter Try.func44, Try.ntmps44
  go_wp2_with fail
  refine HSZ.out.mono ?_
  rintro e w1 ⟨rfl, rfl⟩
  go_wp2_with fail
  clear HSZ
  have hst : (u : Int) = ((u / 256 ^ 0 : Nat) : Int) := by simp
  have HST := Lib.hid hst
  clear hst
  go_loopw [5, 6] (fun t i wr => ∃ k : Nat, k ≤ K ∧ i = .int .u64 ((u / 256 ^ k : Nat) : Int) ∧ OwnBytes wr w.heap.size t (loD u k) ∧ Below w.heap.size w wr) (fun _ i _ => (intOf i).toNat)
  case atStart => exact ⟨0, Nat.zero_le _, by rw [← HST.out], OwnK.nil_ _ _, Below.refl _ _⟩
  case round =>
    obtain ⟨k, hk, rfl, hown, hb⟩ := hrel
    have hs1 := hb.size
    obtain ⟨q, hq⟩ : ∃ q, q = u / 256 ^ k := ⟨_, rfl⟩
    have hqu : q ≤ u := by rw [hq]; exact Nat.div_le_self _ _
    have hq1 : q / 256 = u / 256 ^ (k + 1) := by rw [hq, Nat.div_div_eq_div_mul, Nat.pow_succ]
    have hlo : loD u (k + 1) = loD u k ++ [((q % 256 : Nat) : Int)] := by rw [hq]; rfl
    have hzero : 0 < q ↔ k < K := by
      rw [hq, HIFF.out k]
      exact Nat.div_pos_iff.trans ⟨fun h => h.2, fun h => ⟨Nat.pow_pos (by decide), h⟩⟩
    rw [← hq]
    have HQ1 := Lib.hid hq1
    have HLO := Lib.hid hlo
    clear hq hq1 hlo
    by_cases hlt : k < K
    · have hqp := hzero.2 hlt
      have hqI : (0 : Int) < (q : Int) := by omega
      clear hzero
      obtain ⟨x, hx⟩ : ∃ x : Int, x = ((q % 256 : Nat) : Int) := ⟨_, rfl⟩
      rw [← hx] at HLO
      have hx' : (q : Int) % 256 = x := by omega
      clear hx
      go_wp2_with (at_builtin; refine wpList_append_sl rfl _ _ 22 rfl Try.underlying22 infoBytes (by decide) rfl rfl (hown.grow _) (Sl.one _ _ x _ rfl) (by rw [loD_length]; simp; omega) (by simp; omega) ?_; intro v' w2 hown' hb')
      go_roundw
      case rel =>
        refine ⟨k + 1, by omega, ?_, ?_, (hb.alloc hs1 _).trans hb'⟩
        · rw [← HQ1.out]; rfl
        · rw [HLO.out]; exact hown'
      case measure => simp [intOf]; omega
    · have hq0 : q = 0 := by omega
      subst hq0
      have hkK : k = K := by omega
      subst hkK
      clear hzero HQ1 HLO hlt
      obtain ⟨A2, c2, h2⟩ := hown.sl.shape
      rw [loD_length] at h2
      subst h2
      have hlow := hown.sl
      have hxs := (HX.out.below (hb.mono hB)).more (Nat.le_trans hB hs1)
      have HL1 : Hid ((beD u k).take (k - k) = []) := by simp [Hid]
      have HLo := Lib.hid (loD_length u k)
      clear hown
      have hhd : (n < 0 ∧ hd = 16) ∨ (0 ≤ n ∧ hd = 0) := by
        have := HHD.out
        by_cases hn : n < 0
        · exact .inl ⟨hn, by rw [this, if_pos hn]⟩
        · exact .inr ⟨by omega, by rw [this, if_neg hn]⟩
      rcases hhd with ⟨hn, rfl⟩ | ⟨hn, rfl⟩
      all_goals
        go_wp2_with (first
          | (at_builtin; refine wpList_append_sl (o := ⟨some 30, _, _, _, _, _⟩) rfl _ _ 22 rfl Try.underlying22 infoBytes (by decide) rfl rfl (OwnK.nil_ wr wr.heap.size) hxs (by simp; omega) (Nat.le_refl _) ?_; intro v1 w1 hown1 hb1; rw [List.nil_append] at hown1; have hs2 := hb1.size)
          | (at_builtin; refine wpList_append_sl (o := ⟨some 35, _, _, _, _, _⟩) rfl _ _ 22 rfl Try.underlying22 infoBytes (by decide) rfl rfl (hown1.grow _) (Sl.one _ _ ((k : Int) + 16) _ rfl) (by rw [List.length_cons, List.length_nil]; omega) (by rw [World.size_alloc]; omega) ?_; intro v2 w2 hown2 hb2)
          | (at_builtin; refine wpList_append_sl (o := ⟨some 35, _, _, _, _, _⟩) rfl _ _ 22 rfl Try.underlying22 infoBytes (by decide) rfl rfl (hown1.grow _) (Sl.one _ _ ((k : Int)) _ rfl) (by rw [List.length_cons, List.length_nil]; omega) (by rw [World.size_alloc]; omega) ?_; intro v2 w2 hown2 hb2))
        have hb3 : Below wr.heap.size wr w2 := (hb1.alloc hs2 _).trans hb2
        have ho3 : OwnBytes w2 wr.heap.size v2 (xs ++ (encI n).take (1 + (k - k))) := by rw [HENC.out]; simpa using hown2
        have hlen := congrArg List.length HENC.out
        rw [List.length_cons, beD_length] at hlen
        have HLEN := Lib.hid hlen
        have HTK : Hid (∀ m, m < k → (encI n).take (1 + (k - m)) = (encI n).take (1 + (k - (m + 1))) ++ [((u / 256 ^ m % 256 : Nat) : Int)]) := fun m hm => enc_take HENC.out hm
        have HGET : Hid (∀ m, m < k → (loD u k)[m]?.getD 0 = ((u / 256 ^ m % 256 : Nat) : Int)) := fun m hm => loD_get hm
        clear hb1 hb2 hown1 hown2 HENC HL1 HST HHD HIFF hxs hs2 hlen
        obtain ⟨W, rfl⟩ : ∃ W, W = wr := ⟨_, rfl⟩
        go_loopw [8, 9] (fun t i wr => ∃ j : Nat, j ≤ k ∧ i = .int .i64 ((j : Int) - 1) ∧ OwnBytes wr W.heap.size t (xs ++ (encI n).take (1 + (k - j))) ∧ Below W.heap.size W wr) (fun _ i _ => (intOf i + 1).toNat)
        case atStart => exact ⟨k, Nat.le_refl _, rfl, ho3, hb3⟩
        case round =>
          obtain ⟨j, hj, rfl, hown, hb2⟩ := hrel
          have hs2 := hb2.size
          clear ho3 hb3
          cases j with
          | zero =>
            go_wp2
            go_ret
            refine ⟨_, rfl, ?_, hb.trans (hb2.mono hs1)⟩
            have := hown.down hs1
            rwa [List.take_of_length_le (by have := HLEN.out; omega)] at this
          | succ m =>
            rw [show (((m + 1 : Nat) : Int) - 1) = (m : Int) from by omega]
            have hlow2 := hlow.below hb2
            obtain ⟨b, off, rfl, hbB, hcap, hcx⟩ := hlow2.elem (i := m) (by have := HLo.out; omega)
            rw [HGET.out m (by omega)] at hcx
            have htk := HTK.out m (by omega)
            obtain ⟨x, hx⟩ : ∃ x : Int, x = ((u / 256 ^ m % 256 : Nat) : Int) := ⟨_, rfl⟩
            rw [← hx] at htk hcx
            have HTK1 := Lib.hid htk
            have hcap' := HLo.out
            have hlt : (m : Int) < (k : Int) := by omega
            clear hx htk HTK HGET
            go_wp2_with (at_builtin; refine wpList_append_sl rfl _ _ 22 rfl Try.underlying22 infoBytes (by decide) rfl rfl (hown.grow _) (Sl.one _ _ x _ rfl) (by rw [List.length_append, List.length_take, List.length_cons, List.length_nil]; have := HLEN.out; omega) (by rw [World.size_alloc]; omega) ?_; intro v' w3 hown' hb3)
            go_roundw
            case rel =>
              refine ⟨m, by omega, rfl, ?_, (hb2.alloc hs2 _).trans hb3⟩
              rw [HTK1.out, ← List.append_assoc]
              exact hown'
            case measure => simp [intOf]

end Go.Proofs.Ytjjccjannandlaa
