/- LentBytes, KeptBytes. -/
import Derived.Test.YtjjccjannandlaaDoorMg1
import Derived.Test.YtjjccjannandlaaDoorMzShown
set_option maxRecDepth 100000
set_option maxRecDepth 100000
set_option linter.unusedVariables false
set_option linter.unusedSimpArgs false
namespace Go.Proofs.YtjjccjannandlaaDoor
open Go.RowKit Go.BigFrame

/-- The marks behind. -/
def marksB : List Int := [201, 208, 215, 222, 229]
theorem marksB_take {k : Nat} (hk : k < 5) : marksB.take (k + 1) = marksB.take k ++ [201 + 7 * (k : Int)] := by
  have : k = 0 ∨ k = 1 ∨ k = 2 ∨ k = 3 ∨ k = 4 := by omega
  rcases this with rfl | rfl | rfl | rfl | rfl <;> rfl
theorem marksB_get {k : Nat} (hk : k < 5) (xs : List Int) : (xs ++ marksB)[xs.length + k]?.getD 0 = 201 + 7 * (k : Int) := by
  rw [List.getElem?_append_right (by omega), Nat.add_sub_cancel_left]
  have : k = 0 ∨ k = 1 ∨ k = 2 ∨ k = 3 ∨ k = 4 := by omega
  rcases this with rfl | rfl | rfl | rfl | rfl <;> rfl
set_option maxHeartbeats 400000 in
theorem markB_is (k : Nat) (w : World) (hk : k < 5) :
    Calls Tryd.prog 57 #[.int .i64 (k : Int)] w fun e w' => e = .returned (.int .u8 (201 + 7 * (k : Int))) ∧ w = w' := by
  have h1 : IntKind.i64.wrap (7 * (k : Int)) = 7 * (k : Int) := IntWalk.i64_in _ (by omega)
  have h2 : IntKind.i64.wrap (201 + 7 * (k : Int)) = 201 + 7 * (k : Int) := IntWalk.i64_in _ (by omega)
  have h3 : IntKind.u8.wrap (201 + 7 * (k : Int)) = 201 + 7 * (k : Int) := by rw [IntKind.wrap_u8]; omega
  go_enter Tryd.func57, Tryd.ntmps57
  go_wp2
  go_ret
  exact ⟨rfl, rfl⟩

set_option maxHeartbeats 1000000 in
theorem lentBytes_any (xs : List Int) (v : Value) (B : Nat) (w : World) (hx : Sl .u8 w B v xs) (hB : B ≤ w.heap.size) (hl : xs.length ≤ 1099511627776) :
    Calls Tryd.prog 42 #[v] w fun e w' => ∃ r, e = .returned r ∧ OwnBytes w' w.heap.size r (xs ++ marksB) ∧ Below w.heap.size w w' := by
  obtain ⟨A, c, rfl⟩ := hx.shape
  have HX := Lib.hid hx
  clear hx
  go_enter Tryd.func42, Tryd.ntmps42
  go_wp2_with fail
  refine (copyBytes_any xs _ B _ HX.out hB hl).mono ?_
  rintro e w0 ⟨r, rfl, hown0, hb0⟩
  have HO := Lib.hid hown0
  clear hown0
  go_wp2_with fail
  go_loopw [3, 4] (fun t i wr => ∃ k : Nat, k ≤ 5 ∧ i = .int .i64 k ∧ OwnBytes wr w.heap.size t (xs ++ marksB.take k) ∧ Below w.heap.size w wr) (fun _ i _ => 5 - (intOf i).toNat)
  case atStart => exact ⟨0, Nat.zero_le _, rfl, by simpa using HO.out, hb0⟩
  case round =>
    obtain ⟨k, hk, rfl, hown, hb⟩ := hrel
    by_cases hlt : k < 5
    · have HT := Lib.hid (marksB_take hlt)
      have hs := hb.size
      have HOW := Lib.hid hown
      have hkI : (k : Int) < 5 := by omega
      clear hown
      go_wp2_with fail
      refine (markB_is k _ hlt).mono ?_
      rintro e w1 ⟨rfl, rfl⟩
      obtain ⟨m, hm⟩ : ∃ m : Int, m = 201 + 7 * (k : Int) := ⟨_, rfl⟩
      rw [← hm] at HT ⊢
      clear hm
      go_wp2_with (at_builtin; refine wpList_append_sl rfl _ _ 51 rfl Tryd.underlying51 infoBytes (by decide) rfl rfl (HOW.out.grow _) (Sl.one _ _ m _ rfl) (by rw [List.length_append, List.length_take, List.length_cons, List.length_nil]; omega) (by rw [World.size_alloc]; omega) ?_; intro v' w2 hown' hb')
      go_roundw
      case rel =>
        refine ⟨k + 1, by omega, by go_num, ?_, (hb.alloc hs _).trans hb'⟩
        rw [HT.out, ← List.append_assoc]
        exact hown'
      case measure => simp [intOf]; omega
    · have hk' : k = 5 := by omega
      subst hk'
      go_wp2
      go_ret
      exact ⟨_, rfl, hown, hb⟩

set_option maxHeartbeats 1000000 in
/-- What is lent has been kept. -/
theorem keptBytes_any (xs : List Int) (v u : Value) (B : Nat) (w : World) (hx : Sl .u8 w B v (xs ++ marksB)) (hy : Sl .u8 w B u xs) (hB : B ≤ w.heap.size) (hl : xs.length ≤ 1099511627776) :
    Calls Tryd.prog 45 #[v, u] w fun e w' => e = .returned (.bool true) ∧ Below w.heap.size w w' := by
  obtain ⟨A, c, rfl⟩ := hx.shape
  obtain ⟨A', c', rfl⟩ := hy.shape
  have hlen : (xs ++ marksB).length = xs.length + 5 := by simp [marksB]
  rw [hlen] at hx ⊢
  have hcut : Sl .u8 w B (.slice A xs.length c) xs := by
    have := hx.cut (m := xs.length) (by omega)
    rwa [List.take_left] at this
  have hc : xs.length + 5 ≤ c := by
    obtain ⟨b, off, _, _, h, _⟩ := hx.elem (i := 0) (by omega)
    omega
  have HC := Lib.hid hcut
  have HX := Lib.hid hx
  have HY := Lib.hid hy
  have HL := Lib.hid hlen
  clear hcut hx hy hlen
  go_enter Tryd.func45, Tryd.ntmps45
  go_wp2_with fail
  refine (sameBytes_any xs xs _ _ B _ HC.out HY.out hl).mono ?_
  rw [show decide (xs = xs) = true from by simp]
  rintro e w1 ⟨rfl, n1, rfl⟩
  go_wp2_with fail
  go_loopw [5] (fun i wr => ∃ k : Nat, k ≤ 5 ∧ i = .int .i64 k ∧ Below w.heap.size w wr) (fun i _ => 5 - (intOf i).toNat)
  case atStart => exact ⟨0, Nat.zero_le _, rfl, Bel.drewN (Below.refl _ _) _⟩
  case round =>
    obtain ⟨k, hk, rfl, hb⟩ := hrel
    by_cases hlt : k < 5
    · obtain ⟨b, off, rfl, hbB, hcap, hcx⟩ := (HX.out.below (hb.mono hB)).elem (i := xs.length + k) (by rw [HL.out]; omega)
      rw [marksB_get hlt] at hcx
      have hs : IntKind.i64.wrap ((xs.length : Int) + (k : Int)) = (xs.length : Int) + (k : Int) := IntWalk.i64_in _ (by omega)
      have hi0 : (0 : Int) ≤ (xs.length : Int) + (k : Int) := by omega
      have hi1 : (xs.length : Int) + (k : Int) < (xs.length : Int) + 5 := by omega
      have hi2 : ((xs.length : Int) + (k : Int)).toNat = xs.length + k := by omega
      have hbw : b < wr.heap.size := by have := hb.size; omega
      obtain ⟨m, hm⟩ : ∃ m : Int, m = 201 + 7 * (k : Int) := ⟨_, rfl⟩
      have HM : Hid (∀ W : World, Calls Tryd.prog 57 #[.int .i64 (k : Int)] W fun e w' => e = .returned (.int .u8 m) ∧ W = w') := fun W => by rw [hm]; exact markB_is k W hlt
      rw [← hm] at hcx
      clear hm
      go_wp2_with fail
      refine wp_region_later (by kernel_rfl) (by kernel_rfl) ?_
      repeat (any_goals (first
        | go_big_quiet_step ((go_at_call 57; have hM := HM.out (Later.w ‹_›); with_reducible exact Later.callS hM))))
      refine wpQuiet_nil ?_
      intro x
      obtain ⟨w3, hb3⟩ := x
      clear hs hi2
      go_wp2
      go_roundw
      case rel => exact ⟨k + 1, by omega, by go_num, Bel.then hb hb3⟩
      case measure => simp [intOf]; omega
    · have hk' : k = 5 := by omega
      subst hk'
      go_wp2
      go_ret
      exact ⟨rfl, hb⟩
end Go.Proofs.YtjjccjannandlaaDoor
