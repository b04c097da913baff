/- event.Put: its closure. -/
import Derived.Test.YtjjccjannandlaaMzInts
import Derived.Test.YtjjccjannandlaaKitInts
set_option maxRecDepth 100000
set_option linter.unusedVariables false
set_option linter.unusedSimpArgs false
namespace Go.Proofs.Ytjjccjannandlaa
open Go.RowKit Go.BigFrame

theorem Sl.but {k : IntKind} {w w' : World} {B q : Nat} {v : Value} {xs : List Int} (h : Sl k w B v xs) (hB : B ≤ w.heap.size) (hne : ∀ b o n c, v = .slice (some ⟨b, o, none⟩) n c → 0 < xs.length → b ≠ q) (hb : But q w w') : Sl k w' B v xs := by
  rcases h with h | ⟨b, off, c, hv, hlt, hc, hx⟩
  · exact .inl h
  · exact .inr ⟨b, off, c, hv, hlt, hc, fun i hi => (hb.cell (by omega) (hne b off _ c hv (by omega))).trans (hx i hi)⟩

set_option maxHeartbeats 4000000 in
theorem lay_any (ns xs : List Int) (lv bv : Value) (q : Nat) (w : World) (hl : Sl .i64 w w.heap.size lv ns) (hne : ∀ b o n c, lv = .slice (some ⟨b, o, none⟩) n c → 0 < ns.length → b ≠ q) (hq : q < w.heap.size) (hc : w.cell? ⟨q, 0, none⟩ = some bv) (hf : w.frozen? ⟨q, 0, none⟩ = false) (hb : OwnBytes w (q + 1) bv xs)
    (h64 : I64s ns) (hxl : xs.length ≤ 10000) (hnl : ns.length ≤ 100) :
    Calls Try.prog 49 #[lv, .pointer (some ⟨q, 0, none⟩)] w fun e w' => ∃ v', e = .returned (.tuple #[]) ∧ But q w w' ∧ w'.cell? ⟨q, 0, none⟩ = some v' ∧ w'.frozen? ⟨q, 0, none⟩ = false ∧ OwnBytes w' (q + 1) v' (xs ++ encs ns) := by
  obtain ⟨A, c, rfl⟩ := hl.shape
  have HL := Lib.hid hl
  have HNE := Lib.hid hne
  have H64 := Lib.hid h64
  have HC := Lib.hid (And.intro hc (And.intro hf hb))
  clear hl hne h64 hc hf hb
  go_enter Try.func49, Try.ntmps49
  go_wp2
  go_loopw [7] (fun i wr => ∃ k : Nat, k ≤ ns.length ∧ i = .int .i64 k ∧ But q w wr ∧ Hid (∃ v', wr.cell? ⟨q, 0, none⟩ = some v' ∧ wr.frozen? ⟨q, 0, none⟩ = false ∧ OwnBytes wr (q + 1) v' (xs ++ encs (ns.take k)))) (fun i _ => ns.length - (intOf i).toNat)
  case atStart => exact ⟨0, Nat.zero_le _, rfl, But.refl _ _, Lib.hid ⟨_, HC.out.1, HC.out.2.1, by simpa [encs] using HC.out.2.2⟩⟩
  case round =>
    obtain ⟨k, hk, rfl, hb, HV⟩ := hrel
    obtain ⟨v', hcv, hfv, hown⟩ := HV.out
    by_cases hlt : k < ns.length
    · obtain ⟨b, off, rfl, hbB, hcap, hcx⟩ := (HL.out.but (Nat.le_refl _) HNE.out hb).elem hlt
      have hT := take_succ' hlt
      obtain ⟨x, hx⟩ : ∃ x, x = ns[k]?.getD 0 := ⟨_, rfl⟩
      have hx64 := H64.out x (by rw [hx, List.getElem?_eq_getElem hlt]; exact List.getElem_mem _)
      rw [← hx] at hcx hT
      obtain ⟨zs, hz⟩ : ∃ zs, zs = xs ++ encs (ns.take k) := ⟨_, rfl⟩
      obtain ⟨nx, hnx⟩ : ∃ nx, nx = xs ++ encs (ns.take (k + 1)) := ⟨_, rfl⟩
      have HT : Hid (zs ++ encI x = nx) := by rw [hnx, hT, encs_snoc, hz, List.append_assoc]; exact Lib.hid rfl
      have hlen : (encs (ns.take k)).length ≤ 9 * 100 := by
        have h1 := encs_le (l := ns.take k) (fun y hy => H64.out y (List.mem_of_mem_take hy))
        rw [List.length_take] at h1; omega
      have hkI : (k : Int) < (ns.length : Int) := by omega
      have hs1 := hb.size
      have HLN : Hid (zs.length ≤ 1099511627776) := by rw [hz, List.length_append]; exact Lib.hid (by omega)
      rw [← hz] at hown
      have HO := Lib.hid hown
      have HNX := Lib.hid hnx
      obtain ⟨A2, c2, hv2⟩ := hown.sl.shape
      have hbv : v' = v' := rfl
      have HB := Lib.hid hb
      clear hx hT hown hlen HV hb hbv hz hnx
      subst hv2
      go_wp2_with fail
      refine (pint_any _ x _ _ _ HO.out.sl (Nat.le_refl _) HLN.out hx64.1 hx64.2).mono ?_
      rintro e w3 ⟨r, rfl, hr, hb3⟩
      rw [HT.out] at hr
      have hcv3 := (hb3.cell (p := ⟨q, 0, none⟩) (by show q < _; omega)).trans hcv
      have hfv3 := (hb3.frozen (p := ⟨q, 0, none⟩) (by show q < _; omega)).trans hfv
      have HR := Lib.hid hr
      have HB3 := Lib.hid (HB.out.trans (But.of hb3))
      obtain ⟨A3, c3, rfl⟩ := hr.sl.shape
      clear hr hb3 hcv hfv HO HB
      go_wp2_with fail
      go_roundw
      case rel =>
        refine ⟨k + 1, by omega, by go_num, HB3.out.store 0 _, Lib.hid ⟨_, World.cell?_setCell_same _ _ _ hcv3, by rw [World.frozen?_setCell]; exact hfv3, ?_⟩⟩
        rw [← HNX.out]
        exact (HR.out.down (by omega)).but (Nat.lt_succ_self q) ((But.refl q w3).store 0 _)
      case measure => simp [intOf]; omega
    · have hk4 : k = ns.length := by omega
      subst hk4
      rw [List.take_length] at hown
      clear HV
      go_wp2
      go_end0
      exact ⟨v', rfl, hb, hcv, hfv, hown⟩
end Go.Proofs.Ytjjccjannandlaa
