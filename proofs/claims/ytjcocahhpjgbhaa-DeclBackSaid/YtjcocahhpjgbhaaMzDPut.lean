/- Declarations laid: the writer, and what lays numbers. -/
import Derived.Test.YtjcocahhpjgbhaaMzDeclP
import Derived.StillTailTactics
import Derived.BigQuiet
set_option maxRecDepth 100000
set_option maxRecDepth 100000
set_option maxRecDepth 100000
set_option linter.unusedVariables false
set_option linter.unusedSimpArgs false
namespace Go.Proofs.Ytjcocahhpjgbhaa
open Go.RowKit Go.BigFrame

/-- The writer at block p: what it has laid; whether there were too many. -/
structure Wr (w : World) (p : Nat) (L : List Int) (m : Bool) : Prop where
  lt : p < w.heap.size
  c0 : ∃ r, w.cell? ⟨p, 0, none⟩ = some r ∧ Sl .u8 w w.heap.size r (encs L) ∧ ∀ b o n c, r = .slice (some ⟨b, o, none⟩) n c → p < b
  c1 : w.cell? ⟨p, 1, none⟩ = some (.bool m)
  fz : ∀ i, w.frozen? ⟨p, i, none⟩ = false
  i64 : I64s L
theorem Wr.below {w w' : World} {p : Nat} {L : List Int} {m : Bool} (h : Wr w p L m) (hb : Below w.heap.size w w') : Wr w' p L m := by
  obtain ⟨r, h1, h2, h3⟩ := h.c0
  exact ⟨Nat.lt_of_lt_of_le h.lt hb.size, ⟨r, (hb.cell (p := ⟨p, 0, none⟩) h.lt).trans h1, h2.later hb, h3⟩, (hb.cell (p := ⟨p, 1, none⟩) h.lt).trans h.c1, fun i => (hb.frozen (p := ⟨p, i, none⟩) h.lt).trans (h.fz i), h.i64⟩
theorem Wr.lay {w w3 : World} {p : Nat} {L L' : List Int} {m : Bool} {r : Value} (h : Wr w p L m) (hb : Below w.heap.size w w3) (ho : OwnBytes w3 w.heap.size r (encs L')) (h64 : I64s L') : Wr (w3.setCell ⟨p, 0, none⟩ r) p L' m := by
  obtain ⟨r0, h1, h2, h3⟩ := h.c0
  have hlt : p < w3.heap.size := Nat.lt_of_lt_of_le h.lt hb.size
  have c0 : w3.cell? ⟨p, 0, none⟩ = some r0 := (hb.cell (p := ⟨p, 0, none⟩) h.lt).trans h1
  have hs : (w3.setCell ⟨p, 0, none⟩ r).heap.size = w3.heap.size := by simp [World.setCell]
  have hap : ∀ b o n c, r = .slice (some ⟨b, o, none⟩) n c → p < b := by
    intro b o n c he
    rcases ho.shape with ⟨h4, _⟩ | ⟨g, cap, h4, hg, _⟩
    · rw [he] at h4; cases h4
    · rw [he] at h4
      injection h4 with h5 _ _
      injection h5 with h5
      injection h5 with h5
      have := h.lt
      omega
  refine ⟨by rw [hs]; exact hlt, ⟨r, World.cell?_setCell_same _ _ _ c0, ?_, hap⟩, (World.cell?_setCell_other w3 ⟨p, 0, none⟩ ⟨p, 1, none⟩ _ (by simp)).trans ((hb.cell (p := ⟨p, 1, none⟩) h.lt).trans h.c1), fun i => by rw [World.frozen?_setCell]; exact (hb.frozen (p := ⟨p, i, none⟩) h.lt).trans (h.fz i), h64⟩
  rw [hs]
  rcases ho.sl with hn | ⟨b, off, c, hv, hlt', hc, hx⟩
  · exact .inl hn
  · refine .inr ⟨b, off, c, hv, hlt', hc, fun i hi => ?_⟩
    have hne := hap b off _ c hv
    exact (World.cell?_setCell_other w3 ⟨p, 0, none⟩ ⟨b, off + i, none⟩ _ (by simp <;> omega)).trans (hx i hi)
theorem Wr.setMany {w : World} {p : Nat} {L : List Int} {m : Bool} (h : Wr w p L m) (b : Bool) : Wr (w.setCell ⟨p, 1, none⟩ (.bool b)) p L b := by
  obtain ⟨r, h1, h2, h3⟩ := h.c0
  have hs : (w.setCell ⟨p, 1, none⟩ (.bool b)).heap.size = w.heap.size := by simp [World.setCell]
  refine ⟨by rw [hs]; exact h.lt, ⟨r, (World.cell?_setCell_other w ⟨p, 1, none⟩ ⟨p, 0, none⟩ _ (by simp)).trans h1, ?_, h3⟩, World.cell?_setCell_same _ _ _ h.c1, fun i => by rw [World.frozen?_setCell]; exact h.fz i, h.i64⟩
  rw [hs]
  rcases h2 with hn | ⟨b', off, c, hv, hlt', hc, hx⟩
  · exact .inl hn
  · refine .inr ⟨b', off, c, hv, hlt', hc, fun i hi => ?_⟩
    have hne := h3 b' off _ c hv
    exact (World.cell?_setCell_other w ⟨p, 1, none⟩ ⟨b', off + i, none⟩ _ (by simp <;> omega)).trans (hx i hi)
/-- A slice apart from p is kept. -/
theorem Sl.but {k : IntKind} {w w' : World} {p : Nat} {v : Value} {xs : List Int} (h : Sl k w w.heap.size v xs) (hb : But p w w') (hne : ∀ b o n c, v = .slice (some ⟨b, o, none⟩) n c → b ≠ p) : Sl k w' w'.heap.size v xs := by
  rcases h with hn | ⟨b, off, c, hv, hlt, hc, hx⟩
  · exact .inl hn
  · exact .inr ⟨b, off, c, hv, Nat.lt_of_lt_of_le hlt hb.size, hc, fun i hi => (hb.cell hlt (hne b off _ c hv)).trans (hx i hi)⟩
set_option maxHeartbeats 4000000 in
theorem wints_any {p : Nat} {L ns : List Int} {m : Bool} {v : Value} {w : World} (hW : Wr w p L m) (hv : Sl .i64 w w.heap.size v ns) (hne : ∀ b o n c, v = .slice (some ⟨b, o, none⟩) n c → b ≠ p) (h64 : I64s ns) (hl : L.length + ns.length ≤ 100000000) :
    Calls Try.prog 37 #[.pointer (some ⟨p, 0, none⟩), v] w fun e w' => e = .returned (.tuple #[]) ∧ But p w w' ∧ Wr w' p (L ++ ns) m := by
  obtain ⟨A, c, rfl⟩ := hv.shape
  have HV := Lib.hid hv
  have HNE := Lib.hid hne
  have H64 := Lib.hid h64
  have HW := Lib.hid hW
  have hnl : (ns.length : Int) ≤ 100000000 := by omega
  clear hv hne h64 hW
  go_enter Try.func37, Try.ntmps37
  go_wp2_with fail
  go_loopw [8] (fun i wr => ∃ k : Nat, k ≤ ns.length ∧ i = .int .i64 k ∧ But p w wr ∧ Wr wr p (L ++ ns.take k) m) (fun i _ => ns.length - (intOf i).toNat)
  case atStart => exact ⟨0, Nat.zero_le _, rfl, But.refl _ _, by simpa using HW.out⟩
  case round =>
    obtain ⟨k, hk, rfl, hb, hWr⟩ := hrel
    have HB := Lib.hid hb
    have HWr := Lib.hid hWr
    by_cases hlt : k < ns.length
    · obtain ⟨x, hx⟩ : ∃ x, ns[k]? = some x := ⟨_, List.getElem?_eq_getElem hlt⟩
      obtain ⟨b, off, rfl, hbb, hcap, hcx⟩ := (HV.out.but hb HNE.out).elem hlt
      rw [hx] at hcx
      dsimp only [Option.getD_some] at hcx
      obtain ⟨r, hr1, hr2, hr3⟩ := hWr.c0
      obtain ⟨Ar, cr, hrs⟩ := hr2.shape
      subst hrs
      obtain ⟨ln, hln⟩ : ∃ ln, ln = (encs (L ++ ns.take k)).length := ⟨_, rfl⟩
      rw [← hln] at hr1 hr2 hr3
      have hpl := hWr.lt
      have hfz := hWr.fz 0
      have hx64 := H64.out x (List.mem_of_getElem? hx)
      have hle := encs_le hWr.i64
      rw [List.length_append, List.length_take] at hle
      have HLE : Hid ((encs (L ++ ns.take k)).length ≤ 1099511627776) := Lib.hid (by omega)
      have HSL := Lib.hid hr2
      have HTK : Hid (ns.take (k + 1) = ns.take k ++ [x]) := Lib.hid (take_snoc hx)
      have h64' : I64s (L ++ ns.take (k + 1)) := by
        rw [HTK.out, ← List.append_assoc]
        intro y hy
        rcases List.mem_append.1 hy with hy | hy
        · exact hWr.i64 y hy
        · have := List.mem_singleton.1 hy
          subst this; exact hx64
      have H64' := Lib.hid h64'
      have hkI : (k : Int) < (ns.length : Int) := by omega
      have HX64 := Lib.hid hx64
      clear hb hWr hr2 hr3 hx hle hln h64' hx64
      go_wp2_with fail
      refine (pint_any _ x _ _ _ HSL.out (Nat.le_refl _) HLE.out HX64.out.1 HX64.out.2).mono ?_
      rintro e w3 ⟨r', rfl, hown, hb3⟩
      obtain ⟨Ar', cr', hrs'⟩ := hown.sl.shape
      obtain ⟨ln', hln'⟩ : ∃ n, n = (encs (L ++ ns.take k) ++ encI x).length := ⟨_, rfl⟩
      rw [← hln'] at hrs'
      subst hrs'
      have hWr3 := HWr.out.lay (L' := L ++ ns.take (k + 1)) hb3 (by rw [HTK.out, ← List.append_assoc, encs_snoc]; exact hown) H64'.out
      have hB3 := HB.out.trans ((But.of hb3 : But p wr w3).store 0 (.slice Ar' ln' cr'))
      have HW3 := Lib.hid hWr3
      have HB3 := Lib.hid hB3
      have hf3 : w3.frozen? ⟨p, 0, none⟩ = false := (hb3.frozen (p := ⟨p, 0, none⟩) hpl).trans hfz
      obtain ⟨u, hu⟩ : ∃ u, w3.cell? ⟨p, 0, none⟩ = some u := ⟨_, (hb3.cell (p := ⟨p, 0, none⟩) hpl).trans hr1⟩
      have hpl3 : p < w3.heap.size := Nat.lt_of_lt_of_le hpl hb3.size
      clear hln' hown hb3 hWr3 hB3 hr1 hcx hfz
      go_wp2_with fail
      go_roundw
      case rel => exact ⟨k + 1, by omega, by go_num, HB3.out, HW3.out⟩
      case measure => simp [intOf]; omega
    · have hk' : k = ns.length := by omega
      subst hk'
      clear hb hWr
      go_wp2_with fail
      go_end0
      exact ⟨rfl, HB.out, by simpa using HWr.out⟩
end Go.Proofs.Ytjcocahhpjgbhaa
