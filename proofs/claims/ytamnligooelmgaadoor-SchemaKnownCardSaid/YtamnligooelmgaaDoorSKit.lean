/- schema: within, is, many. -/
import Derived.Test.YtamnligooelmgaaDoorDecl
set_option maxRecDepth 100000
set_option linter.unusedVariables false
set_option linter.unusedSimpArgs false
namespace Go.Proofs.YtamnligooelmgaaDoor
open Go.RowKit Go.BigFrame

/-- Whether it is so. -/
def BRet (P : Prop) (w : World) (e : Ending) (w' : World) : Prop := ∃ b : Bool, e = .returned (.bool b) ∧ (b = true ↔ P) ∧ Below w.heap.size w w'
theorem BRet.yes {P : Prop} {w w' : World} (h : Below w.heap.size w w') (hp : P) : BRet P w (.returned (.bool true)) w' := ⟨true, rfl, ⟨fun _ => hp, fun _ => rfl⟩, h⟩
theorem BRet.no {P : Prop} {w w' : World} (h : Below w.heap.size w w') (hp : ¬ P) : BRet P w (.returned (.bool false)) w' := ⟨false, rfl, ⟨(fun h => by cases h), fun h => absurd h hp⟩, h⟩

theorem within_is (n lo hi : Int) (b : Bool) (w : World) (hb : (lo ≤ n ∧ n ≤ hi) ↔ b = true) :
    Calls Tryd.prog 24 #[.int .i64 n, .int .i64 lo, .int .i64 hi] w fun e w' => e = .returned (.bool b) ∧ w = w' := by
  have hc : (b = true ∧ lo ≤ n ∧ n ≤ hi) ∨ (b = false ∧ n < lo) ∨ (b = false ∧ lo ≤ n ∧ hi < n) := by
    cases b with
    | true => exact .inl ⟨rfl, hb.2 rfl⟩
    | false =>
      have : ¬ (lo ≤ n ∧ n ≤ hi) := fun h => by have := hb.1 h; cases this
      right
      by_cases h : n < lo
      · exact .inl ⟨rfl, h⟩
      · exact .inr ⟨rfl, by omega, by omega⟩
  clear hb
  rcases hc with ⟨rfl, h1, h2⟩ | ⟨rfl, h1⟩ | ⟨rfl, h1, h2⟩
  all_goals
    go_enter Tryd.func24, Tryd.ntmps24
    go_wp2_with fail
    go_ret
    first
      | exact ⟨rfl, rfl⟩
      | exact ⟨congrArg (fun z => Ending.returned (.bool z)) (decide_eq_true h2 : decide (n ≤ hi) = true), rfl⟩
      | exact ⟨congrArg (fun z => Ending.returned (.bool z)) (decide_eq_false (by omega) : decide (n ≤ hi) = false), rfl⟩
theorem within_yes (n lo hi : Int) (w : World) (h : lo ≤ n ∧ n ≤ hi) : Calls Tryd.prog 24 #[.int .i64 n, .int .i64 lo, .int .i64 hi] w fun e w' => e = .returned (.bool true) ∧ w = w' :=
  within_is n lo hi true w ⟨fun _ => rfl, fun _ => h⟩
theorem within_no (n lo hi : Int) (w : World) (h : ¬ (lo ≤ n ∧ n ≤ hi)) : Calls Tryd.prog 24 #[.int .i64 n, .int .i64 lo, .int .i64 hi] w fun e w' => e = .returned (.bool false) ∧ w = w' :=
  within_is n lo hi false w ⟨fun h' => absurd h' h, fun h' => by cases h'⟩

/-- A type has a field of a kind. -/
def IsK (t : Ty) (i kind : Int) : Prop := 0 ≤ i ∧ ∃ f, t.fs[i.toNat]? = some f ∧ f.k = kind
set_option maxHeartbeats 2000000 in
theorem is_any (t : Ty) (i kind : Int) (w : World) (ht : t.In w w.heap.size) (hl : t.fs.length ≤ 1099511627776) :
    Calls Tryd.prog 31 #[tyV t, .int .i64 i, .int .i64 kind] w fun e w' => BRet (IsK t i kind) w e w' := by
  obtain ⟨fs, tv⟩ := t
  obtain ⟨A, c, h1⟩ := ht.1.shapeL
  dsimp only at h1 hl
  subst h1
  have hB : ∀ o, Below w.heap.size w (w.alloc o) := fun o => Bel.grew (Below.refl _ _) _
  have hw : IntKind.i64.wrap ((fs.length : Int) - 1) = (fs.length : Int) - 1 := IntWalk.i64_in _ (by omega)
  by_cases hi : 0 ≤ i ∧ i ≤ (fs.length : Int) - 1
  · obtain ⟨n, rfl⟩ := Int.eq_ofNat_of_zero_le hi.1
    have hn : n < fs.length := by omega
    obtain ⟨f, hf⟩ : ∃ f, fs[n]? = some f := ⟨_, List.getElem?_eq_getElem hn⟩
    obtain ⟨b, off, rfl, hb, hcap, hcx⟩ := ht.1.at hf
    have hck := hcx 0 _ rfl
    rw [Nat.add_zero] at hck
    have hnI : (n : Int) < (fs.length : Int) := by omega
    have HW := Lib.hid (fun o => within_yes (n : Int) 0 ((fs.length : Int) - 1) (w.alloc o) hi)
    have HF := Lib.hid hf
    obtain ⟨kk, hkk⟩ : ∃ kk, kk = f.k := ⟨_, rfl⟩
    rw [← hkk] at hck
    have HKK := Lib.hid hkk
    clear hcx hf hkk ht
    by_cases hk : kk = kind
    · have hkb : (kk == kind) = true := by simp [hk]
      have HK := Lib.hid hk
      clear hk
      go_enter Tryd.func31, Tryd.ntmps31
      go_wp2_with fail
      refine (HW.out _).mono ?_
      rintro e w2 ⟨rfl, rfl⟩
      go_wp2_with fail
      go_ret
      exact BRet.yes (hB _) ⟨by omega, f, by rw [Int.toNat_natCast]; exact HF.out, by rw [← HKK.out]; exact HK.out⟩
    · have hkb : (kk == kind) = false := by simp [hk]
      have HK := Lib.hid hk
      clear hk
      go_enter Tryd.func31, Tryd.ntmps31
      go_wp2_with fail
      refine (HW.out _).mono ?_
      rintro e w2 ⟨rfl, rfl⟩
      go_wp2_with fail
      go_ret
      refine BRet.no (hB _) ?_
      rintro ⟨_, g, hg, hgk⟩
      rw [Int.toNat_natCast] at hg
      have := HF.out.symm.trans hg
      injection this with this
      subst this
      exact HK.out (HKK.out.trans hgk)
  · have HW := Lib.hid (fun o => within_no i 0 ((fs.length : Int) - 1) (w.alloc o) hi)
    clear ht
    go_enter Tryd.func31, Tryd.ntmps31
    go_wp2_with fail
    refine (HW.out _).mono ?_
    rintro e w2 ⟨rfl, rfl⟩
    go_wp2_with fail
    go_ret
    refine BRet.no (hB _) ?_
    rintro ⟨h0, g, hg, _⟩
    obtain ⟨h1, _⟩ := List.getElem?_eq_some_iff.1 hg
    dsimp only at h1
    omega
end Go.Proofs.YtamnligooelmgaaDoor
