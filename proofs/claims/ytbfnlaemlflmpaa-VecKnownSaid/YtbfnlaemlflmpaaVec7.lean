/- The walk of VecOrders: it returns true. -/
import Derived.Test.YtbfnlaemlflmpaaVec6
set_option linter.unusedVariables false
set_option linter.unusedSimpArgs false
namespace Go.Proofs.Ytbfnlaemlflmpaa
open Go.RowKit Go.BigFrame

/-- What VecOrders asks. -/
structure OrdersSay (a b c : List Int) (how back : Int) (p q : Bool) : Prop where
  la : a.length ≤ 200
  lb : b.length ≤ 200
  lc : c.length ≤ 200
  how_ : cmpV a b = how
  back_ : cmpV b a = back
  ab : atM a b = p
  bc : atM b c = q
  ac : p = true → q = true → atM a c = true
  aa : cmpV a a = 0
  same : how = 0 → ∀ i : Nat, getV a i = getV b i
  less : how = 1 → ∀ i : Nat, getV a i ≤ getV b i
  ways : (how = 0 ∧ back = 0 ∧ p = true ∧ q = true) ∨ (how = 0 ∧ back = 0 ∧ p = true ∧ q = false) ∨ (how = 1 ∧ back = 2 ∧ p = true ∧ q = true) ∨ (how = 1 ∧ back = 2 ∧ p = true ∧ q = false) ∨ (how = 2 ∧ back = 1 ∧ p = false) ∨ (how = 3 ∧ back = 3 ∧ p = false)
theorem orders_say {a b c : List Int} (la : a.length ≤ 200) (lb : b.length ≤ 200) (lc : c.length ≤ 200) : OrdersSay a b c (cmpV a b) (cmpV b a) (atM a b) (atM b c) where
  la := la
  lb := lb
  lc := lc
  how_ := rfl
  back_ := rfl
  ab := rfl
  bc := rfl
  ac := fun h1 h2 => (atM_iff _ _).2 fun i => Int.le_trans ((atM_iff _ _).1 h1 i) ((atM_iff _ _).1 h2 i)
  aa := cmpV_same fun _ => rfl
  same := fun h i => by
    rcases code_ways (lessV a b) (lessV b a) with ⟨e, e1, e2⟩ | ⟨e, e1, e2⟩ | ⟨e, e1, e2⟩ | ⟨e, e1, e2⟩ <;> unfold cmpV at h <;> rw [e] at h <;> try omega
    have := (lessV_false _ _).1 e1 i
    have := (lessV_false _ _).1 e2 i
    omega
  less := fun h i => by
    rcases code_ways (lessV a b) (lessV b a) with ⟨e, e1, e2⟩ | ⟨e, e1, e2⟩ | ⟨e, e1, e2⟩ | ⟨e, e1, e2⟩ <;> unfold cmpV at h <;> rw [e] at h <;> try omega
    exact (lessV_false _ _).1 e2 i
  ways := by
    unfold cmpV atM
    cases lessV a b <;> cases lessV b a <;> cases lessV c b <;> simp [code]

set_option maxHeartbeats 2000000 in
theorem vecOrders_of (a b c : List Int) (how back : Int) (p q : Bool) (va vb vc : Value) (w : World) (ha : Sl .i64 w w.heap.size va a) (hb : Sl .i64 w w.heap.size vb b) (hc : Sl .i64 w w.heap.size vc c) (h : OrdersSay a b c how back p q) :
    Calls Try.prog 9 #[va, vb, vc] w fun r w' => r = .returned (.bool true) ∧ Below w.heap.size w w' := by
  obtain ⟨A, ca, rfl⟩ := ha.shape
  obtain ⟨B, cb, rfl⟩ := hb.shape
  obtain ⟨C, cc, rfl⟩ := hc.shape
  have HA := Lib.hid ha
  have HB := Lib.hid hb
  have HC := Lib.hid hc
  have H := Lib.hid h
  have la := h.la
  have lb := h.lb
  have lc := h.lc
  have hw := h.ways
  clear h ha hb hc
  have g1 : ∀ o, Below w.heap.size w (w.alloc o) := fun o => Bel.grew (Below.refl _ _) _
  rcases hw with ⟨rfl, rfl, rfl, rfl⟩ | ⟨rfl, rfl, rfl, rfl⟩ | ⟨rfl, rfl, rfl, rfl⟩ | ⟨rfl, rfl, rfl, rfl⟩ | ⟨rfl, rfl, rfl⟩ | ⟨rfl, rfl, rfl⟩
  all_goals
    go_enter Try.func9, Try.ntmps9
    go_wp2_with fail
    refine (cmp_is (HA.out.later (g1 _)) (HB.out.later (g1 _)) H.out.how_ (by omega) (by omega)).mono ?_
    rintro r w' ⟨rfl, rfl⟩
    go_wp2_with fail
    refine wp_region_later (by kernel_rfl) (by kernel_rfl) ?_
    repeat (any_goals (first
      | go_big_quiet_step (first
        | (go_at_call 27; have hC := cmp_is ((HB.out.later (g1 _)).later (Later.h ‹_›)) ((HA.out.later (g1 _)).later (Later.h ‹_›)) H.out.back_ (by omega) (by omega); with_reducible exact Later.callS hC)
        | (go_at_call 27; have hC := cmp_is ((HA.out.later (g1 _)).later (Later.h ‹_›)) ((HA.out.later (g1 _)).later (Later.h ‹_›)) H.out.aa (by omega) (by omega); with_reducible exact Later.callS hC)
        | (go_at_call 33; have hC := atM_is ((HA.out.later (g1 _)).later (Later.h ‹_›)) ((HB.out.later (g1 _)).later (Later.h ‹_›)) H.out.ab (by omega) (by omega); with_reducible exact Later.callS hC)
        | (go_at_call 33; have hC := atM_is ((HB.out.later (g1 _)).later (Later.h ‹_›)) ((HC.out.later (g1 _)).later (Later.h ‹_›)) H.out.bc (by omega) (by omega); with_reducible exact Later.callS hC)
        | (go_at_call 33; have hC := atM_is ((HA.out.later (g1 _)).later (Later.h ‹_›)) ((HC.out.later (g1 _)).later (Later.h ‹_›)) (H.out.ac rfl rfl) (by omega) (by omega); with_reducible exact Later.callS hC))))
    refine wpQuiet_nil ?_
    intro x
    obtain ⟨w3, hb3⟩ := x
    have HA3 := Lib.hid ((HA.out.later (g1 _)).later hb3)
    have HB3 := Lib.hid ((HB.out.later (g1 _)).later hb3)
    have G3 := Lib.hid (Bel.then (g1 _) hb3)
    clear g1
    go_wp2_with fail
    go_loop [9] (fun i => ∃ k : Nat, k ≤ max a.length b.length ∧ i = .int .i64 k) (fun i => max a.length b.length - (intOf i).toNat)
    case atStart => exact ⟨0, Nat.zero_le _, rfl⟩
    case round =>
      obtain ⟨k, hk, rfl⟩ := hrel
      rcases (show (k < a.length ∧ b.length ≤ a.length) ∨ (k < b.length ∧ a.length < b.length) ∨ (a.length ≤ k ∧ b.length ≤ a.length) ∨ (b.length ≤ k ∧ a.length < b.length) from by omega) with ⟨h1, h2⟩ | ⟨h1, h2⟩ | ⟨h1, h2⟩ | ⟨h1, h2⟩
      rotate_right
      rotate_right
      iterate 2
        · go_wp2_with fail
          refine (works04_any _).mono ?_
          rintro r w9 ⟨rfl, hb9⟩
          go_wp2_with fail
          go_ret
          exact ⟨rfl, Bel.then G3.out hb9⟩
      all_goals
        have hkm : k < max a.length b.length := by omega
        obtain ⟨x, hx⟩ : ∃ x, getV a k = x := ⟨_, rfl⟩
        have HX := Lib.hid hx
        clear hx
        first
          | (have HY := Lib.hid ((H.out.same rfl k).symm.trans HX.out)
             go_wp2_with (first
               | (go_at_call 29; (with_reducible refine (get_is HA3.out HX.out).mono ?_); rintro r w' ⟨rfl, rfl⟩)
               | (go_at_call 29; (with_reducible refine (get_is HB3.out HY.out).mono ?_); rintro r w' ⟨rfl, rfl⟩))
             go_round
             case rel => exact ⟨k + 1, by omega, by go_num⟩
             case measure => simp [intOf]; omega)
          | (obtain ⟨y, hy⟩ : ∃ y, getV b k = y := ⟨_, rfl⟩
             have hxy : x ≤ y := by rw [← HX.out, ← hy]; exact H.out.less rfl k
             have HY := Lib.hid hy
             clear hy
             go_wp2_with (first
               | (go_at_call 29; (with_reducible refine (get_is HA3.out HX.out).mono ?_); rintro r w' ⟨rfl, rfl⟩)
               | (go_at_call 29; (with_reducible refine (get_is HB3.out HY.out).mono ?_); rintro r w' ⟨rfl, rfl⟩))
             go_round
             case rel => exact ⟨k + 1, by omega, by go_num⟩
             case measure => simp [intOf]; omega)
          | (go_wp2_with fail
             go_round
             case rel => exact ⟨k + 1, by omega, by go_num⟩
             case measure => simp [intOf]; omega)

set_option maxHeartbeats 400000 in
theorem vecOrders_any (a b c : List Int) (va vb vc : Value) (w : World) (ha : Sl .i64 w w.heap.size va a) (hb : Sl .i64 w w.heap.size vb b) (hc : Sl .i64 w w.heap.size vc c) :
    Calls Try.prog 9 #[va, vb, vc] w fun r w' => r = .returned (.bool true) ∧ Below w.heap.size w w' := by
  by_cases hl : a.length ≤ 200 ∧ b.length ≤ 200 ∧ c.length ≤ 200
  · exact vecOrders_of a b c _ _ _ _ va vb vc w ha hb hc (orders_say hl.1 hl.2.1 hl.2.2)
  · obtain ⟨A, ca, rfl⟩ := ha.shape
    obtain ⟨B, cb, rfl⟩ := hb.shape
    obtain ⟨C, cc, rfl⟩ := hc.shape
    have hl' : 200 < a.length ∨ (a.length ≤ 200 ∧ 200 < b.length) ∨ (a.length ≤ 200 ∧ b.length ≤ 200 ∧ 200 < c.length) := by omega
    clear ha hb hc hl
    rcases hl' with h1 | ⟨h1, h2⟩ | ⟨h1, h2, h3⟩
    all_goals
      go_enter Try.func9, Try.ntmps9
      go_wp2_with fail
      refine (works04_any _).mono ?_
      rintro r w9 ⟨rfl, hb9⟩
      go_wp2_with fail
      go_ret
      exact ⟨rfl, hb9⟩
end Go.Proofs.Ytbfnlaemlflmpaa
