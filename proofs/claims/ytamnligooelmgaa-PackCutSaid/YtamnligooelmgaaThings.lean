/- Things: rows of three cells; long(). -/
import Derived.Test.YtamnligooelmgaaKitR
import Derived.Test.YtamnligooelmgaaIs
set_option linter.unusedVariables false
set_option linter.unusedSimpArgs false
namespace Go.Proofs.Ytamnligooelmgaa
open Go.RowKit Go.BigFrame

/-- A number, or a row. -/
structure Th where
  row : Bool
  n : Int
  bs : List Int
  v : Value
def Th.cells (t : Th) : List Value := [.bool t.row, .int .i64 t.n, t.v]
/-- A slice of things. -/
structure Things (w : World) (B : Nat) (v : Value) (l : List Th) : Prop where
  sl : SlR 3 w B v (l.map Th.cells)
  in_ : ∀ t ∈ l, Sl .u8 w B t.v t.bs ∧ t.bs.length ≤ 140737488351232 ∧ Bytes t.bs ∧ -9223372036854775808 ≤ t.n ∧ t.n ≤ 9223372036854775807
theorem Things.below {w w' : World} {B : Nat} {v : Value} {l : List Th} (h : Things w B v l) (hb : Below B w w') : Things w' B v l := ⟨h.sl.below hb, fun t ht => ⟨(h.in_ t ht).1.below hb, (h.in_ t ht).2⟩⟩
theorem Things.shape {w : World} {B : Nat} {v : Value} {l : List Th} (h : Things w B v l) : ∃ A c, v = .slice A l.length c := by
  obtain ⟨A, c, h'⟩ := h.sl.shape
  exact ⟨A, c, by rw [h', List.length_map]⟩
theorem Things.elem {w : World} {B i n c : Nat} {A : Option Addr} {l : List Th} {t : Th} (h : Things w B (.slice A n c) l) (hi : l[i]? = some t) :
    ∃ b off, A = some ⟨b, off, none⟩ ∧ b < B ∧ l.length ≤ c ∧ w.cell? ⟨b, off + i * 3, none⟩ = some (.bool t.row) ∧ w.cell? ⟨b, off + i * 3 + 1, none⟩ = some (.int .i64 t.n) ∧ w.cell? ⟨b, off + i * 3 + 2, none⟩ = some t.v := by
  obtain ⟨b, off, hA, hb, hc, hx⟩ := h.sl.elem (i := i) (r := t.cells) (by rw [List.getElem?_map, hi]; rfl)
  exact ⟨b, off, hA, hb, by simpa using hc, hx 0 _ rfl, hx 1 _ rfl, hx 2 _ rfl⟩

theorem sum_take_succ (f : Th → Nat) {l : List Th} {k : Nat} {t : Th} (h : l[k]? = some t) : ((l.take (k + 1)).map f).sum = ((l.take k).map f).sum + f t := by
  rw [List.take_add_one, h]; simp [List.map_append]
theorem sum_le (f : Th → Nat) (M : Nat) : ∀ l : List Th, (∀ t ∈ l, f t ≤ M) → (l.map f).sum ≤ l.length * M
  | [], _ => by simp
  | t :: l, h => by
    have h1 := h t (by simp)
    have h2 := sum_le f M l (fun x hx => h x (by simp [hx]))
    rw [List.map_cons, List.sum_cons, List.length_cons, Nat.add_mul]; omega
theorem sum_20 : ∀ l : List Th, (l.map (fun t => t.bs.length)).sum ≤ 20 * (l.map (fun t => t.bs.length / 20)).sum + 19 * l.length
  | [] => by simp
  | t :: l => by
    have h := sum_20 l
    simp only [List.map_cons, List.sum_cons, List.length_cons]; omega

/-- What it says that things are not long. -/
def LongOk (l : List Th) (b : Bool) : Prop := b = false → l.length ≤ 100 ∧ (l.map (fun t => t.bs.length)).sum ≤ 10000
/-- What long() answers. -/
def LongRet (l : List Th) (w : World) (e : Ending) (w' : World) : Prop := ∃ b, e = .returned (.bool b) ∧ LongOk l b ∧ w = w'
theorem longOk_true (l : List Th) : LongOk l true := fun h => by cases h
theorem longOk_false {l : List Th} {s : Nat} (hs : s = ((l.take l.length).map (fun t => t.bs.length / 20)).sum) (h1 : (l.length : Int) + s ≤ 400) (h2 : (l.length : Int) ≤ 100) : LongOk l false := fun _ => by
  rw [List.take_length] at hs
  have := sum_20 l
  rw [← hs] at this
  exact ⟨by omega, by omega⟩

set_option maxHeartbeats 2000000 in
theorem long_any (l : List Th) (v : Value) (B : Nat) (w : World) (hx : Things w B v l) (hm : l.length ≤ 140737488351232) :
    Calls Try.prog 16 #[v] w fun e w' => LongRet l w e w' := by
  obtain ⟨A, c, rfl⟩ := hx.shape
  have HX := Lib.hid hx
  clear hx
  go_enter Try.func16, Try.ntmps16
  go_wp2
  go_loopw [3, 4] (fun t i wr => ∃ k s : Nat, k ≤ l.length ∧ k ≤ 101 ∧ i = .int .i64 k ∧ t = .int .i64 ((l.length : Int) + s) ∧ Hid (s = ((l.take k).map (fun t => t.bs.length / 20)).sum) ∧ wr = w) (fun _ i _ => l.length - (intOf i).toNat)
  case atStart => exact ⟨0, 0, Nat.zero_le _, Nat.zero_le _, rfl, by simp, Lib.hid (by simp), rfl⟩
  case round =>
    obtain ⟨k, s, hk, hk1, rfl, rfl, HS, rfl⟩ := hrel
    by_cases hk2 : k < l.length
    · by_cases hk3 : k < 101
      · obtain ⟨t, ht⟩ : ∃ t, l[k]? = some t := ⟨_, List.getElem?_eq_getElem hk2⟩
        have hin := HX.out.in_ t (List.mem_of_getElem? ht)
        obtain ⟨b, off, rfl, hbB, hcap, hc0, hc1, hc2⟩ := HX.out.elem ht
        obtain ⟨A2, c2, hv⟩ := hin.1.shape
        rw [hv] at hc2
        have HT := Lib.hid ht
        have hbl := hin.2.1
        have hs1 : s ≤ 101 * 7036874417561 := by
          rw [HS.out]
          refine Nat.le_trans (sum_le _ 7036874417561 _ (fun x hx => ?_)) (Nat.mul_le_mul_right _ ?_)
          · have := (HX.out.in_ x (List.mem_of_mem_take hx)).2.1; omega
          · rw [List.length_take]; omega
        have hkI : (k : Int) < (l.length : Int) := by omega
        have hk3' : (k : Int) ≤ 100 := by omega
        clear ht hin hv
        go_wp2
        go_roundw
        case rel =>
          refine ⟨k + 1, s + t.bs.length / 20, by omega, by omega, by go_num, by go_num, Lib.hid ?_, trivial⟩
          rw [sum_take_succ _ HT.out, ← HS.out]
        case measure => simp [intOf]; omega
      · have hk4 : k = 101 := by omega
        subst hk4
        have hlI : (100 : Int) < (l.length : Int) := by omega
        by_cases h4 : 400 < (l.length : Int) + (s : Int)
        all_goals
          go_wp2
          go_ret
          exact ⟨true, rfl, longOk_true l, rfl⟩
    · have hk4 : k = l.length := by omega
      subst hk4
      have hs0 : 0 ≤ (l.length : Int) := by omega
      by_cases h4 : 400 < (l.length : Int) + (s : Int)
      · go_wp2
        go_ret
        exact ⟨true, rfl, longOk_true l, rfl⟩
      · by_cases h5 : 100 < (l.length : Int)
        · go_wp2
          go_ret
          exact ⟨true, rfl, longOk_true l, rfl⟩
        · have HF := Lib.hid (longOk_false HS.out (by omega) (by omega))
          go_wp2
          go_ret
          exact ⟨false, rfl, HF.out, rfl⟩
end Go.Proofs.Ytamnligooelmgaa
