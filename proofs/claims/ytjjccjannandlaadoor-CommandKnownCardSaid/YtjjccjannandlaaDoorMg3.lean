/- KitR, Decl, SKit, SMany, SMove, SWrong, SWrong2. -/
import Derived.Test.YtjjccjannandlaaDoorKitC
set_option maxRecDepth 100000
/- Slices of structs that read as lists of rows of cells. -/
set_option maxRecDepth 100000
set_option linter.unusedVariables false
set_option linter.unusedSimpArgs false
namespace Go.Proofs.YtjjccjannandlaaDoor
open Go.RowKit

/-- A slice whose elements are sz cells each, its cells below block B. -/
def SlR (sz : Nat) (w : World) (B : Nat) (v : Value) (rows : List (List Value)) : Prop :=
  (∃ A c, v = .slice A 0 c ∧ rows = []) ∨
  ∃ b off c, v = .slice (some ⟨b, off, none⟩) rows.length c ∧ b < B ∧ rows.length ≤ c ∧ ∀ i r, rows[i]? = some r → ∀ j u, r[j]? = some u → w.cell? ⟨b, off + i * sz + j, none⟩ = some u
theorem SlR.below {sz : Nat} {w w' : World} {B : Nat} {v : Value} {rows : List (List Value)} (h : SlR sz w B v rows) (hb : Below B w w') : SlR sz w' B v rows := by
  rcases h with h | ⟨b, off, c, hv, hlt, hc, hx⟩
  · exact .inl h
  · exact .inr ⟨b, off, c, hv, hlt, hc, fun i r hr j u hu => (hb.cell (p := ⟨b, off + i * sz + j, none⟩) hlt).trans (hx i r hr j u hu)⟩
theorem SlR.more {sz : Nat} {w : World} {B B' : Nat} {v : Value} {rows : List (List Value)} (h : SlR sz w B v rows) (hb : B ≤ B') : SlR sz w B' v rows := by
  rcases h with h | ⟨b, off, c, hv, hlt, hc, hx⟩
  · exact .inl h
  · exact .inr ⟨b, off, c, hv, by omega, hc, hx⟩
theorem SlR.shape {sz : Nat} {w : World} {B : Nat} {v : Value} {rows : List (List Value)} (h : SlR sz w B v rows) : ∃ A c, v = .slice A rows.length c := by
  rcases h with ⟨A, c, rfl, rfl⟩ | ⟨b, off, c, hv, hlt, hc, hx⟩
  · exact ⟨A, c, rfl⟩
  · exact ⟨_, _, hv⟩
theorem SlR.elem {sz : Nat} {w : World} {B n c i : Nat} {A : Option Addr} {rows : List (List Value)} {r : List Value} (h : SlR sz w B (.slice A n c) rows) (hi : rows[i]? = some r) :
    ∃ b off, A = some ⟨b, off, none⟩ ∧ b < B ∧ rows.length ≤ c ∧ ∀ j u, r[j]? = some u → w.cell? ⟨b, off + i * sz + j, none⟩ = some u := by
  rcases h with ⟨A', c', hv, rfl⟩ | ⟨b, off, c', hv, hlt, hc, hx⟩
  · simp at hi
  · injection hv with h1 h2 h3
    subst h1 h3
    exact ⟨b, off, rfl, hlt, hc, hx i r hi⟩
end Go.Proofs.YtjjccjannandlaaDoor

/- Declarations as they lie in memory. -/
set_option maxRecDepth 100000
set_option linter.unusedVariables false
set_option linter.unusedSimpArgs false
namespace Go.Proofs.YtjjccjannandlaaDoor
open Go.RowKit

/-- A move; a field; a type; a projection; declarations: with the slices that hold what they have. -/
structure Mv where
  a : Int
  b : Int
  c : Int
  d : Int
deriving DecidableEq
abbrev Mv.cells (m : Mv) : List Value := [.int .i64 m.a, .int .i64 m.b, .int .i64 m.c, .int .i64 m.d]
structure Fd where
  k : Int
  p : Int
  fl : Bool
  ms : List Mv
  v : Value
abbrev Fd.cells (f : Fd) : List Value := [.int .i64 f.k, .int .i64 f.p, .bool f.fl, f.v]
structure Ty where
  fs : List Fd
  v : Value
abbrev Ty.cells (t : Ty) : List Value := [t.v]
structure Pj where
  t : Int
  f : Int
  g : Int
  b : Int
  m : Int
deriving DecidableEq
abbrev Pj.cells (p : Pj) : List Value := [.int .i64 p.t, .int .i64 p.f, .int .i64 p.g, .int .i64 p.b, .int .i64 p.m]
structure Dc where
  ts : List Ty
  ps : List Pj
  tv : Value
  pv : Value
abbrev declV (D : Dc) : Value := .agg #[D.tv, D.pv]
abbrev tyV (t : Ty) : Value := .agg #[t.v]
abbrev fdV' (f : Fd) : Value := .agg #[.int .i64 f.k, .int .i64 f.p, .bool f.fl, f.v]
abbrev mvV (m : Mv) : Value := .agg #[.int .i64 m.a, .int .i64 m.b, .int .i64 m.c, .int .i64 m.d]
abbrev pjV (p : Pj) : Value := .agg #[.int .i64 p.t, .int .i64 p.f, .int .i64 p.g, .int .i64 p.b, .int .i64 p.m]

/-- A field's moves lie in memory; a type's fields; declarations. -/
def Fd.In (w : World) (B : Nat) (f : Fd) : Prop := SlR 4 w B f.v (f.ms.map Mv.cells)
def Ty.In (w : World) (B : Nat) (t : Ty) : Prop := SlR 4 w B t.v (t.fs.map Fd.cells) ∧ ∀ f ∈ t.fs, f.In w B
def Dc.In (w : World) (B : Nat) (D : Dc) : Prop := SlR 1 w B D.tv (D.ts.map Ty.cells) ∧ (∀ t ∈ D.ts, t.In w B) ∧ SlR 5 w B D.pv (D.ps.map Pj.cells)
section
variable {w w' : World} {B B' : Nat}
theorem Fd.In.below {f : Fd} (h : f.In w B) (hb : Below B w w') : f.In w' B := SlR.below h hb
theorem Fd.In.more {f : Fd} (h : f.In w B) (hb : B ≤ B') : f.In w B' := SlR.more h hb
theorem Fd.In.later {f : Fd} (h : f.In w w.heap.size) (hb : Below w.heap.size w w') : f.In w' w'.heap.size := (h.below hb).more hb.size
theorem Ty.In.below {t : Ty} (h : t.In w B) (hb : Below B w w') : t.In w' B := ⟨h.1.below hb, fun f hf => (h.2 f hf).below hb⟩
theorem Ty.In.more {t : Ty} (h : t.In w B) (hb : B ≤ B') : t.In w B' := ⟨h.1.more hb, fun f hf => (h.2 f hf).more hb⟩
theorem Ty.In.later {t : Ty} (h : t.In w w.heap.size) (hb : Below w.heap.size w w') : t.In w' w'.heap.size := (h.below hb).more hb.size
theorem Dc.In.below {D : Dc} (h : D.In w B) (hb : Below B w w') : D.In w' B := ⟨h.1.below hb, fun t ht => (h.2.1 t ht).below hb, h.2.2.below hb⟩
theorem Dc.In.more {D : Dc} (h : D.In w B) (hb : B ≤ B') : D.In w B' := ⟨h.1.more hb, fun t ht => (h.2.1 t ht).more hb, h.2.2.more hb⟩
theorem Dc.In.later {D : Dc} (h : D.In w w.heap.size) (hb : Below w.heap.size w w') : D.In w' w'.heap.size := (h.below hb).more hb.size
theorem SlR.later {sz : Nat} {v : Value} {rows : List (List Value)} (h : SlR sz w w.heap.size v rows) (hb : Below w.heap.size w w') : SlR sz w' w'.heap.size v rows := (h.below hb).more hb.size
/-- Element i of a slice of structs. -/
theorem SlR.at {α : Type} {c : α → List Value} {sz : Nat} {n cap i : Nat} {A : Option Addr} {l : List α} {x : α} (h : SlR sz w B (.slice A n cap) (l.map c)) (hi : l[i]? = some x) :
    ∃ b off, A = some ⟨b, off, none⟩ ∧ b < B ∧ l.length ≤ cap ∧ ∀ j u, (c x)[j]? = some u → w.cell? ⟨b, off + i * sz + j, none⟩ = some u := by
  obtain ⟨b, off, hA, hb, hc, hx⟩ := h.elem (i := i) (r := c x) (by rw [List.getElem?_map, hi]; rfl)
  exact ⟨b, off, hA, hb, by simpa using hc, hx⟩
theorem SlR.shapeL {α : Type} {c : α → List Value} {sz : Nat} {v : Value} {l : List α} (h : SlR sz w B v (l.map c)) : ∃ A cap, v = .slice A l.length cap := by
  obtain ⟨A, cap, hv⟩ := h.shape
  exact ⟨A, cap, by simpa using hv⟩
theorem SlR.capL {α : Type} {c : α → List Value} {sz n cap : Nat} {A : Option Addr} {l : List α} (h : SlR sz w B (.slice A n cap) (l.map c)) : l.length ≤ cap := by
  rcases h with ⟨A', c', hv, hl⟩ | ⟨b, off, c', hv, hlt, hc, hx⟩
  · have : l = [] := by simpa using hl
    subst this; exact Nat.zero_le _
  · injection hv with h1 h2 h3
    subst h3; simpa using hc
end
end Go.Proofs.YtjjccjannandlaaDoor

/- schema: within, is, many. -/
set_option maxRecDepth 100000
set_option linter.unusedVariables false
set_option linter.unusedSimpArgs false
namespace Go.Proofs.YtjjccjannandlaaDoor
open Go.RowKit Go.BigFrame

/-- Whether it is so. -/
def BRet (P : Prop) (w : World) (e : Ending) (w' : World) : Prop := ∃ b : Bool, e = .returned (.bool b) ∧ (b = true ↔ P) ∧ Below w.heap.size w w'
theorem BRet.yes {P : Prop} {w w' : World} (h : Below w.heap.size w w') (hp : P) : BRet P w (.returned (.bool true)) w' := ⟨true, rfl, ⟨fun _ => hp, fun _ => rfl⟩, h⟩
theorem BRet.no {P : Prop} {w w' : World} (h : Below w.heap.size w w') (hp : ¬ P) : BRet P w (.returned (.bool false)) w' := ⟨false, rfl, ⟨(fun h => by cases h), fun h => absurd h hp⟩, h⟩

theorem within_is (n lo hi : Int) (b : Bool) (w : World) (hb : (lo ≤ n ∧ n ≤ hi) ↔ b = true) :
    Calls Tryd.prog 35 #[.int .i64 n, .int .i64 lo, .int .i64 hi] w fun e w' => e = .returned (.bool b) ∧ w = w' := by
  have hc : (b = true ∧ lo ≤ n ∧ n ≤ hi) ∨ (b = false ∧ n < lo) ∨ (b = false ∧ lo ≤ n ∧ hi < n) := by
    cases b with
    | true => exact .inl ⟨rfl, hb.2 rfl⟩
    | false =>
      have : ¬ (lo ≤ n ∧ n ≤ hi) := fun h => by have := hb.1 h; cases this
      right
      by_cases h : n < lo
      · exact .inl ⟨rfl, h⟩
      · exact .inr ⟨rfl, by omega, by omega⟩
  clear hb
  rcases hc with ⟨rfl, h1, h2⟩ | ⟨rfl, h1⟩ | ⟨rfl, h1, h2⟩
  all_goals
    go_enter Tryd.func35, Tryd.ntmps35
    go_wp2_with fail
    go_ret
    first
      | exact ⟨rfl, rfl⟩
      | exact ⟨congrArg (fun z => Ending.returned (.bool z)) (decide_eq_true h2 : decide (n ≤ hi) = true), rfl⟩
      | exact ⟨congrArg (fun z => Ending.returned (.bool z)) (decide_eq_false (by omega) : decide (n ≤ hi) = false), rfl⟩
theorem within_yes (n lo hi : Int) (w : World) (h : lo ≤ n ∧ n ≤ hi) : Calls Tryd.prog 35 #[.int .i64 n, .int .i64 lo, .int .i64 hi] w fun e w' => e = .returned (.bool true) ∧ w = w' :=
  within_is n lo hi true w ⟨fun _ => rfl, fun _ => h⟩
theorem within_no (n lo hi : Int) (w : World) (h : ¬ (lo ≤ n ∧ n ≤ hi)) : Calls Tryd.prog 35 #[.int .i64 n, .int .i64 lo, .int .i64 hi] w fun e w' => e = .returned (.bool false) ∧ w = w' :=
  within_is n lo hi false w ⟨fun h' => absurd h' h, fun h' => by cases h'⟩

/-- A type has a field of a kind. -/
def IsK (t : Ty) (i kind : Int) : Prop := 0 ≤ i ∧ ∃ f, t.fs[i.toNat]? = some f ∧ f.k = kind
set_option maxHeartbeats 2000000 in
theorem is_any (t : Ty) (i kind : Int) (w : World) (ht : t.In w w.heap.size) (hl : t.fs.length ≤ 1099511627776) :
    Calls Tryd.prog 48 #[tyV t, .int .i64 i, .int .i64 kind] w fun e w' => BRet (IsK t i kind) w e w' := by
  obtain ⟨fs, tv⟩ := t
  obtain ⟨A, c, h1⟩ := ht.1.shapeL
  dsimp only at h1 hl
  subst h1
  have hB : ∀ o, Below w.heap.size w (w.alloc o) := fun o => Bel.grew (Below.refl _ _) _
  have hw : IntKind.i64.wrap ((fs.length : Int) - 1) = (fs.length : Int) - 1 := IntWalk.i64_in _ (by omega)
  by_cases hi : 0 ≤ i ∧ i ≤ (fs.length : Int) - 1
  · obtain ⟨n, rfl⟩ := Int.eq_ofNat_of_zero_le hi.1
    have hn : n < fs.length := by omega
    obtain ⟨f, hf⟩ : ∃ f, fs[n]? = some f := ⟨_, List.getElem?_eq_getElem hn⟩
    obtain ⟨b, off, rfl, hb, hcap, hcx⟩ := ht.1.at hf
    have hck := hcx 0 _ rfl
    rw [Nat.add_zero] at hck
    have hnI : (n : Int) < (fs.length : Int) := by omega
    have HW := Lib.hid (fun o => within_yes (n : Int) 0 ((fs.length : Int) - 1) (w.alloc o) hi)
    have HF := Lib.hid hf
    obtain ⟨kk, hkk⟩ : ∃ kk, kk = f.k := ⟨_, rfl⟩
    rw [← hkk] at hck
    have HKK := Lib.hid hkk
    clear hcx hf hkk ht
    by_cases hk : kk = kind
    · have hkb : (kk == kind) = true := by simp [hk]
      have HK := Lib.hid hk
      clear hk
      go_enter Tryd.func48, Tryd.ntmps48
      go_wp2_with fail
      refine (HW.out _).mono ?_
      rintro e w2 ⟨rfl, rfl⟩
      go_wp2_with fail
      go_ret
      exact BRet.yes (hB _) ⟨by omega, f, by rw [Int.toNat_natCast]; exact HF.out, by rw [← HKK.out]; exact HK.out⟩
    · have hkb : (kk == kind) = false := by simp [hk]
      have HK := Lib.hid hk
      clear hk
      go_enter Tryd.func48, Tryd.ntmps48
      go_wp2_with fail
      refine (HW.out _).mono ?_
      rintro e w2 ⟨rfl, rfl⟩
      go_wp2_with fail
      go_ret
      refine BRet.no (hB _) ?_
      rintro ⟨_, g, hg, hgk⟩
      rw [Int.toNat_natCast] at hg
      have := HF.out.symm.trans hg
      injection this with this
      subst this
      exact HK.out (HKK.out.trans hgk)
  · have HW := Lib.hid (fun o => within_no i 0 ((fs.length : Int) - 1) (w.alloc o) hi)
    clear ht
    go_enter Tryd.func48, Tryd.ntmps48
    go_wp2_with fail
    refine (HW.out _).mono ?_
    rintro e w2 ⟨rfl, rfl⟩
    go_wp2_with fail
    go_ret
    refine BRet.no (hB _) ?_
    rintro ⟨h0, g, hg, _⟩
    obtain ⟨h1, _⟩ := List.getElem?_eq_some_iff.1 hg
    dsimp only at h1
    omega
end Go.Proofs.YtjjccjannandlaaDoor

/- schema.many. -/
set_option maxRecDepth 100000
set_option linter.unusedVariables false
set_option linter.unusedSimpArgs false
namespace Go.Proofs.YtjjccjannandlaaDoor
open Go.RowKit Go.BigFrame

def ManyF (f : Fd) : Prop := (f.k = 4 ∧ ¬ (1 ≤ (f.ms.length : Int) ∧ (f.ms.length : Int) ≤ 16)) ∨ (f.k ≠ 4 ∧ 0 < f.ms.length)
def ManyT (t : Ty) : Prop := ¬ (1 ≤ (t.fs.length : Int) ∧ (t.fs.length : Int) ≤ 8) ∨ ∃ f ∈ t.fs, ManyF f
def ManyP (D : Dc) : Prop := ¬ (1 ≤ (D.ts.length : Int) ∧ (D.ts.length : Int) ≤ 8) ∨ 8 < D.ps.length ∨ ∃ t ∈ D.ts, ManyT t
theorem take_snoc {α : Type} {l : List α} {k : Nat} {x : α} (h : l[k]? = some x) : l.take (k + 1) = l.take k ++ [x] := by
  obtain ⟨hlt, he⟩ := List.getElem?_eq_some_iff.1 h
  rw [List.take_succ_eq_append_getElem hlt, he]
theorem all_snoc {α : Type} {l : List α} {x : α} {P : α → Prop} (h : ∀ y ∈ l, P y) (hx : P x) : ∀ y ∈ l ++ [x], P y := by
  intro y hy
  rcases List.mem_append.1 hy with hy | hy
  · exact h y hy
  · have : y = x := by simpa using hy
    rw [this]; exact hx

set_option maxHeartbeats 8000000 in
theorem many_any (D : Dc) (w : World) (hD : D.In w w.heap.size) :
    Calls Tryd.prog 23 #[declV D] w fun e w' => BRet (ManyP D) w e w' := by
  obtain ⟨ts, ps, tv, pv⟩ := D
  obtain ⟨A, c, h1⟩ := hD.1.shapeL
  obtain ⟨A', c', h2⟩ := hD.2.2.shapeL
  dsimp only at h1 h2
  subst h1 h2
  obtain ⟨W, hW⟩ : ∃ W, W = w.alloc (.cells #[.slice A ts.length c, .slice A' ps.length c'] 25) := ⟨_, rfl⟩
  have hB : Below w.heap.size w W := by rw [hW]; exact Bel.grew (Below.refl _ _) _
  have hC := Has.new w #[.slice A ts.length c, .slice A' ps.length c'] 25
  rw [← hW] at hC
  have HD := Lib.hid (hD.later hB)
  have HB := Lib.hid hB
  have hc := hC.2
  have HW := Lib.hid hW
  clear hD hB hC hW
  by_cases h1 : 1 ≤ (ts.length : Int) ∧ (ts.length : Int) ≤ 8
  rotate_left
  · go_enter Tryd.func23, Tryd.ntmps23
    go_wp2_with fail
    rw [← HW.out]
    refine (within_no _ 1 8 _ h1).mono ?_
    rintro e w2 ⟨rfl, rfl⟩
    go_wp2_with fail
    go_ret
    exact BRet.yes HB.out (.inl h1)
  by_cases h2 : 8 < (ps.length : Int)
  · go_enter Tryd.func23, Tryd.ntmps23
    go_wp2_with fail
    rw [← HW.out]
    refine (within_yes _ 1 8 _ h1).mono ?_
    rintro e w2 ⟨rfl, rfl⟩
    go_wp2_with fail
    go_ret
    exact BRet.yes HB.out (.inr (.inl (by show 8 < ps.length; omega)))
  go_enter Tryd.func23, Tryd.ntmps23
  go_wp2_with fail
  rw [← HW.out]
  refine (within_yes _ 1 8 _ h1).mono ?_
  rintro e w2 ⟨rfl, rfl⟩
  have H1 := Lib.hid h1
  have h1l := h1.2
  clear HW h1
  go_wp2_with fail
  go_loopw [22] (fun i wr => ∃ k : Nat, k ≤ ts.length ∧ i = .int .i64 k ∧ Below W.heap.size W wr ∧ Hid (∀ t ∈ ts.take k, ¬ ManyT t)) (fun i _ => ts.length - (intOf i).toNat)
  case atStart => exact ⟨0, Nat.zero_le _, rfl, Below.refl _ _, Lib.hid (by simp)⟩
  case round =>
    obtain ⟨k, hk, rfl, hb, HS⟩ := hrel
    have HBw := Lib.hid hb
    clear hb
    by_cases hlt : k < ts.length
    · obtain ⟨t, ht⟩ : ∃ t, ts[k]? = some t := ⟨_, List.getElem?_eq_getElem hlt⟩
      have htm := List.mem_of_getElem? ht
      have HT := Lib.hid (take_snoc ht)
      obtain ⟨b, off, rfl, hbb, hcap, hcx⟩ := (HD.out.later HBw.out).1.at ht
      have hti := (HD.out.later HBw.out).2.1 t htm
      have HTM := Lib.hid htm
      obtain ⟨fs, fv⟩ := t
      obtain ⟨A2, c2, h2⟩ := hti.1.shapeL
      dsimp only at h2
      subst h2
      have hct := hcx 0 _ rfl
      rw [Nat.mul_one, Nat.add_zero] at hct
      have hkI : (k : Int) < (ts.length : Int) := by omega
      have HTI := Lib.hid hti
      dsimp only at hct
      clear hcx hti htm ht
      have hgr : Below wr.heap.size wr (wr.alloc (.cells #[.slice A2 fs.length c2] 57)) := Bel.grew (Below.refl _ _) _
      by_cases hf : 1 ≤ (fs.length : Int) ∧ (fs.length : Int) ≤ 8
      rotate_left
      · go_wp2_with fail
        refine (within_no _ 1 8 _ hf).mono ?_
        rintro e w2 ⟨rfl, rfl⟩
        go_wp2_with fail
        go_ret
        exact BRet.yes (Bel.then HB.out (Bel.then HBw.out hgr)) (.inr (.inr ⟨_, HTM.out, .inl hf⟩))
      · obtain ⟨W2, hW2⟩ : ∃ W2, W2 = wr.alloc (.cells #[.slice A2 fs.length c2] 57) := ⟨_, rfl⟩
        rw [← hW2] at hgr
        have HW2 := Lib.hid hW2
        have HBt := Lib.hid (Bel.then HBw.out hgr)
        have HTJ := Lib.hid (HTI.out.later hgr)
        clear hW2 hgr HTI
        go_wp2_with fail
        rw [← HW2.out]
        refine (within_yes _ 1 8 _ hf).mono ?_
        rintro e w2 ⟨rfl, rfl⟩
        have hc2 : W2.cell? ⟨wr.heap.size, 0, none⟩ = some (.slice A2 fs.length c2) := by rw [HW2.out]; simp [go_sem]
        clear HW2
        go_wp2_with fail
        go_loopw [34] (fun i wr => ∃ j : Nat, j ≤ fs.length ∧ i = .int .i64 j ∧ Below W2.heap.size W2 wr ∧ Hid (∀ f ∈ fs.take j, ¬ ManyF f)) (fun i _ => fs.length - (intOf i).toNat)
        case atStart => exact ⟨0, Nat.zero_le _, rfl, Below.refl _ _, Lib.hid (by simp)⟩
        case round =>
          obtain ⟨j, hj, rfl, hb3, HF⟩ := hrel
          have HB3 := Lib.hid hb3
          clear hb3
          by_cases hjl : j < fs.length
          · obtain ⟨f, hfj⟩ : ∃ f, fs[j]? = some f := ⟨_, List.getElem?_eq_getElem hjl⟩
            have hfm := List.mem_of_getElem? hfj
            have HFT := Lib.hid (take_snoc hfj)
            have HFM := Lib.hid hfm
            obtain ⟨b2, off2, rfl, hb2, hcap2, hcy⟩ := (HTJ.out.later HB3.out).1.at hfj
            have hfi := (HTJ.out.later HB3.out).2 f hfm
            obtain ⟨fk, fp, ffl, ms, mv⟩ := f
            obtain ⟨A3, c3, h3⟩ := SlR.shapeL hfi
            dsimp only at h3
            subst h3
            have hf0 := hcy 0 _ rfl
            have hf1 := hcy 1 _ rfl
            have hf2 := hcy 2 _ rfl
            have hf3 := hcy 3 _ rfl
            rw [Nat.add_zero] at hf0
            have hjI : (j : Int) < (fs.length : Int) := by omega
            dsimp only at hf0 hf1 hf2 hf3
            clear hcy hfi hfm hfj
            have hgr3 : Below wr.heap.size wr (wr.alloc (.cells #[.int .i64 fk, .int .i64 fp, .bool ffl, .slice A3 ms.length c3] 60)) := Bel.grew (Below.refl _ _) _
            have HWF := Lib.hid (Bel.then HB.out (Bel.then HBt.out (Bel.then HB3.out hgr3)))
            clear hgr3
            by_cases h4 : fk = 4
            · have h4b : (fk == 4) = true := by simp [h4]
              have H4 := Lib.hid h4
              clear h4
              by_cases hm : 1 ≤ (ms.length : Int) ∧ (ms.length : Int) ≤ 16
              · go_wp2_with fail
                refine (within_yes _ 1 16 _ hm).mono ?_
                rintro e w3 ⟨rfl, rfl⟩
                go_wp2_with fail
                go_roundw
                case rel =>
                  refine ⟨j + 1, by omega, by go_num, Bel.grew HB3.out _, ?_⟩
                  rw [HFT.out]
                  refine Lib.hid (all_snoc HF.out ?_)
                  rintro (⟨_, h⟩ | ⟨h, _⟩)
                  · exact h hm
                  · exact h H4.out
                case measure => simp [intOf]; omega
              · go_wp2_with fail
                refine (within_no _ 1 16 _ hm).mono ?_
                rintro e w3 ⟨rfl, rfl⟩
                go_wp2_with fail
                go_ret
                exact BRet.yes HWF.out (.inr (.inr ⟨_, HTM.out, .inr ⟨_, HFM.out, .inl ⟨H4.out, hm⟩⟩⟩))
            · have h4b : (fk == 4) = false := by simp [h4]
              have H4 := Lib.hid h4
              clear h4
              by_cases hm : 0 < (ms.length : Int)
              · go_wp2_with fail
                go_ret
                exact BRet.yes HWF.out (.inr (.inr ⟨_, HTM.out, .inr ⟨_, HFM.out, .inr ⟨H4.out, by show 0 < ms.length; omega⟩⟩⟩))
              · go_wp2_with fail
                go_roundw
                case rel =>
                  refine ⟨j + 1, by omega, by go_num, Bel.grew HB3.out _, ?_⟩
                  rw [HFT.out]
                  refine Lib.hid (all_snoc HF.out ?_)
                  rintro (⟨h, _⟩ | ⟨_, h⟩)
                  · exact H4.out h
                  · dsimp only at h; omega
                case measure => simp [intOf]; omega
          · have hj4 : j = fs.length := by omega
            subst hj4
            rw [List.take_length] at HF
            go_wp2_with fail
            go_roundw
            case rel =>
              refine ⟨k + 1, by omega, by go_num, Bel.then HBt.out HB3.out, ?_⟩
              rw [HT.out]
              refine Lib.hid (all_snoc HS.out ?_)
              rintro (h | ⟨f, hf, h⟩)
              · exact h (by dsimp only; omega)
              · exact HF.out f hf h
            case measure => simp [intOf]; omega
    · have hk4 : k = ts.length := by omega
      subst hk4
      rw [List.take_length] at HS
      go_wp2_with fail
      go_ret
      refine BRet.no (Bel.then HB.out HBw.out) ?_
      rintro (h | h | ⟨t, ht, h⟩)
      · exact h H1.out
      · dsimp only at h; omega
      · exact HS.out t ht h
end Go.Proofs.YtjjccjannandlaaDoor

/- schema.wrong's two closures, and slices.ContainsFunc over moves. -/
set_option maxRecDepth 100000
set_option linter.unusedVariables false
set_option linter.unusedSimpArgs false
namespace Go.Proofs.YtjjccjannandlaaDoor
open Go.RowKit Go.BigFrame

def IRet (P : Prop) (w : World) (e : Ending) (w' : World) : Prop := ∃ i : Int, e = .returned (.int .i64 i) ∧ (0 ≤ i ↔ P) ∧ Below w.heap.size w w'
theorem take_snoc' {α : Type} {l : List α} {k : Nat} {x : α} (h : l[k]? = some x) : l.take (k + 1) = l.take k ++ [x] := by
  obtain ⟨hlt, he⟩ := List.getElem?_eq_some_iff.1 h
  rw [List.take_succ_eq_append_getElem hlt, he]
theorem all_snoc' {α : Type} {l : List α} {x : α} {P : α → Prop} (h : ∀ y ∈ l, P y) (hx : P x) : ∀ y ∈ l ++ [x], P y := by
  intro y hy
  rcases List.mem_append.1 hy with hy | hy
  · exact h y hy
  · have : y = x := by simpa using hy
    rw [this]; exact hx
def BadM (m : Mv) : Prop := m.a < 0 ∨ m.b < 0 ∨ (m.c = -1 ∧ m.d ≠ 0)
def LostM (t : Ty) (m : Mv) : Prop := m.c ≠ -1 ∧ ¬ IsK t m.c 1
theorem bad_any (m : Mv) (w : World) : Calls Tryd.prog 46 #[mvV m] w fun e w' => BRet (BadM m) w e w' := by
  obtain ⟨a, b, c, d⟩ := m
  have hB : ∀ o, Below w.heap.size w (w.alloc o) := fun o => Bel.grew (Below.refl _ _) _
  have hc : (a < 0) ∨ (0 ≤ a ∧ b < 0) ∨ (0 ≤ a ∧ 0 ≤ b ∧ (c == -1) = false) ∨ (0 ≤ a ∧ 0 ≤ b ∧ c = -1 ∧ (d != 0) = true) ∨ (0 ≤ a ∧ 0 ≤ b ∧ c = -1 ∧ d = 0) := by
    by_cases h1 : a < 0
    · exact .inl h1
    by_cases h2 : b < 0
    · exact .inr (.inl ⟨by omega, h2⟩)
    by_cases h3 : c = -1
    · by_cases h4 : d = 0
      · exact .inr (.inr (.inr (.inr ⟨by omega, by omega, h3, h4⟩)))
      · exact .inr (.inr (.inr (.inl ⟨by omega, by omega, h3, by simp [h4]⟩)))
    · exact .inr (.inr (.inl ⟨by omega, by omega, by simp [h3]⟩))
  rcases hc with h1 | ⟨h1, h2⟩ | ⟨h1, h2, h3⟩ | ⟨h1, h2, rfl, h4⟩ | ⟨h1, h2, rfl, rfl⟩
  all_goals
    go_enter Tryd.func46, Tryd.ntmps46
    go_wp2_with fail
    go_ret
    first
      | exact BRet.yes (hB _) (.inl h1)
      | exact BRet.yes (hB _) (.inr (.inl h2))
      | exact BRet.yes (hB _) (.inr (.inr ⟨rfl, by simpa using h4⟩))
      | exact ⟨_, rfl, ⟨fun h => absurd (show a < 0 ∨ b < 0 by simpa using h) (by omega), fun h => by
          rcases h with h | h | ⟨h, h'⟩
          · dsimp only at h; omega
          · dsimp only at h; omega
          · dsimp only at h h'
            first
              | exact absurd rfl h'
              | (subst h; simp at h3)⟩, hB _⟩
set_option maxHeartbeats 2000000 in
theorem lost_any (m : Mv) (t : Ty) (q : Nat) (w : World) (ht : t.In w w.heap.size) (hl : t.fs.length ≤ 1099511627776) (hq : q < w.heap.size) (hc : w.cell? ⟨q, 0, none⟩ = some t.v) :
    Calls Tryd.prog 47 #[mvV m, .pointer (some ⟨q, 0, none⟩)] w fun e w' => BRet (LostM t m) w e w' := by
  obtain ⟨a, b, c, d⟩ := m
  have hB : ∀ o, Below w.heap.size w (w.alloc o) := fun o => Bel.grew (Below.refl _ _) _
  by_cases h1 : c = -1
  · have hb : (c != -1) = false := by simp [h1]
    have H1 := Lib.hid h1
    clear h1 ht
    go_enter Tryd.func47, Tryd.ntmps47
    go_wp2_with fail
    go_ret
    exact BRet.no (hB _) (fun h => h.1 H1.out)
  · have hb : (c != -1) = true := by simp [h1]
    have H1 := Lib.hid h1
    have HI := Lib.hid (fun o => is_any t c 1 (w.alloc o) (ht.later (hB o)) hl)
    clear h1 ht
    go_enter Tryd.func47, Tryd.ntmps47
    go_wp2_with fail
    refine (HI.out _).mono ?_
    rintro e w2 ⟨b2, rfl, hbp, hb2⟩
    have HB2 := Lib.hid (Bel.then (hB _) hb2)
    clear hb2
    cases b2
    · have HN : Hid (¬ IsK t c 1) := Lib.hid (fun h => by have := hbp.2 h; cases this)
      clear hbp
      go_wp2_with fail
      go_ret
      exact BRet.yes HB2.out ⟨H1.out, HN.out⟩
    · have HP : Hid (IsK t c 1) := Lib.hid (hbp.1 rfl)
      clear hbp
      go_wp2_with fail
      go_ret
      exact BRet.no HB2.out (fun h => h.2 HP.out)

set_option maxHeartbeats 4000000 in
theorem indexBad_any (ms : List Mv) (v : Value) (w : World) (hx : SlR 4 w w.heap.size v (ms.map Mv.cells)) (hl : ms.length ≤ 1099511627776) :
    Calls Tryd.prog 62 #[v, .func (.func 46) #[] #[]] w fun e w' => IRet (∃ m ∈ ms, BadM m) w e w' := by
  obtain ⟨A, c, rfl⟩ := hx.shapeL
  have HX := Lib.hid hx
  clear hx
  go_enter Tryd.func62, Tryd.ntmps62
  go_wp2_with fail
  go_loopw [8] (fun i wr => ∃ k : Nat, k ≤ ms.length ∧ i = .int .i64 k ∧ Below w.heap.size w wr ∧ Hid (∀ m ∈ ms.take k, ¬ BadM m)) (fun i _ => ms.length - (intOf i).toNat)
  case atStart => exact ⟨0, Nat.zero_le _, rfl, Below.refl _ _, Lib.hid (by simp)⟩
  case round =>
    obtain ⟨k, hk, rfl, hb, HS⟩ := hrel
    have HB := Lib.hid hb
    clear hb
    by_cases hlt : k < ms.length
    · obtain ⟨m, hm⟩ : ∃ m, ms[k]? = some m := ⟨_, List.getElem?_eq_getElem hlt⟩
      have HMM := Lib.hid (List.mem_of_getElem? hm)
      have HT := Lib.hid (take_snoc' hm)
      obtain ⟨b, off, rfl, hbb, hcap, hcx⟩ := (HX.out.later HB.out).at hm
      have h0 := hcx 0 _ rfl
      have h1 := hcx 1 _ rfl
      have h2 := hcx 2 _ rfl
      have h3 := hcx 3 _ rfl
      rw [Nat.add_zero] at h0
      have hkI : (k : Int) < (ms.length : Int) := by omega
      clear hcx hm
      go_wp2_with fail
      refine (bad_any m _).mono ?_
      rintro e w2 ⟨bb, rfl, hbp, hb2⟩
      have HB2 := Lib.hid (Bel.then HB.out hb2)
      clear hb2
      cases bb
      · have HN : Hid (¬ BadM m) := Lib.hid (fun h => by have := hbp.2 h; cases this)
        clear hbp
        go_wp2_with fail
        go_roundw
        case rel =>
          refine ⟨k + 1, by omega, by go_num, HB2.out, ?_⟩
          rw [HT.out]
          exact Lib.hid (all_snoc' HS.out HN.out)
        case measure => simp [intOf]; omega
      · have HP : Hid (BadM m) := Lib.hid (hbp.1 rfl)
        clear hbp
        go_wp2_with fail
        go_ret
        exact ⟨_, rfl, ⟨fun _ => ⟨m, HMM.out, HP.out⟩, fun _ => by omega⟩, HB2.out⟩
    · have hk4 : k = ms.length := by omega
      subst hk4
      rw [List.take_length] at HS
      go_wp2_with fail
      go_ret
      exact ⟨_, rfl, ⟨fun h => by omega, fun ⟨m, hm, h⟩ => absurd h (HS.out m hm)⟩, HB.out⟩
theorem containsBad_any (ms : List Mv) (v : Value) (w : World) (hx : SlR 4 w w.heap.size v (ms.map Mv.cells)) (hl : ms.length ≤ 1099511627776) :
    Calls Tryd.prog 49 #[v, .func (.func 46) #[] #[]] w fun e w' => BRet (∃ m ∈ ms, BadM m) w e w' := by
  have HI := Lib.hid (indexBad_any ms v w hx hl)
  clear hx
  go_enter Tryd.func49, Tryd.ntmps49
  go_wp2_with fail
  refine HI.out.mono ?_
  rintro e w2 ⟨i, rfl, hp, hb⟩
  have HP := Lib.hid hp
  have HB := Lib.hid hb
  clear hp hb
  by_cases h0 : 0 ≤ i
  · have H0 := Lib.hid h0
    go_wp2_with fail
    go_ret
    first
      | exact BRet.yes HB.out (HP.out.1 H0.out)
      | (rw [show decide (0 ≤ i) = true from decide_eq_true H0.out]; exact BRet.yes HB.out (HP.out.1 H0.out))
      | (refine (congrArg (fun z => BRet (∃ m ∈ ms, BadM m) w (.returned (.bool z)) w2) (decide_eq_true H0.out)).mpr ?_; exact BRet.yes HB.out (HP.out.1 H0.out))
  · have H0 := Lib.hid h0
    go_wp2_with fail
    go_ret
    first
      | exact BRet.no HB.out (fun h => by have := HP.out.2 h; omega)
      | (refine (congrArg (fun z => BRet (∃ m ∈ ms, BadM m) w (.returned (.bool z)) w2) (decide_eq_false (by omega))).mpr ?_; exact BRet.no HB.out (fun h => by have := HP.out.2 h; omega))
set_option maxHeartbeats 4000000 in
theorem indexLost_any (ms : List Mv) (v : Value) (w : World) (hx : SlR 4 w w.heap.size v (ms.map Mv.cells)) (hl : ms.length ≤ 1099511627776) (t : Ty) (q : Nat) (ht : t.In w w.heap.size) (hfl : t.fs.length ≤ 1099511627776) (hq : q < w.heap.size) (hc : w.cell? ⟨q, 0, none⟩ = some t.v) :
    Calls Tryd.prog 62 #[v, .func (.func 47) #[] #[.pointer (some ⟨q, 0, none⟩)]] w fun e w' => IRet (∃ m ∈ ms, LostM t m) w e w' := by
  obtain ⟨A, c, rfl⟩ := hx.shapeL
  have HX := Lib.hid hx
  have HTI := Lib.hid (And.intro ht (And.intro hq hc))
  clear ht hq hc
  clear hx
  go_enter Tryd.func62, Tryd.ntmps62
  go_wp2_with fail
  go_loopw [8] (fun i wr => ∃ k : Nat, k ≤ ms.length ∧ i = .int .i64 k ∧ Below w.heap.size w wr ∧ Hid (∀ m ∈ ms.take k, ¬ LostM t m)) (fun i _ => ms.length - (intOf i).toNat)
  case atStart => exact ⟨0, Nat.zero_le _, rfl, Below.refl _ _, Lib.hid (by simp)⟩
  case round =>
    obtain ⟨k, hk, rfl, hb, HS⟩ := hrel
    have HB := Lib.hid hb
    clear hb
    by_cases hlt : k < ms.length
    · obtain ⟨m, hm⟩ : ∃ m, ms[k]? = some m := ⟨_, List.getElem?_eq_getElem hlt⟩
      have HMM := Lib.hid (List.mem_of_getElem? hm)
      have HT := Lib.hid (take_snoc' hm)
      obtain ⟨b, off, rfl, hbb, hcap, hcx⟩ := (HX.out.later HB.out).at hm
      have h0 := hcx 0 _ rfl
      have h1 := hcx 1 _ rfl
      have h2 := hcx 2 _ rfl
      have h3 := hcx 3 _ rfl
      rw [Nat.add_zero] at h0
      have hkI : (k : Int) < (ms.length : Int) := by omega
      clear hcx hm
      go_wp2_with fail
      refine (lost_any m t q _ (HTI.out.1.later HB.out) hfl (Nat.lt_of_lt_of_le HTI.out.2.1 HB.out.size) ((HB.out.cell (p := ⟨q, 0, none⟩) HTI.out.2.1).trans HTI.out.2.2)).mono ?_
      rintro e w2 ⟨bb, rfl, hbp, hb2⟩
      have HB2 := Lib.hid (Bel.then HB.out hb2)
      clear hb2
      cases bb
      · have HN : Hid (¬ LostM t m) := Lib.hid (fun h => by have := hbp.2 h; cases this)
        clear hbp
        go_wp2_with fail
        go_roundw
        case rel =>
          refine ⟨k + 1, by omega, by go_num, HB2.out, ?_⟩
          rw [HT.out]
          exact Lib.hid (all_snoc' HS.out HN.out)
        case measure => simp [intOf]; omega
      · have HP : Hid (LostM t m) := Lib.hid (hbp.1 rfl)
        clear hbp
        go_wp2_with fail
        go_ret
        exact ⟨_, rfl, ⟨fun _ => ⟨m, HMM.out, HP.out⟩, fun _ => by omega⟩, HB2.out⟩
    · have hk4 : k = ms.length := by omega
      subst hk4
      rw [List.take_length] at HS
      go_wp2_with fail
      go_ret
      exact ⟨_, rfl, ⟨fun h => by omega, fun ⟨m, hm, h⟩ => absurd h (HS.out m hm)⟩, HB.out⟩
theorem containsLost_any (ms : List Mv) (v : Value) (w : World) (hx : SlR 4 w w.heap.size v (ms.map Mv.cells)) (hl : ms.length ≤ 1099511627776) (t : Ty) (q : Nat) (ht : t.In w w.heap.size) (hfl : t.fs.length ≤ 1099511627776) (hq : q < w.heap.size) (hc : w.cell? ⟨q, 0, none⟩ = some t.v) :
    Calls Tryd.prog 49 #[v, .func (.func 47) #[] #[.pointer (some ⟨q, 0, none⟩)]] w fun e w' => BRet (∃ m ∈ ms, LostM t m) w e w' := by
  have HI := Lib.hid (indexLost_any ms v w hx hl t q ht hfl hq hc)
  clear hx
  go_enter Tryd.func49, Tryd.ntmps49
  go_wp2_with fail
  refine HI.out.mono ?_
  rintro e w2 ⟨i, rfl, hp, hb⟩
  have HP := Lib.hid hp
  have HB := Lib.hid hb
  clear hp hb
  by_cases h0 : 0 ≤ i
  · have H0 := Lib.hid h0
    go_wp2_with fail
    go_ret
    first
      | exact BRet.yes HB.out (HP.out.1 H0.out)
      | (rw [show decide (0 ≤ i) = true from decide_eq_true H0.out]; exact BRet.yes HB.out (HP.out.1 H0.out))
      | (refine (congrArg (fun z => BRet (∃ m ∈ ms, LostM t m) w (.returned (.bool z)) w2) (decide_eq_true H0.out)).mpr ?_; exact BRet.yes HB.out (HP.out.1 H0.out))
  · have H0 := Lib.hid h0
    go_wp2_with fail
    go_ret
    first
      | exact BRet.no HB.out (fun h => by have := HP.out.2 h; omega)
      | (refine (congrArg (fun z => BRet (∃ m ∈ ms, LostM t m) w (.returned (.bool z)) w2) (decide_eq_false (by omega))).mpr ?_; exact BRet.no HB.out (fun h => by have := HP.out.2 h; omega))
end Go.Proofs.YtjjccjannandlaaDoor

/- schema.wrong. -/
set_option maxRecDepth 100000
set_option linter.unusedVariables false
set_option linter.unusedSimpArgs false
namespace Go.Proofs.YtjjccjannandlaaDoor
open Go.RowKit Go.BigFrame

/-- The two tables. -/
def kindsL : List Int := [0, 1, 2, 3, 3, 4]
def polL : List Int := [0, 2, 14, 6, 6]
structure Tab (w : World) : Prop where
  sz : 2 ≤ w.heap.size
  kn : ∀ i, i < 6 → w.cell? ⟨0, i, none⟩ = some (.int .i64 (kindsL[i]?.getD 0))
  po : ∀ i, i < 5 → w.cell? ⟨1, i, none⟩ = some (.int .i64 (polL[i]?.getD 0))
theorem Tab.later {w w' : World} (h : Tab w) (hb : Below w.heap.size w w') : Tab w' :=
  ⟨Nat.le_trans h.sz hb.size, fun i hi => (hb.cell (p := ⟨0, i, none⟩) (by have := h.sz; show 0 < _; omega)).trans (h.kn i hi), fun i hi => (hb.cell (p := ⟨1, i, none⟩) (by have := h.sz; show 1 < _; omega)).trans (h.po i hi)⟩
def CRet (R : Int → Prop) (w : World) (e : Ending) (w' : World) : Prop := ∃ c : Int, e = .returned (.int .i64 c) ∧ R c ∧ Below w.heap.size w w'
theorem CRet.mk {R : Int → Prop} {w w' : World} {c : Int} (h : Below w.heap.size w w') (hr : R c) : CRet R w (.returned (.int .i64 c)) w' := ⟨c, rfl, hr, h⟩
def PolOk (f : Fd) : Prop := (f.p = 1 ∨ (f.p = 2 ∧ f.k ≠ 1) ∨ (f.p = 3 ∧ f.k = 2)) ∧ ¬ (f.fl = true ∧ f.k ≠ 1)
def InK (f : Fd) : Prop := 1 ≤ f.k ∧ f.k ≤ 4
/-- What is wrong with a field. -/
def WrongRel (t : Ty) (f : Fd) (c : Int) : Prop :=
  (¬ InK f ∧ c = 2) ∨ (InK f ∧ ¬ PolOk f ∧ c = 1) ∨ (InK f ∧ PolOk f ∧ (∃ m ∈ f.ms, BadM m) ∧ c = 1) ∨ (InK f ∧ PolOk f ∧ ¬ (∃ m ∈ f.ms, BadM m) ∧ (∃ m ∈ f.ms, LostM t m) ∧ c = 8) ∨ (InK f ∧ PolOk f ∧ ¬ (∃ m ∈ f.ms, BadM m) ∧ ¬ (∃ m ∈ f.ms, LostM t m) ∧ c = 0)

section
variable (fs : List Fd) (A : Option Addr) (c : Nat) (fk fp : Int) (ffl : Bool) (ms : List Mv) (A' : Option Addr) (c' : Nat) (w : World)
set_option maxHeartbeats 4000000 in
theorem wrong_kind (h : ¬ (1 ≤ fk ∧ fk ≤ 4)) :
    Calls Tryd.prog 24 #[.agg #[.slice A fs.length c], .agg #[.int .i64 fk, .int .i64 fp, .bool ffl, .slice A' ms.length c']] w fun e w' => e = .returned (.int .i64 2) ∧ Below w.heap.size w w' := by
  have hB : ∀ o o', Below w.heap.size w ((w.alloc o).alloc o') := fun o o' => Bel.grew (Bel.grew (Below.refl _ _) _) _
  go_enter Tryd.func24, Tryd.ntmps24
  go_wp2_with fail
  refine (within_no _ 1 4 _ h).mono ?_
  rintro e w2 ⟨rfl, rfl⟩
  go_wp2_with fail
  go_ret
  exact ⟨rfl, hB _ _⟩
set_option maxRecDepth 100000 in
set_option maxHeartbeats 8000000 in
theorem wrong_pol (hT : Tab w) (h : (1 ≤ fk ∧ fk ≤ 4 ∧ ¬ (1 ≤ fp ∧ fp ≤ 3)) ∨ (fk = 1 ∧ fp = 2) ∨ (fk = 1 ∧ fp = 3) ∨ (fk = 3 ∧ fp = 3) ∨ (fk = 4 ∧ fp = 3) ∨ (fk = 2 ∧ fp = 1 ∧ ffl = true) ∨ (fk = 2 ∧ fp = 2 ∧ ffl = true) ∨ (fk = 2 ∧ fp = 3 ∧ ffl = true) ∨ (fk = 3 ∧ fp = 1 ∧ ffl = true) ∨ (fk = 3 ∧ fp = 2 ∧ ffl = true) ∨ (fk = 4 ∧ fp = 1 ∧ ffl = true) ∨ (fk = 4 ∧ fp = 2 ∧ ffl = true)) :
    Calls Tryd.prog 24 #[.agg #[.slice A fs.length c], .agg #[.int .i64 fk, .int .i64 fp, .bool ffl, .slice A' ms.length c']] w fun e w' => e = .returned (.int .i64 1) ∧ Below w.heap.size w w' := by
  obtain ⟨W, hW⟩ : ∃ W, W = (w.alloc (.cells #[.slice A fs.length c] 57)).alloc (.cells #[.int .i64 fk, .int .i64 fp, .bool ffl, .slice A' ms.length c'] 60) := ⟨_, rfl⟩
  have hB : Below w.heap.size w W := by rw [hW]; exact Bel.grew (Bel.grew (Below.refl _ _) _) _
  have hF := Has.new (w.alloc (.cells #[.slice A fs.length c] 57)) #[.int .i64 fk, .int .i64 fp, .bool ffl, .slice A' ms.length c'] 60
  rw [← hW, World.size_alloc] at hF
  have hT' := hT.later hB
  have hsz : 1 < W.heap.size := by have := hT'.sz; omega
  have p1 := hT'.po 1 (by decide)
  have p2 := hT'.po 2 (by decide)
  have p3 := hT'.po 3 (by decide)
  have p4 := hT'.po 4 (by decide)
  dsimp only [polL, List.getElem?_cons_zero, List.getElem?_cons_succ, Option.getD_some] at p1 p2 p3 p4
  have b0 : bits BinOp.and IntKind.i64 0 1 = 0 := by kernel_rfl
  have b1 : bits BinOp.and IntKind.i64 1 1 = 1 := by kernel_rfl
  have b3 : bits BinOp.and IntKind.i64 3 1 = 1 := by kernel_rfl
  have b7 : bits BinOp.and IntKind.i64 7 1 = 1 := by kernel_rfl
  have hlt := hF.1
  have hc := hF.2
  have HB := Lib.hid hB
  have HW := Lib.hid hW
  clear hT hT' hB hF hW
  rcases h with ⟨hk0, hk1, hp⟩ | ⟨rfl, rfl⟩ | ⟨rfl, rfl⟩ | ⟨rfl, rfl⟩ | ⟨rfl, rfl⟩ | ⟨rfl, rfl, rfl⟩ | ⟨rfl, rfl, rfl⟩ | ⟨rfl, rfl, rfl⟩ | ⟨rfl, rfl, rfl⟩ | ⟨rfl, rfl, rfl⟩ | ⟨rfl, rfl, rfl⟩ | ⟨rfl, rfl, rfl⟩
  · go_enter Tryd.func24, Tryd.ntmps24
    go_wp2_with fail
    rw [← HW.out]
    refine (within_yes _ 1 4 _ ⟨hk0, hk1⟩).mono ?_
    rintro e w2 ⟨rfl, rfl⟩
    clear HW
    go_wp2_with fail
    refine wp_region_later (by kernel_rfl) (by kernel_rfl) ?_
    repeat (any_goals (first | go_big_quiet_step ((go_at_call 35; have hC := within_no fp 1 3 (Later.w ‹_›) hp; with_reducible exact Later.callS hC))))
    refine wpQuiet_nil ?_
    intro x
    obtain ⟨w3, hb3⟩ := x
    have HB3 := Lib.hid (Bel.then HB.out hb3)
    dsimp only
    clear hb3
    go_wp2_with fail
    go_ret
    exact ⟨rfl, HB3.out⟩
  all_goals
    go_enter Tryd.func24, Tryd.ntmps24
    go_wp2_with fail
    rw [← HW.out]
    refine (within_yes _ 1 4 _ (by decide)).mono ?_
    rintro e w2 ⟨rfl, rfl⟩
    clear HW
    go_wp2_with fail
    refine wp_region_later (by kernel_rfl) (by kernel_rfl) ?_
    repeat (any_goals (first | go_big_quiet_step ((go_at_call 35; first | (have hC := within_yes 1 1 3 (Later.w ‹_›) (by decide); with_reducible exact Later.callS hC) | (have hC := within_yes 2 1 3 (Later.w ‹_›) (by decide); with_reducible exact Later.callS hC) | (have hC := within_yes 3 1 3 (Later.w ‹_›) (by decide); with_reducible exact Later.callS hC)))))
    refine wpQuiet_nil ?_
    intro x
    obtain ⟨w3, hb3⟩ := x
    have HB3 := Lib.hid (Bel.then HB.out hb3)
    dsimp only
    clear hb3
    go_wp2_with fail
    go_ret
    exact ⟨rfl, HB3.out⟩
end
def WrongOk (t : Ty) (f : Fd) (c : Int) : Prop := ((∃ m ∈ f.ms, BadM m) ∧ c = 1) ∨ (¬ (∃ m ∈ f.ms, BadM m) ∧ (∃ m ∈ f.ms, LostM t m) ∧ c = 8) ∨ (¬ (∃ m ∈ f.ms, BadM m) ∧ ¬ (∃ m ∈ f.ms, LostM t m) ∧ c = 0)
set_option maxRecDepth 100000 in
set_option maxHeartbeats 16000000 in
theorem wrong_ok (fs : List Fd) (A : Option Addr) (c : Nat) (fk fp : Int) (ffl : Bool) (ms : List Mv) (A' : Option Addr) (c' : Nat) (w : World) (hT : Tab w) (ht : Ty.In w w.heap.size ⟨fs, .slice A fs.length c⟩) (hf : SlR 4 w w.heap.size (.slice A' ms.length c') (ms.map Mv.cells)) (hl : fs.length ≤ 1099511627776) (hm : ms.length ≤ 1099511627776)
    (h : (fk = 1 ∧ fp = 1 ∧ ffl = false) ∨ (fk = 2 ∧ fp = 1 ∧ ffl = false) ∨ (fk = 2 ∧ fp = 2 ∧ ffl = false) ∨ (fk = 2 ∧ fp = 3 ∧ ffl = false) ∨ (fk = 3 ∧ fp = 1 ∧ ffl = false) ∨ (fk = 3 ∧ fp = 2 ∧ ffl = false) ∨ (fk = 4 ∧ fp = 1 ∧ ffl = false) ∨ (fk = 4 ∧ fp = 2 ∧ ffl = false) ∨ (fk = 1 ∧ fp = 1 ∧ ffl = true)) :
    Calls Tryd.prog 24 #[.agg #[.slice A fs.length c], .agg #[.int .i64 fk, .int .i64 fp, .bool ffl, .slice A' ms.length c']] w fun e w' => CRet (WrongOk ⟨fs, .slice A fs.length c⟩ ⟨fk, fp, ffl, ms, .slice A' ms.length c'⟩) w e w' := by
  obtain ⟨W, hW⟩ : ∃ W, W = (w.alloc (.cells #[.slice A fs.length c] 57)).alloc (.cells #[.int .i64 fk, .int .i64 fp, .bool ffl, .slice A' ms.length c'] 60) := ⟨_, rfl⟩
  have hB : Below w.heap.size w W := by rw [hW]; exact Bel.grew (Bel.grew (Below.refl _ _) _) _
  have hF := Has.new (w.alloc (.cells #[.slice A fs.length c] 57)) #[.int .i64 fk, .int .i64 fp, .bool ffl, .slice A' ms.length c'] 60
  have hG := (Has.new w #[.slice A fs.length c] 57).grow (.cells #[.int .i64 fk, .int .i64 fp, .bool ffl, .slice A' ms.length c'] 60)
  rw [← hW] at hG
  rw [← hW, World.size_alloc] at hF
  have hT' := hT.later hB
  have hsz : 1 < W.heap.size := by have := hT'.sz; omega
  have p1 := hT'.po 1 (by decide)
  have p2 := hT'.po 2 (by decide)
  have p3 := hT'.po 3 (by decide)
  have p4 := hT'.po 4 (by decide)
  dsimp only [polL, List.getElem?_cons_zero, List.getElem?_cons_succ, Option.getD_some] at p1 p2 p3 p4
  have b0 : bits BinOp.and IntKind.i64 0 1 = 0 := by kernel_rfl
  have b1 : bits BinOp.and IntKind.i64 1 1 = 1 := by kernel_rfl
  have b3 : bits BinOp.and IntKind.i64 3 1 = 1 := by kernel_rfl
  have b7 : bits BinOp.and IntKind.i64 7 1 = 1 := by kernel_rfl
  have hlt := hF.1
  have hc := hF.2
  have HF := Lib.hid hF
  have HG := Lib.hid hG
  have HB := Lib.hid hB
  have HW := Lib.hid hW
  have HTI := Lib.hid (ht.later hB)
  have HFI := Lib.hid (hf.later hB)
  clear hT hT' hB hF hW hG ht hf
  rcases h with ⟨rfl, rfl, rfl⟩ | ⟨rfl, rfl, rfl⟩ | ⟨rfl, rfl, rfl⟩ | ⟨rfl, rfl, rfl⟩ | ⟨rfl, rfl, rfl⟩ | ⟨rfl, rfl, rfl⟩ | ⟨rfl, rfl, rfl⟩ | ⟨rfl, rfl, rfl⟩ | ⟨rfl, rfl, rfl⟩
  all_goals
    go_enter Tryd.func24, Tryd.ntmps24
    go_wp2_with fail
    rw [← HW.out]
    refine (within_yes _ 1 4 _ (by decide)).mono ?_
    rintro e w2 ⟨rfl, rfl⟩
    clear HW
    go_wp2_with fail
    refine wp_region_later (by kernel_rfl) (by kernel_rfl) ?_
    repeat (any_goals (first | go_big_quiet_step ((go_at_call 35; first | (have hC := within_yes 1 1 3 (Later.w ‹_›) (by decide); with_reducible exact Later.callS hC) | (have hC := within_yes 2 1 3 (Later.w ‹_›) (by decide); with_reducible exact Later.callS hC) | (have hC := within_yes 3 1 3 (Later.w ‹_›) (by decide); with_reducible exact Later.callS hC)))))
    refine wpQuiet_nil ?_
    intro x
    obtain ⟨w3, hb3⟩ := x
    have HB3 := Lib.hid (Bel.then HB.out hb3)
    have HT3 := Lib.hid (HTI.out.later hb3)
    have HF3 := Lib.hid (HFI.out.later hb3)
    have HG3 := Lib.hid (HG.out.later hb3)
    have HH3 := Lib.hid (HF.out.later hb3)
    have hc3 := HH3.out.2
    have hlt3 := HH3.out.1
    dsimp only
    clear hb3 HB HTI HFI HG HF hc hlt p1 p2 p3 p4 b0 b1 b3 b7 hsz
    go_wp2_with fail
    refine (containsBad_any ms _ _ HF3.out hm).mono ?_
    rintro e w4 ⟨bb, rfl, hbp, hb4⟩
    have HB4 := Lib.hid (Bel.then HB3.out hb4)
    have HT4 := Lib.hid (HT3.out.later hb4)
    have HF4 := Lib.hid (HF3.out.later hb4)
    have HG4 := Lib.hid (HG3.out.later hb4)
    have HH4 := Lib.hid (HH3.out.later hb4)
    clear hb4 HB3 HT3 HF3 HG3 HH3 hc3 hlt3
    cases bb
    · have HN : Hid (¬ ∃ m ∈ ms, BadM m) := Lib.hid (fun h => by have := hbp.2 h; cases this)
      clear hbp
      have hc4 := HH4.out.2
      have hlt4 := HH4.out.1
      go_wp2_with fail
      refine (containsLost_any ms _ _ HF4.out hm ⟨fs, .slice A fs.length c⟩ w.heap.size HT4.out hl HG4.out.1 (by rw [HG4.out.2]; rfl)).mono ?_
      rintro e w5 ⟨b5, rfl, hbp, hb5⟩
      have HB5 := Lib.hid (Bel.then HB4.out hb5)
      clear hb5 HB4 HT4 HF4 HG4 HH4 hc4 hlt4
      cases b5
      · have HN2 : Hid (¬ ∃ m ∈ ms, LostM ⟨fs, .slice A fs.length c⟩ m) := Lib.hid (fun h => by have := hbp.2 h; cases this)
        clear hbp
        go_wp2_with fail
        go_ret
        exact CRet.mk HB5.out (.inr (.inr ⟨HN.out, HN2.out, rfl⟩))
      · have HP2 : Hid (∃ m ∈ ms, LostM ⟨fs, .slice A fs.length c⟩ m) := Lib.hid (hbp.1 rfl)
        clear hbp
        go_wp2_with fail
        go_ret
        exact CRet.mk HB5.out (.inr (.inl ⟨HN.out, HP2.out, rfl⟩))
    · have HP : Hid (∃ m ∈ ms, BadM m) := Lib.hid (hbp.1 rfl)
      clear hbp HT4 HF4 HG4 HH4
      go_wp2_with fail
      go_ret
      exact CRet.mk HB4.out (.inl ⟨HP.out, rfl⟩)
end Go.Proofs.YtjjccjannandlaaDoor

/- schema.wrong, whatever the field. -/
set_option maxRecDepth 100000
set_option linter.unusedVariables false
set_option linter.unusedSimpArgs false
namespace Go.Proofs.YtjjccjannandlaaDoor
open Go.RowKit Go.BigFrame

theorem WrongOk.rel {t : Ty} {f : Fd} {c : Int} (h : WrongOk t f c) (hk : InK f) (hp : PolOk f) : WrongRel t f c := by
  rcases h with ⟨h1, h2⟩ | ⟨h1, h2, h3⟩ | ⟨h1, h2, h3⟩
  · exact .inr (.inr (.inl ⟨hk, hp, h1, h2⟩))
  · exact .inr (.inr (.inr (.inl ⟨hk, hp, h1, h2, h3⟩)))
  · exact .inr (.inr (.inr (.inr ⟨hk, hp, h1, h2, h3⟩)))
theorem pol_cases (fk fp : Int) (ffl : Bool) (ms : List Mv) (v : Value) (hk : 1 ≤ fk ∧ fk ≤ 4) (hp : 1 ≤ fp ∧ fp ≤ 3) :
    (((fk = 1 ∧ fp = 1 ∧ ffl = false) ∨ (fk = 2 ∧ fp = 1 ∧ ffl = false) ∨ (fk = 2 ∧ fp = 2 ∧ ffl = false) ∨ (fk = 2 ∧ fp = 3 ∧ ffl = false) ∨ (fk = 3 ∧ fp = 1 ∧ ffl = false) ∨ (fk = 3 ∧ fp = 2 ∧ ffl = false) ∨ (fk = 4 ∧ fp = 1 ∧ ffl = false) ∨ (fk = 4 ∧ fp = 2 ∧ ffl = false) ∨ (fk = 1 ∧ fp = 1 ∧ ffl = true)) ∧ PolOk ⟨fk, fp, ffl, ms, v⟩) ∨ (((fk = 1 ∧ fp = 2) ∨ (fk = 1 ∧ fp = 3) ∨ (fk = 3 ∧ fp = 3) ∨ (fk = 4 ∧ fp = 3) ∨ (fk = 2 ∧ fp = 1 ∧ ffl = true) ∨ (fk = 2 ∧ fp = 2 ∧ ffl = true) ∨ (fk = 2 ∧ fp = 3 ∧ ffl = true) ∨ (fk = 3 ∧ fp = 1 ∧ ffl = true) ∨ (fk = 3 ∧ fp = 2 ∧ ffl = true) ∨ (fk = 4 ∧ fp = 1 ∧ ffl = true) ∨ (fk = 4 ∧ fp = 2 ∧ ffl = true)) ∧ ¬ PolOk ⟨fk, fp, ffl, ms, v⟩) := by
  rcases (show fk = 1 ∨ fk = 2 ∨ fk = 3 ∨ fk = 4 from by omega) with rfl | rfl | rfl | rfl
  all_goals
    rcases (show fp = 1 ∨ fp = 2 ∨ fp = 3 from by omega) with rfl | rfl | rfl
  all_goals cases ffl
  all_goals first
    | (refine Or.inl ⟨?_, ?_⟩; (· decide); (· simp [PolOk]))
    | (refine Or.inr ⟨?_, ?_⟩; (· decide); (· simp [PolOk]))
theorem wrong_any (t : Ty) (f : Fd) (w : World) (hT : Tab w) (ht : t.In w w.heap.size) (hf : f.In w w.heap.size) (hl : t.fs.length ≤ 1099511627776) (hm : f.ms.length ≤ 1099511627776) :
    Calls Tryd.prog 24 #[tyV t, fdV' f] w fun e w' => CRet (WrongRel t f) w e w' := by
  obtain ⟨fs, tv⟩ := t
  obtain ⟨fk, fp, ffl, ms, fv⟩ := f
  obtain ⟨A, c, h1⟩ := ht.1.shapeL
  obtain ⟨A', c', h2⟩ := SlR.shapeL hf
  dsimp only at h1 h2 hl hm
  subst h1 h2
  by_cases hk : 1 ≤ fk ∧ fk ≤ 4
  · by_cases hp : 1 ≤ fp ∧ fp ≤ 3
    · rcases pol_cases fk fp ffl ms (.slice A' ms.length c') hk hp with ⟨h, hpo⟩ | ⟨h, hpo⟩
      · exact (wrong_ok fs A c fk fp ffl ms A' c' w hT ht hf hl hm h).mono fun e w' ⟨r, he, hr, hb⟩ => ⟨r, he, hr.rel hk hpo, hb⟩
      · exact (wrong_pol fs A c fk fp ffl ms A' c' w hT (.inr h)).mono fun e w' ⟨he, hb⟩ => ⟨1, he, .inr (.inl ⟨hk, hpo, rfl⟩), hb⟩
    · exact (wrong_pol fs A c fk fp ffl ms A' c' w hT (.inl ⟨hk.1, hk.2, hp⟩)).mono fun e w' ⟨he, hb⟩ => ⟨1, he, .inr (.inl ⟨hk, (fun h => hp (by
        have := h.1
        dsimp only at this
        omega)), rfl⟩), hb⟩
  · exact (wrong_kind fs A c fk fp ffl ms A' c' w hk).mono fun e w' ⟨he, hb⟩ => ⟨2, he, .inl ⟨hk, rfl⟩, hb⟩
end Go.Proofs.YtjjccjannandlaaDoor
