/- DeclMany. -/
import Derived.Test.YtjcocahhpjgbhaaMzDKnown
set_option maxRecDepth 100000
set_option maxRecDepth 100000
set_option maxRecDepth 100000
set_option linter.unusedVariables false
set_option linter.unusedSimpArgs false
namespace Go.Proofs.Ytjcocahhpjgbhaa
open Go.RowKit Go.BigFrame

theorem made_rows (row : List Value) (n sz : Nat) (hs : row.length = sz) (h0 : 0 < sz) : madeCells row.toArray (n * sz) = (List.replicate n row).flatten.toArray := by
  subst hs
  have hlen : (List.replicate n row).flatten.length = n * row.length := by
    have := flat_len (sz := row.length) (rows := List.replicate n row) (fun r hr => by rw [List.eq_of_mem_replicate hr])
    rw [List.length_replicate] at this
    exact this
  apply Array.ext
  · rw [size_madeCells]; simp [hlen]
  · intro x h1 h2
    rw [size_madeCells] at h1
    have hm : x % row.length < row.length := Nat.mod_lt _ h0
    have hd : x / row.length < n := Nat.div_lt_of_lt_mul (by rw [Nat.mul_comm]; exact h1)
    have e := flat_get (sz := row.length) (rows := List.replicate n row) (fun r hr => by rw [List.eq_of_mem_replicate hr]) (x / row.length) row (by rw [List.getElem?_replicate, if_pos hd]) (x % row.length) row[x % row.length] (List.getElem?_eq_getElem hm)
    have hx : x / row.length * row.length + x % row.length = x := by rw [Nat.mul_comm]; exact Nat.div_add_mod x row.length
    rw [hx] at e
    have e2 : (List.replicate n row).flatten.toArray[x] = row[x % row.length] := by
      have := List.getElem?_eq_some_iff.1 e
      simpa using this.2
    rw [e2]
    simp [madeCells, hm]
theorem run_make_rows (st et : TypeId) (z : Value) (row : List Value) (sz bytes n : Nat) (ht : Try.prog.underlying st = some (.slice et)) (hinfo : (Try.prog.info? et).map (fun i => (i.zero, i.size, i.bytes)) = some (some z, sz, bytes)) (hz : z.cells = row.toArray) (hs : row.length = sz) (h0 : 0 < sz) (hb : bytes ≤ 1000) (hn : n ≤ 1000) (W : World) :
    (Instr.makeSlice st (.int .i64 (n : Int)) (.int .i64 (n : Int))).run Try.prog W = .ok (.slice (some ⟨W.heap.size, 0, none⟩) n n) (W.alloc (.cells (List.replicate n row).flatten.toArray et)) := by
  obtain ⟨i0, hi, hz0, hz1, hz2⟩ := info_parts hinfo
  have hbn : (i0.bytes : Int) * (n : Int) ≤ 281474976710656 := by
    rw [hz2]
    have h1 : bytes * n ≤ 1000 * 1000 := Nat.mul_le_mul hb hn
    have h2 : ((bytes * n : Nat) : Int) ≤ 1000000 := by omega
    rw [Int.natCast_mul] at h2
    omega
  have hr := run_make (P := Try.prog) W st et i0 _ ht hi hz0 .i64 .i64 n n (by omega) (by omega) hbn (by omega)
  rw [Int.toNat_natCast, hz1, hz, made_rows row n sz hs h0] at hr
  exact hr
abbrev tyZ : Ty := ⟨[], .slice none 0 0⟩
abbrev fdZ : Fd := ⟨0, 0, false, [], .slice none 0 0⟩
abbrev mvZ : Mv := ⟨0, 0, 0, 0⟩
abbrev pjZ : Pj := ⟨0, 0, 0, 0, 0⟩
theorem mk_Ty (n : Nat) (hn : n ≤ 40) (W : World) : (Instr.makeSlice 22 (.int .i64 (n : Int)) (.int .i64 (n : Int))).run Try.prog W = .ok (.slice (some ⟨W.heap.size, 0, none⟩) n n) (W.alloc (.cells ((List.replicate n tyZ).map Ty.cells).flatten.toArray 42)) := by
  rw [List.map_replicate]
  exact run_make_rows _ _ _ (Ty.cells tyZ) 1 24 n Try.underlying22 infoTy rfl rfl (by decide) (by decide) (by omega) W
theorem mk_Fd (n : Nat) (hn : n ≤ 40) (W : World) : (Instr.makeSlice 40 (.int .i64 (n : Int)) (.int .i64 (n : Int))).run Try.prog W = .ok (.slice (some ⟨W.heap.size, 0, none⟩) n n) (W.alloc (.cells ((List.replicate n fdZ).map Fd.cells).flatten.toArray 45)) := by
  rw [List.map_replicate]
  exact run_make_rows _ _ _ (Fd.cells fdZ) 4 48 n Try.underlying40 infoFd rfl rfl (by decide) (by decide) (by omega) W
theorem mk_Mv (n : Nat) (hn : n ≤ 40) (W : World) : (Instr.makeSlice 43 (.int .i64 (n : Int)) (.int .i64 (n : Int))).run Try.prog W = .ok (.slice (some ⟨W.heap.size, 0, none⟩) n n) (W.alloc (.cells ((List.replicate n mvZ).map Mv.cells).flatten.toArray 76)) := by
  rw [List.map_replicate]
  exact run_make_rows _ _ _ (Mv.cells mvZ) 4 32 n Try.underlying43 infoMv rfl rfl (by decide) (by decide) (by omega) W
theorem mk_Pj (n : Nat) (hn : n ≤ 40) (W : World) : (Instr.makeSlice 23 (.int .i64 (n : Int)) (.int .i64 (n : Int))).run Try.prog W = .ok (.slice (some ⟨W.heap.size, 0, none⟩) n n) (W.alloc (.cells ((List.replicate n pjZ).map Pj.cells).flatten.toArray 51)) := by
  rw [List.map_replicate]
  exact run_make_rows _ _ _ (Pj.cells pjZ) 5 40 n Try.underlying23 infoPj rfl rfl (by decide) (by decide) (by omega) W
def mD1 (n b : Nat) : Dc := ⟨List.replicate n tyZ, [], .slice (some ⟨b, 0, none⟩) n n, .slice none 0 0⟩
def mD2 (n b : Nat) : Dc := ⟨[⟨List.replicate n fdZ, .slice (some ⟨b, 0, none⟩) n n⟩], [], .slice (some ⟨b + 1, 0, none⟩) 1 1, .slice none 0 0⟩
def mD3 (n b : Nat) : Dc := ⟨[⟨[⟨0, 0, false, List.replicate n mvZ, .slice (some ⟨b, 0, none⟩) n n⟩], .slice (some ⟨b + 1, 0, none⟩) 1 1⟩], [], .slice (some ⟨b + 1 + 1, 0, none⟩) 1 1, .slice none 0 0⟩
def mD4 (n b : Nat) : Dc := ⟨[], List.replicate n pjZ, .slice none 0 0, .slice (some ⟨b, 0, none⟩) n n⟩
theorem many1 (n b : Nat) : manyDc (mD1 n b).pl = decide (8 < n) := by
  unfold manyDc mD1 Dc.pl
  simp only [List.map_replicate, List.length_replicate, List.length_nil]
  by_cases h : 8 < n
  · simp [h]
  · have e : ∀ k : Nat, (List.replicate k (Ty.pl tyZ)).any manyTy = false := fun k => by
      rw [List.any_eq_false]
      intro x hx
      rw [List.eq_of_mem_replicate hx]
      decide
    simp [h, e]
theorem many2 (n b : Nat) : manyDc (mD2 n b).pl = decide (8 < n) := by
  unfold manyDc mD2 Dc.pl Ty.pl
  by_cases h : 8 < n
  · simp [h, manyTy]
  · have e : (List.replicate n (Fd.pl fdZ)).any manyFd = false := by
      rw [List.any_eq_false]
      intro x hx
      rw [List.eq_of_mem_replicate hx]
      decide
    simp [h, manyTy, e]
theorem many3 (n b : Nat) : manyDc (mD3 n b).pl = decide (16 < n) := by
  unfold manyDc mD3 Dc.pl Ty.pl
  simp [manyTy, manyFd, Fd.pl]
theorem many4 (n b : Nat) : manyDc (mD4 n b).pl = decide (8 < n) := by
  unfold manyDc mD4 Dc.pl
  simp
theorem in64_0 : in64 0 := ⟨by decide, by decide⟩
theorem m64_f (f : PF) (h : f = Fd.pl fdZ) : i64F f := by
  subst h
  exact ⟨in64_0, in64_0, fun m hm => by cases hm⟩
theorem m64_1 (n b : Nat) : i64D (mD1 n b).pl := by
  refine ⟨fun t ht f hf => ?_, fun p hp => ?_⟩
  · unfold mD1 Dc.pl at ht
    rw [List.map_replicate] at ht
    have := List.eq_of_mem_replicate ht
    subst this
    cases hf
  · cases hp
theorem m64_2 (n b : Nat) : i64D (mD2 n b).pl := ⟨fun t ht f hf => by
  unfold mD2 Dc.pl Ty.pl at ht
  have := List.mem_singleton.1 ht
  subst this
  dsimp only at hf
  rw [List.map_replicate] at hf
  exact m64_f f (List.eq_of_mem_replicate hf), fun p hp => by cases hp⟩
theorem m64_3 (n b : Nat) : i64D (mD3 n b).pl := ⟨fun t ht f hf => by
  unfold mD3 Dc.pl Ty.pl at ht
  have := List.mem_singleton.1 ht
  subst this
  have := List.mem_singleton.1 hf
  subst this
  refine ⟨in64_0, in64_0, fun m hm => ?_⟩
  have := List.eq_of_mem_replicate hm
  subst this
  exact ⟨in64_0, in64_0, in64_0, in64_0⟩, fun p hp => by cases hp⟩
theorem m64_4 (n b : Nat) : i64D (mD4 n b).pl := by
  refine ⟨fun t ht => ?_, fun p hp => ?_⟩
  · cases ht
  · have := List.eq_of_mem_replicate hp
    subst this
    exact ⟨in64_0, in64_0, in64_0, in64_0, in64_0⟩
theorem mlen {D : Dc} (h1 : D.ts.length ≤ 40) (h2 : ∀ t ∈ D.ts, t.fs.length ≤ 40 ∧ ∀ f ∈ t.fs, f.ms.length ≤ 40) : LenD D := ⟨by omega, fun t ht => ⟨by have := (h2 t ht).1; omega, fun f hf => by have := (h2 t ht).2 f hf; omega⟩⟩
theorem put1 (n : Nat) (hn : n ≤ 40) (E : Int) (hE : (if 8 < n then (3 : Int) else 0) = E) (w : World) :
    Calls Try.prog 10 #[.agg #[.slice (some ⟨w.heap.size, 0, none⟩) n n, .slice none 0 0]] (w.alloc (.cells ((List.replicate n tyZ).map Ty.cells).flatten.toArray 42)) fun e w' => PutCode E w e w' := by
  obtain ⟨W, hW⟩ : ∃ W, W = w.alloc (.cells ((List.replicate n tyZ).map Ty.cells).flatten.toArray 42) := ⟨_, rfl⟩
  have hS : SlR 1 W W.heap.size (.slice (some ⟨w.heap.size, 0, none⟩) n n) ((List.replicate n tyZ).map Ty.cells) := by rw [hW]; exact SlR.built_ w _ _ (ty_rows _) _ rfl n (by simp)
  have hb : Below w.heap.size w W := by rw [hW]; exact Bel.grew (Below.refl _ _) _
  rw [← hW]
  refine (dPut_is (mD1 n w.heap.size) _ _ rfl rfl W ⟨hS, fun t ht => ?_, SlR.none_⟩ (m64_1 n _) (mlen (by unfold mD1; simpa using hn) fun t ht => ?_) (Nat.zero_le _)).mono fun e w' h => ?_
  · have := List.eq_of_mem_replicate ht
    subst this
    exact ⟨SlR.none_, fun f hf => by cases hf⟩
  · have := List.eq_of_mem_replicate ht
    subst this
    exact ⟨Nat.zero_le _, fun f hf => by cases hf⟩
  · obtain ⟨A, m, c, h1, h2⟩ := h.code (E := E) (by rw [many1]; rw [← hE]; by_cases h8 : 8 < n <;> simp [h8])
    exact ⟨A, m, c, h1, Bel.then hb h2⟩
theorem put2 (n : Nat) (hn : n ≤ 40) (E : Int) (hE : (if 8 < n then (3 : Int) else 0) = E) (w : World) :
    Calls Try.prog 10 #[.agg #[.slice (some ⟨w.heap.size + 1, 0, none⟩) 1 1, .slice none 0 0]] ((w.alloc (.cells ((List.replicate n fdZ).map Fd.cells).flatten.toArray 45)).alloc (.cells #[.slice (some ⟨w.heap.size, 0, none⟩) n n] 42)) fun e w' => PutCode E w e w' := by
  obtain ⟨W1, hW1⟩ : ∃ W, W = w.alloc (.cells ((List.replicate n fdZ).map Fd.cells).flatten.toArray 45) := ⟨_, rfl⟩
  obtain ⟨W, hW⟩ : ∃ W, W = W1.alloc (.cells #[.slice (some ⟨w.heap.size, 0, none⟩) n n] 42) := ⟨_, rfl⟩
  have s1 : W1.heap.size = w.heap.size + 1 := by rw [hW1]; simp
  have hb1 : Below w.heap.size w W1 := by rw [hW1]; exact Bel.grew (Below.refl _ _) _
  have hb2 : Below W1.heap.size W1 W := by rw [hW]; exact Bel.grew (Below.refl _ _) _
  have hF : SlR 4 W1 W1.heap.size (.slice (some ⟨w.heap.size, 0, none⟩) n n) ((List.replicate n fdZ).map Fd.cells) := by rw [hW1]; exact SlR.built_ w _ _ (fd_rows _) _ rfl n (by simp)
  have hS : SlR 1 W W.heap.size (.slice (some ⟨w.heap.size + 1, 0, none⟩) 1 1) ((mD2 n w.heap.size).ts.map Ty.cells) := by rw [hW]; exact SlR.built_ W1 42 ((mD2 n w.heap.size).ts.map Ty.cells) (ty_rows _) _ s1.symm 1 rfl
  rw [← hW1, ← hW]
  refine (dPut_is (mD2 n w.heap.size) _ _ rfl rfl W ⟨hS, fun t ht => ?_, SlR.none_⟩ (m64_2 n _) (mlen (by show 1 ≤ 40; decide) fun t ht => ?_) (Nat.zero_le _)).mono fun e w' h => ?_
  · have := List.mem_singleton.1 ht
    subst this
    refine ⟨SlR.later hF hb2, fun f hf => ?_⟩
    have := List.eq_of_mem_replicate hf
    subst this
    exact SlR.none_
  · have := List.mem_singleton.1 ht
    subst this
    refine ⟨by simpa using hn, fun f hf => ?_⟩
    have := List.eq_of_mem_replicate hf
    subst this
    exact Nat.zero_le _
  · obtain ⟨A, m, c, h1, h2⟩ := h.code (E := E) (by rw [many2]; rw [← hE]; by_cases h8 : 8 < n <;> simp [h8])
    exact ⟨A, m, c, h1, Bel.then (Bel.then hb1 hb2) h2⟩
theorem put3 (n : Nat) (hn : n ≤ 40) (E : Int) (hE : (if 16 < n then (3 : Int) else 0) = E) (w : World) :
    Calls Try.prog 10 #[.agg #[.slice (some ⟨w.heap.size + 1 + 1, 0, none⟩) 1 1, .slice none 0 0]] (((w.alloc (.cells ((List.replicate n mvZ).map Mv.cells).flatten.toArray 76)).alloc (.cells #[.int .i64 0, .int .i64 0, .bool false, .slice (some ⟨w.heap.size, 0, none⟩) n n] 45)).alloc (.cells #[.slice (some ⟨w.heap.size + 1, 0, none⟩) 1 1] 42)) fun e w' => PutCode E w e w' := by
  obtain ⟨W1, hW1⟩ : ∃ W, W = w.alloc (.cells ((List.replicate n mvZ).map Mv.cells).flatten.toArray 76) := ⟨_, rfl⟩
  obtain ⟨W2, hW2⟩ : ∃ W, W = W1.alloc (.cells #[.int .i64 0, .int .i64 0, .bool false, .slice (some ⟨w.heap.size, 0, none⟩) n n] 45) := ⟨_, rfl⟩
  obtain ⟨W, hW⟩ : ∃ W, W = W2.alloc (.cells #[.slice (some ⟨w.heap.size + 1, 0, none⟩) 1 1] 42) := ⟨_, rfl⟩
  have s1 : W1.heap.size = w.heap.size + 1 := by rw [hW1]; simp
  have s2 : W2.heap.size = w.heap.size + 1 + 1 := by rw [hW2]; simp [s1]
  have hb1 : Below w.heap.size w W1 := by rw [hW1]; exact Bel.grew (Below.refl _ _) _
  have hb2 : Below W1.heap.size W1 W2 := by rw [hW2]; exact Bel.grew (Below.refl _ _) _
  have hb3 : Below W2.heap.size W2 W := by rw [hW]; exact Bel.grew (Below.refl _ _) _
  have hM : SlR 4 W1 W1.heap.size (.slice (some ⟨w.heap.size, 0, none⟩) n n) ((List.replicate n mvZ).map Mv.cells) := by rw [hW1]; exact SlR.built_ w _ _ (mv_rows _) _ rfl n (by simp)
  have hF : SlR 4 W2 W2.heap.size (.slice (some ⟨w.heap.size + 1, 0, none⟩) 1 1) (([⟨0, 0, false, List.replicate n mvZ, .slice (some ⟨w.heap.size, 0, none⟩) n n⟩] : List Fd).map Fd.cells) := by rw [hW2]; exact SlR.built_ W1 45 (([⟨0, 0, false, List.replicate n mvZ, .slice (some ⟨w.heap.size, 0, none⟩) n n⟩] : List Fd).map Fd.cells) (fd_rows _) _ s1.symm 1 rfl
  have hS : SlR 1 W W.heap.size (.slice (some ⟨w.heap.size + 1 + 1, 0, none⟩) 1 1) ((mD3 n w.heap.size).ts.map Ty.cells) := by rw [hW]; exact SlR.built_ W2 42 ((mD3 n w.heap.size).ts.map Ty.cells) (ty_rows _) _ s2.symm 1 rfl
  rw [← hW1, ← hW2, ← hW]
  refine (dPut_is (mD3 n w.heap.size) _ _ rfl rfl W ⟨hS, fun t ht => ?_, SlR.none_⟩ (m64_3 n _) (mlen (by show 1 ≤ 40; decide) fun t ht => ?_) (Nat.zero_le _)).mono fun e w' h => ?_
  · have := List.mem_singleton.1 ht
    subst this
    refine ⟨SlR.later hF hb3, fun f hf => ?_⟩
    have := List.mem_singleton.1 hf
    subst this
    exact SlR.later (SlR.later hM hb2) hb3
  · have := List.mem_singleton.1 ht
    subst this
    refine ⟨by show 1 ≤ 40; decide, fun f hf => ?_⟩
    have := List.mem_singleton.1 hf
    subst this
    simpa using hn
  · obtain ⟨A, m, c, h1, h2⟩ := h.code (E := E) (by rw [many3]; rw [← hE]; by_cases h8 : 16 < n <;> simp [h8])
    exact ⟨A, m, c, h1, Bel.then (Bel.then (Bel.then hb1 hb2) hb3) h2⟩
theorem put4 (n : Nat) (hn : n ≤ 40) (E : Int) (hE : (if 8 < n then (3 : Int) else 0) = E) (w : World) :
    Calls Try.prog 10 #[.agg #[.slice none 0 0, .slice (some ⟨w.heap.size, 0, none⟩) n n]] (w.alloc (.cells ((List.replicate n pjZ).map Pj.cells).flatten.toArray 51)) fun e w' => PutCode E w e w' := by
  obtain ⟨W, hW⟩ : ∃ W, W = w.alloc (.cells ((List.replicate n pjZ).map Pj.cells).flatten.toArray 51) := ⟨_, rfl⟩
  have hS : SlR 5 W W.heap.size (.slice (some ⟨w.heap.size, 0, none⟩) n n) ((List.replicate n pjZ).map Pj.cells) := by rw [hW]; exact SlR.built_ w _ _ (pj_rows _) _ rfl n (by simp)
  have hb : Below w.heap.size w W := by rw [hW]; exact Bel.grew (Below.refl _ _) _
  rw [← hW]
  refine (dPut_is (mD4 n w.heap.size) _ _ rfl rfl W ⟨SlR.none_, fun t ht => (by cases ht), hS⟩ (m64_4 n _) (mlen (Nat.zero_le _) fun t ht => (by cases ht)) (by unfold mD4; simp; omega)).mono fun e w' h => ?_
  obtain ⟨A, m, c, h1, h2⟩ := h.code (E := E) (by rw [many4]; rw [← hE]; by_cases h8 : 8 < n <;> simp [h8])
  exact ⟨A, m, c, h1, Bel.then hb h2⟩
set_option maxHeartbeats 8000000 in
theorem declMany_any (k : Int) (w : World) (h0 : -9223372036854775808 ≤ k) (h1 : k ≤ 9223372036854775807) : Calls Try.prog 5 #[.int .i64 k] w fun e w' => e = .returned (.bool true) ∧ Below w.heap.size w w' := by
  go_enter Try.func5, Try.ntmps5
  go_wp2_with fail
  refine (pick_any k 41 w h0 h1 (by decide) (by decide)).mono ?_
  rintro e w' ⟨m, rfl, hm0, hm1, rfl⟩
  obtain ⟨n, rfl⟩ := Int.eq_ofNat_of_zero_le hm0
  have hn : n ≤ 40 := by omega
  have hnI : (n : Int) ≤ 40 := by omega
  clear hm0 hm1
  have M1 := mk_Ty n hn
  have M2 := mk_Fd n hn
  have M3 := mk_Mv n hn
  have M4 := mk_Pj n hn
  have hcase : ∃ E1 E2 : Int, (if 8 < n then (3 : Int) else 0) = E1 ∧ (if 16 < n then (3 : Int) else 0) = E2 ∧ ((E1 = 0 ∧ E2 = 0 ∧ (n : Int) ≤ 8 ∧ (n : Int) ≤ 16) ∨ (E1 = 3 ∧ E2 = 0 ∧ decide ((n : Int) ≤ 8) = false ∧ (n : Int) ≤ 16) ∨ (E1 = 3 ∧ E2 = 3 ∧ decide ((n : Int) ≤ 8) = false ∧ decide ((n : Int) ≤ 16) = false)) := by
    refine ⟨_, _, rfl, rfl, ?_⟩
    by_cases h8 : 8 < n
    · by_cases h16 : 16 < n
      · exact .inr (.inr ⟨by rw [if_pos h8], by rw [if_pos h16], decide_eq_false (by omega), decide_eq_false (by omega)⟩)
      · exact .inr (.inl ⟨by rw [if_pos h8], by rw [if_neg h16], decide_eq_false (by omega), by omega⟩)
    · exact .inl ⟨by rw [if_neg h8], by rw [if_neg (by omega)], by omega, by omega⟩
  obtain ⟨E1, E2, hE1, hE2, hc⟩ := hcase
  have HE1 := Lib.hid hE1
  have HE2 := Lib.hid hE2
  have HC := Lib.hid hc
  clear hE1 hE2 hc
  have P1 := Lib.hid (put1 n hn E1 HE1.out)
  obtain ⟨Z1, hZ1⟩ : ∃ Z, Z = ((List.replicate n tyZ).map Ty.cells).flatten.toArray := ⟨_, rfl⟩
  rw [← hZ1] at P1
  simp only [← hZ1] at M1
  clear hZ1
  have P2 := Lib.hid (put2 n hn E1 HE1.out)
  obtain ⟨Z2, hZ2⟩ : ∃ Z, Z = ((List.replicate n fdZ).map Fd.cells).flatten.toArray := ⟨_, rfl⟩
  rw [← hZ2] at P2
  simp only [← hZ2] at M2
  clear hZ2
  have P3 := Lib.hid (put3 n hn E2 HE2.out)
  obtain ⟨Z3, hZ3⟩ : ∃ Z, Z = ((List.replicate n mvZ).map Mv.cells).flatten.toArray := ⟨_, rfl⟩
  rw [← hZ3] at P3
  simp only [← hZ3] at M3
  clear hZ3
  have P4 := Lib.hid (put4 n hn E1 HE1.out)
  obtain ⟨Z4, hZ4⟩ : ∃ Z, Z = ((List.replicate n pjZ).map Pj.cells).flatten.toArray := ⟨_, rfl⟩
  rw [← hZ4] at P4
  simp only [← hZ4] at M4
  clear hZ4
  go_wp2_with fail
  refine (P1.out w).mono ?_
  rintro e w1 ⟨A1, n1, c1, rfl, hb1⟩
  have HB1 := Lib.hid hb1
  clear hb1 M1
  go_wp2_with fail
  refine (P2.out w1).mono ?_
  rintro e w2 ⟨A2, n2, c2, rfl, hb2⟩
  have HB2 := Lib.hid (Bel.then HB1.out hb2)
  clear hb2 M2
  go_wp2_with fail
  refine (P3.out w2).mono ?_
  rintro e w3 ⟨A3, n3, c3, rfl, hb3⟩
  have HB3 := Lib.hid (Bel.then HB2.out hb3)
  clear hb3 M3
  go_wp2_with fail
  refine (P4.out w3).mono ?_
  rintro e w4 ⟨A4, n4, c4, rfl, hb4⟩
  have HB4 := Lib.hid (Bel.then HB3.out hb4)
  clear hb4 M4
  rcases HC.out with ⟨rfl, rfl, h8, h16⟩ | ⟨rfl, rfl, h8, h16⟩ | ⟨rfl, rfl, h8, h16⟩
  all_goals
    clear HC HE1 HE2 P1 P2 P3 P4
    go_wp2_with fail
    refine (known07_any w4).mono ?_
    rintro e w5 ⟨rfl, hb5⟩
    have HB5 := Lib.hid (Bel.then HB4.out hb5)
    clear hb5
    go_wp2_with fail
    go_ret
    exact ⟨rfl, HB5.out⟩
end Go.Proofs.Ytjcocahhpjgbhaa
