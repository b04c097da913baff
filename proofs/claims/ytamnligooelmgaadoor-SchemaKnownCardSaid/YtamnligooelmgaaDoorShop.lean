/- The chapter's shop, in memory. -/
import Derived.Test.YtamnligooelmgaaDoorSField
set_option maxRecDepth 100000
set_option maxRecDepth 100000
set_option linter.unusedVariables false
set_option linter.unusedSimpArgs false
namespace Go.Proofs.YtamnligooelmgaaDoor
open Go.RowKit Go.BigFrame

/-- A slice of structs that has just been built. -/
theorem SlR.built_ {sz : Nat} (w : World) (t : TypeId) (rows : List (List Value)) (hs : ∀ r ∈ rows, r.length = sz) (b : Nat) (hb : b = w.heap.size) (n : Nat) (hn : n = rows.length) :
    SlR sz (w.alloc (.cells rows.flatten.toArray t)) (w.alloc (.cells rows.flatten.toArray t)).heap.size (.slice (some ⟨b, 0, none⟩) n n) rows := by
  subst hb hn
  refine .inr ⟨w.heap.size, 0, _, rfl, by simp, Nat.le_refl _, fun i r hr j u hu => ?_⟩
  have hf := flat_get hs i r hr j u hu
  rw [Nat.zero_add, (Has.new w rows.flatten.toArray t).2]
  simpa using hf
def shopMs : List Mv := [⟨0, 1, 0, 2⟩, ⟨1, 0, -1, 0⟩, ⟨0, 2, -1, 0⟩]
def shopFs (mv : Value) : List Fd := [⟨1, 1, true, [], .slice none 0 0⟩, ⟨2, 3, false, [], .slice none 0 0⟩, ⟨3, 2, false, [], .slice none 0 0⟩, ⟨4, 2, false, shopMs, mv⟩, ⟨2, 2, false, [], .slice none 0 0⟩, ⟨1, 1, false, [], .slice none 0 0⟩]
def shopPs : List Pj := [⟨0, 0, 1, 0, 2⟩, ⟨0, 2, 2, 0, 1⟩, ⟨0, 5, 3, 4, 4⟩]
def shopD (tv pv fv mv : Value) : Dc := ⟨[⟨shopFs mv, fv⟩], shopPs, tv, pv⟩
abbrev shopC1 (n : Nat) : Array Value := #[.slice (some ⟨n + 1 + 1 + 1 + 1, 0, none⟩) 1 1, .slice (some ⟨n + 1 + 1 + 1, 0, none⟩) 3 3]
abbrev shopC2 : Array Value := #[.int .i64 0, .int .i64 1, .int .i64 0, .int .i64 2, .int .i64 1, .int .i64 0, .int .i64 (-1), .int .i64 0, .int .i64 0, .int .i64 2, .int .i64 (-1), .int .i64 0]
abbrev shopC3 (n : Nat) : Array Value := #[.int .i64 1, .int .i64 1, .bool true, .slice none 0 0, .int .i64 2, .int .i64 3, .bool false, .slice none 0 0, .int .i64 3, .int .i64 2, .bool false, .slice none 0 0, .int .i64 4, .int .i64 2, .bool false, .slice (some ⟨n + 1, 0, none⟩) 3 3, .int .i64 2, .int .i64 2, .bool false, .slice none 0 0, .int .i64 1, .int .i64 1, .bool false, .slice none 0 0]
abbrev shopC4 : Array Value := #[.int .i64 0, .int .i64 0, .int .i64 1, .int .i64 0, .int .i64 2, .int .i64 0, .int .i64 2, .int .i64 2, .int .i64 0, .int .i64 1, .int .i64 0, .int .i64 5, .int .i64 3, .int .i64 4, .int .i64 4]
abbrev shopC5 (n : Nat) : Array Value := #[.slice (some ⟨n + 1 + 1, 0, none⟩) 6 6]
def shopW (w : World) : World := ((((w.alloc (.cells (shopC1 w.heap.size) 25)).alloc (.cells shopC2 39)).alloc (.cells (shopC3 w.heap.size) 33)).alloc (.cells shopC4 47)).alloc (.cells (shopC5 w.heap.size) 45)
abbrev shopV (n : Nat) : Dc := shopD (.slice (some ⟨n + 1 + 1 + 1 + 1, 0, none⟩) 1 1) (.slice (some ⟨n + 1 + 1 + 1, 0, none⟩) 3 3) (.slice (some ⟨n + 1 + 1, 0, none⟩) 6 6) (.slice (some ⟨n + 1, 0, none⟩) 3 3)
theorem pj_rows (ms : List Pj) : ∀ r ∈ ms.map Pj.cells, r.length = 5 := by
  intro r hr
  obtain ⟨m, _, rfl⟩ := List.mem_map.1 hr
  rfl
theorem fd_rows (ms : List Fd) : ∀ r ∈ ms.map Fd.cells, r.length = 4 := by
  intro r hr
  obtain ⟨m, _, rfl⟩ := List.mem_map.1 hr
  rfl
theorem ty_rows (ms : List Ty) : ∀ r ∈ ms.map Ty.cells, r.length = 1 := by
  intro r hr
  obtain ⟨m, _, rfl⟩ := List.mem_map.1 hr
  rfl
theorem SlR.none_ {sz : Nat} {w : World} {B : Nat} : SlR sz w B (.slice none 0 0) [] := .inl ⟨none, 0, rfl, rfl⟩
theorem shopW_in (w : World) : (shopV w.heap.size).In (shopW w) (shopW w).heap.size ∧ Has (shopW w) w.heap.size (shopC1 w.heap.size) ∧ Below w.heap.size w (shopW w) := by
  obtain ⟨W1, h1⟩ : ∃ W1, W1 = w.alloc (.cells (shopC1 w.heap.size) 25) := ⟨_, rfl⟩
  obtain ⟨W2, h2⟩ : ∃ W2, W2 = W1.alloc (.cells shopC2 39) := ⟨_, rfl⟩
  obtain ⟨W3, h3⟩ : ∃ W3, W3 = W2.alloc (.cells (shopC3 w.heap.size) 33) := ⟨_, rfl⟩
  obtain ⟨W4, h4⟩ : ∃ W4, W4 = W3.alloc (.cells shopC4 47) := ⟨_, rfl⟩
  obtain ⟨W5, h5⟩ : ∃ W5, W5 = W4.alloc (.cells (shopC5 w.heap.size) 45) := ⟨_, rfl⟩
  have e : shopW w = W5 := by rw [h5, h4, h3, h2, h1]; rfl
  rw [e]
  have s1 : W1.heap.size = w.heap.size + 1 := by rw [h1]; simp
  have s2 : W2.heap.size = w.heap.size + 1 + 1 := by rw [h2]; simp [s1]
  have s3 : W3.heap.size = w.heap.size + 1 + 1 + 1 := by rw [h3]; simp [s2]
  have s4 : W4.heap.size = w.heap.size + 1 + 1 + 1 + 1 := by rw [h4]; simp [s3]
  have b1 : Below w.heap.size w W1 := by rw [h1]; exact Bel.grew (Below.refl _ _) _
  have b2 : Below W1.heap.size W1 W2 := by rw [h2]; exact Bel.grew (Below.refl _ _) _
  have b3 : Below W2.heap.size W2 W3 := by rw [h3]; exact Bel.grew (Below.refl _ _) _
  have b4 : Below W3.heap.size W3 W4 := by rw [h4]; exact Bel.grew (Below.refl _ _) _
  have b5 : Below W4.heap.size W4 W5 := by rw [h5]; exact Bel.grew (Below.refl _ _) _
  have hM : SlR 4 W2 W2.heap.size (.slice (some ⟨w.heap.size + 1, 0, none⟩) 3 3) (shopMs.map Mv.cells) := by
    rw [h2]; exact SlR.built_ W1 39 (shopMs.map Mv.cells) (mv_rows _) _ s1.symm 3 rfl
  have hF : SlR 4 W3 W3.heap.size (.slice (some ⟨w.heap.size + 1 + 1, 0, none⟩) 6 6) ((shopFs (.slice (some ⟨w.heap.size + 1, 0, none⟩) 3 3)).map Fd.cells) := by
    rw [h3]; exact SlR.built_ W2 33 ((shopFs (.slice (some ⟨w.heap.size + 1, 0, none⟩) 3 3)).map Fd.cells) (fd_rows _) _ s2.symm 6 rfl
  have hP : SlR 5 W4 W4.heap.size (.slice (some ⟨w.heap.size + 1 + 1 + 1, 0, none⟩) 3 3) (shopPs.map Pj.cells) := by
    rw [h4]; exact SlR.built_ W3 47 (shopPs.map Pj.cells) (pj_rows _) _ s3.symm 3 rfl
  have hT : SlR 1 W5 W5.heap.size (.slice (some ⟨w.heap.size + 1 + 1 + 1 + 1, 0, none⟩) 1 1) ((shopV w.heap.size).ts.map Ty.cells) := by
    rw [h5]; exact SlR.built_ W4 45 ((shopV w.heap.size).ts.map Ty.cells) (ty_rows _) _ s4.symm 1 rfl
  have b25 := Bel.then (Bel.then b3 b4) b5
  have b35 := Bel.then b4 b5
  have hM5 := SlR.later hM b25
  refine ⟨⟨hT, ?_, SlR.later hP b5⟩, ?_, Bel.then (Bel.then b1 b2) b25⟩
  · intro t ht
    have : t = ⟨shopFs (.slice (some ⟨w.heap.size + 1, 0, none⟩) 3 3), .slice (some ⟨w.heap.size + 1 + 1, 0, none⟩) 6 6⟩ := by simpa [shopD] using ht
    subst this
    refine ⟨SlR.later hF b35, fun f hf => ?_⟩
    simp only [shopFs, List.mem_cons, List.not_mem_nil, or_false] at hf
    rcases hf with rfl | rfl | rfl | rfl | rfl | rfl
    · exact SlR.none_
    · exact SlR.none_
    · exact SlR.none_
    · exact hM5
    · exact SlR.none_
    · exact SlR.none_
  · have : Has W1 w.heap.size (shopC1 w.heap.size) := by rw [h1]; exact Has.new _ _ _
    exact this.later (Bel.then b2 b25)
/-- The shop's slices, some. -/
def ShopRet (w : World) (e : Ending) (w' : World) : Prop := ∃ tv pv fv mv, e = .returned (declV (shopD tv pv fv mv)) ∧ (shopD tv pv fv mv).In w' w'.heap.size ∧ Below w.heap.size w w'
set_option maxHeartbeats 4000000 in
theorem shop_is (w : World) : Calls Tryd.prog 19 #[] w fun e w' => e = .returned (declV (shopV w.heap.size)) ∧ w' = shopW w := by
  have HI := Lib.hid (shopW_in w).2.1
  go_enter Tryd.func19, Tryd.ntmps19
  go_wp2_with fail
  change bodyPost _ _ _ _ _ (shopW w)
  have k := HI.out.2
  have k0 := k 0
  have k1 := k 1
  simp at k0 k1
  obtain ⟨W, hW⟩ : ∃ W, W = shopW w := ⟨_, rfl⟩
  rw [← hW] at k0 k1 ⊢
  simp [bodyPost, results, Tryd.results19, go_sem, k0, k1, shopD]
theorem shop_any (w : World) : Calls Tryd.prog 19 #[] w fun e w' => ShopRet w e w' :=
  (shop_is w).mono fun e w' ⟨he, hw⟩ => by
    subst hw
    exact ⟨_, _, _, _, he, (shopW_in w).1, (shopW_in w).2.2⟩
end Go.Proofs.YtamnligooelmgaaDoor
