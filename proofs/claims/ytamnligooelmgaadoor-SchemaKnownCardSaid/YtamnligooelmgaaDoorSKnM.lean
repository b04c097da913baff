/- SchemaKnown: the shop with a number in it written over. -/
import Derived.Test.YtamnligooelmgaaDoorSKnA
set_option maxRecDepth 100000
set_option maxRecDepth 100000
set_option linter.unusedVariables false
set_option linter.unusedSimpArgs false
namespace Go.Proofs.YtamnligooelmgaaDoor
open Go.RowKit Go.BigFrame

theorem shopW_fz (w : World) {g : Nat} (hg : w.heap.size ≤ g) (o : Nat) : (shopW w).frozen? ⟨g, o, none⟩ = false := by
  unfold shopW
  rw [frozen?_alloc_cells, frozen?_alloc_cells, frozen?_alloc_cells, frozen?_alloc_cells, frozen?_alloc_cells]
  unfold World.frozen?
  rw [Array.getElem?_eq_none hg]
/-- The shop, changed; its declaration's variable. -/
def MutSt (wo : World) (b d : Nat) (wx : World) : Prop := ∃ fs ms ps, ShopAt wx b fs ms ps ∧ Below wo.heap.size wo wx ∧ Has wx d #[.slice (some ⟨b + 1 + 1 + 1 + 1, 0, none⟩) 1 1, .slice (some ⟨b + 1 + 1 + 1, 0, none⟩) 3 3]
theorem MutSt.drew {wo : World} {b d : Nat} {wx : World} (h : MutSt wo b d wx) : MutSt wo b d wx.drew := by
  obtain ⟨fs, ms, ps, h1, h2, h3⟩ := h
  exact ⟨fs, ms, ps, h1.later (Below.drew (Below.refl _ _)), Below.drew h2, h3.later (Below.drew (Below.refl _ _))⟩
/-- What is known of the shop as it was made. -/
structure Made (wo : World) (b d : Nat) (wx : World) : Prop where
  at_ : ShopAt wx b (shF b) shopMs shopPs
  be : Below wo.heap.size wo wx
  dc : Has wx d #[.slice (some ⟨b + 1 + 1 + 1 + 1, 0, none⟩) 1 1, .slice (some ⟨b + 1 + 1 + 1, 0, none⟩) 3 3]
  lb : wo.heap.size ≤ b
  ld : b + 1 + 1 + 1 + 1 < d
theorem Made.drew {wo : World} {b d : Nat} {wx : World} (h : Made wo b d wx) : Made wo b d wx.drew := ⟨h.at_.later (Below.drew (Below.refl _ _)), Below.drew h.be, h.dc.later (Below.drew (Below.refl _ _)), h.lb, h.ld⟩
theorem mut0 {wo : World} {b d : Nat} {wx : World} (h : Made wo b d wx) (x : Int) : MutSt wo b d (wx.setCell ⟨b + 1 + 1, 8, none⟩ (.int .i64 x)) :=
  ⟨[⟨1, 1, true, [], .slice none 0 0⟩, ⟨2, 3, false, [], .slice none 0 0⟩, ⟨x, 2, false, [], .slice none 0 0⟩, ⟨4, 2, false, shopMs, .slice (some ⟨b + 1, 0, none⟩) 3 3⟩, ⟨2, 2, false, [], .slice none 0 0⟩, ⟨1, 1, false, [], .slice none 0 0⟩], shopMs, shopPs, h.at_.setF (o := 8) (by decide) rfl rfl (fun f hf => by
    simp only [List.mem_cons, List.not_mem_nil, or_false] at hf
    rcases hf with rfl | rfl | rfl | rfl | rfl | rfl
    all_goals first | exact .inl ⟨rfl, rfl⟩ | exact .inr ⟨rfl, rfl⟩), h.be.setCell (p := ⟨b + 1 + 1, 8, none⟩) (by have := h.lb; show _ ≤ b + 1 + 1; omega) _, h.dc.setOther_ (by have := h.ld; omega) _ _⟩
theorem mut1 {wo : World} {b d : Nat} {wx : World} (h : Made wo b d wx) (x : Int) : MutSt wo b d (wx.setCell ⟨b + 1 + 1, 5, none⟩ (.int .i64 x)) :=
  ⟨[⟨1, 1, true, [], .slice none 0 0⟩, ⟨2, x, false, [], .slice none 0 0⟩, ⟨3, 2, false, [], .slice none 0 0⟩, ⟨4, 2, false, shopMs, .slice (some ⟨b + 1, 0, none⟩) 3 3⟩, ⟨2, 2, false, [], .slice none 0 0⟩, ⟨1, 1, false, [], .slice none 0 0⟩], shopMs, shopPs, h.at_.setF (o := 5) (by decide) rfl rfl (fun f hf => by
    simp only [List.mem_cons, List.not_mem_nil, or_false] at hf
    rcases hf with rfl | rfl | rfl | rfl | rfl | rfl
    all_goals first | exact .inl ⟨rfl, rfl⟩ | exact .inr ⟨rfl, rfl⟩), h.be.setCell (p := ⟨b + 1 + 1, 5, none⟩) (by have := h.lb; show _ ≤ b + 1 + 1; omega) _, h.dc.setOther_ (by have := h.ld; omega) _ _⟩
theorem mut2 {wo : World} {b d : Nat} {wx : World} (h : Made wo b d wx) (x : Int) : MutSt wo b d (wx.setCell ⟨b + 1 + 1, 13, none⟩ (.int .i64 x)) :=
  ⟨[⟨1, 1, true, [], .slice none 0 0⟩, ⟨2, 3, false, [], .slice none 0 0⟩, ⟨3, 2, false, [], .slice none 0 0⟩, ⟨4, x, false, shopMs, .slice (some ⟨b + 1, 0, none⟩) 3 3⟩, ⟨2, 2, false, [], .slice none 0 0⟩, ⟨1, 1, false, [], .slice none 0 0⟩], shopMs, shopPs, h.at_.setF (o := 13) (by decide) rfl rfl (fun f hf => by
    simp only [List.mem_cons, List.not_mem_nil, or_false] at hf
    rcases hf with rfl | rfl | rfl | rfl | rfl | rfl
    all_goals first | exact .inl ⟨rfl, rfl⟩ | exact .inr ⟨rfl, rfl⟩), h.be.setCell (p := ⟨b + 1 + 1, 13, none⟩) (by have := h.lb; show _ ≤ b + 1 + 1; omega) _, h.dc.setOther_ (by have := h.ld; omega) _ _⟩
theorem mut3 {wo : World} {b d : Nat} {wx : World} (h : Made wo b d wx) (x : Int) : MutSt wo b d (wx.setCell ⟨b + 1, 2, none⟩ (.int .i64 x)) :=
  ⟨[⟨1, 1, true, [], .slice none 0 0⟩, ⟨2, 3, false, [], .slice none 0 0⟩, ⟨3, 2, false, [], .slice none 0 0⟩, ⟨4, 2, false, [⟨0, 1, x, 2⟩, ⟨1, 0, (-1), 0⟩, ⟨0, 2, (-1), 0⟩], .slice (some ⟨b + 1, 0, none⟩) 3 3⟩, ⟨2, 2, false, [], .slice none 0 0⟩, ⟨1, 1, false, [], .slice none 0 0⟩], [⟨0, 1, x, 2⟩, ⟨1, 0, (-1), 0⟩, ⟨0, 2, (-1), 0⟩], shopPs, h.at_.setM (o := 2) (by decide) rfl rfl (fun f hf => by
    simp only [List.mem_cons, List.not_mem_nil, or_false] at hf
    rcases hf with rfl | rfl | rfl | rfl | rfl | rfl
    all_goals first | exact .inl ⟨rfl, rfl⟩ | exact .inr ⟨rfl, rfl⟩), h.be.setCell (p := ⟨b + 1, 2, none⟩) (by have := h.lb; show _ ≤ b + 1; omega) _, h.dc.setOther_ (by have := h.ld; omega) _ _⟩
theorem mut4 {wo : World} {b d : Nat} {wx : World} (h : Made wo b d wx) (x : Int) : MutSt wo b d (wx.setCell ⟨b + 1, 7, none⟩ (.int .i64 x)) :=
  ⟨[⟨1, 1, true, [], .slice none 0 0⟩, ⟨2, 3, false, [], .slice none 0 0⟩, ⟨3, 2, false, [], .slice none 0 0⟩, ⟨4, 2, false, [⟨0, 1, 0, 2⟩, ⟨1, 0, (-1), x⟩, ⟨0, 2, (-1), 0⟩], .slice (some ⟨b + 1, 0, none⟩) 3 3⟩, ⟨2, 2, false, [], .slice none 0 0⟩, ⟨1, 1, false, [], .slice none 0 0⟩], [⟨0, 1, 0, 2⟩, ⟨1, 0, (-1), x⟩, ⟨0, 2, (-1), 0⟩], shopPs, h.at_.setM (o := 7) (by decide) rfl rfl (fun f hf => by
    simp only [List.mem_cons, List.not_mem_nil, or_false] at hf
    rcases hf with rfl | rfl | rfl | rfl | rfl | rfl
    all_goals first | exact .inl ⟨rfl, rfl⟩ | exact .inr ⟨rfl, rfl⟩), h.be.setCell (p := ⟨b + 1, 7, none⟩) (by have := h.lb; show _ ≤ b + 1; omega) _, h.dc.setOther_ (by have := h.ld; omega) _ _⟩
theorem mut5 {wo : World} {b d : Nat} {wx : World} (h : Made wo b d wx) (x : Int) : MutSt wo b d (wx.setCell ⟨b + 1, 8, none⟩ (.int .i64 x)) :=
  ⟨[⟨1, 1, true, [], .slice none 0 0⟩, ⟨2, 3, false, [], .slice none 0 0⟩, ⟨3, 2, false, [], .slice none 0 0⟩, ⟨4, 2, false, [⟨0, 1, 0, 2⟩, ⟨1, 0, (-1), 0⟩, ⟨x, 2, (-1), 0⟩], .slice (some ⟨b + 1, 0, none⟩) 3 3⟩, ⟨2, 2, false, [], .slice none 0 0⟩, ⟨1, 1, false, [], .slice none 0 0⟩], [⟨0, 1, 0, 2⟩, ⟨1, 0, (-1), 0⟩, ⟨x, 2, (-1), 0⟩], shopPs, h.at_.setM (o := 8) (by decide) rfl rfl (fun f hf => by
    simp only [List.mem_cons, List.not_mem_nil, or_false] at hf
    rcases hf with rfl | rfl | rfl | rfl | rfl | rfl
    all_goals first | exact .inl ⟨rfl, rfl⟩ | exact .inr ⟨rfl, rfl⟩), h.be.setCell (p := ⟨b + 1, 8, none⟩) (by have := h.lb; show _ ≤ b + 1; omega) _, h.dc.setOther_ (by have := h.ld; omega) _ _⟩
theorem mut6 {wo : World} {b d : Nat} {wx : World} (h : Made wo b d wx) (x : Int) : MutSt wo b d (wx.setCell ⟨b + 1 + 1 + 1, 0, none⟩ (.int .i64 x)) :=
  ⟨shF b, shopMs, [⟨x, 0, 1, 0, 2⟩, ⟨0, 2, 2, 0, 1⟩, ⟨0, 5, 3, 4, 4⟩], h.at_.setP (o := 0) (by decide) rfl rfl, h.be.setCell (p := ⟨b + 1 + 1 + 1, 0, none⟩) (by have := h.lb; show _ ≤ b + 1 + 1 + 1; omega) _, h.dc.setOther_ (by have := h.ld; omega) _ _⟩
theorem mut7 {wo : World} {b d : Nat} {wx : World} (h : Made wo b d wx) (x : Int) : MutSt wo b d (wx.setCell ⟨b + 1 + 1 + 1, 6, none⟩ (.int .i64 x)) :=
  ⟨shF b, shopMs, [⟨0, 0, 1, 0, 2⟩, ⟨0, x, 2, 0, 1⟩, ⟨0, 5, 3, 4, 4⟩], h.at_.setP (o := 6) (by decide) rfl rfl, h.be.setCell (p := ⟨b + 1 + 1 + 1, 6, none⟩) (by have := h.lb; show _ ≤ b + 1 + 1 + 1; omega) _, h.dc.setOther_ (by have := h.ld; omega) _ _⟩
theorem mut8 {wo : World} {b d : Nat} {wx : World} (h : Made wo b d wx) (x : Int) : MutSt wo b d (wx.setCell ⟨b + 1 + 1 + 1, 13, none⟩ (.int .i64 x)) :=
  ⟨shF b, shopMs, [⟨0, 0, 1, 0, 2⟩, ⟨0, 2, 2, 0, 1⟩, ⟨0, 5, 3, x, 4⟩], h.at_.setP (o := 13) (by decide) rfl rfl, h.be.setCell (p := ⟨b + 1 + 1 + 1, 13, none⟩) (by have := h.lb; show _ ≤ b + 1 + 1 + 1; omega) _, h.dc.setOther_ (by have := h.ld; omega) _ _⟩
theorem mut9 {wo : World} {b d : Nat} {wx : World} (h : Made wo b d wx) (x : Int) : MutSt wo b d (wx.setCell ⟨b + 1 + 1 + 1, 3, none⟩ (.int .i64 x)) :=
  ⟨shF b, shopMs, [⟨0, 0, 1, x, 2⟩, ⟨0, 2, 2, 0, 1⟩, ⟨0, 5, 3, 4, 4⟩], h.at_.setP (o := 3) (by decide) rfl rfl, h.be.setCell (p := ⟨b + 1 + 1 + 1, 3, none⟩) (by have := h.lb; show _ ≤ b + 1 + 1 + 1; omega) _, h.dc.setOther_ (by have := h.ld; omega) _ _⟩
theorem mut10 {wo : World} {b d : Nat} {wx : World} (h : Made wo b d wx) (x : Int) : MutSt wo b d (wx.setCell ⟨b + 1 + 1 + 1, 7, none⟩ (.int .i64 x)) :=
  ⟨shF b, shopMs, [⟨0, 0, 1, 0, 2⟩, ⟨0, 2, x, 0, 1⟩, ⟨0, 5, 3, 4, 4⟩], h.at_.setP (o := 7) (by decide) rfl rfl, h.be.setCell (p := ⟨b + 1 + 1 + 1, 7, none⟩) (by have := h.lb; show _ ≤ b + 1 + 1 + 1; omega) _, h.dc.setOther_ (by have := h.ld; omega) _ _⟩
theorem mut11 {wo : World} {b d : Nat} {wx : World} (h : Made wo b d wx) (x : Int) : MutSt wo b d (wx.setCell ⟨b + 1 + 1 + 1, 14, none⟩ (.int .i64 x)) :=
  ⟨shF b, shopMs, [⟨0, 0, 1, 0, 2⟩, ⟨0, 2, 2, 0, 1⟩, ⟨0, 5, 3, 4, x⟩], h.at_.setP (o := 14) (by decide) rfl rfl, h.be.setCell (p := ⟨b + 1 + 1 + 1, 14, none⟩) (by have := h.lb; show _ ≤ b + 1 + 1 + 1; omega) _, h.dc.setOther_ (by have := h.ld; omega) _ _⟩
theorem mut12 {wo : World} {b d : Nat} {wx : World} (h : Made wo b d wx) (x : Int) : MutSt wo b d ((wx.setCell ⟨b + 1 + 1, 6, none⟩ (.bool true)).setCell ⟨b + 1 + 1, 1, none⟩ (.int .i64 x)) := by
  have h1 : ShopAt (wx.setCell ⟨b + 1 + 1, 6, none⟩ (.bool true)) b [⟨1, 1, true, [], .slice none 0 0⟩, ⟨2, 3, true, [], .slice none 0 0⟩, ⟨3, 2, false, [], .slice none 0 0⟩, ⟨4, 2, false, shopMs, .slice (some ⟨b + 1, 0, none⟩) 3 3⟩, ⟨2, 2, false, [], .slice none 0 0⟩, ⟨1, 1, false, [], .slice none 0 0⟩] shopMs shopPs := h.at_.setF (o := 6) (by decide) rfl rfl (fun f hf => by
    simp only [List.mem_cons, List.not_mem_nil, or_false] at hf
    rcases hf with rfl | rfl | rfl | rfl | rfl | rfl
    all_goals first | exact .inl ⟨rfl, rfl⟩ | exact .inr ⟨rfl, rfl⟩)
  exact ⟨[⟨1, x, true, [], .slice none 0 0⟩, ⟨2, 3, true, [], .slice none 0 0⟩, ⟨3, 2, false, [], .slice none 0 0⟩, ⟨4, 2, false, shopMs, .slice (some ⟨b + 1, 0, none⟩) 3 3⟩, ⟨2, 2, false, [], .slice none 0 0⟩, ⟨1, 1, false, [], .slice none 0 0⟩], shopMs, shopPs, h1.setF (o := 1) (by decide) rfl rfl (fun f hf => by
    simp only [List.mem_cons, List.not_mem_nil, or_false] at hf
    rcases hf with rfl | rfl | rfl | rfl | rfl | rfl
    all_goals first | exact .inl ⟨rfl, rfl⟩ | exact .inr ⟨rfl, rfl⟩), (h.be.setCell (p := ⟨b + 1 + 1, 6, none⟩) (by have := h.lb; show _ ≤ b + 1 + 1; omega) _).setCell (p := ⟨b + 1 + 1, 1, none⟩) (by have := h.lb; show _ ≤ b + 1 + 1; omega) _, (h.dc.setOther_ (by have := h.ld; omega) _ _).setOther_ (by have := h.ld; omega) _ _⟩
end Go.Proofs.YtamnligooelmgaaDoor
