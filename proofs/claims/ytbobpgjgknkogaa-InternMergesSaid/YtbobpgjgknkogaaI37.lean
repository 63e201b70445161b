/- law06: two new tables and a list of numbers, made in any order. No condition. -/
import Derived.Test.YtbobpgjgknkogaaI35
import Derived.Deep.CutRange
namespace Go.Proofs.Ytbobpgjgknkogaa
open Go.RowKit Go.Maps
/-- Blocks that hold an empty table, made behind v. -/
def ZB (v X : World) : List Nat → Prop
  | [] => Below v.heap.size v X
  | g :: zs => Blk X g 24 #[.slice none 0 0] ∧ v.heap.size ≤ g ∧ g ∉ zs ∧ ZB v X zs
section
variable {v X X' : World} {g g1 g2 : Nat}
theorem ZB.below : ∀ {zs : List Nat}, ZB v X zs → Below v.heap.size v X
  | [], h => h
  | _ :: _, h => ZB.below h.2.2.2
theorem ZB.lt : ∀ {zs : List Nat}, ZB v X zs → ∀ g ∈ zs, g < X.heap.size
  | [], _, _, hg => by cases hg
  | _ :: _, h, g, hg => by
    rcases List.mem_cons.1 hg with rfl | hg
    · exact h.1.lt
    · exact ZB.lt h.2.2.2 g hg
theorem ZB.step : ∀ {zs : List Nat}, ZB v X zs → Below X.heap.size X X' → ZB v X' zs
  | [], h, hb => below_on h hb (Nat.le_refl _)
  | _ :: _, h, hb => ⟨h.1.on hb, h.2.1, h.2.2.1, ZB.step h.2.2.2 hb⟩
theorem ZB.alloc {zs : List Nat} (h : ZB v X zs) : ZB v (X.alloc (.cells #[.slice none 0 0] 24)) (X.heap.size :: zs) :=
  ⟨Blk.new X _ _, h.below.size, fun hm => by have := h.lt _ hm; omega, h.step ((Below.refl _ _).alloc (Nat.le_refl _) _)⟩
theorem ZB.alloc2 {zs : List Nat} (h : ZB v X zs) : ZB v ((X.alloc (.cells #[.slice none 0 0] 24)).alloc (.cells #[.slice none 0 0] 24)) ((X.heap.size + 1) :: X.heap.size :: zs) := by
  have h2 := h.alloc.alloc
  rw [World.size_alloc] at h2
  exact h2
theorem bel_alloc (h : Below v.heap.size v X) (o : Obj) : Below v.heap.size v (X.alloc o) := h.alloc h.size o
theorem bel_set (h : Below v.heap.size v X) (u : Value) (hg : v.heap.size ≤ g) : Below v.heap.size v (X.setCell ⟨g, 0, none⟩ u) := h.setCell (p := ⟨g, 0, none⟩) hg u
end
/-- A store into a block keeps a slice whose elements the block does not hold. -/
theorem Sl.farG {w : World} {D n cap g : Nat} {A : Option Addr} {xs : List Value} {T : TypeId} {cs : Array Value} (h : Sl w D 1 A n cap xs) (hb : Blk w g T cs) (hc : ∀ (i : Nat) (u : Value), cs[i]? = some u → u ∉ xs) (i : Nat) (u : Value) : Sl (w.setCell ⟨g, i, none⟩ u) D 1 A n cap xs := by
  refine ⟨h.1, h.2.1, h.2.2.1, fun hn => ?_⟩
  obtain ⟨b, o, rfl, hbD, hcell⟩ := h.2.2.2 hn
  have hne : b ≠ g := by
    rintro rfl
    have hl := h.1
    obtain ⟨x, hx⟩ : ∃ x, xs[0]? = some x := ⟨xs[0]'(by rw [hl]; omega), List.getElem?_eq_getElem _⟩
    have h0 := hcell 0 x hx
    rw [hb.cell] at h0
    exact hc _ _ h0 (List.mem_of_getElem? hx)
  refine ⟨b, o, rfl, hbD, fun j v hv => ?_⟩
  rw [← hcell j v hv]
  unfold World.cell?
  rw [Below.heap_setCell w ⟨g, i, none⟩ u b hne]
theorem tab_str {A : Option Addr} {n c : Nat} (l : List (List UInt8)) : ∀ (i : Nat) (u : Value), (#[Value.slice A n c])[i]? = some u → u ∉ l.map strV := by
  intro i u h hm
  obtain ⟨x, _, rfl⟩ := List.mem_map.1 hm
  cases i <;> simp [strV] at h
theorem tab_int {A : Option Addr} {n c : Nat} (l : List Int) : ∀ (i : Nat) (u : Value), (#[Value.slice A n c])[i]? = some u → u ∉ l.map intV := by
  intro i u h hm
  obtain ⟨x, _, rfl⟩ := List.mem_map.1 hm
  cases i <;> simp [intV] at h
def P1 (v X : World) (zs : List Nat) (a : List (List UInt8)) (A7 : Option Addr) (c7 : Nat) : Prop := ZB v X zs ∧ Sl X X.heap.size 1 A7 a.length c7 (a.map strV)
def P2 (v X : World) (zs : List Nat) (a b : List (List UInt8)) (A7 : Option Addr) (c7 : Nat) (A8 : Option Addr) (c8 : Nat) : Prop := P1 v X zs a A7 c7 ∧ Sl X X.heap.size 1 A8 b.length c8 (b.map strV)
def P3 (v X : World) (zs : List Nat) (a b : List (List UInt8)) (ws : List Int) (A7 : Option Addr) (c7 : Nat) (A8 : Option Addr) (c8 : Nat) (A9 : Option Addr) (c9 : Nat) : Prop := P2 v X zs a b A7 c7 A8 c8 ∧ Sl X X.heap.size 1 A9 ws.length c9 (ws.map intV)
theorem Sl.upon {w w' : World} {size n cap : Nat} {A : Option Addr} {xs : List Value} (h : Sl w w.heap.size size A n cap xs) (hb : Below w.heap.size w w') : Sl w' w'.heap.size size A n cap xs := (h.below hb (Nat.le_refl _)).more hb.size
section
variable {v X X' : World} {zs : List Nat} {a b : List (List UInt8)} {ws : List Int} {A7 A8 A9 : Option Addr} {c7 c8 c9 g g1 g2 : Nat}
theorem P1.step (h : P1 v X zs a A7 c7) (hb : Below X.heap.size X X') : P1 v X' zs a A7 c7 := ⟨h.1.step hb, h.2.upon hb⟩
theorem P2.step (h : P2 v X zs a b A7 c7 A8 c8) (hb : Below X.heap.size X X') : P2 v X' zs a b A7 c7 A8 c8 := ⟨h.1.step hb, h.2.upon hb⟩
theorem P1.alloc (h : P1 v X zs a A7 c7) : P1 v (X.alloc (.cells #[.slice none 0 0] 24)) (X.heap.size :: zs) a A7 c7 := ⟨h.1.alloc, h.2.upon ((Below.refl _ _).alloc (Nat.le_refl _) _)⟩
theorem P2.alloc (h : P2 v X zs a b A7 c7 A8 c8) : P2 v (X.alloc (.cells #[.slice none 0 0] 24)) (X.heap.size :: zs) a b A7 c7 A8 c8 := ⟨h.1.alloc, h.2.upon ((Below.refl _ _).alloc (Nat.le_refl _) _)⟩
theorem P1.alloc2 (h : P1 v X zs a A7 c7) : P1 v ((X.alloc (.cells #[.slice none 0 0] 24)).alloc (.cells #[.slice none 0 0] 24)) ((X.heap.size + 1) :: X.heap.size :: zs) a A7 c7 := by
  have h2 := h.alloc.alloc
  rw [World.size_alloc] at h2
  exact h2
theorem P2.alloc2 (h : P2 v X zs a b A7 c7 A8 c8) : P2 v ((X.alloc (.cells #[.slice none 0 0] 24)).alloc (.cells #[.slice none 0 0] 24)) ((X.heap.size + 1) :: X.heap.size :: zs) a b A7 c7 A8 c8 := by
  have h2 := h.alloc.alloc
  rw [World.size_alloc] at h2
  exact h2
/-- What the region leaves. -/
def OUT (v wx : World) (g7 g8 : Nat) (a b : List (List UInt8)) (ws : List Int) (A7 : Option Addr) (c7 : Nat) (A8 : Option Addr) (c8 : Nat) (A9 : Option Addr) (c9 : Nat) : Prop :=
  TA wx g7 A7 c7 a ∧ TA wx g8 A8 c8 b ∧ Sl wx wx.heap.size 1 A9 ws.length c9 (ws.map intV) ∧ Below v.heap.size v wx ∧ v.heap.size ≤ g7 ∧ v.heap.size ≤ g8 ∧ g7 ≠ g8
theorem out2a (h : P3 v X [] a b ws A7 c7 A8 c8 A9 c9) : OUT v ((X.alloc (.cells #[.slice A7 a.length c7] 24)).alloc (.cells #[.slice A8 b.length c8] 24)) X.heap.size (X.heap.size + 1) a b ws A7 c7 A8 c8 A9 c9 := by
  have hb1 := (Below.refl X.heap.size X).alloc (Nat.le_refl _) (.cells #[.slice A7 a.length c7] 24)
  have hb2 := hb1.alloc hb1.size (.cells #[.slice A8 b.length c8] 24)
  have hB := h.1.1.1.below
  exact ⟨⟨(Blk.new X _ _).alloc _, h.1.1.2.upon hb2⟩, ⟨Blk.newAt _ _ _ (by simp), h.1.2.upon hb2⟩, h.2.upon hb2, below_on hB hb2 (Nat.le_refl _), hB.size, Nat.le_trans hB.size (Nat.le_succ _), by omega⟩
theorem out2b (h : P3 v X [] a b ws A7 c7 A8 c8 A9 c9) : OUT v ((X.alloc (.cells #[.slice A8 b.length c8] 24)).alloc (.cells #[.slice A7 a.length c7] 24)) (X.heap.size + 1) X.heap.size a b ws A7 c7 A8 c8 A9 c9 := by
  have hb1 := (Below.refl X.heap.size X).alloc (Nat.le_refl _) (.cells #[.slice A8 b.length c8] 24)
  have hb2 := hb1.alloc hb1.size (.cells #[.slice A7 a.length c7] 24)
  have hB := h.1.1.1.below
  exact ⟨⟨Blk.newAt _ _ _ (by simp), h.1.1.2.upon hb2⟩, ⟨(Blk.new X _ _).alloc _, h.1.2.upon hb2⟩, h.2.upon hb2, below_on hB hb2 (Nat.le_refl _), Nat.le_trans hB.size (Nat.le_succ _), hB.size, by omega⟩
theorem out1a (h : P3 v X [g] a b ws A7 c7 A8 c8 A9 c9) : OUT v ((X.setCell ⟨g, 0, none⟩ (.slice A7 a.length c7)).alloc (.cells #[.slice A8 b.length c8] 24)) g X.heap.size a b ws A7 c7 A8 c8 A9 c9 := by
  obtain ⟨k1, hv1, _, hB⟩ := h.1.1.1
  have k2 : Blk (X.setCell ⟨g, 0, none⟩ (.slice A7 a.length c7)) g 24 #[.slice A7 a.length c7] := k1.set 0 _
  have hz : (X.setCell ⟨g, 0, none⟩ (.slice A7 a.length c7)).heap.size = X.heap.size := World.size_setCell _ _ _
  have hb2 := (Below.refl (X.setCell ⟨g, 0, none⟩ (.slice A7 a.length c7)).heap.size (X.setCell ⟨g, 0, none⟩ (.slice A7 a.length c7))).alloc (Nat.le_refl _) (.cells #[.slice A8 b.length c8] 24)
  have s1 := h.1.1.2.farG k1 (tab_str a) 0 (.slice A7 a.length c7)
  have s2 := h.1.2.farG k1 (tab_str b) 0 (.slice A7 a.length c7)
  have s3 := h.2.farG k1 (tab_int ws) 0 (.slice A7 a.length c7)
  rw [← hz] at s1 s2 s3
  exact ⟨⟨k2.alloc _, s1.upon hb2⟩, ⟨Blk.newAt _ _ _ hz.symm, s2.upon hb2⟩, s3.upon hb2, bel_alloc (bel_set hB _ hv1) _, hv1, hB.size, Nat.ne_of_lt k1.lt⟩
theorem out1b (h : P3 v X [g] a b ws A7 c7 A8 c8 A9 c9) : OUT v ((X.setCell ⟨g, 0, none⟩ (.slice A8 b.length c8)).alloc (.cells #[.slice A7 a.length c7] 24)) X.heap.size g a b ws A7 c7 A8 c8 A9 c9 := by
  obtain ⟨k1, hv1, _, hB⟩ := h.1.1.1
  have k2 : Blk (X.setCell ⟨g, 0, none⟩ (.slice A8 b.length c8)) g 24 #[.slice A8 b.length c8] := k1.set 0 _
  have hz : (X.setCell ⟨g, 0, none⟩ (.slice A8 b.length c8)).heap.size = X.heap.size := World.size_setCell _ _ _
  have hb2 := (Below.refl (X.setCell ⟨g, 0, none⟩ (.slice A8 b.length c8)).heap.size (X.setCell ⟨g, 0, none⟩ (.slice A8 b.length c8))).alloc (Nat.le_refl _) (.cells #[.slice A7 a.length c7] 24)
  have s1 := h.1.1.2.farG k1 (tab_str a) 0 (.slice A8 b.length c8)
  have s2 := h.1.2.farG k1 (tab_str b) 0 (.slice A8 b.length c8)
  have s3 := h.2.farG k1 (tab_int ws) 0 (.slice A8 b.length c8)
  rw [← hz] at s1 s2 s3
  exact ⟨⟨Blk.newAt _ _ _ hz.symm, s1.upon hb2⟩, ⟨k2.alloc _, s2.upon hb2⟩, s3.upon hb2, bel_alloc (bel_set hB _ hv1) _, hB.size, hv1, (Nat.ne_of_lt k1.lt).symm⟩
theorem out0 (hp : P3 v X zs a b ws A7 c7 A8 c8 A9 c9) (k1 : Blk X g1 24 #[.slice none 0 0]) (k2 : Blk X g2 24 #[.slice none 0 0]) (hv1 : v.heap.size ≤ g1) (hv2 : v.heap.size ≤ g2) (hne : g1 ≠ g2) :
    OUT v ((X.setCell ⟨g1, 0, none⟩ (.slice A7 a.length c7)).setCell ⟨g2, 0, none⟩ (.slice A8 b.length c8)) g1 g2 a b ws A7 c7 A8 c8 A9 c9 := by
  have e1 : Blk (X.setCell ⟨g1, 0, none⟩ (.slice A7 a.length c7)) g1 24 #[.slice A7 a.length c7] := k1.set 0 _
  have e2 := k2.far (p := ⟨g1, 0, none⟩) hne.symm (.slice A7 a.length c7)
  have f1 := e1.far (p := ⟨g2, 0, none⟩) hne (.slice A8 b.length c8)
  have f2 : Blk ((X.setCell ⟨g1, 0, none⟩ (.slice A7 a.length c7)).setCell ⟨g2, 0, none⟩ (.slice A8 b.length c8)) g2 24 #[.slice A8 b.length c8] := e2.set 0 _
  have s1 := (hp.1.1.2.farG k1 (tab_str a) 0 (.slice A7 a.length c7)).farG e2 (tab_str a) 0 (.slice A8 b.length c8)
  have s2 := (hp.1.2.farG k1 (tab_str b) 0 (.slice A7 a.length c7)).farG e2 (tab_str b) 0 (.slice A8 b.length c8)
  have s3 := (hp.2.farG k1 (tab_int ws) 0 (.slice A7 a.length c7)).farG e2 (tab_int ws) 0 (.slice A8 b.length c8)
  have hz : ((X.setCell ⟨g1, 0, none⟩ (.slice A7 a.length c7)).setCell ⟨g2, 0, none⟩ (.slice A8 b.length c8)).heap.size = X.heap.size := (World.size_setCell _ _ _).trans (World.size_setCell _ _ _)
  rw [← hz] at s1 s2 s3
  exact ⟨⟨f1, s1⟩, ⟨f2, s2⟩, s3, bel_set (bel_set hp.1.1.1.below _ hv1) _ hv2, hv1, hv2, hne⟩
theorem out0a (h : P3 v X [g1, g2] a b ws A7 c7 A8 c8 A9 c9) : OUT v ((X.setCell ⟨g1, 0, none⟩ (.slice A7 a.length c7)).setCell ⟨g2, 0, none⟩ (.slice A8 b.length c8)) g1 g2 a b ws A7 c7 A8 c8 A9 c9 := by
  obtain ⟨k1, hv1, hn, k2, hv2, _, _⟩ := h.1.1.1
  exact out0 h k1 k2 hv1 hv2 (by simpa using hn)
theorem out0b (h : P3 v X [g2, g1] a b ws A7 c7 A8 c8 A9 c9) : OUT v ((X.setCell ⟨g1, 0, none⟩ (.slice A7 a.length c7)).setCell ⟨g2, 0, none⟩ (.slice A8 b.length c8)) g1 g2 a b ws A7 c7 A8 c8 A9 c9 := by
  obtain ⟨k2, hv2, hn, k1, hv1, _, _⟩ := h.1.1.1
  exact out0 h k1 k2 hv1 hv2 (by simpa using fun e => hn (by simp [e]))
theorem ZB.one (h : ZB v X [g]) : X.cell? ⟨g, 0, none⟩ = some (.slice none 0 0) ∧ X.frozen? ⟨g, 0, none⟩ = false ∧ g < X.heap.size ∧ v.heap.size ≤ g := ⟨h.1.cell 0, h.1.frozen (by simp), h.1.lt, h.2.1⟩
theorem ZB.two (h : ZB v X [g1, g2]) (u : Value) : (X.cell? ⟨g1, 0, none⟩ = some (.slice none 0 0) ∧ X.frozen? ⟨g1, 0, none⟩ = false ∧ g1 < X.heap.size ∧ v.heap.size ≤ g1) ∧ (X.cell? ⟨g2, 0, none⟩ = some (.slice none 0 0) ∧ X.frozen? ⟨g2, 0, none⟩ = false ∧ g2 < X.heap.size ∧ v.heap.size ≤ g2) ∧
    ((X.setCell ⟨g1, 0, none⟩ u).cell? ⟨g2, 0, none⟩ = some (.slice none 0 0) ∧ (X.setCell ⟨g1, 0, none⟩ u).frozen? ⟨g2, 0, none⟩ = false) ∧ ((X.setCell ⟨g2, 0, none⟩ u).cell? ⟨g1, 0, none⟩ = some (.slice none 0 0) ∧ (X.setCell ⟨g2, 0, none⟩ u).frozen? ⟨g1, 0, none⟩ = false) ∧ g1 ≠ g2 := by
  obtain ⟨k1, hv1, hn, k2, hv2, _, _⟩ := h
  have hne : g1 ≠ g2 := by simpa using hn
  have e2 := k2.far (p := ⟨g1, 0, none⟩) hne.symm u
  have e1 := k1.far (p := ⟨g2, 0, none⟩) hne u
  exact ⟨⟨k1.cell 0, k1.frozen (by simp), k1.lt, hv1⟩, ⟨k2.cell 0, k2.frozen (by simp), k2.lt, hv2⟩, ⟨e2.cell 0, e2.frozen (by simp)⟩, ⟨e1.cell 0, e1.frozen (by simp)⟩, hne⟩
end
end Go.Proofs.Ytbobpgjgknkogaa
