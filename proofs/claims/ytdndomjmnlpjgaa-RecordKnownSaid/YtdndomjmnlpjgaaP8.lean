/- Records that grow: add. No condition. -/
import Derived.Test.YtdndomjmnlpjgaaP7
namespace Go.Proofs.Ytdndomjmnlpjgaa
open Go.RowKit
theorem Own.ne_lt {w : World} {B size n cap g : Nat} {e : TypeId} {A : Option Addr} {xs : List Value} (h : Own w B e size A n cap xs) (hg : g < B) : blockOf A cap = none ∨ blockOf A cap ≠ some g := by
  cases hb : blockOf A cap with
  | none => exact .inl rfl
  | some k =>
    refine .inr fun e => ?_
    injection e with e
    have := (h.lt hb).1
    omega
theorem Own.some_ne {w : World} {B size n cap g : Nat} {e : TypeId} {A : Option Addr} {xs : List Value} (h : Own w B e size A n cap xs) (hg : g < B) : some g ≠ blockOf A cap := by
  rcases h.ne_lt hg with h | h
  · rw [h]; simp
  · exact fun e => h e.symm
theorem Own.some_new {w : World} {B size n cap g : Nat} {e : TypeId} {A : Option Addr} {xs : List Value} (h : Own w B e size A n cap xs) (hg : w.heap.size ≤ g) : some g ≠ blockOf A cap := fun e => by
  have := (h.lt e.symm).2
  omega
theorem sl_new1 (w : World) (cs : Array Value) (e : TypeId) (size : Nat) (h : cs.size = size) : Sl (w.alloc (.cells cs e)) (w.heap.size + 1) size (some ⟨w.heap.size, 0, none⟩) 1 1 cs.toList :=
  ⟨by simp [h], Nat.le_refl _, by decide, fun _ => ⟨w.heap.size, 0, rfl, by omega, fun j u hu => by
    rw [Nat.zero_add, (Blk.new w e cs).cell j]; simpa using hu⟩⟩
set_option maxRecDepth 100000 in
set_option maxHeartbeats 3200000 in
theorem add_any (g B : Nat) (T : TypeId) (cs : Array Value) (A : Option Addr) (cap : Nat) (l : List Tok) (t : Tok) (w : World) (hb : Blk w g T cs) (h3 : 3 ≤ cs.size) (h0 : cs[0]? = some (.slice A l.length cap))
    (hO : Own w B 41 3 A l.length cap (tokC l)) (hgB : g < B) (hBw : B ≤ w.heap.size) (hl : l.length ≤ 20000) :
    Calls Try.prog 77 #[.pointer (some ⟨g, 0, none⟩), t.v] w fun e w' => ∃ A2 cap2, e = .returned (.tuple #[]) ∧ Blk w' g T (cs.setIfInBounds 0 (.slice A2 (l.length + 1) cap2)) ∧
      Own w' B 41 3 A2 (l.length + 1) cap2 (tokC (l ++ [t])) ∧ ∃ X, w.grownBy X (blockOf A cap) ∧ X.grownBy w' (some g) := by
  obtain ⟨i0, hi0, hz0, hz1, hz2⟩ := info_parts infoT
  obtain ⟨sy, x, a⟩ := t
  have hg := hb.lt
  have hbN := ((hb.alloc (.cells #[.int .i64 sy, .string ⟨x.toArray⟩, .int .i64 a] 41)).alloc (.cells #[.int .i64 sy, .string ⟨x.toArray⟩, .int .i64 a] 41)).drew
  have hON := ((hO.alloc (.cells #[.int .i64 sy, .string ⟨x.toArray⟩, .int .i64 a] 41)).alloc (.cells #[.int .i64 sy, .string ⟨x.toArray⟩, .int .i64 a] 41)).drew
  have hsl := (sl_new1 (w.alloc (.cells #[.int .i64 sy, .string ⟨x.toArray⟩, .int .i64 a] 41)) #[.int .i64 sy, .string ⟨x.toArray⟩, .int .i64 a] 41 3 rfl).drew
  simp only [World.size_alloc] at hsl
  have hone : ∀ u ∈ #[Value.int .i64 sy, .string ⟨x.toArray⟩, .int .i64 a].toList, u.oneCell' = true := by simp [Value.oneCell']
  have hGN := Lib.hid (Gb.drew (Gb.alloc (World.grownBy_alloc w (.cells #[.int .i64 sy, .string ⟨x.toArray⟩, .int .i64 a] 41) (blockOf A cap)) (.cells #[.int .i64 sy, .string ⟨x.toArray⟩, .int .i64 a] 41)))
  have hm1 : l.length + 1 ≤ maxLen := by simp only [maxLen]; omega
  have hm2 : (l.length + 1) * 32 ≤ 140737488355328 := by omega
  have hm3 : B ≤ (((w.alloc (.cells #[.int .i64 sy, .string ⟨x.toArray⟩, .int .i64 a] 41)).alloc (.cells #[.int .i64 sy, .string ⟨x.toArray⟩, .int .i64 a] 41)).drew).heap.size := Nat.le_trans hBw hGN.out.size
  have hne := hO.some_ne hgB
  have x0 := (hb.cell 0).trans h0
  unfold Tok.v
  simp only
  go_enter Try.func77, Try.ntmps77
  go_wp2_with fail
  go_region_law (refine step_append_o _ (by rfl) (.tmp 9) (.tmp 11) 24 (by rfl) B 41 i0 _ 3 32 Try.underlying24 hi0 hz0 hz1 hz2 rfl (by decide) (by rfl) hON (by rfl) hsl hone hm1 hm2 hm3 ?_; intro A4 cap4 W4 hown4 hg4 hat4; have hb4 := hbN.grown hg4 hne; have y0 := (hb4.cell 0).trans h0; have f0 : W4.frozen? ⟨g, 0, none⟩ = false := hb4.frozen (by omega))
  all_goals go_wp2_with fail
  all_goals refine bodyPost_end (results_none rfl _ _ _) rfl ?_
  all_goals exact ⟨A4, cap4, rfl, hb4.set 0 _, (by rw [tokC_append]; exact hown4.grown (Gb.set (World.grownBy.refl W4 (some g)) 0 _) (hown4.ne_lt hgB)), W4, Gb.trans hGN.out hg4, Gb.set (World.grownBy.refl W4 (some g)) 0 _⟩
end Go.Proofs.Ytdndomjmnlpjgaa
