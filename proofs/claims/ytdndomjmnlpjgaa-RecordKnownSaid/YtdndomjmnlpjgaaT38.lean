/- The walk of chapter 23's awake. -/
import Derived.Test.YtdndomjmnlpjgaaT37
import Derived.Test.YtdndomjmnlpjgaaT35
namespace Go.Proofs.Ytdndomjmnlpjgaa
open Go.RowKit
theorem Frames_at (l : List UInt8) (m : Nat) (a : Int) (ts : List Tok) (u : Nat) (fe fa : Int) (w : World) (h1 : 1 ≤ m) (h8 : m ≤ 8) (ha : 0 ≤ a) (hal : a + l.length ≤ 1099511627776) (hl : l.length ≤ 20000) (h : framesT m l.length l a = (ts, u, ⟨fe, fa⟩)) :
    Calls Try.prog 18 #[.string ⟨l.toArray⟩, .int .i64 m, .int .i64 a] w fun e w' => ∃ A cap, e = .returned (.tuple #[.slice A ts.length cap, .int .i64 u, .agg #[.int .i64 fe, .int .i64 fa]]) ∧
      Sl w' w'.heap.size 3 A ts.length cap (tokC ts) ∧ Below w.heap.size w w' := by
  have H := Frames_in l m a w h1 h8 ha hal hl
  rw [h] at H
  exact H
theorem frames_ex : framesT 2 8 [0, 2, 104, 105, 1, 0, 2, 0] 10 = ([⟨0, [104, 105], 10⟩, ⟨1, [], 14⟩, ⟨2, [], 16⟩], 8, ⟨0, 0⟩) := by decide
set_option maxRecDepth 100000 in
set_option maxHeartbeats 3200000 in
theorem awake23_any (w : World) : Calls Try.prog 16 #[] w fun e w' => e = .returned (.bool true) ∧ Below w.heap.size w w' := by
  have HF := Lib.hid (fun W => Frames_at [0, 2, 104, 105, 1, 0, 2, 0] 2 10 _ _ _ _ W (by decide) (by decide) (by decide) (by decide) (by decide) frames_ex)
  have HS := Lib.hid (fun A cap (W : World) => SameTokens_any A (some ⟨W.heap.size, 0, none⟩) cap 3 (W.heap.size + 1) [⟨0, [104, 105], 10⟩, ⟨1, [], 14⟩, ⟨2, [], 16⟩] [⟨0, [104, 105], 10⟩, ⟨1, [], 14⟩, ⟨2, [], 16⟩])
  go_enter Try.func16, Try.ntmps16
  go_wp2_with fail
  refine (HF.out _).mono ?_
  rintro e w1 ⟨A, cap, rfl, hS, hB⟩
  go_wp2_with fail
  have hb1 := (Below.refl w1.heap.size w1).alloc (Nat.le_refl _) (.cells #[.int .i64 0, .int .i64 0] 27)
  have hb2 := hb1.alloc (by simp) (.cells #[.int .i64 0, .string ⟨#[104, 105]⟩, .int .i64 10, .int .i64 1, .string ⟨#[]⟩, .int .i64 14, .int .i64 2, .string ⟨#[]⟩, .int .i64 16] 41)
  have hK := HS.out A cap (w1.alloc (.cells #[.int .i64 0, .int .i64 0] 27)) _ ((hS.below hb2 (Nat.le_refl _)).more (by simp; omega)) (sl_newT _ _ _ rfl (by decide)) (by decide) (by decide)
  rw [show (w1.alloc (.cells #[.int .i64 0, .int .i64 0] 27)).heap.size = w1.heap.size + 1 by simp] at hK
  refine Calls.mono hK ?_
  rintro e w2 ⟨rfl, hb3⟩
  have hB3 := below_on hB (below_on hb2 hb3 (Nat.le_refl _)) (Nat.le_refl _)
  clear hK hb1 hb2 hb3 hS hB HS HF
  go_wp2
  go_ret
  exact ⟨rfl, hB3⟩
end Go.Proofs.Ytdndomjmnlpjgaa
