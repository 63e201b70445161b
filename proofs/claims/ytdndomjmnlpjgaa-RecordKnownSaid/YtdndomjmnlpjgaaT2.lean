/- Walks of tokens: take, one byte of a frame. -/
import Derived.Test.YtdndomjmnlpjgaaT1
namespace Go.Proofs.Ytdndomjmnlpjgaa
open Go.RowKit
def rdC (st left sy : Int) (tx : List UInt8) (a : Int) : Array Value := #[.int .i64 st, .int .i64 left, .int .i64 sy, .string ⟨tx.toArray⟩, .int .i64 a]
theorem rd_cells {w : World} {g : Nat} {T : TypeId} {st left sy a : Int} {tx : List UInt8} (h : Blk w g T (rdC st left sy tx a)) :
    w.cell? ⟨g, 0, none⟩ = some (.int .i64 st) ∧ w.cell? ⟨g, 1, none⟩ = some (.int .i64 left) ∧ w.cell? ⟨g, 2, none⟩ = some (.int .i64 sy) ∧ w.cell? ⟨g, 3, none⟩ = some (.string ⟨tx.toArray⟩) ∧ w.cell? ⟨g, 4, none⟩ = some (.int .i64 a) ∧
    w.frozen? ⟨g, 0, none⟩ = false ∧ w.frozen? ⟨g, 1, none⟩ = false ∧ w.frozen? ⟨g, 2, none⟩ = false ∧ w.frozen? ⟨g, 3, none⟩ = false ∧ w.frozen? ⟨g, 4, none⟩ = false :=
  ⟨h.cell 0, h.cell 1, h.cell 2, h.cell 3, h.cell 4, h.frozen (by simp [rdC]), h.frozen (by simp [rdC]), h.frozen (by simp [rdC]), h.frozen (by simp [rdC]), h.frozen (by simp [rdC])⟩
set_option maxRecDepth 100000 in
set_option maxHeartbeats 1600000 in
theorem take0_any (b n : Nat) (left sy a : Int) (tx : List UInt8) (g B : Nat) (w : World) (hB : B ≤ g) (hb : b < 256) (h : Blk w g 103 (rdC 0 left sy tx a)) :
    Calls Try.prog 81 #[.pointer (some ⟨g, 0, none⟩), .int .u8 b, .int .i64 n] w fun e w' =>
      e = .returned (.int .i64 (if 128 ≤ b then 26 else if n < b then 14 else 0)) ∧ Below B w w' ∧ (b < 128 → b ≤ n → Blk w' g 103 (rdC 1 left b tx a)) := by
  obtain ⟨c0, c1, c2, c3, c4, f0, f1, f2, f3, f4⟩ := rd_cells h
  have H := Lib.hid h; clear h
  by_cases h1 : 128 ≤ b
  · rw [if_pos h1]
    go_enter Try.func81, Try.ntmps81
    go_wp2
    go_ret
    exact ⟨rfl, Below.refl _ _, fun h => absurd h1 (by omega)⟩
  by_cases h2 : n < b
  · rw [if_neg h1, if_pos h2]
    go_enter Try.func81, Try.ntmps81
    go_wp2
    go_ret
    exact ⟨rfl, Below.refl _ _, fun _ h => absurd h2 (by omega)⟩
  rw [if_neg h1, if_neg h2]
  go_enter Try.func81, Try.ntmps81
  go_wp2
  go_ret
  refine ⟨rfl, (Below.refl B w).setCell (p := ⟨g, 2, none⟩) hB _ |>.setCell (p := ⟨g, 0, none⟩) hB _, fun _ _ => ?_⟩
  exact (H.out.set 2 (.int .i64 b)).set 0 (.int .i64 1)
set_option maxRecDepth 100000 in
set_option maxHeartbeats 1600000 in
theorem take1_any (b n : Nat) (left sy a : Int) (tx : List UInt8) (g B : Nat) (w : World) (hB : B ≤ g) (hb : b < 256) (h : Blk w g 103 (rdC 1 left sy tx a)) :
    Calls Try.prog 81 #[.pointer (some ⟨g, 0, none⟩), .int .u8 b, .int .i64 n] w fun e w' =>
      e = .returned (.int .i64 (if 128 ≤ b then 26 else if 24 < b then 4 else 0)) ∧ Below B w w' ∧ (b ≤ 24 → Blk w' g 103 (rdC (if b = 0 then 3 else 2) b sy tx a)) := by
  obtain ⟨c0, c1, c2, c3, c4, f0, f1, f2, f3, f4⟩ := rd_cells h
  have H := Lib.hid h; clear h
  by_cases h1 : 128 ≤ b
  · rw [if_pos h1]
    go_enter Try.func81, Try.ntmps81
    go_wp2
    go_ret
    exact ⟨rfl, Below.refl _ _, fun h => absurd h1 (by omega)⟩
  by_cases h2 : 24 < b
  · rw [if_neg h1, if_pos h2]
    go_enter Try.func81, Try.ntmps81
    go_wp2
    go_ret
    exact ⟨rfl, Below.refl _ _, fun h => absurd h2 (by omega)⟩
  rw [if_neg h1, if_neg h2]
  by_cases h3 : b = 0
  · subst h3
    rw [if_pos rfl]
    go_enter Try.func81, Try.ntmps81
    go_wp2
    go_ret
    refine ⟨rfl, ((Below.refl B w).setCell (p := ⟨g, 1, none⟩) hB _ |>.setCell (p := ⟨g, 0, none⟩) hB _ |>.setCell (p := ⟨g, 0, none⟩) hB _), fun _ => ?_⟩
    exact ((H.out.set 1 (.int .i64 0)).set 0 (.int .i64 2)).set 0 (.int .i64 3)
  · rw [if_neg h3]
    have h4 : 0 < b := by omega
    clear h3
    go_enter Try.func81, Try.ntmps81
    go_wp2
    go_ret
    refine ⟨rfl, (Below.refl B w).setCell (p := ⟨g, 1, none⟩) hB _ |>.setCell (p := ⟨g, 0, none⟩) hB _, fun _ => ?_⟩
    exact (H.out.set 1 (.int .i64 b)).set 0 (.int .i64 2)
end Go.Proofs.Ytdndomjmnlpjgaa
