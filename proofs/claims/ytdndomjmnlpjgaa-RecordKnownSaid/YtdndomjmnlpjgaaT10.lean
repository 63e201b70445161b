/- Walks of tokens: joined, head, Bytes. -/
import Derived.Test.YtdndomjmnlpjgaaT9
import Derived.Test.YtdndomjmnlpjgaaShelf
namespace Go.Proofs.Ytdndomjmnlpjgaa
open Go.RowKit
theorem join_flat (xs : List (List UInt8)) : Lib.join xs [] = xs.flatten := by
  cases xs with
  | nil => rfl
  | cons x r =>
    rw [Lib.join_cons]
    unfold Lib.joinTail
    simp
theorem map_bytes (ls : List (List UInt8)) : (ls.map (fun l => (⟨l.toArray⟩ : ByteArray))).map (·.data.toList) = ls := by
  rw [List.map_map]
  conv => rhs; rw [← List.map_id ls]
  exact List.map_congr_left (fun _ _ => rfl)
set_option maxRecDepth 100000 in
theorem joined_any (bk o c : Nat) (ls : List (List UInt8)) (w : World) (hcells : ∀ (j : Nat) x, ls[j]? = some x → w.cell? ⟨bk, o + j, none⟩ = some (.string ⟨x.toArray⟩)) (hbk : bk < w.heap.size) (hN : ls.length ≤ 100000) (hcap : ls.length ≤ c) (hlen : ls.flatten.length ≤ 1000000000) :
    Calls Try.prog 66 #[.slice (some ⟨bk, o, none⟩) ls.length c] w fun e w' => e = .returned (.string ⟨ls.flatten.toArray⟩) ∧ Below w.heap.size w w' := by
  have H := Lib.hid (Try.strings_Join bk o c (ls.map (fun l => ⟨l.toArray⟩)) ⟨#[]⟩ w (by
    intro j x hx
    rw [List.getElem?_map] at hx
    cases hj : ls[j]? with
    | none => rw [hj] at hx; cases hx
    | some y => rw [hj] at hx; cases hx; exact hcells j y hj) hbk (by rw [List.length_map]; omega) (by rw [List.length_map]; exact hcap) (by rw [map_bytes]; rw [show (ByteArray.mk #[]).data.toList = [] from rfl, join_flat]; omega))
  rw [map_bytes, show (ByteArray.mk #[]).data.toList = [] from rfl, join_flat, List.length_map] at H
  clear hcells
  go_enter Try.func66, Try.ntmps66
  go_wp2_with (go_at_call 80; refine (H.out).mono ?_; rintro e w1 ⟨rfl, hb⟩)
  go_ret
  exact ⟨rfl, hb⟩
theorem joined2_any (W : World) (x y : List UInt8) (hx : x.length ≤ 10000) (hy : y.length ≤ 10000) :
    Calls Try.prog 66 #[.slice (some ⟨W.heap.size, 0, none⟩) 2 2] (W.alloc (.cells #[.string ⟨x.toArray⟩, .string ⟨y.toArray⟩] 9)) fun e w' => e = .returned (.string ⟨(x ++ y).toArray⟩) ∧ Below (W.heap.size + 1) (W.alloc (.cells #[.string ⟨x.toArray⟩, .string ⟨y.toArray⟩] 9)) w' := by
  have hb := Blk.new W 9 #[.string ⟨x.toArray⟩, .string ⟨y.toArray⟩]
  have h := joined_any W.heap.size 0 2 [x, y] (W.alloc (.cells #[.string ⟨x.toArray⟩, .string ⟨y.toArray⟩] 9)) (by
    intro j z hz
    rw [Nat.zero_add]
    match j, hz with
    | 0, hz => cases hz; exact hb.cell 0
    | 1, hz => cases hz; exact hb.cell 1) (by simp) (by simp) (by simp) (by simp; omega)
  rw [show ([x, y] : List (List UInt8)).flatten = x ++ y by simp, World.size_alloc] at h
  exact h
theorem run_byte_str (W : World) (k : Nat) (hk : k < 256) : (convert 30 9 (.slice (some ⟨W.heap.size, 0, none⟩) 1 1)).run Try.prog (W.alloc (.cells #[.int .u8 k] 5)) = .ok (.string ⟨[UInt8.ofNat k].toArray⟩) (W.alloc (.cells #[.int .u8 k] 5)) := by
  have h := run_bytes_back (P := Try.prog) 30 9 5 Try.underlying30 Try.underlying5 Try.underlying9 (n := 1) (l := [UInt8.ofNat k]) rfl (sl_byte W (UInt8.ofNat k))
  rw [show (UInt8.ofNat k).toNat = k from Nat.mod_eq_of_lt hk] at h
  exact h
theorem or_fin : ∀ s : Fin 9, ∀ k : Fin 25, bits BinOp.or IntKind.u16 ((s.val : Int) * 256) k.val = ((s.val * 256 + k.val : Nat) : Int) := by decide
theorem or_head (s k : Nat) (hs : s ≤ 8) (hk : k ≤ 24) : bits BinOp.or IntKind.u16 ((s : Int) * 256) k = ((s * 256 + k : Nat) : Int) := or_fin ⟨s, by omega⟩ ⟨k, by omega⟩
set_option maxRecDepth 100000 in
set_option maxHeartbeats 3200000 in
theorem head_any (t : Tok) (s : Nat) (hs : t.sym = s) (hs8 : s ≤ 8) (hl : t.text.length ≤ 24) (w : World) :
    Calls Try.prog 67 #[t.v] w fun e w' => e = .returned (.string ⟨#[UInt8.ofNat s, UInt8.ofNat t.text.length]⟩) ∧ Below w.heap.size w w' := by
  have hB := (Below.refl w.heap.size w).alloc (Nat.le_refl _) (.cells #[.int .i64 t.sym, .string ⟨t.text.toArray⟩, .int .i64 t.at_] 41)
  obtain ⟨sy, x, a⟩ := t
  unfold Tok.v
  simp only at *
  subst hs
  go_enter Try.func67, Try.ntmps67
  go_wp2
  rw [or_head s x.length hs8 hl]
  have hN : s * 256 + x.length < 65536 := by omega
  have h0 : ((s * 256 + x.length : Nat) : Int) / 256 = s := by omega
  have h1 : ((s * 256 + x.length : Nat) : Int) % 256 = x.length := by omega
  generalize s * 256 + x.length = N at *
  go_loopw [4, 15] (fun o i W => ∃ (k : Nat), k ≤ 2 ∧ i = .int .i64 k ∧ o = .string ⟨(([UInt8.ofNat s, UInt8.ofNat x.length] : List UInt8).take k).toArray⟩ ∧ Below w.heap.size w W) (fun _ i _ => 2 - (intOf i).toNat)
  case atStart => exact ⟨0, Nat.zero_le _, rfl, rfl, hB⟩
  case round =>
    obtain ⟨k, hk, rfl, rfl, hB2⟩ := hrel
    clear hB
    have hk3 : k = 0 ∨ k = 1 ∨ k = 2 := by omega
    rcases hk3 with rfl | rfl | rfl
    · have hcv := run_byte_str wr s (by omega)
      have HJ0 := joined2_any (wr.alloc (.cells #[.int .u8 s] 5)) [] [UInt8.ofNat s] (by simp) (by simp)
      rw [World.size_alloc] at HJ0
      have HJ := Lib.hid HJ0; clear HJ0
      have HB := Lib.hid hB2; clear hB2
      rw [List.take_zero]
      go_wp2_with fail
      refine HJ.out.mono ?_
      rintro e w3 ⟨rfl, hb3⟩
      go_wp2_with fail
      go_roundw
      case rel => exact ⟨1, by omega, rfl, rfl, (((HB.out.alloc HB.out.size _).alloc (by have := HB.out.size; simp; omega) _)).trans (hb3.mono (by have := HB.out.size; simp; omega))⟩
      case measure => decide
    · have hcv := run_byte_str wr x.length (by omega)
      have HJ0 := joined2_any (wr.alloc (.cells #[.int .u8 x.length] 5)) [UInt8.ofNat s] [UInt8.ofNat x.length] (by simp) (by simp)
      rw [World.size_alloc] at HJ0
      have HJ := Lib.hid HJ0; clear HJ0
      have HB := Lib.hid hB2; clear hB2
      rw [show List.take 1 [UInt8.ofNat s, UInt8.ofNat x.length] = [UInt8.ofNat s] from rfl]
      go_wp2_with fail
      refine HJ.out.mono ?_
      rintro e w3 ⟨rfl, hb3⟩
      go_wp2_with fail
      go_roundw
      case rel => exact ⟨2, by omega, rfl, rfl, (((HB.out.alloc HB.out.size _).alloc (by have := HB.out.size; simp; omega) _)).trans (hb3.mono (by have := HB.out.size; simp; omega))⟩
      case measure => decide
    · go_wp2_with fail
      go_ret
      exact ⟨rfl, hB2⟩
end Go.Proofs.Ytdndomjmnlpjgaa
