/- For FrameBack: Mod, a string of two bytes, frames. -/
import Derived.Test.YtfcbbolokhcknaaFa20
namespace Go.Proofs.Ytfcbbolokhcknaa
open Go.RowKit
set_option maxHeartbeats 1600000 in
theorem Mod_any (a n : Int) (w : World) (h1 : 1 ≤ n) (h2 : n ≤ 9223372036854775807) :
    Calls Try.prog 27 #[.int .i64 a, .int .i64 n] w fun e w' => e = .returned (.int .i64 (a % n)) ∧ w = w' := by
  have hlo : -n < a.tmod n := by
    have := Int.lt_tmod_of_pos a (show 0 < n by omega)
    omega
  have hhi : a.tmod n < n := Int.tmod_lt_of_pos a (by omega)
  have hbase : a % n = a.tmod n % n := by
    have h := Int.mul_tdiv_add_tmod a n
    have h2 := Int.mul_add_emod_self_left n (a.tdiv n) (a.tmod n)
    rw [h] at h2
    exact h2
  by_cases hneg : a.tmod n < 0
  · have he : a % n = a.tmod n + n := by
      rw [hbase, ← Int.add_emod_right, Int.emod_eq_of_lt (by omega) (by omega)]
    rw [he]
    go_enter Try.func27, Try.ntmps27
    go_wp2
    go_ret
    exact ⟨rfl, rfl⟩
  · have he : a % n = a.tmod n := by
      rw [hbase, Int.emod_eq_of_lt (by omega) (by omega)]
    rw [he]
    go_enter Try.func27, Try.ntmps27
    go_wp2
    go_ret
    exact ⟨rfl, rfl⟩
theorem run_bytes2_str (W : World) (j k : Nat) (hj : j < 256) (hk : k < 256) : (convert 41 9 (.slice (some ⟨W.heap.size, 0, none⟩) 2 2)).run Try.prog (W.alloc (.cells #[.int .u8 j, .int .u8 k] 5)) = .ok (.string ⟨[UInt8.ofNat j, UInt8.ofNat k].toArray⟩) (W.alloc (.cells #[.int .u8 j, .int .u8 k] 5)) := by
  have h := run_bytes_back (P := Try.prog) 41 9 5 Try.underlying41 Try.underlying5 Try.underlying9 (n := 2) (l := [UInt8.ofNat j, UInt8.ofNat k]) rfl (sl_row W #[.int .u8 (UInt8.ofNat j).toNat, .int .u8 (UInt8.ofNat k).toNat] 5 2 rfl (by decide))
  rw [show (UInt8.ofNat j).toNat = j from Nat.mod_eq_of_lt hj, show (UInt8.ofNat k).toNat = k from Nat.mod_eq_of_lt hk] at h
  exact h
/-- The frame of a token. -/
def frB (t : Tok) : List UInt8 := [UInt8.ofNat t.sym.toNat, UInt8.ofNat t.text.length] ++ t.text
def frL (l : List Tok) : List UInt8 := (l.map frB).flatten
theorem frB_len (t : Tok) : (frB t).length = 2 + t.text.length := by unfold frB; simp; omega
theorem frL_snoc (l : List Tok) (t : Tok) : frL (l ++ [t]) = frL l ++ frB t := by unfold frL; rw [List.map_append, List.flatten_append]; simp
theorem frL_len : ∀ l : List Tok, (frL l).length = sumL l
  | [] => rfl
  | t :: l => by
    have ih := frL_len l
    unfold frL sumL at *
    rw [List.map_cons, List.flatten_cons, List.length_append, ih, frB_len, List.map_cons, List.sum_cons]
theorem ibs_app (k : List UInt8) : ∀ (n : Nat) (l : List UInt8), n + l.length + k.length ≤ 1000 → ibs n (l ++ k) = ibs n l ++ ibs (n + l.length) k
  | n, [], _ => by simp [ibs]
  | n, b :: l, h => by
    have hn : n < 1000 := by simp at h; omega
    have ih := ibs_app k (n + 1) l (by simp at h; omega)
    have e : n + 1 + l.length = n + (l.length + 1) := by omega
    rw [List.cons_append]
    show (if h : n < 1000 then ⟨(n, b), h⟩ :: ibs (n + 1) (l ++ k) else []) = (if h : n < 1000 then ⟨(n, b), h⟩ :: ibs (n + 1) l else []) ++ _
    rw [dif_pos hn, dif_pos hn, ih, e, List.length_cons, List.cons_append]
theorem stC_app (m : Nat) (p0 : List UInt8) (n : Nat) (l k : List UInt8) (h : n + l.length + k.length ≤ 1000) : stC m p0 (ibs n (l ++ k)) = (ibs (n + l.length) k).foldl (stepC m) (stC m p0 (ibs n l)) := by
  unfold stC
  rw [ibs_app k n l h, List.foldl_append]
end Go.Proofs.Ytfcbbolokhcknaa
