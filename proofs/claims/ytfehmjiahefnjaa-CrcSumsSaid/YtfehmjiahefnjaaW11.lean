/- The walk of the law CrcSums: it returns true and leaves what was there. -/
import Derived.Test.YtfehmjiahefnjaaW10
namespace Go.Proofs.Ytfehmjiahefnjaa
open Go.RowKit
set_option maxHeartbeats 3200000 in
set_option maxRecDepth 100000 in
theorem CrcSums_any (c : Nat) (A : Option Addr) (cap : Nat) (ls : List (List UInt8)) (i : Int) (w : World) (hc : c < 4294967296) (h : Sl w w.heap.size 1 A ls.length cap (ls.map strV)) (hl : ∀ l ∈ ls, l.length ≤ maxLen) :
    Calls Try.prog 3 #[.int .u32 c, .slice A ls.length cap, .int .i64 i] w fun e w' => e = .returned (.bool true) ∧ Below w.heap.size w w' := by
  have hml : ls.length ≤ 9223372036854775807 := by have := h.2.1; have := h.2.2.1; unfold maxLen at this; omega
  by_cases h6 : 6 < ls.length
  · go_enter Try.func3, Try.ntmps3
    go_wp2_with (go_at_call 10; refine (awake_any _).mono ?_; rintro e w1 ⟨rfl, hb1⟩)
    go_ret
    exact ⟨rfl, hb1⟩
  have hS := Lib.hid (Short_any A cap w.heap.size ls 200 w h (by omega) hl)
  by_cases hs : shortB ls 200 = false
  · rw [hs] at hS
    clear hs
    go_enter Try.func3, Try.ntmps3
    go_wp2_with (first
      | (go_at_call 9; refine hS.out.mono ?_; rintro e w1 ⟨rfl, rfl⟩)
      | (go_at_call 10; refine (awake_any _).mono ?_; rintro e w1 ⟨rfl, hb1⟩))
    go_ret
    exact ⟨rfl, hb1⟩
  have hs1 : shortB ls 200 = true := by simpa using hs
  rw [hs1] at hS
  have hl2 : ∀ l ∈ ls, l.length ≤ 200 := by
    intro l hl
    unfold shortB at hs1
    have := List.all_eq_true.1 hs1 l hl
    have h2 : (l.length : Int) ≤ 200 := by simpa using this
    omega
  clear hs hs1
  go_enter Try.func3, Try.ntmps3
  go_wp2_with (go_at_call 9; refine hS.out.mono ?_; rintro e w1 ⟨rfl, rfl⟩)
  go_loopw [7] (fun i wr => ∃ k : Nat, k ≤ ls.length ∧ i = .int .i64 k ∧ Below w.heap.size w wr) (fun i _ => ls.length - (intOf i).toNat)
  case atStart => exact ⟨0, Nat.zero_le _, rfl, Below.refl _ _⟩
  case round =>
    obtain ⟨k, hk, rfl, hbel⟩ := hrel
    by_cases hlt : k < ls.length
    · obtain ⟨b, o, rfl, hb, hcell⟩ := sl_str (h.below hbel (Nat.le_refl _)) hlt
      have hlk := hl2 ls[k] (List.getElem_mem hlt)
      generalize ls[k] = x at *
      have HA : ∀ W, Below w.heap.size w W → Calls Try.prog 11 #[.int .u32 c, .string ⟨x.toArray⟩] W fun e W' => e = .returned (.int .u32 (addc c x)) ∧ Below w.heap.size w W' :=
        fun W hW => (add_any c x W hc (by omega)).mono fun e W' ⟨he, hb⟩ => ⟨he, hW.trans (hb.mono hW.size)⟩
      have HR : ∀ W, Calls Try.prog 12 #[.int .u32 c, .string ⟨x.toArray⟩] W fun e W' => e = .returned (.int .u32 (addc c x)) ∧ W = W' :=
        fun W => refAdd_any c x W hc (by omega)
      have HA' := Lib.hid HA; clear HA
      have HR' := Lib.hid HR; clear HR
      generalize addc c x = r at *
      have hbd := hbel.drew
      go_wp2_with fail
      go_region_held3 (fun W => Below w.heap.size w W ∧ W.cell? ⟨b, o + k, none⟩ = some (.string ⟨x.toArray⟩)) (exact ⟨by assumption, ((by assumption : Below w.heap.size w _).cell (p := ⟨b, o + k, none⟩) hb).trans ((hbel.cell (p := ⟨b, o + k, none⟩) hb).symm.trans hcell)⟩)
        (first
          | (go_at_call 11; refine (HA'.out _ ?_).mono ?_; (exact (by assumption : _ ∧ _).1); rintro e w2 ⟨rfl, hb2⟩)
          | (go_at_call 12; refine (HR'.out _).mono ?_; rintro e w2 ⟨rfl, rfl⟩))
      all_goals go_wp2
      all_goals go_roundw
      all_goals first
        | (case rel => exact ⟨k + 1, by omega, by go_num, by assumption⟩)
        | (case measure => simp [intOf]; omega)
    · have hs1 := h.below hbel (Nat.le_refl _)
      have hsz := hbel.size
      have hl3 : ∀ l ∈ ls, l.length ≤ 30000 := fun l hm => by have := hl2 l hm; omega
      have HT1 := Lib.hid (fun W => Table_any i W)
      have HT2 := Lib.hid (fun W => refTable_any i W)
      generalize tabN i = tn at *
      generalize tabE i = te at *
      go_wp2_with (go_at_call 13; refine (OwnTexts_any A cap w.heap.size ls _ hs1 hsz (by omega)).mono ?_; rintro e w2 ⟨⟨A2, cap2, rfl, hsl2⟩, hb2⟩)
      have hB2 := hbel.trans (hb2.mono hsz)
      refine (HT1.out _).mono ?_
      rintro e w3 ⟨rfl, hb3⟩
      have hB3 := hB2.trans (hb3.mono hB2.size)
      have hsl3 := hsl2.below hb3 (Nat.le_refl _)
      go_wp2_with fail
      refine (HT2.out _).mono ?_
      rintro e w4 ⟨rfl, rfl⟩
      have HO1 := Lib.hid (of_any A2 cap2 w2.heap.size ls w3 hsl3 hb3.size (by omega) hl3)
      have HO2 := Lib.hid (fun W (hW : Below w.heap.size w W) => refOf_any A cap w.heap.size ls W (h.below hW (Nat.le_refl _)) (by omega) hl3)
      generalize endc (ofs 4294967295 ls) = q at *
      go_wp2_with fail
      refine HO1.out.mono ?_
      rintro e w5 ⟨rfl, hb5⟩
      have hB5 := hB3.trans (hb5.mono hB3.size)
      have hsl5 := hsl3.below hb5 hb3.size
      go_wp2_with fail
      refine (HO2.out _ hB5).mono ?_
      rintro e w6 ⟨rfl, rfl⟩
      have HSm := Lib.hid (SameTexts_any A2 A cap2 cap w5.heap.size ls ls w5 (hsl5.more (Nat.le_trans hb3.size hb5.size)) ((h.below hB5 (Nat.le_refl _)).more hB5.size) (by omega) (by omega))
      rw [show decide (ls = ls) = true from decide_eq_true rfl] at HSm
      go_wp2_with fail
      refine HSm.out.mono ?_
      rintro e w7 ⟨rfl, n, rfl⟩
      have hB7 := hB5.trans ⟨rfl, rfl, rfl, Nat.le_refl _, fun _ _ => rfl⟩
      have hE1 := Lib.hid (fun W => end_any c W hc)
      have hE2 := Lib.hid (fun W => refEnd_any c W hc)
      generalize endc c = ec at *
      go_wp2_with (first
        | (go_at_call 19; refine (hE1.out _).mono ?_; rintro e w1 ⟨rfl, rfl⟩)
        | (go_at_call 20; refine (hE2.out _).mono ?_; rintro e w1 ⟨rfl, rfl⟩)
        | (go_at_call 21; refine (start_any _).mono ?_; rintro e w1 ⟨rfl, rfl⟩)
        | (go_at_call 22; refine (refStart_any _).mono ?_; rintro e w1 ⟨rfl, rfl⟩)
        | (go_at_call 10; refine (awake_any _).mono ?_; rintro e w8 ⟨rfl, hb8⟩))
      go_ret
      refine ⟨rfl, Below.trans (b := w5.drewN n) ?_ (hb8.mono ?_)⟩
      · exact ⟨hB5.os, hB5.tape, hB5.output, hB5.size, hB5.block⟩
      · exact hB5.size
end Go.Proofs.Ytfehmjiahefnjaa
