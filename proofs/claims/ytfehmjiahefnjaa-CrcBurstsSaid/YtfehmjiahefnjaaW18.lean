/- The walk of the law CrcKnown: the chapter's examples. -/
import Derived.Test.YtfehmjiahefnjaaW14
namespace Go.Proofs.Ytfehmjiahefnjaa
open Go.RowKit
theorem sl_row (w : World) (cs : Array Value) (e : TypeId) (n : Nat) (hn : cs.size = n) (hm : n ≤ maxLen) : Sl (w.alloc (.cells cs e)) (w.heap.size + 1) 1 (some ⟨w.heap.size, 0, none⟩) n n cs.toList :=
  ⟨by simp [hn], Nat.le_refl _, hm, fun _ => ⟨w.heap.size, 0, rfl, by omega, fun j u hu => by
    rw [Nat.zero_add, (Blk.new w e cs).cell j, ← hu, Array.getElem?_toList]⟩⟩
set_option maxRecDepth 100000 in
theorem kn_tab (i : Int) (n : Nat) (e : Int) (w : World) (h1 : tabN i = n) (h2 : tabE i = e) : Calls Try.prog 14 #[.int .i64 i] w fun x w' => x = .returned (.tuple #[.int .u32 n, .int .i64 e]) ∧ Below w.heap.size w w' := by
  have h := Table_any i w
  rw [h1, h2] at h
  exact h
theorem kn_seal0 (w : World) : Calls Try.prog 23 #[.string ⟨#[]⟩] w fun e w' => e = .returned (.tuple #[.string ⟨#[0, 0, 0, 0]⟩, .int .i64 0]) ∧ Below w.heap.size w w' := by
  have h := Seal_any [] w (by decide)
  rw [show sealE [] = 0 by decide +kernel, show sealS [] = [0, 0, 0, 0] by decide +kernel] at h
  exact h
theorem kn_open0 (w : World) : Calls Try.prog 25 #[.string ⟨#[0, 0, 0, 0]⟩] w fun e w' => e = .returned (.tuple #[.string ⟨#[]⟩, .int .i64 0]) ∧ Below w.heap.size w w' := by
  have h := Open_any [0, 0, 0, 0] w (by decide)
  rw [show openE [0, 0, 0, 0] = 0 by decide +kernel, show openS [0, 0, 0, 0] = [] by decide +kernel] at h
  exact h
theorem kn_opens (l : List UInt8) (e : Int) (w : World) (h1 : openE l = e) (h2 : l.length ≤ maxLen) : Calls Try.prog 33 #[.string ⟨l.toArray⟩] w fun x w' => x = .returned (.int .i64 e) ∧ Below w.heap.size w w' := by
  have h := opens_any l w h2
  rw [h1] at h
  exact h
theorem kn_of (w : World) : Calls Try.prog 16 #[.slice (some ⟨w.heap.size, 0, none⟩) 2 2] (w.alloc (.cells #[.string ⟨#[49, 50, 51, 52]⟩, .string ⟨#[53, 54, 55, 56, 57]⟩] 9)) fun e w' => e = .returned (.int .u32 3421780262) ∧ Below w.heap.size w w' := by
  have h := of_any (some ⟨w.heap.size, 0, none⟩) 2 (w.heap.size + 1) [[49, 50, 51, 52], [53, 54, 55, 56, 57]] _ (sl_row w #[.string ⟨#[49, 50, 51, 52]⟩, .string ⟨#[53, 54, 55, 56, 57]⟩] 9 2 rfl (by decide)) (by simp) (by simp) (by simp)
  rw [show endc (ofs 4294967295 [[49, 50, 51, 52], [53, 54, 55, 56, 57]]) = 3421780262 by decide +kernel] at h
  exact h.mono fun e w' ⟨he, hb⟩ => ⟨he, ((Below.refl _ w).alloc (Nat.le_refl _) _).trans (hb.mono (by simp))⟩
theorem kn_flip (l : List UInt8) (bs : List Int) (k : Nat) (cs : Array Value) (w : World) (s : List UInt8) (e : Int) (hk : bs.length = k) (hc : cs.toList = bs.map intV) (h1 : flipS l bs = s) (h2 : flipE l bs = e) (hl : l.length ≤ 30000) (hb : ∀ i ∈ bs, i ≤ 9223372036854775807) (hk2 : k ≤ 1000000) :
    Calls Try.prog 28 #[.string ⟨l.toArray⟩, .slice (some ⟨w.heap.size, 0, none⟩) k k] (w.alloc (.cells cs 3)) fun x w' => x = .returned (.tuple #[.string ⟨s.toArray⟩, .int .i64 e]) ∧ Below w.heap.size w w' := by
  subst hk
  have hz : cs.size = bs.length := by rw [← Array.length_toList, hc, List.length_map]
  have h := Flip_any l (some ⟨w.heap.size, 0, none⟩) bs.length (w.heap.size + 1) bs _ (by rw [← hc]; exact sl_row w cs 3 bs.length hz (by unfold maxLen; omega)) (by simp) hk2 hl hb
  rw [h1, h2] at h
  exact h.mono fun e w' ⟨he, hb⟩ => ⟨he, ((Below.refl _ w).alloc (Nat.le_refl _) _).trans (hb.mono (by simp))⟩
theorem kn_bits (w : World) : Calls Try.prog 31 #[.string ⟨#[97]⟩, .string ⟨#[99]⟩] w fun e w' => (∃ A cap, e = .returned (.tuple #[.slice A 1 cap, .int .i64 0]) ∧ Sl w' w'.heap.size 1 A 1 cap [.int .i64 1]) ∧ Below w.heap.size w w' := by
  have h := Bits_any [97] [99] w rfl (by decide)
  rw [show diffTo [97] [99] [(97 : UInt8)].length = [1] by decide +kernel] at h
  exact h
theorem kn_same (A : Option Addr) (cap : Nat) (D : Nat) (w : World) (h : Sl w D 1 A 1 cap [.int .i64 1]) (hD : D ≤ w.heap.size) : Calls Try.prog 30 #[.slice A 1 cap, .slice (some ⟨w.heap.size, 0, none⟩) 1 1] (w.alloc (.cells #[.int .i64 1] 3)) fun e w' => e = .returned (.bool true) ∧ Below w.heap.size w w' := by
  have h := SameInts_any A (some ⟨w.heap.size, 0, none⟩) cap 1 (w.heap.size + 1) [1] [1] _ ((h.alloc hD (.cells #[.int .i64 1] 3)).more (by omega)) (sl_row w #[.int .i64 1] 3 1 rfl (by decide)) (by simp) (by simp)
  exact h.mono fun e w' ⟨he, n, hb⟩ => ⟨he, by subst hb; exact ((Below.refl _ w).alloc (Nat.le_refl _) _).trans ⟨rfl, rfl, rfl, Nat.le_refl _, fun _ _ => rfl⟩⟩
set_option maxRecDepth 100000 in
set_option maxHeartbeats 1000000 in
theorem CrcKnown_walk (S F : List UInt8) (w : World)
    (hab : ∀ W, Calls Try.prog 23 #[.string ⟨#[97, 98]⟩] W fun e w' => e = .returned (.tuple #[.string ⟨S.toArray⟩, .int .i64 0]) ∧ Below W.heap.size W w')
    (hS : ∀ W, Calls Try.prog 28 #[.string ⟨S.toArray⟩, .slice (some ⟨W.heap.size, 0, none⟩) 1 1] (W.alloc (.cells #[.int .i64 0] 3)) fun x w' => x = .returned (.tuple #[.string ⟨F.toArray⟩, .int .i64 0]) ∧ Below W.heap.size W w')
    (hU : ∀ W, Calls Try.prog 33 #[.string ⟨F.toArray⟩] W fun x w' => x = .returned (.int .i64 13) ∧ Below W.heap.size W w') :
    Calls Try.prog 5 #[] w fun e w' => e = .returned (.bool true) ∧ Below w.heap.size w w' := by
  go_enter Try.func5, Try.ntmps5
  go_wp2_with fail
  refine (kn_tab 0 0 0 _ (by decide +kernel) (by decide +kernel)).mono ?_
  rintro e w1 ⟨rfl, hb1⟩
  go_wp2_with fail
  refine (kn_tab 1 1996959894 0 _ (by decide +kernel) (by decide +kernel)).mono ?_
  rintro e w2 ⟨rfl, hb2⟩
  have hB2 := hb1.trans (hb2.mono hb1.size)
  go_wp2_with fail
  refine (kn_tab 256 0 2 _ (by decide +kernel) (by decide +kernel)).mono ?_
  rintro e w3 ⟨rfl, hb3⟩
  have hB3 := hB2.trans (hb3.mono hB2.size)
  go_wp2_with fail
  refine (kn_seal0 _).mono ?_
  rintro e w4 ⟨rfl, hb4⟩
  have hB4 := hB3.trans (hb4.mono hB3.size)
  go_wp2_with fail
  refine (kn_open0 _).mono ?_
  rintro e w5 ⟨rfl, hb5⟩
  have hB5 := hB4.trans (hb5.mono hB4.size)
  go_wp2_with fail
  refine (hab _).mono ?_
  rintro e w6 ⟨rfl, hb6⟩
  have hB6 := hB5.trans (hb6.mono hB5.size)
  clear hB2 hB3 hB4 hB5 hb1 hb2 hb3 hb4 hb5 hb6
  go_wp2_with fail
  refine (hS _).mono ?_
  rintro e w7 ⟨rfl, hb7⟩
  have hB7 := hB6.trans (hb7.mono hB6.size)
  go_wp2_with fail
  refine (kn_of w7).mono ?_
  rintro e w8 ⟨rfl, hb8⟩
  have hB8 := hB7.trans (hb8.mono hB7.size)
  go_wp2_with fail
  refine (kn_flip [97] [0] 1 #[.int .i64 0] w8 [96] 0 rfl rfl (by decide +kernel) (by decide +kernel) (by decide) (by simp) (by decide)).mono ?_
  rintro e w9 ⟨rfl, hb9⟩
  have hB9 := hB8.trans (hb9.mono hB8.size)
  go_wp2_with fail
  refine (kn_flip [97] [1, 1] 2 #[.int .i64 1, .int .i64 1] w9 [97] 0 rfl rfl (by decide +kernel) (by decide +kernel) (by decide) (by simp) (by decide)).mono ?_
  rintro e w10 ⟨rfl, hb10⟩
  have hB10 := hB9.trans (hb10.mono hB9.size)
  go_wp2_with fail
  refine (kn_flip [97] [8] 1 #[.int .i64 8] w10 [] 2 rfl rfl (by decide +kernel) (by decide +kernel) (by decide) (by simp) (by decide)).mono ?_
  rintro e w11 ⟨rfl, hb11⟩
  have hB11 := hB10.trans (hb11.mono hB10.size)
  clear hB6 hB7 hB8 hB9 hB10 hb7 hb8 hb9 hb10 hb11
  go_wp2_with fail
  refine (kn_bits w11).mono ?_
  rintro e w12 ⟨⟨A, cap, rfl, hsl⟩, hb12⟩
  have hB12 := hB11.trans (hb12.mono hB11.size)
  go_wp2_with fail
  refine (kn_same A cap _ w12 hsl (Nat.le_refl _)).mono ?_
  rintro e w13 ⟨rfl, hb13⟩
  have hB13 := hB12.trans (hb13.mono hB12.size)
  go_wp2_with fail
  refine (awake_any w13).mono ?_
  rintro e w14 ⟨rfl, hb14⟩
  have hB14 := hB13.trans (hb14.mono hB13.size)
  go_wp2_with fail
  refine (kn_opens [97, 98, 99] 5 w14 (by decide +kernel) (by decide +kernel)).mono ?_
  rintro e w15 ⟨rfl, hb15⟩
  have hB15 := hB14.trans (hb15.mono hB14.size)
  go_wp2_with fail
  refine (hU _).mono ?_
  rintro e w16 ⟨rfl, hb16⟩
  have hB16 := hB15.trans (hb16.mono hB15.size)
  go_wp2_with fail
  go_ret
  exact ⟨rfl, hB16⟩
theorem CrcKnown_any (w : World) : Calls Try.prog 5 #[] w fun e w' => e = .returned (.bool true) ∧ Below w.heap.size w w' :=
  CrcKnown_walk (sealS [97, 98]) (flipS (sealS [97, 98]) [0]) w ab_seal
    (fun W => kn_flip (sealS [97, 98]) [0] 1 #[.int .i64 0] W (flipS (sealS [97, 98]) [0]) 0 rfl rfl rfl (by decide +kernel) (by decide +kernel) (by simp) (by decide))
    (fun W => kn_opens (flipS (sealS [97, 98]) [0]) 13 W (by decide +kernel) (by decide +kernel))
end Go.Proofs.Ytfehmjiahefnjaa
