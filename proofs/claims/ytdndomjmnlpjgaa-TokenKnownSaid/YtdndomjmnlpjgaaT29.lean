/- The walk of TokenKnown. -/
import Derived.Test.YtdndomjmnlpjgaaT28
namespace Go.Proofs.Ytdndomjmnlpjgaa
open Go.RowKit
set_option maxRecDepth 100000 in
set_option maxHeartbeats 1600000 in
theorem faulty_any (l : List UInt8) (e : Int) (w : World) (hl : l.length ≤ 30000) (h : readT l 2 7 = tok0 ∧ readU l 2 7 = 0 ∧ readF l 2 7 = ⟨e, 7⟩) :
    Calls Try.prog 52 #[.string ⟨l.toArray⟩, .int .i64 e] w fun x w' => x = .returned (.bool true) ∧ Below w.heap.size w w' := by
  have HR := fun W => Read_any l 2 7 W hl
  rw [h.1, h.2.1, h.2.2] at HR
  unfold tok0 Tok.v Fault.v at HR
  have HR' := Lib.hid HR
  clear HR h
  go_enter Try.func52, Try.ntmps52
  go_wp2_with fail
  refine (HR'.out _).mono ?_
  rintro x w1 ⟨rfl, hb1⟩
  have hB := (hb1.alloc hb1.size (.cells #[.int .i64 0, .string ⟨#[]⟩, .int .i64 0] 41)).alloc (by have := hb1.size; simp; omega) (.cells #[.int .i64 e, .int .i64 7] 27)
  go_wp2_with fail
  go_ret
  exact ⟨rfl, hB⟩
theorem begins_at (l : List UInt8) (n : Int) (b : Bool) (e : Int) (w : World) (hl : l.length ≤ 30000) (h : begB l n = b ∧ begE l n = e) :
    Calls Try.prog 42 #[.string ⟨l.toArray⟩, .int .i64 n] w fun x w' => x = .returned (.tuple #[.bool b, .int .i64 e]) ∧ Below w.heap.size w w' := by
  have H := begins_any l n w hl
  rw [h.1, h.2] at H
  exact H
theorem check_at' (sy a : Int) (x : List UInt8) (n e : Int) (w : World) (hl : x.length ≤ maxLen) (h : checkE ⟨sy, x, a⟩ n = e) :
    Calls Try.prog 36 #[.agg #[.int .i64 sy, .string ⟨x.toArray⟩, .int .i64 a], .int .i64 n] w fun y w' => y = .returned (.int .i64 e) ∧ Below w.heap.size w w' := by
  have H := check_any ⟨sy, x, a⟩ n w hl
  rw [h] at H
  exact H
theorem separates_at (sy a : Int) (x : List UInt8) (n : Int) (b : Bool) (w : World) (hl : x.length ≤ maxLen) (h : sepB ⟨sy, x, a⟩ n = b) :
    Calls Try.prog 39 #[.agg #[.int .i64 sy, .string ⟨x.toArray⟩, .int .i64 a], .int .i64 n] w fun y w' => y = .returned (.bool b) ∧ Below w.heap.size w w' := by
  have H := separates_any ⟨sy, x, a⟩ n w hl
  rw [h] at H
  exact H
theorem sl_new3 (w : World) (l : List Tok) (cs : Array Value) (h : cs.toList = tokC l) (hm : l.length ≤ maxLen) :
    Sl (w.alloc (.cells cs 41)) (w.heap.size + 1) 3 (some ⟨w.heap.size, 0, none⟩) l.length l.length (tokC l) :=
  ⟨tokC_len l, Nat.le_refl _, hm, fun _ => ⟨w.heap.size, 0, rfl, by omega, fun j u hu => by
    rw [Nat.zero_add, (Blk.new w 41 cs).cell j, ← hu, ← h, Array.getElem?_toList]⟩⟩
def sepT : Tok := ⟨2, [], 0⟩
def longL : List UInt8 := [49, 50, 51, 52, 53, 54, 55, 56, 57, 48, 49, 50, 51, 52, 53, 54, 55, 56, 57, 48, 49, 50, 51, 52, 53]
theorem known_list : listL [hiT, sepT] 2 = [0, 2, 104, 105, 2, 0] ∧ listE [hiT, sepT] 2 = 0 := by decide
theorem known_place : placeR [hiT, ⟨1, [], 0⟩] 2 5 = [⟨0, [104, 105], 5⟩, ⟨1, [], 9⟩] ∧ placeE [hiT, ⟨1, [], 0⟩] 2 5 = 0 := by decide
theorem known_placed : placedE [⟨0, [104, 105], 5⟩, ⟨1, [], 9⟩] 2 = 0 ∧ placedE [⟨0, [104, 105], 5⟩, ⟨1, [], 8⟩] 2 = 9 := by decide
theorem kList (W : World) : Calls Try.prog 44 #[.slice (some ⟨W.heap.size, 0, none⟩) 2 2, .int .i64 2] (W.alloc (.cells #[.int .i64 0, .string ⟨#[104, 105]⟩, .int .i64 7, .int .i64 2, .string ⟨#[]⟩, .int .i64 0] 41)) fun e w' => e = .returned (.tuple #[.string ⟨#[0, 2, 104, 105, 2, 0]⟩, .int .i64 0]) ∧ Below (W.alloc (.cells #[.int .i64 0, .string ⟨#[104, 105]⟩, .int .i64 7, .int .i64 2, .string ⟨#[]⟩, .int .i64 0] 41)).heap.size (W.alloc (.cells #[.int .i64 0, .string ⟨#[104, 105]⟩, .int .i64 7, .int .i64 2, .string ⟨#[]⟩, .int .i64 0] 41)) w' := by
  have H := List_any (some ⟨W.heap.size, 0, none⟩) 2 (W.heap.size + 1) [hiT, sepT] 2 (W.alloc (.cells #[.int .i64 0, .string ⟨#[104, 105]⟩, .int .i64 7, .int .i64 2, .string ⟨#[]⟩, .int .i64 0] 41)) (sl_new3 W [hiT, sepT] _ rfl (by decide)) (by simp) (by decide) (by decide)
  rw [known_list.1, known_list.2] at H
  exact H
theorem kPlace (W : World) : Calls Try.prog 47 #[.slice (some ⟨W.heap.size, 0, none⟩) 2 2, .int .i64 2, .int .i64 5] (W.alloc (.cells #[.int .i64 0, .string ⟨#[104, 105]⟩, .int .i64 7, .int .i64 1, .string ⟨#[]⟩, .int .i64 0] 41)) fun e w' => (∃ g cap cur, e = .returned (.tuple #[.slice (some ⟨g, 0, none⟩) 2 cap, .int .i64 0]) ∧ W.heap.size + 1 ≤ g ∧ 2 ≤ cap ∧ cap ≤ maxLen ∧ Blk w' g 41 cur ∧ cur.size = cap * 3 ∧ cur.toList.take 6 = tokC [⟨0, [104, 105], 5⟩, ⟨1, [], 9⟩]) ∧ Below (W.alloc (.cells #[.int .i64 0, .string ⟨#[104, 105]⟩, .int .i64 7, .int .i64 1, .string ⟨#[]⟩, .int .i64 0] 41)).heap.size (W.alloc (.cells #[.int .i64 0, .string ⟨#[104, 105]⟩, .int .i64 7, .int .i64 1, .string ⟨#[]⟩, .int .i64 0] 41)) w' := by
  have H := Place_any (some ⟨W.heap.size, 0, none⟩) 2 (W.heap.size + 1) [hiT, ⟨1, [], 0⟩] 2 5 (W.alloc (.cells #[.int .i64 0, .string ⟨#[104, 105]⟩, .int .i64 7, .int .i64 1, .string ⟨#[]⟩, .int .i64 0] 41)) (sl_new3 W [hiT, ⟨1, [], 0⟩] _ rfl (by decide)) (by simp) (by decide) (by decide)
  rw [known_place.1, known_place.2] at H
  refine H.mono ?_
  rintro e w' ⟨A2, cap2, rfl, hown, hb⟩
  refine ⟨?_, hb⟩
  have hc2 := hown.2.1
  rcases hown.2.2.2 with h0 | ⟨g, cur, rfl, hg, hbk, hs, hx⟩
  · rw [h0] at hc2; simp at hc2
  · exact ⟨g, cap2, cur, rfl, by simpa using hg, hc2, hown.2.2.1, hbk, hs, hx⟩
theorem sl_row2 {w : World} {g cap : Nat} {cur : Array Value} {l : List Tok} (hb : Blk w g 41 cur) (hc : l.length ≤ cap) (hm : cap ≤ maxLen) (hx : cur.toList.take (l.length * 3) = tokC l) :
    Sl w w.heap.size 3 (some ⟨g, 0, none⟩) l.length cap (tokC l) :=
  ⟨tokC_len l, hc, hm, fun _ => ⟨g, 0, rfl, hb.lt, fun j u hu => by
    rw [Nat.zero_add, hb.cell j]
    rw [← hx, List.getElem?_take] at hu
    split at hu
    · simpa using hu
    · cases hu⟩⟩
set_option maxRecDepth 100000 in
set_option maxHeartbeats 3200000 in
theorem TokenKnown_any (w : World) :
    Calls Try.prog 15 #[] w fun e w' => e = .returned (.bool true) ∧ Below w.heap.size w w' := by
  have HA := Lib.hid (fun W => awake07_any W)
  have HHi := Lib.hid (fun W => hi_any W)
  have HSz := Lib.hid (fun W => size_any hiT W (by decide))
  have HB0 := fun W => Bytes_any sepT 2 W (by decide)
  rw [show bytesL sepT 2 = [2, 0] by decide, show checkE sepT 2 = 0 by decide] at HB0
  have HB := Lib.hid HB0; clear HB0
  unfold hiT sepT Tok.v at *
  rw [show (2 : Int) + (([104, 105] : List UInt8).length : Nat) = 4 from rfl] at HSz
  have F0 := Lib.hid (fun W => faulty_any [0, 2, 104] 5 W (by decide) (by decide))
  have F1 := Lib.hid (fun W => faulty_any [] 5 W (by decide) (by decide))
  have F2 := Lib.hid (fun W => faulty_any [3] 14 W (by decide) (by decide))
  have F3 := Lib.hid (fun W => faulty_any [0, 25] 4 W (by decide) (by decide))
  have F4 := Lib.hid (fun W => faulty_any [128] 26 W (by decide) (by decide))
  have F5 := Lib.hid (fun W => faulty_any [128, 1] 26 W (by decide) (by decide))
  have F6 := Lib.hid (fun W => faulty_any [0, 128] 26 W (by decide) (by decide))
  have F7 := Lib.hid (fun W => faulty_any [0, 152, 1] 26 W (by decide) (by decide))
  have G0 := Lib.hid (fun W => begins_at [0, 2, 104] 2 true 0 W (by decide) (by decide))
  have G1 := Lib.hid (fun W => begins_at [0, 0] 2 false 0 W (by decide) (by decide))
  have G2 := Lib.hid (fun W => begins_at [] 2 true 0 W (by decide) (by decide))
  have G3 := Lib.hid (fun W => begins_at [3] 2 false 14 W (by decide) (by decide))
  have G4 := Lib.hid (fun W => begins_at [] 9 false 2 W (by decide) (by decide))
  have C0 := Lib.hid (fun W => check_at' 3 0 [] 2 14 W (by decide) (by decide))
  have C1 := Lib.hid (fun W => check_at' 0 0 longL 2 4 W (by decide) (by decide))
  have C2 := Lib.hid (fun W => check_at' 0 (-1) [] 2 2 W (by decide) (by decide))
  have C3 := Lib.hid (fun W => check_at' 0 0 [] 0 2 W (by decide) (by decide))
  have S0 := Lib.hid (fun W => separates_at 2 0 [] 2 true W (by decide) (by decide))
  have S1 := Lib.hid (fun W => separates_at 1 0 [] 2 false W (by decide) (by decide))
  have S2 := Lib.hid (fun W => separates_at 2 0 [] 3 false W (by decide) (by decide))
  unfold longL at C1
  have hT0 := Blk.new w 41 #[.int .i64 2, .string ⟨#[]⟩, .int .i64 0]
  have hB0 := (Below.refl w.heap.size w).alloc (Nat.le_refl _) (.cells #[.int .i64 2, .string ⟨#[]⟩, .int .i64 0] 41)
  go_enter Try.func15, Try.ntmps15
  go_wp2_with fail
  refine (HB.out _).mono ?_
  rintro e w1 ⟨rfl, hb1⟩
  have hT1 := Blk.on hT0 hb1
  have hB1 := below_on hB0 hb1 (Nat.le_refl _)
  clear hT0 hB0 hb1
  go_wp2_with fail
  refine (HHi.out _).mono ?_
  rintro e w2 ⟨rfl, hb2⟩
  have hT2 := Blk.on hT1 hb2
  have hB2 := below_on hB1 hb2 (Nat.le_refl _)
  clear hT1 hB1 hb2
  go_wp2_with fail
  refine (HSz.out _).mono ?_
  rintro e w3 ⟨rfl, hb3⟩
  have hT3 := Blk.on hT2 hb3
  have hB3 := below_on hB2 hb3 (Nat.le_refl _)
  clear hT2 hB2 hb3
  go_wp2_with fail
  refine (F0.out _).mono ?_
  rintro e w4 ⟨rfl, hb4⟩
  have hT4 := Blk.on hT3 hb4
  have hB4 := below_on hB3 hb4 (Nat.le_refl _)
  clear hT3 hB3 hb4
  go_wp2_with fail
  refine (F1.out _).mono ?_
  rintro e w5 ⟨rfl, hb5⟩
  have hT5 := Blk.on hT4 hb5
  have hB5 := below_on hB4 hb5 (Nat.le_refl _)
  clear hT4 hB4 hb5
  go_wp2_with fail
  refine (F2.out _).mono ?_
  rintro e w6 ⟨rfl, hb6⟩
  have hT6 := Blk.on hT5 hb6
  have hB6 := below_on hB5 hb6 (Nat.le_refl _)
  clear hT5 hB5 hb6
  go_wp2_with fail
  refine (F3.out _).mono ?_
  rintro e w7 ⟨rfl, hb7⟩
  have hT7 := Blk.on hT6 hb7
  have hB7 := below_on hB6 hb7 (Nat.le_refl _)
  clear hT6 hB6 hb7
  go_wp2_with fail
  refine (F4.out _).mono ?_
  rintro e w8 ⟨rfl, hb8⟩
  have hT8 := Blk.on hT7 hb8
  have hB8 := below_on hB7 hb8 (Nat.le_refl _)
  clear hT7 hB7 hb8
  go_wp2_with fail
  refine (F5.out _).mono ?_
  rintro e w9 ⟨rfl, hb9⟩
  have hT9 := Blk.on hT8 hb9
  have hB9 := below_on hB8 hb9 (Nat.le_refl _)
  clear hT8 hB8 hb9
  go_wp2_with fail
  refine (F6.out _).mono ?_
  rintro e w10 ⟨rfl, hb10⟩
  have hT10 := Blk.on hT9 hb10
  have hB10 := below_on hB9 hb10 (Nat.le_refl _)
  clear hT9 hB9 hb10
  go_wp2_with fail
  refine (F7.out _).mono ?_
  rintro e w11 ⟨rfl, hb11⟩
  have hT11 := Blk.on hT10 hb11
  have hB11 := below_on hB10 hb11 (Nat.le_refl _)
  clear hT10 hB10 hb11
  go_wp2_with fail
  refine (G0.out _).mono ?_
  rintro e w12 ⟨rfl, hb12⟩
  have hT12 := Blk.on hT11 hb12
  have hB12 := below_on hB11 hb12 (Nat.le_refl _)
  clear hT11 hB11 hb12
  go_wp2_with fail
  refine (G1.out _).mono ?_
  rintro e w13 ⟨rfl, hb13⟩
  have hT13 := Blk.on hT12 hb13
  have hB13 := below_on hB12 hb13 (Nat.le_refl _)
  clear hT12 hB12 hb13
  go_wp2_with fail
  refine (G2.out _).mono ?_
  rintro e w14 ⟨rfl, hb14⟩
  have hT14 := Blk.on hT13 hb14
  have hB14 := below_on hB13 hb14 (Nat.le_refl _)
  clear hT13 hB13 hb14
  go_wp2_with fail
  refine (G3.out _).mono ?_
  rintro e w15 ⟨rfl, hb15⟩
  have hT15 := Blk.on hT14 hb15
  have hB15 := below_on hB14 hb15 (Nat.le_refl _)
  clear hT14 hB14 hb15
  go_wp2_with fail
  refine (G4.out _).mono ?_
  rintro e w16 ⟨rfl, hb16⟩
  have hT16 := Blk.on hT15 hb16
  have hB16 := below_on hB15 hb16 (Nat.le_refl _)
  clear hT15 hB15 hb16
  clear HB HSz F0 F1 F2 F3 F4 F5 F6 F7 G0 G1 G2 G3 G4
  have hL16 := Blk.new w16 41 #[.int .i64 0, .string ⟨#[49, 50, 51, 52, 53, 54, 55, 56, 57, 48, 49, 50, 51, 52, 53, 54, 55, 56, 57, 48, 49, 50, 51, 52, 53]⟩, .int .i64 0]
  have hT16a := hT16.alloc (.cells #[.int .i64 0, .string ⟨#[49, 50, 51, 52, 53, 54, 55, 56, 57, 48, 49, 50, 51, 52, 53, 54, 55, 56, 57, 48, 49, 50, 51, 52, 53]⟩, .int .i64 0] 41)
  have hB16a := hB16.alloc hB16.size (.cells #[.int .i64 0, .string ⟨#[49, 50, 51, 52, 53, 54, 55, 56, 57, 48, 49, 50, 51, 52, 53, 54, 55, 56, 57, 48, 49, 50, 51, 52, 53]⟩, .int .i64 0] 41)
  clear hT16 hB16
  have hT16 := hT16a
  have hB16 := hB16a
  clear hT16a hB16a
  go_wp2_with fail
  refine (C0.out _).mono ?_
  rintro e w17 ⟨rfl, hb17⟩
  have hT17 := Blk.on hT16 hb17
  have hL17 := Blk.on hL16 hb17
  have hB17 := below_on hB16 hb17 (Nat.le_refl _)
  clear hT16 hL16 hB16 hb17
  obtain ⟨l0, l1, l2, g0, g1, g2⟩ := cells3 hL17
  go_wp2_with fail
  refine (C1.out _).mono ?_
  rintro e w18 ⟨rfl, hb18⟩
  have hT18 := Blk.on hT17 hb18
  have hL18 := Blk.on hL17 hb18
  have hB18 := below_on hB17 hb18 (Nat.le_refl _)
  clear hT17 hL17 hB17 hb18
  clear l0 l1 l2 g0 g1 g2 hL18
  go_wp2_with fail
  refine (C2.out _).mono ?_
  rintro e w19 ⟨rfl, hb19⟩
  have hT19 := Blk.on hT18 hb19
  have hB19 := below_on hB18 hb19 (Nat.le_refl _)
  clear hT18 hB18 hb19
  go_wp2_with fail
  refine (C3.out _).mono ?_
  rintro e w20 ⟨rfl, hb20⟩
  have hT20 := Blk.on hT19 hb20
  have hB20 := below_on hB19 hb20 (Nat.le_refl _)
  clear hT19 hB19 hb20
  clear C0 C1 C2 C3
  obtain ⟨c0, c1, c2, f0, f1, f2⟩ := cells3 hT20
  go_wp2_with fail
  have hTd := hT20.drew
  have hBd := hB20.drew
  clear hT20 hB20
  have KL := Lib.hid (fun W => kList W)
  have KP := Lib.hid (fun W => kPlace W)
  go_region_with (first
    | (go_at_call 51; refine (HHi.out _).mono ?_; rintro e wa ⟨rfl, hba⟩; obtain ⟨d0, d1, d2, k0, k1, k2⟩ := cells3 (Blk.on hTd hba))
    | (go_at_call 44; refine (KL.out _).mono ?_; rintro e wb ⟨rfl, hbb⟩))
  all_goals
    have hTb := Blk.on ((Blk.on hTd hba).alloc (.cells #[.int .i64 0, .string ⟨#[104, 105]⟩, .int .i64 7, .int .i64 2, .string ⟨#[]⟩, .int .i64 0] 41)) hbb
    have hBa := below_on hBd hba (Nat.le_refl _)
    have hBb := below_on (hBa.alloc hBa.size (.cells #[.int .i64 0, .string ⟨#[104, 105]⟩, .int .i64 7, .int .i64 2, .string ⟨#[]⟩, .int .i64 0] 41)) hbb (Nat.le_refl _)
    clear hTd hBd hba hbb hBa c0 c1 c2 f0 f1 f2 d0 d1 d2 k0 k1 k2 KL
    go_wp2_with fail
    refine (HHi.out _).mono ?_
    rintro e wc ⟨rfl, hbc⟩
    have hTc := Blk.on hTb hbc
    have hBc := below_on hBb hbc (Nat.le_refl _)
    clear hTb hBb hbc HHi
    go_wp2_with fail
    refine (KP.out _).mono ?_
    rintro e wd ⟨⟨g, cap, cur, rfl, hg, hc2, hcm, hbk, hs, hx⟩, hbd⟩
    have hTe := Blk.on (hTc.alloc (.cells #[.int .i64 0, .string ⟨#[104, 105]⟩, .int .i64 7, .int .i64 1, .string ⟨#[]⟩, .int .i64 0] 41)) hbd
    have hBe := below_on (hBc.alloc hBc.size (.cells #[.int .i64 0, .string ⟨#[104, 105]⟩, .int .i64 7, .int .i64 1, .string ⟨#[]⟩, .int .i64 0] 41)) hbd (Nat.le_refl _)
    have hgw : w.heap.size ≤ g := by have := hBc.size; omega
    have hgT : w.heap.size ≠ g := by have := hTc.lt; omega
    have hsl := sl_row2 (l := [⟨0, [104, 105], 5⟩, ⟨1, [], 9⟩]) hbk hc2 hcm hx
    have KQ := Lib.hid (Placed_any (some ⟨g, 0, none⟩) cap wd.heap.size [⟨0, [104, 105], 5⟩, ⟨1, [], 9⟩] 2 wd hsl (Nat.le_refl _) (by decide) (by decide))
    rw [known_placed.1] at KQ
    clear hTc hBc hbd KP hsl hg
    obtain ⟨x0, x1, x2, x3, x4, x5⟩ : cur[0]? = some (.int .i64 0) ∧ cur[1]? = some (.string ⟨#[104, 105]⟩) ∧ cur[2]? = some (.int .i64 5) ∧ cur[3]? = some (.int .i64 1) ∧ cur[4]? = some (.string ⟨#[]⟩) ∧ cur[5]? = some (.int .i64 9) := by
      have hy : ∀ j, j < 6 → cur[j]? = (tokC [⟨0, [104, 105], 5⟩, ⟨1, [], 9⟩])[j]? := fun j hj => by rw [← hx, List.getElem?_take, if_pos hj, Array.getElem?_toList]
      exact ⟨hy 0 (by decide), hy 1 (by decide), hy 2 (by decide), hy 3 (by decide), hy 4 (by decide), hy 5 (by decide)⟩
    have y2 := (hbk.cell 2).trans x2
    have y5 := (hbk.cell 5).trans x5
    have hcz : (2 : Int) ≤ cap := by omega
    have hx' := Lib.hid hx
    clear x0 x1 x3 x4 x2 hx
    go_wp2_with fail
    refine KQ.out.mono ?_
    rintro e wf ⟨rfl, hbf⟩
    have hbk2 := Blk.on hbk hbf
    have hTf := Blk.on hTe hbf
    have hBf := below_on hBe hbf (Nat.le_refl _)
    have z5 := (hbk2.cell 5).trans x5
    have zf := hbk2.frozen (i := 5) (by rw [hs]; omega)
    have hbk3 := hbk2.set 5 (.int .i64 8)
    have hTg := hTf.far (p := ⟨g, 5, none⟩) hgT (.int .i64 8)
    have hBg := hBf.setCell (p := ⟨g, 5, none⟩) hgw (.int .i64 8)
    have hsl2 := sl_row2 (l := [⟨0, [104, 105], 5⟩, ⟨1, [], 8⟩]) hbk3 hc2 hcm (by
      show List.take 6 _ = _
      rw [Array.toList_setIfInBounds, List.take_set, hx'.out]; rfl)
    have KR := Lib.hid (Placed_any (some ⟨g, 0, none⟩) cap (wf.setCell ⟨g, 5, none⟩ (.int .i64 8)).heap.size [⟨0, [104, 105], 5⟩, ⟨1, [], 8⟩] 2 (wf.setCell ⟨g, 5, none⟩ (.int .i64 8)) hsl2 (Nat.le_refl _) (by decide) (by decide))
    rw [known_placed.2] at KR
    clear KQ hbk hbk2 hbk3 hTe hTf hBe hBf hbf hsl2 hx' y2 y5 x5
    go_wp2_with fail
    refine KR.out.mono ?_
    rintro e wg ⟨rfl, hbg⟩
    have hT50 := Blk.on hTg hbg
    have hB50 := below_on hBg hbg (Nat.le_refl _)
    clear KR hTg hBg hbg z5 zf
    obtain ⟨c0, c1, c2, f0, f1, f2⟩ := cells3 hT50
    go_wp2_with fail
    refine (S0.out _).mono ?_
    rintro e w51 ⟨rfl, hb51⟩
    have hT51 := Blk.on hT50 hb51
    have hB51 := below_on hB50 hb51 (Nat.le_refl _)
    clear hT50 hB50 hb51 c0 c1 c2 f0 f1 f2 S0
    obtain ⟨c0, c1, c2, f0, f1, f2⟩ := cells3 hT51
    go_wp2_with fail
    refine (S1.out _).mono ?_
    rintro e w52 ⟨rfl, hb52⟩
    have hT52 := Blk.on hT51 hb52
    have hB52 := below_on hB51 hb52 (Nat.le_refl _)
    clear hT51 hB51 hb52 c0 c1 c2 f0 f1 f2 S1
    obtain ⟨c0, c1, c2, f0, f1, f2⟩ := cells3 hT52
    go_wp2_with fail
    refine (S2.out _).mono ?_
    rintro e w53 ⟨rfl, hb53⟩
    have hT53 := Blk.on hT52 hb53
    have hB53 := below_on hB52 hb53 (Nat.le_refl _)
    clear hT52 hB52 hb53 c0 c1 c2 f0 f1 f2 S2
    obtain ⟨c0, c1, c2, f0, f1, f2⟩ := cells3 hT53
    go_wp2_with fail
    refine (HA.out _).mono ?_
    rintro e w54 ⟨rfl, hb54⟩
    have hT54 := Blk.on hT53 hb54
    have hB54 := below_on hB53 hb54 (Nat.le_refl _)
    clear hT53 hB53 hb54 c0 c1 c2 f0 f1 f2 
    go_wp2_with fail
    go_ret
    exact ⟨rfl, hB54⟩
end Go.Proofs.Ytdndomjmnlpjgaa
