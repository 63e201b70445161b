/- law06: awake, keeps. No condition. -/
import Derived.Test.YtbobpgjgknkogaaI20
namespace Go.Proofs.Ytbobpgjgknkogaa
open Go.RowKit Go.Maps
/-- Block g is a table that reads as l. -/
def TB (W : World) (g : Nat) (l : List (List UInt8)) : Prop := ∃ A c, Blk W g 24 #[.slice A l.length c] ∧ Sl W W.heap.size 1 A l.length c (l.map strV)
theorem TB.on {W W' : World} {g : Nat} {l : List (List UInt8)} (h : TB W g l) (hb : Below W.heap.size W W') : TB W' g l :=
  let ⟨A, c, h1, h2⟩ := h; ⟨A, c, h1.on hb, (h2.below hb (Nat.le_refl _)).more hb.size⟩
theorem TB.new {w : World} {A : Option Addr} {c : Nat} {l : List (List UInt8)} (h : Sl w w.heap.size 1 A l.length c (l.map strV)) : TB (w.alloc (.cells #[.slice A l.length c] 24)) w.heap.size l :=
  ⟨A, c, Blk.new w _ _, (h.alloc (Nat.le_refl _) _).more (by simp)⟩
theorem find_B : findR shownL [66] = (1, 0) := by decide +kernel
theorem find_d : findR shownL [100] = (0, 7) := by decide +kernel
theorem find_no : findR shownL [] = (0, 5) := by decide +kernel
theorem int_d : internR shownL [100] false = ([[97], [66], [99, 49], [100]], 3, 0) := by decide +kernel
theorem sl_row4 (w : World) (D : Nat) (cs : Array Value) (e : TypeId) (n : Nat) (hn : cs.size = n) (hm : n ≤ maxLen) (hD : w.heap.size < D) : Sl (w.alloc (.cells cs e)) D 1 (some ⟨w.heap.size, 0, none⟩) n n cs.toList := (sl_row w cs e n hn hm).more hD
set_option maxRecDepth 100000 in
set_option maxHeartbeats 1600000 in
theorem awake_any (w : World) : Calls Try.prog 10 #[] w fun e w' => e = .returned (.bool true) ∧ Below w.heap.size w w' := by
  have HSh := Lib.hid shown_any
  have HF := Lib.hid (fun A W hS => Find_any A 3 W.heap.size shownL [66] W hS (Nat.le_refl _) (by decide) (by decide) (by decide))
  have HI := Lib.hid (fun A W hS => Intern_any A 3 W.heap.size shownL [100] W hS (Nat.le_refl _) (by decide) (by decide) (by decide))
  have HD := Lib.hid (fun W => finds_any [100] W (by decide))
  rw [find_B] at HF
  rw [int_d] at HI
  rw [find_d] at HD
  unfold tabPost at HI
  go_enter Try.func10, Try.ntmps10
  go_wp2_with fail
  refine (HSh.out _).mono ?_
  rintro e w1 ⟨⟨A, rfl, s1⟩, hb1⟩
  have Q := Lib.hid (HF.out A w1 s1)
  have HB := Lib.hid hb1
  clear s1 hb1
  go_wp2_with fail
  refine Q.out.mono ?_
  rintro e w2 ⟨rfl, hb2⟩
  have HB2 := Lib.hid (below_on HB.out hb2 (Nat.le_refl _))
  clear hb2 HB Q HF
  go_wp2_with fail
  refine (HSh.out _).mono ?_
  rintro e w3 ⟨⟨A, rfl, s3⟩, hb3⟩
  have Q := Lib.hid (HI.out A w3 s3)
  have HB3 := Lib.hid (below_on HB2.out hb3 (Nat.le_refl _))
  clear s3 hb3 HB2 HI
  go_wp2_with fail
  refine Q.out.mono ?_
  rintro e w4 ⟨⟨A4, c4, rfl, s4⟩, hb4⟩
  have hB4 := below_on HB3.out hb4 (Nat.le_refl _)
  have hT := TB.new (l := [[97], [66], [99, 49], [100]]) s4
  have hB5 := hB4.alloc hB4.size (.cells #[.slice A4 4 c4] 24)
  have HT := Lib.hid hT
  have HB5 := Lib.hid hB5
  clear hb4 hB4 hT hB5 s4 HB3 Q HSh
  go_wp2_with fail
  refine (HD.out _).mono ?_
  rintro e w6 ⟨rfl, hb6⟩
  obtain ⟨A6, c6, b6, s6⟩ := HT.out.on hb6
  have hB6 := below_on HB5.out hb6 (Nat.le_refl _)
  have c0 := (cells1 b6).1
  have hB7 := hB6.alloc hB6.size (.cells #[.string ⟨#[97]⟩, .string ⟨#[66]⟩, .string ⟨#[99, 49]⟩, .string ⟨#[100]⟩] 9)
  have s7 := s6.alloc (Nat.le_refl _) (.cells #[.string ⟨#[97]⟩, .string ⟨#[66]⟩, .string ⟨#[99, 49]⟩, .string ⟨#[100]⟩] 9)
  have s8 := sl_row w6 #[.string ⟨#[97]⟩, .string ⟨#[66]⟩, .string ⟨#[99, 49]⟩, .string ⟨#[100]⟩] 9 4 rfl (by decide)
  have Q := Lib.hid (SameTexts_any A6 _ c6 _ (w6.heap.size + 1) [[97], [66], [99, 49], [100]] [[97], [66], [99, 49], [100]] _ (s7.more (by omega)) s8 (by decide) (by decide))
  have HB7 := Lib.hid hB7
  clear s6 s7 s8 hB6 hB7 b6 hb6 HT HB5
  go_wp2_with fail
  refine Q.out.mono ?_
  rintro e w8 ⟨rfl, hb8⟩
  have HB8 := Lib.hid (below_on HB7.out hb8 (Nat.le_refl _))
  clear hb8
  go_wp2_with fail
  go_ret
  exact ⟨rfl, HB8.out⟩
set_option maxRecDepth 100000 in
set_option maxHeartbeats 1600000 in
theorem keeps_any (A : Option Addr) (cap D : Nat) (ws : List Int) (w : World) (hS : Sl w D 1 A ws.length cap (ws.map intV)) (hD : D ≤ w.heap.size) (hn : ws.length ≤ 1000) :
    Calls Try.prog 37 #[.slice A ws.length cap] w fun e w' => e = .returned (.int .i64 (keepR shownL ws).2) ∧ Below w.heap.size w w' := by
  have HSh := Lib.hid shown_any
  have HK := Lib.hid (fun A1 W h1 h2 => Keep_any A1 A 3 cap W.heap.size shownL ws W h1 h2 (Nat.le_refl _) (by decide) hn (by decide))
  have HS := Lib.hid hS
  unfold tab2Post at HK
  generalize keepR shownL ws = R at *
  clear hS
  go_enter Try.func37, Try.ntmps37
  go_wp2_with fail
  refine (HSh.out _).mono ?_
  rintro e w1 ⟨⟨A1, rfl, s1⟩, hb1⟩
  have Q := Lib.hid (HK.out A1 w1 s1 ((HS.out.below hb1 hD).more (Nat.le_trans hD hb1.size)))
  have HB := Lib.hid hb1
  clear s1 hb1 HSh
  go_wp2_with fail
  refine Q.out.mono ?_
  rintro e w2 ⟨⟨A2, c2, rfl, s2⟩, hb2⟩
  have hB2 := below_on HB.out hb2 (Nat.le_refl _)
  have HB2 := Lib.hid (hB2.alloc hB2.size (.cells #[.slice A2 R.1.length c2] 24))
  clear hb2 s2 hB2 HB Q HK
  go_wp2_with fail
  go_ret
  exact ⟨rfl, HB2.out⟩
end Go.Proofs.Ytbobpgjgknkogaa
