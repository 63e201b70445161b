/- The law's awake and takes. No condition. -/
import Derived.Test.YtogldckkmjbohaaQ12
namespace Go.Proofs.Ytogldckkmjbohaa
open Go.RowKit
def x1 : Ev := ⟨3, 0, 0, 0, 1, [], 0⟩
def x2 : Ev := ⟨6, 0, 0, 2, 2, [], 0⟩
def x3 : Ev := ⟨1, 0, 0, 3, 3, [], 0⟩
theorem event1 (w : World) : Calls Try.prog 25 #[.int .i64 1] w fun e w' => e = .returned (.agg #[.int .i64 3, .int .i64 0, .int .i64 0, .int .i64 0, .int .i64 1, .string ⟨#[]⟩, .int .i64 0]) ∧ Below w.heap.size w w' := by
  have h := event_any 1 w
  rw [show evOf (1 % 1048576) = x1 by decide] at h
  exact h
theorem event2 (w : World) : Calls Try.prog 25 #[.int .i64 2] w fun e w' => e = .returned (.agg #[.int .i64 6, .int .i64 0, .int .i64 0, .int .i64 2, .int .i64 2, .string ⟨#[]⟩, .int .i64 0]) ∧ Below w.heap.size w w' := by
  have h := event_any 2 w
  rw [show evOf (2 % 1048576) = x2 by decide] at h
  exact h
theorem event3 (w : World) : Calls Try.prog 25 #[.int .i64 3] w fun e w' => e = .returned (.agg #[.int .i64 1, .int .i64 0, .int .i64 0, .int .i64 3, .int .i64 3, .string ⟨#[]⟩, .int .i64 0]) ∧ Below w.heap.size w w' := by
  have h := event_any 3 w
  rw [show evOf (3 % 1048576) = x3 by decide] at h
  exact h
theorem qPut_in {q : Int} {l l2 : List Ev} {t : Ev} {er : Int} (h : put1R q l t = (l2, er)) (A : Option Addr) (cap D : Nat) (w : World) (hS : Sl w D 7 A l.length cap (evC l)) (hD : D ≤ w.heap.size) (hn : l.length ≤ 1000) (hl : ∀ t ∈ l, t.text.length ≤ maxLen) (ht : t.text.length ≤ maxLen) :
    Calls Try.prog 15 #[.int .i64 q, .slice A l.length cap, t.v] w fun e w' => (∃ A2 c2, e = .returned (.tuple #[.slice A2 l2.length c2, .int .i64 er]) ∧ Sl w' w'.heap.size 7 A2 l2.length c2 (evC l2)) ∧ Below w.heap.size w w' := by
  have := qPut_any q A cap D l t w hS hD hn hl ht
  rw [h] at this
  exact this
theorem sl_newE (w : World) (l : List Ev) (cs : Array Value) (h : cs.toList = evC l) (hm : l.length ≤ maxLen) :
    Sl (w.alloc (.cells cs 34)) (w.heap.size + 1) 7 (some ⟨w.heap.size, 0, none⟩) l.length l.length (evC l) :=
  ⟨evC_len l, Nat.le_refl _, hm, fun _ => ⟨w.heap.size, 0, rfl, by omega, fun j u hu => by
    rw [Nat.zero_add, (Blk.new w 34 cs).cell j, ← hu, ← h, Array.getElem?_toList]⟩⟩
set_option maxRecDepth 100000 in
set_option maxHeartbeats 3200000 in
theorem awake30_any (w : World) : Calls Try.prog 8 #[] w fun e w' => e = .returned (.bool true) ∧ Below w.heap.size w w' := by
  have H1 := Lib.hid event1
  have H2 := Lib.hid event2
  have H3 := Lib.hid event3
  have P1 := Lib.hid (fun W => qPut_in (q := 2) (l := []) (t := x1) (l2 := [x1]) (er := 0) (by decide) none 0 W.heap.size W (Sl.nil _ _ _) (Nat.le_refl _) (by decide) (by simp) (by simp [x1]))
  have P2 := Lib.hid (fun A cap W hS => qPut_in (q := 2) (l := [x1]) (t := x2) (l2 := [x1, x2]) (er := 0) (by decide) A cap W.heap.size W hS (Nat.le_refl _) (by decide) (by simp [x1]) (by simp [x2]))
  have P3 := Lib.hid (fun A cap W hS => qPut_in (q := 2) (l := [x1, x2]) (t := x3) (l2 := []) (er := 6) (by decide) A cap W.heap.size W hS (Nat.le_refl _) (by decide) (by simp [x1, x2]) (by simp [x3]))
  have PS := Lib.hid (fun A1 c1 A2 c2 W h1 h2 => same_any A1 A2 c1 c2 W.heap.size [x1, x2] [x1, x2] W h1 h2 (by decide) (by decide))
  rw [show decide ([x1, x2] = [x1, x2]) = true by simp] at PS
  go_enter Try.func8, Try.ntmps8
  go_wp2_with fail
  refine (H1.out _).mono ?_
  rintro e w1 ⟨rfl, hb1⟩
  go_wp2_with fail
  refine (P1.out _).mono ?_
  rintro e w2 ⟨⟨A2, c2, rfl, s2⟩, hb2⟩
  have hB2 := below_on hb1 hb2 (Nat.le_refl _)
  clear hb1 hb2
  go_wp2_with fail
  refine (H2.out _).mono ?_
  rintro e w3 ⟨rfl, hb3⟩
  have hB3 := below_on hB2 hb3 (Nat.le_refl _)
  have Q2 := Lib.hid (P2.out A2 c2 w3 ((s2.below hb3 (Nat.le_refl _)).more hb3.size))
  clear s2 hb3 hB2 P2
  go_wp2_with fail
  refine Q2.out.mono ?_
  rintro e w4 ⟨⟨A4, c4, rfl, s4⟩, hb4⟩
  have hB4 := below_on hB3 hb4 (Nat.le_refl _)
  clear hb4 hB3 Q2
  go_wp2_with fail
  refine (H3.out _).mono ?_
  rintro e w5 ⟨rfl, hb5⟩
  have hB5 := below_on hB4 hb5 (Nat.le_refl _)
  have s5 := (s4.below hb5 (Nat.le_refl _)).more hb5.size
  have Q3 := Lib.hid (P3.out A4 c4 w5 s5)
  clear s4 hb5 hB4 P3
  go_wp2_with fail
  refine Q3.out.mono ?_
  rintro e w6 ⟨⟨A6, c6, rfl, _⟩, hb6⟩
  have hB6 := below_on hB5 hb6 (Nat.le_refl _)
  have s6 := (s5.below hb6 (Nat.le_refl _)).more hb6.size
  clear s5 hb6 hB5 Q3
  go_wp2_with fail
  refine (H1.out _).mono ?_
  rintro e w7 ⟨rfl, hb7⟩
  have hB7 := below_on hB6 hb7 (Nat.le_refl _)
  have s7 := (s6.below hb7 (Nat.le_refl _)).more hb7.size
  clear s6 hb7 hB6
  go_wp2_with fail
  refine (H2.out _).mono ?_
  rintro e w8 ⟨rfl, hb8⟩
  have hB8 := below_on hB7 hb8 (Nat.le_refl _)
  have s8 := (s7.below hb8 (Nat.le_refl _)).more hb8.size
  have sN := sl_newE w8 [x1, x2] #[.int .i64 3, .int .i64 0, .int .i64 0, .int .i64 0, .int .i64 1, .string ⟨#[]⟩, .int .i64 0, .int .i64 6, .int .i64 0, .int .i64 0, .int .i64 2, .int .i64 2, .string ⟨#[]⟩, .int .i64 0] rfl (by decide)
  have s9 := (s8.alloc (Nat.le_refl _) (.cells #[.int .i64 3, .int .i64 0, .int .i64 0, .int .i64 0, .int .i64 1, .string ⟨#[]⟩, .int .i64 0, .int .i64 6, .int .i64 0, .int .i64 0, .int .i64 2, .int .i64 2, .string ⟨#[]⟩, .int .i64 0] 34)).more (show w8.heap.size ≤ (w8.alloc (.cells #[.int .i64 3, .int .i64 0, .int .i64 0, .int .i64 0, .int .i64 1, .string ⟨#[]⟩, .int .i64 0, .int .i64 6, .int .i64 0, .int .i64 0, .int .i64 2, .int .i64 2, .string ⟨#[]⟩, .int .i64 0] 34)).heap.size by simp)
  have hB9 := hB8.alloc hB8.size (.cells #[.int .i64 3, .int .i64 0, .int .i64 0, .int .i64 0, .int .i64 1, .string ⟨#[]⟩, .int .i64 0, .int .i64 6, .int .i64 0, .int .i64 0, .int .i64 2, .int .i64 2, .string ⟨#[]⟩, .int .i64 0] 34)
  have QS := Lib.hid (PS.out _ _ _ _ _ s9 (sN.more (by simp)))
  have HB9 := Lib.hid hB9
  clear s7 s8 sN s9 hb8 hB7 hB8 hB9 PS
  go_wp2_with fail
  refine QS.out.mono ?_
  rintro e w9 ⟨rfl, hb9⟩
  have HB := Lib.hid (below_on HB9.out hb9 (Nat.le_refl _))
  clear hb9 QS
  go_wp2_with fail
  go_ret
  exact ⟨rfl, HB.out⟩
set_option maxRecDepth 100000 in
set_option maxHeartbeats 3200000 in
theorem takes_any (n : Int) (A A1 A2 : Option Addr) (cap c1 c2 : Nat) (l r o : List Ev) (w : World) (hS : Sl w w.heap.size 7 A l.length cap (evC l)) (h1 : Sl w w.heap.size 7 A1 r.length c1 (evC r)) (h2 : Sl w w.heap.size 7 A2 o.length c2 (evC o)) (hn : l.length ≤ 1000) (hr : r.length ≤ 1000) (ho : o.length ≤ 1000) (hl : ∀ t ∈ l, t.text.length ≤ maxLen) (hT : takeR 2 l n = (r, o, 0)) :
    Calls Try.prog 26 #[.slice A l.length cap, .int .i64 n, .slice A1 r.length c1, .slice A2 o.length c2] w fun e w' => e = .returned (.bool true) ∧ Below w.heap.size w w' := by
  have HT := Lib.hid (qTake_any 2 n A cap w.heap.size l w hS (Nat.le_refl _) hn hl)
  rw [hT] at HT
  unfold takePost at HT
  have HS := Lib.hid (And.intro h1 h2)
  have PS := Lib.hid (fun l A1 c1 A2 c2 W h1 h2 hl => same_any A1 A2 c1 c2 W.heap.size l l W h1 h2 hl hl)
  simp only [decide_true] at PS
  clear hS h1 h2 hT hl
  go_enter Try.func26, Try.ntmps26
  go_wp2_with fail
  refine HT.out.mono ?_
  rintro e w1 ⟨⟨B1, d1, B2, d2, rfl, s1, s2⟩, hb1⟩
  have t1 := (HS.out.1.below hb1 (Nat.le_refl _)).more hb1.size
  have t2 := (HS.out.2.below hb1 (Nat.le_refl _)).more hb1.size
  have Q1 := Lib.hid (PS.out _ _ _ _ _ w1 s1 t1 (by omega))
  have HS2 := Lib.hid (And.intro s2 t2)
  have HB1 := Lib.hid hb1
  clear s1 s2 t1 t2 hb1 HS HT
  go_wp2_with fail
  refine Q1.out.mono ?_
  rintro e w2 ⟨rfl, hb2⟩
  have HB2 := Lib.hid (below_on HB1.out hb2 (Nat.le_refl _))
  have Q2 := Lib.hid (PS.out _ _ _ _ _ w2 ((HS2.out.1.below hb2 (Nat.le_refl _)).more hb2.size) ((HS2.out.2.below hb2 (Nat.le_refl _)).more hb2.size) (by omega))
  clear hb2 HS2 Q1 PS
  go_wp2_with fail
  refine Q2.out.mono ?_
  rintro e w3 ⟨rfl, hb3⟩
  have HB3 := Lib.hid (below_on HB2.out hb3 (Nat.le_refl _))
  clear hb3 Q2
  go_wp2_with fail
  go_ret
  exact ⟨rfl, HB3.out⟩
end Go.Proofs.Ytogldckkmjbohaa
