/- QueueKnown. No condition. -/
import Derived.Test.YtogldckkmjbohaaQ13
namespace Go.Proofs.Ytogldckkmjbohaa
open Go.RowKit
theorem qPutAll_in {q : Int} {l more l2 : List Ev} {n : Nat} {er : Int} (h : putR q l more = (l2, n, er)) (A Am : Option Addr) (cap cm D : Nat) (w : World) (hS : Sl w D 7 A l.length cap (evC l)) (hM : Sl w D 7 Am more.length cm (evC more)) (hD : D ≤ w.heap.size) (hn : l.length ≤ 100) (hm : more.length ≤ 100) (hl : ∀ t ∈ l, t.text.length ≤ maxLen) (hl2 : ∀ t ∈ more, t.text.length ≤ maxLen) :
    Calls Try.prog 12 #[.int .i64 q, .slice A l.length cap, .slice Am more.length cm] w fun e w' => (∃ A2 c2, e = .returned (.tuple #[.slice A2 l2.length c2, .int .i64 n, .int .i64 er]) ∧ Sl w' w'.heap.size 7 A2 l2.length c2 (evC l2)) ∧ Below w.heap.size w w' := by
  have := qPutAll_any q A Am cap cm D l more w hS hM hD hn hm hl hl2
  rw [h] at this
  exact this
theorem qTake_in {q n : Int} {l r o : List Ev} {er : Int} (h : takeR q l n = (r, o, er)) (A : Option Addr) (cap D : Nat) (w : World) (hS : Sl w D 7 A l.length cap (evC l)) (hD : D ≤ w.heap.size) (hn : l.length ≤ 1000) (hl : ∀ t ∈ l, t.text.length ≤ maxLen) :
    Calls Try.prog 17 #[.int .i64 q, .slice A l.length cap, .int .i64 n] w fun e w' => (∃ A1 c1 A2 c2, e = .returned (.tuple #[.slice A1 r.length c1, .slice A2 o.length c2, .int .i64 er]) ∧ Sl w' w'.heap.size 7 A1 r.length c1 (evC r) ∧ Sl w' w'.heap.size 7 A2 o.length c2 (evC o)) ∧ Below w.heap.size w w' := by
  have := qTake_any q n A cap D l w hS hD hn hl
  rw [h] at this
  exact this
theorem qCheck_in {q er : Int} {l : List Ev} (h : chkQ q l = er) (A : Option Addr) (cap D : Nat) (w : World) (hS : Sl w D 7 A l.length cap (evC l)) (hD : D ≤ w.heap.size) (hn : l.length ≤ 1000) (hl : ∀ t ∈ l, t.text.length ≤ maxLen) :
    Calls Try.prog 10 #[.int .i64 q, .slice A l.length cap] w fun e w' => e = .returned (.int .i64 er) ∧ Below w.heap.size w w' := by
  have := qCheck_any q A cap D l w hS hD hn hl
  rw [h] at this
  exact this
theorem qFirst_in {q er : Int} {l : List Ev} {v : Ev} (h : firstE q l = er) (h2 : firstV q l = v) (A : Option Addr) (cap D : Nat) (w : World) (hS : Sl w D 7 A l.length cap (evC l)) (hD : D ≤ w.heap.size) (hn : l.length ≤ 1000) (hl : ∀ t ∈ l, t.text.length ≤ maxLen) :
    Calls Try.prog 23 #[.int .i64 q, .slice A l.length cap] w fun e w' => e = .returned (.tuple #[v.v, .int .i64 er]) ∧ Below w.heap.size w w' := by
  have := qFirst_any q A cap D l w hS hD hn hl
  rw [h, h2] at this
  exact this
/-- The four blocks that QueueKnown begins with. -/
theorem known4 (w : World) : ∃ W0, W0 = ((((w.alloc (.cells #[.int .i64 3, .int .i64 0, .int .i64 0, .int .i64 0, .int .i64 1, .string ⟨#[]⟩, .int .i64 0] 34)).alloc (.cells #[.int .i64 6, .int .i64 0, .int .i64 0, .int .i64 2, .int .i64 2, .string ⟨#[]⟩, .int .i64 0] 34)).alloc (.cells #[.int .i64 1, .int .i64 0, .int .i64 0, .int .i64 3, .int .i64 3, .string ⟨#[]⟩, .int .i64 0] 34)).alloc (.cells #[.int .i64 3, .int .i64 0, .int .i64 0, .int .i64 0, .int .i64 1, .string ⟨#[]⟩, .int .i64 0, .int .i64 6, .int .i64 0, .int .i64 0, .int .i64 2, .int .i64 2, .string ⟨#[]⟩, .int .i64 0] 34)) ∧ W0.heap.size = w.heap.size + 4 ∧ Blk W0 w.heap.size 34 #[.int .i64 3, .int .i64 0, .int .i64 0, .int .i64 0, .int .i64 1, .string ⟨#[]⟩, .int .i64 0] ∧ Blk W0 (w.heap.size + 1) 34 #[.int .i64 6, .int .i64 0, .int .i64 0, .int .i64 2, .int .i64 2, .string ⟨#[]⟩, .int .i64 0] ∧ Blk W0 (w.heap.size + 1 + 1) 34 #[.int .i64 1, .int .i64 0, .int .i64 0, .int .i64 3, .int .i64 3, .string ⟨#[]⟩, .int .i64 0] ∧
    Sl W0 (w.heap.size + 4) 7 (some ⟨w.heap.size + 1 + 1 + 1, 0, none⟩) 2 2 (evC [x1, x2]) ∧ Below w.heap.size w W0 := by
  refine ⟨_, rfl, by simp, (((Blk.new w _ _).alloc _).alloc _).alloc _, ((Blk.newAt _ _ _ (by simp)).alloc _).alloc _, (Blk.newAt _ _ _ (by simp)).alloc _, ?_, ?_⟩
  · have h := sl_newE (((w.alloc (.cells #[.int .i64 3, .int .i64 0, .int .i64 0, .int .i64 0, .int .i64 1, .string ⟨#[]⟩, .int .i64 0] 34)).alloc (.cells #[.int .i64 6, .int .i64 0, .int .i64 0, .int .i64 2, .int .i64 2, .string ⟨#[]⟩, .int .i64 0] 34)).alloc (.cells #[.int .i64 1, .int .i64 0, .int .i64 0, .int .i64 3, .int .i64 3, .string ⟨#[]⟩, .int .i64 0] 34)) [x1, x2] #[.int .i64 3, .int .i64 0, .int .i64 0, .int .i64 0, .int .i64 1, .string ⟨#[]⟩, .int .i64 0, .int .i64 6, .int .i64 0, .int .i64 0, .int .i64 2, .int .i64 2, .string ⟨#[]⟩, .int .i64 0] rfl (by decide)
    simpa using h
  · exact ((((Below.refl w.heap.size w).alloc (Nat.le_refl _) _).alloc (by simp) _).alloc (by simp; omega) _).alloc (by simp; omega) _
theorem newN (w W0 : World) (g : Nat) (hz : W0.heap.size = g + 4) (k1 : Blk W0 g 34 #[.int .i64 3, .int .i64 0, .int .i64 0, .int .i64 0, .int .i64 1, .string ⟨#[]⟩, .int .i64 0]) (k2 : Blk W0 (g + 1) 34 #[.int .i64 6, .int .i64 0, .int .i64 0, .int .i64 2, .int .i64 2, .string ⟨#[]⟩, .int .i64 0]) (k3 : Blk W0 (g + 1 + 1) 34 #[.int .i64 1, .int .i64 0, .int .i64 0, .int .i64 3, .int .i64 3, .string ⟨#[]⟩, .int .i64 0]) (sX : Sl W0 (g + 4) 7 (some ⟨g + 1 + 1 + 1, 0, none⟩) 2 2 (evC [x1, x2])) (hB : Below w.heap.size w W0) :
    Blk ((W0.alloc (.cells #[.int .i64 6, .int .i64 0, .int .i64 0, .int .i64 2, .int .i64 2, .string ⟨#[]⟩, .int .i64 0, .int .i64 1, .int .i64 0, .int .i64 0, .int .i64 3, .int .i64 3, .string ⟨#[]⟩, .int .i64 0] 34)).drew) g 34 #[.int .i64 3, .int .i64 0, .int .i64 0, .int .i64 0, .int .i64 1, .string ⟨#[]⟩, .int .i64 0] ∧ Blk ((W0.alloc (.cells #[.int .i64 6, .int .i64 0, .int .i64 0, .int .i64 2, .int .i64 2, .string ⟨#[]⟩, .int .i64 0, .int .i64 1, .int .i64 0, .int .i64 0, .int .i64 3, .int .i64 3, .string ⟨#[]⟩, .int .i64 0] 34)).drew) (g + 1) 34 #[.int .i64 6, .int .i64 0, .int .i64 0, .int .i64 2, .int .i64 2, .string ⟨#[]⟩, .int .i64 0] ∧ Blk ((W0.alloc (.cells #[.int .i64 6, .int .i64 0, .int .i64 0, .int .i64 2, .int .i64 2, .string ⟨#[]⟩, .int .i64 0, .int .i64 1, .int .i64 0, .int .i64 0, .int .i64 3, .int .i64 3, .string ⟨#[]⟩, .int .i64 0] 34)).drew) (g + 1 + 1) 34 #[.int .i64 1, .int .i64 0, .int .i64 0, .int .i64 3, .int .i64 3, .string ⟨#[]⟩, .int .i64 0] ∧ (Sl ((W0.alloc (.cells #[.int .i64 6, .int .i64 0, .int .i64 0, .int .i64 2, .int .i64 2, .string ⟨#[]⟩, .int .i64 0, .int .i64 1, .int .i64 0, .int .i64 0, .int .i64 3, .int .i64 3, .string ⟨#[]⟩, .int .i64 0] 34)).drew) ((W0.alloc (.cells #[.int .i64 6, .int .i64 0, .int .i64 0, .int .i64 2, .int .i64 2, .string ⟨#[]⟩, .int .i64 0, .int .i64 1, .int .i64 0, .int .i64 0, .int .i64 3, .int .i64 3, .string ⟨#[]⟩, .int .i64 0] 34)).drew).heap.size 7 (some ⟨g + 1 + 1 + 1, 0, none⟩) 2 2 (evC [x1, x2]) ∧ Sl ((W0.alloc (.cells #[.int .i64 6, .int .i64 0, .int .i64 0, .int .i64 2, .int .i64 2, .string ⟨#[]⟩, .int .i64 0, .int .i64 1, .int .i64 0, .int .i64 0, .int .i64 3, .int .i64 3, .string ⟨#[]⟩, .int .i64 0] 34)).drew) ((W0.alloc (.cells #[.int .i64 6, .int .i64 0, .int .i64 0, .int .i64 2, .int .i64 2, .string ⟨#[]⟩, .int .i64 0, .int .i64 1, .int .i64 0, .int .i64 0, .int .i64 3, .int .i64 3, .string ⟨#[]⟩, .int .i64 0] 34)).drew).heap.size 7 (some ⟨g + 1 + 1 + 1, 0, none⟩) 1 2 (evC [x1])) ∧
      Sl ((W0.alloc (.cells #[.int .i64 6, .int .i64 0, .int .i64 0, .int .i64 2, .int .i64 2, .string ⟨#[]⟩, .int .i64 0, .int .i64 1, .int .i64 0, .int .i64 0, .int .i64 3, .int .i64 3, .string ⟨#[]⟩, .int .i64 0] 34)).drew) ((W0.alloc (.cells #[.int .i64 6, .int .i64 0, .int .i64 0, .int .i64 2, .int .i64 2, .string ⟨#[]⟩, .int .i64 0, .int .i64 1, .int .i64 0, .int .i64 0, .int .i64 3, .int .i64 3, .string ⟨#[]⟩, .int .i64 0] 34)).drew).heap.size 7 (some ⟨W0.heap.size, 0, none⟩) 2 2 (evC [x2, x3]) ∧ Below w.heap.size w ((W0.alloc (.cells #[.int .i64 6, .int .i64 0, .int .i64 0, .int .i64 2, .int .i64 2, .string ⟨#[]⟩, .int .i64 0, .int .i64 1, .int .i64 0, .int .i64 0, .int .i64 3, .int .i64 3, .string ⟨#[]⟩, .int .i64 0] 34)).drew) := by
  have hz2 : g + 4 ≤ W0.heap.size := Nat.le_of_eq hz.symm
  have s2 : Sl ((W0.alloc (.cells #[.int .i64 6, .int .i64 0, .int .i64 0, .int .i64 2, .int .i64 2, .string ⟨#[]⟩, .int .i64 0, .int .i64 1, .int .i64 0, .int .i64 0, .int .i64 3, .int .i64 3, .string ⟨#[]⟩, .int .i64 0] 34)).drew) ((W0.alloc (.cells #[.int .i64 6, .int .i64 0, .int .i64 0, .int .i64 2, .int .i64 2, .string ⟨#[]⟩, .int .i64 0, .int .i64 1, .int .i64 0, .int .i64 0, .int .i64 3, .int .i64 3, .string ⟨#[]⟩, .int .i64 0] 34)).drew).heap.size 7 (some ⟨g + 1 + 1 + 1, 0, none⟩) 2 2 (evC [x1, x2]) := (Sl.drew (sX.alloc hz2 _)).more (by simp; omega)
  refine ⟨(k1.alloc _).drew, (k2.alloc _).drew, (k3.alloc _).drew, ⟨s2, ?_⟩, ?_, (hB.alloc hB.size _).drew⟩
  · have h := s2.take (k := 1) (by decide)
    exact h
  · exact (Sl.drew (sl_newE W0 [x2, x3] _ rfl (by decide))).more (by simp)
theorem keepCells {w w' : World} {g : Nat} (k2 : Blk w (g + 1) 34 #[.int .i64 6, .int .i64 0, .int .i64 0, .int .i64 2, .int .i64 2, .string ⟨#[]⟩, .int .i64 0]) (k3 : Blk w (g + 1 + 1) 34 #[.int .i64 1, .int .i64 0, .int .i64 0, .int .i64 3, .int .i64 3, .string ⟨#[]⟩, .int .i64 0]) (hb : Below w.heap.size w w') :
    w'.cell? ⟨g + 1, 0, none⟩ = some (.int .i64 6) ∧ w'.cell? ⟨g + 1, 1, none⟩ = some (.int .i64 0) ∧ w'.cell? ⟨g + 1, 2, none⟩ = some (.int .i64 0) ∧ w'.cell? ⟨g + 1, 3, none⟩ = some (.int .i64 2) ∧ w'.cell? ⟨g + 1, 4, none⟩ = some (.int .i64 2) ∧ w'.cell? ⟨g + 1, 5, none⟩ = some (.string ⟨#[]⟩) ∧ w'.cell? ⟨g + 1, 6, none⟩ = some (.int .i64 0) ∧ w'.cell? ⟨g + 1 + 1, 0, none⟩ = some (.int .i64 1) ∧ w'.cell? ⟨g + 1 + 1, 1, none⟩ = some (.int .i64 0) ∧ w'.cell? ⟨g + 1 + 1, 2, none⟩ = some (.int .i64 0) ∧ w'.cell? ⟨g + 1 + 1, 3, none⟩ = some (.int .i64 3) ∧ w'.cell? ⟨g + 1 + 1, 4, none⟩ = some (.int .i64 3) ∧ w'.cell? ⟨g + 1 + 1, 5, none⟩ = some (.string ⟨#[]⟩) ∧ w'.cell? ⟨g + 1 + 1, 6, none⟩ = some (.int .i64 0) := by
  obtain ⟨⟨p0, p1, p2, p3, p4, p5, p6⟩, _⟩ := cells7 (Blk.on k2 hb)
  obtain ⟨⟨q0, q1, q2, q3, q4, q5, q6⟩, _⟩ := cells7 (Blk.on k3 hb)
  exact ⟨p0, p1, p2, p3, p4, p5, p6, q0, q1, q2, q3, q4, q5, q6⟩
theorem slices5 (w W w5 : World) (g : Nat) (A5 : Option Addr) (c5 : Nat) (k1 : Blk W g 34 #[.int .i64 3, .int .i64 0, .int .i64 0, .int .i64 0, .int .i64 1, .string ⟨#[]⟩, .int .i64 0]) (sX : Sl W W.heap.size 7 (some ⟨g + 1 + 1 + 1, 0, none⟩) 2 2 (evC [x1, x2])) (hB : Below w.heap.size w W) (s5 : Sl w5 w5.heap.size 7 A5 2 c5 (evC [x1, x2])) (hb : Below W.heap.size W w5) :
    ∀ X, Below w5.heap.size w5 X → Sl X X.heap.size 7 (some ⟨g + 1 + 1 + 1, 0, none⟩) 2 2 (evC [x1, x2]) ∧ Sl X X.heap.size 7 (some ⟨g + 1 + 1 + 1, 0, none⟩) 1 2 (evC [x1]) ∧ Sl X X.heap.size 7 A5 2 c5 (evC [x1, x2]) ∧
      Sl X X.heap.size 7 (some ⟨g + 1 + 1 + 1, 7, none⟩) 1 1 (evC [x2]) ∧ Blk X g 34 #[.int .i64 3, .int .i64 0, .int .i64 0, .int .i64 0, .int .i64 1, .string ⟨#[]⟩, .int .i64 0] ∧ Below w.heap.size w X := by
  intro X hX
  have h1 := (((sX.below hb (Nat.le_refl _)).more hb.size).below hX (Nat.le_refl _)).more hX.size
  have hB5 := below_on hB hb (Nat.le_refl _)
  refine ⟨h1, h1.take (k := 1) (by decide), (s5.below hX (Nat.le_refl _)).more hX.size, ?_, Blk.on (Blk.on k1 hb) hX, below_on hB5 hX (Nat.le_refl _)⟩
  exact h1.cut (k := 1) (by decide)
set_option maxRecDepth 100000 in
set_option maxHeartbeats 6400000 in
theorem QueueKnown_any (w : World) : Calls Try.prog 4 #[] w fun e w' => e = .returned (.bool true) ∧ Below w.heap.size w w' := by
  have H1 := Lib.hid event1
  have H2 := Lib.hid event2
  have H3 := Lib.hid event3
  have PA := Lib.hid (fun A Am c cm W hS hM => qPutAll_in (q := 2) (l := [x1]) (more := [x2, x3]) (l2 := [x1, x2]) (n := 1) (er := 0) (by decide) A Am c cm W.heap.size W hS hM (Nat.le_refl _) (by decide) (by decide) (by simp [x1]) (by simp [x2, x3]))
  have PR := Lib.hid (fun A c W hS => qRoom_any 2 A c W.heap.size [x1] W hS (Nat.le_refl _) (by decide) (by simp [x1]))
  have PF := Lib.hid (fun A c W hS => qFull_any 2 A c W.heap.size [x1, x2] W hS (Nat.le_refl _) (by decide) (by simp [x1, x2]))
  rw [show roomR 2 [x1] = (1, 0) by decide] at PR
  rw [show roomR 2 [x1, x2] = (0, 0) by decide] at PF
  have PS := Lib.hid (fun A1 c1 A2 c2 W h1 h2 => same_any A1 A2 c1 c2 W.heap.size [x1, x2] [x1, x2] W h1 h2 (by decide) (by decide))
  rw [show decide ([x1, x2] = [x1, x2]) = true by simp] at PS
  have T1 := Lib.hid (fun A A1 A2 c c1 c2 W h h1 h2 => takes_any 1 A A1 A2 c c1 c2 [x1, x2] [x2] [x1] W h h1 h2 (by decide) (by decide) (by decide) (by simp [x1, x2]) (by decide))
  have T2 := Lib.hid (fun A A2 c c2 W h h2 => takes_any 9 A none A2 c 0 c2 [x1, x2] [] [x1, x2] W h (Sl.nil _ _ _) h2 (by decide) (by decide) (by decide) (by simp [x1, x2]) (by decide))
  have T3 := Lib.hid (fun W => takes_any 1 none none none 0 0 0 [] [] [] W (Sl.nil _ _ _) (Sl.nil _ _ _) (Sl.nil _ _ _) (by decide) (by decide) (by decide) (by simp) (by decide))
  have K1 := Lib.hid (fun A c W hS => qTake_in (q := 2) (n := 0) (l := [x1]) (r := []) (o := []) (er := 2) (by decide) A c W.heap.size W hS (Nat.le_refl _) (by decide) (by simp [x1]))
  have K2 := Lib.hid (fun A c W hS => qTake_in (q := 2) (n := 65) (l := [x1]) (r := []) (o := []) (er := 2) (by decide) A c W.heap.size W hS (Nat.le_refl _) (by decide) (by simp [x1]))
  have F1 := Lib.hid (fun A c W hS => qFirst_in (q := 2) (er := 0) (l := [x1, x2]) (v := x1) (by decide) (by decide) A c W.heap.size W hS (Nat.le_refl _) (by decide) (by simp [x1, x2]))
  have F2 := Lib.hid (fun W => qFirst_in (q := 2) (er := 20) (l := []) (v := ⟨0, 0, 0, 0, 0, [], 0⟩) (by decide) (by decide) none 0 W.heap.size W (Sl.nil _ _ _) (Nat.le_refl _) (by decide) (by simp))
  have C1 := Lib.hid (fun W => qCheck_in (q := 0) (er := 2) (l := []) (by decide) none 0 W.heap.size W (Sl.nil _ _ _) (Nat.le_refl _) (by decide) (by simp))
  have C2 := Lib.hid (fun A c W hS => qCheck_in (q := 1) (er := 6) (l := [x1, x2]) (by decide) A c W.heap.size W hS (Nat.le_refl _) (by decide) (by simp [x1, x2]))
  have C3 := Lib.hid (fun A c W hS => qCheck_in (q := 2) (er := 11) (l := [⟨0, 0, 0, 0, 0, [], 0⟩]) (by decide) A c W.heap.size W hS (Nat.le_refl _) (by decide) (by simp))
  have HA := Lib.hid awake30_any
  go_enter Try.func4, Try.ntmps4
  go_wp2_with fail
  refine (H1.out _).mono ?_
  rintro e w1 ⟨rfl, hb1⟩
  go_wp2_with fail
  refine (H2.out _).mono ?_
  rintro e w2 ⟨rfl, hb2⟩
  have hB2 := below_on hb1 hb2 (Nat.le_refl _)
  clear hb1 hb2
  go_wp2_with fail
  refine (H3.out _).mono ?_
  rintro e w3 ⟨rfl, hb3⟩
  have HB3 := Lib.hid (below_on hB2 hb3 (Nat.le_refl _))
  clear hb3 hB2
  obtain ⟨W0, hW0, hz0, k1, k2, k3, sX, hB0⟩ := known4 w3
  obtain ⟨⟨p0, p1, p2, p3, p4, p5, p6⟩, _⟩ := cells7 k2
  obtain ⟨⟨q0, q1, q2, q3, q4, q5, q6⟩, _⟩ := cells7 k3
  have HB0 := Lib.hid (And.intro hz0 (And.intro k1 (And.intro k2 (And.intro k3 (And.intro sX (below_on HB3.out hB0 (Nat.le_refl _)))))))
  have HW0 := Lib.hid hW0
  clear hz0 k1 k2 k3 sX hB0 hW0
  go_wp2_with fail
  rw [← HW0.out]
  clear HW0
  have hN := newN w W0 w3.heap.size HB0.out.1 HB0.out.2.1 HB0.out.2.2.1 HB0.out.2.2.2.1 HB0.out.2.2.2.2.1 HB0.out.2.2.2.2.2
  obtain ⟨n1, n2, n3, nX, nM, hBN⟩ := hN
  have QA := Lib.hid (PA.out _ _ _ _ _ nX.2 nM)
  obtain ⟨⟨P0, P1, P2, P3, P4, P5, P6⟩, _⟩ := cells7 n2
  obtain ⟨⟨R0, R1, R2, R3, R4, R5, R6⟩, _⟩ := cells7 n3
  have HN := Lib.hid (And.intro n1 (And.intro n2 (And.intro n3 (And.intro nX.1 hBN))))
  clear n1 n2 n3 nX nM hBN PA
  go_region_held3 (fun W => W.cell? ⟨w3.heap.size + 1, 0, none⟩ = some (.int .i64 6) ∧ W.cell? ⟨w3.heap.size + 1, 1, none⟩ = some (.int .i64 0) ∧ W.cell? ⟨w3.heap.size + 1, 2, none⟩ = some (.int .i64 0) ∧ W.cell? ⟨w3.heap.size + 1, 3, none⟩ = some (.int .i64 2) ∧ W.cell? ⟨w3.heap.size + 1, 4, none⟩ = some (.int .i64 2) ∧ W.cell? ⟨w3.heap.size + 1, 5, none⟩ = some (.string ⟨#[]⟩) ∧ W.cell? ⟨w3.heap.size + 1, 6, none⟩ = some (.int .i64 0) ∧ W.cell? ⟨w3.heap.size + 1 + 1, 0, none⟩ = some (.int .i64 1) ∧ W.cell? ⟨w3.heap.size + 1 + 1, 1, none⟩ = some (.int .i64 0) ∧ W.cell? ⟨w3.heap.size + 1 + 1, 2, none⟩ = some (.int .i64 0) ∧ W.cell? ⟨w3.heap.size + 1 + 1, 3, none⟩ = some (.int .i64 3) ∧ W.cell? ⟨w3.heap.size + 1 + 1, 4, none⟩ = some (.int .i64 3) ∧ W.cell? ⟨w3.heap.size + 1 + 1, 5, none⟩ = some (.string ⟨#[]⟩) ∧ W.cell? ⟨w3.heap.size + 1 + 1, 6, none⟩ = some (.int .i64 0))
    (first
      | exact ⟨p0, p1, p2, p3, p4, p5, p6, q0, q1, q2, q3, q4, q5, q6⟩
      | exact ⟨P0, P1, P2, P3, P4, P5, P6, R0, R1, R2, R3, R4, R5, R6⟩
      | exact kz)
    (first
      | (go_at_call 12; refine QA.out.mono ?_; rintro e w5 ⟨⟨A5, c5, rfl, s5⟩, hb5⟩; have kz := keepCells HN.out.2.1 HN.out.2.2.1 hb5))
  have HX := Lib.hid (slices5 w _ w5 w3.heap.size A5 c5 HN.out.1 HN.out.2.2.2.1 HN.out.2.2.2.2 s5 hb5)
  clear kz s5 hb5 P0 P1 P2 P3 P4 P5 P6 R0 R1 R2 R3 R4 R5 R6 p0 p1 p2 p3 p4 p5 p6 q0 q1 q2 q3 q4 q5 q6 HN QA HB0
  go_wp2_with fail
  have hb5 := Below.refl w5.heap.size w5
  have Q := Lib.hid (PR.out _ _ _ (HX.out _ hb5).2.1)
  refine Q.out.mono ?_
  rintro e w6 ⟨rfl, hd6⟩
  have hb6 := below_on hb5 hd6 (Nat.le_refl _)
  clear Q hb5 hd6 PR
  go_wp2_with fail
  have Q := Lib.hid (PF.out _ _ _ (HX.out _ hb6).1)
  refine Q.out.mono ?_
  rintro e w7 ⟨rfl, hd7⟩
  have hb7 := below_on hb6 hd7 (Nat.le_refl _)
  clear Q hb6 hd7 PF
  go_wp2_with fail
  have Q := Lib.hid (PS.out _ _ _ _ _ (HX.out _ hb7).2.2.1 (HX.out _ hb7).1)
  refine Q.out.mono ?_
  rintro e w8 ⟨rfl, hd8⟩
  have hb8 := below_on hb7 hd8 (Nat.le_refl _)
  clear Q hb7 hd8 PS
  go_wp2_with fail
  have hz8 := Below.drew hb8
  go_region_held3 (fun W => Below w5.heap.size w5 W)
    (first
      | exact hz8
      | exact hz11
      | exact hz10
      | exact hz9
      | assumption)
    (first
      | (go_at_call 26; have hu := hz10; refine (T3.out _).mono ?_; rintro e w11 ⟨rfl, hd11⟩; have hz11 := below_on hz10 hd11 (Nat.le_refl _))
      | (go_at_call 26; have hu := hz9; have Q := Lib.hid (T2.out _ _ _ _ _ (HX.out _ hz9).1 (HX.out _ hz9).1); refine Q.out.mono ?_; rintro e w10 ⟨rfl, hd10⟩; have hz10 := below_on hz9 hd10 (Nat.le_refl _))
      | (go_at_call 26; have Q := Lib.hid (T1.out _ _ _ _ _ _ _ (HX.out _ hz8).1 (HX.out _ hz8).2.2.2.1 (HX.out _ hz8).2.1); refine Q.out.mono ?_; rintro e w9 ⟨rfl, hd9⟩; have hz9 := below_on hz8 hd9 (Nat.le_refl _)))
  clear hd9 hd10 hd11 hz8 hz9 hz10 hb8 T1 T2 T3
  go_wp2_with fail
  have Q := Lib.hid (K1.out _ _ _ (HX.out _ hz11).2.1)
  refine Q.out.mono ?_
  rintro e w12 ⟨⟨B1, d1, B2, d2, rfl, _, _⟩, hd12⟩
  have hb12 := below_on hz11 hd12 (Nat.le_refl _)
  clear Q hz11 hd12 K1
  go_wp2_with fail
  have Q := Lib.hid (K2.out _ _ _ (HX.out _ hb12).2.1)
  refine Q.out.mono ?_
  rintro e w13 ⟨⟨B3, d3, B4, d4, rfl, _, _⟩, hd13⟩
  have hb13 := below_on hb12 hd13 (Nat.le_refl _)
  clear Q hb12 hd13 K2
  go_wp2_with fail
  have Q := Lib.hid (F1.out _ _ _ (HX.out _ hb13).1)
  refine Q.out.mono ?_
  rintro e w14 ⟨rfl, hd14⟩
  have hb14 := below_on hb13 hd14 (Nat.le_refl _)
  have hb15 := hb14.alloc hb14.size (.cells #[.int .i64 3, .int .i64 0, .int .i64 0, .int .i64 0, .int .i64 1, .string ⟨#[]⟩, .int .i64 0] 34)
  have bF := Blk.new w14 34 #[.int .i64 3, .int .i64 0, .int .i64 0, .int .i64 0, .int .i64 1, .string ⟨#[]⟩, .int .i64 0]
  have HF := Lib.hid (And.intro bF hb15)
  clear Q hb13 hd14 F1 hb14 hb15 bF
  unfold Ev.v
  unfold Ev.cs
  unfold x1
  simp only
  go_wp2_with fail
  refine (F2.out _).mono ?_
  rintro e w15 ⟨rfl, hd15⟩
  have bF := Blk.on HF.out.1 hd15
  have hb15 := below_on HF.out.2 hd15 (Nat.le_refl _)
  have bF2 := bF.alloc (.cells #[.int .i64 0, .int .i64 0, .int .i64 0, .int .i64 0, .int .i64 0, .string ⟨#[]⟩, .int .i64 0] 34)
  have hb16 := hb15.alloc hb15.size (.cells #[.int .i64 0, .int .i64 0, .int .i64 0, .int .i64 0, .int .i64 0, .string ⟨#[]⟩, .int .i64 0] 34)
  have HF2 := Lib.hid (And.intro bF2 hb16)
  clear hd15 bF hb15 bF2 hb16 HF F2
  unfold Ev.v
  unfold Ev.cs
  simp only
  go_wp2_with fail
  refine (HA.out _).mono ?_
  rintro e w16 ⟨rfl, hd16⟩
  have bF := Blk.on HF2.out.1 hd16
  have hb16 := below_on HF2.out.2 hd16 (Nat.le_refl _)
  have b1 := (HX.out _ hb16).2.2.2.2.1
  obtain ⟨⟨p0, p1, p2, p3, p4, p5, p6⟩, _⟩ := cells7 b1
  obtain ⟨⟨q0, q1, q2, q3, q4, q5, q6⟩, _⟩ := cells7 bF
  clear hd16 bF b1 HF2 HA
  go_wp2_with fail
  refine (C1.out _).mono ?_
  rintro e w17 ⟨rfl, hd17⟩
  have hb17 := below_on hb16 hd17 (Nat.le_refl _)
  clear hd17 hb16 C1 p0 p1 p2 p3 p4 p5 p6 q0 q1 q2 q3 q4 q5 q6
  go_wp2_with fail
  have Q := Lib.hid (C2.out _ _ _ (HX.out _ hb17).1)
  refine Q.out.mono ?_
  rintro e w18 ⟨rfl, hd18⟩
  have hb18 := below_on hb17 hd18 (Nat.le_refl _)
  have hb19 := hb18.alloc hb18.size (.cells #[.int .i64 0, .int .i64 0, .int .i64 0, .int .i64 0, .int .i64 0, .string ⟨#[]⟩, .int .i64 0] 34)
  have Q2 := Lib.hid (C3.out _ _ _ ((sl_newE w18 [⟨0, 0, 0, 0, 0, [], 0⟩] #[.int .i64 0, .int .i64 0, .int .i64 0, .int .i64 0, .int .i64 0, .string ⟨#[]⟩, .int .i64 0] rfl (by decide)).more (by simp)))
  clear hd18 hb17 hb18 Q C2 C3
  go_wp2_with fail
  refine Q2.out.mono ?_
  rintro e w20 ⟨rfl, hd20⟩
  have hb20 := Lib.hid (HX.out _ (below_on hb19 hd20 (Nat.le_refl _))).2.2.2.2.2
  clear hd20 hb19 Q2 HX
  go_wp2_with fail
  go_ret
  exact ⟨rfl, hb20.out⟩
end Go.Proofs.Ytogldckkmjbohaa
