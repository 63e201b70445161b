/- law06: light, own; tables that are stored again. No condition. -/
import Derived.Test.YtbobpgjgknkogaaI34
namespace Go.Proofs.Ytbobpgjgknkogaa
open Go.RowKit Go.Maps
def lightB (l : List (List UInt8)) : Bool := decide (l.length ≤ 40) && shortB l 30
theorem light_yes {l : List (List UInt8)} (h : lightB l = true) : l.length ≤ 40 ∧ ∀ s ∈ l, s.length ≤ 30 := by
  unfold lightB shortB at h
  rw [Bool.and_eq_true, List.all_eq_true] at h
  exact ⟨of_decide_eq_true h.1, fun s hs => by have := of_decide_eq_true (h.2 s hs); omega⟩
set_option maxRecDepth 100000 in
theorem light_any (A : Option Addr) (cap D : Nat) (l : List (List UInt8)) (w : World) (hS : Sl w D 1 A l.length cap (l.map strV)) (hD : D ≤ w.heap.size) (hl : ∀ s ∈ l, s.length ≤ maxLen) :
    Calls Try.prog 9 #[.agg #[.slice A l.length cap]] w fun e w' => e = .returned (.bool (lightB l)) ∧ Below w.heap.size w w' := by
  have hB0 := (Below.refl w.heap.size w).alloc (Nat.le_refl _) (.cells #[.slice A l.length cap] 24)
  have hR : lightB l = (decide (l.length ≤ 40) && shortB l 30) := rfl
  generalize lightB l = R at *
  by_cases h40 : l.length ≤ 40
  · have HC := Lib.hid (Short_any A cap D l 30 _ (hS.below hB0 hD) (by omega) hl)
    have hz : (l.length : Int) ≤ 40 := by omega
    rw [decide_eq_true h40, Bool.true_and] at hR
    rw [← hR] at HC
    have HB := Lib.hid hB0
    clear hS hl hB0 hR
    go_enter Try.func9, Try.ntmps9
    go_wp2_with fail
    refine HC.out.mono ?_
    rintro e w1 ⟨rfl, rfl⟩
    go_wp2_with fail
    go_ret
    exact ⟨rfl, HB.out⟩
  · rw [decide_eq_false h40, Bool.false_and] at hR
    subst hR
    have hz : ¬ (l.length : Int) ≤ 40 := by omega
    have HB := Lib.hid hB0
    clear hS hl hB0
    go_enter Try.func9, Try.ntmps9
    go_wp2_with fail
    go_ret
    exact ⟨rfl, HB.out⟩
set_option maxRecDepth 100000 in
theorem lown_any (A : Option Addr) (cap D : Nat) (l : List (List UInt8)) (w : World) (hS : Sl w D 1 A l.length cap (l.map strV)) (hD : D ≤ w.heap.size) (hn : l.length ≤ 1000) :
    Calls Try.prog 11 #[.agg #[.slice A l.length cap]] w fun e w' => (∃ A2 c2, e = .returned (.agg #[.slice A2 l.length c2]) ∧ Sl w' w'.heap.size 1 A2 l.length c2 (l.map strV)) ∧ Below w.heap.size w w' := by
  obtain ⟨b0, b1, hB0⟩ := two w (.slice A l.length cap)
  have HC := Lib.hid (OwnTexts_any A cap D l _ (hS.below hB0 hD) (Nat.le_trans hD hB0.size) (by omega))
  have HB := Lib.hid (And.intro b1 hB0)
  clear hS b0 b1 hB0
  go_enter Try.func11, Try.ntmps11
  go_wp2_with fail
  refine HC.out.mono ?_
  rintro e w1 ⟨⟨A2, c2, rfl, s1⟩, hb1⟩
  have b1 := HB.out.1.on hb1
  have hB1 := below_on HB.out.2 hb1 (Nat.le_refl _)
  obtain ⟨q1, f1⟩ := cells1 b1
  have s2 := s1.farT b1 (fun i b e => by cases i <;> simp at e) 0 (.slice A2 l.length c2)
  have HR := Lib.hid (And.intro s2 (hB1.setCell (p := ⟨w.heap.size + 1, 0, none⟩) (by show w.heap.size ≤ w.heap.size + 1; omega) (.slice A2 l.length c2)))
  have b2 := b1.set 0 (.slice A2 l.length c2)
  clear s1 s2 hB1 hb1 HC
  go_wp2_with fail
  refine bodyPost_ret (results_cell_blk rfl _ _ (w.heap.size + 1) _ _ _ rfl b2 Try.underlying24 rfl (by kernel_rfl)) rfl ⟨⟨A2, c2, rfl, ?_⟩, HR.out.2⟩
  have h2 : (w1.setCell ⟨w.heap.size + 1, 0, none⟩ (.slice A2 l.length c2)).heap.size = w1.heap.size := World.size_setCell _ _ _
  rw [h2]
  exact HR.out.1
theorem TA.far {W : World} {g g2 : Nat} {A A2 : Option Addr} {c c2 : Nat} {l l2 : List (List UInt8)} (h : TA W g A c l) (h2 : TA W g2 A2 c2 l2) (hne : g ≠ g2) (v : Value) : TA (W.setCell ⟨g2, 0, none⟩ v) g A c l :=
  ⟨h.1.far (p := ⟨g2, 0, none⟩) hne v, by rw [World.size_setCell]; exact h.2.farT h2.1 (fun i b e => by cases i <;> simp at e) 0 v⟩
theorem TA.again {W : World} {g : Nat} {A A2 : Option Addr} {c c2 : Nat} {l l2 : List (List UInt8)} (h : TA W g A c l) (hs : Sl W W.heap.size 1 A2 l2.length c2 (l2.map strV)) : TA (W.setCell ⟨g, 0, none⟩ (.slice A2 l2.length c2)) g A2 c2 l2 :=
  ⟨h.1.set 0 _, by rw [World.size_setCell]; exact hs.farT h.1 (fun i b e => by cases i <;> simp at e) 0 _⟩
theorem eqT_any (A1 A2 : Option Addr) (c1 c2 : Nat) (l : List (List UInt8)) (hl : l.length ≤ 1000) (W : World) (h1 : Sl W W.heap.size 1 A1 l.length c1 (l.map strV)) (h2 : Sl W W.heap.size 1 A2 l.length c2 (l.map strV)) :
    Calls Try.prog 16 #[.agg #[.slice A1 l.length c1], .agg #[.slice A2 l.length c2]] W fun e w' => e = .returned (.bool true) ∧ Below W.heap.size W w' := by
  have h := equal_any A1 A2 c1 c2 W.heap.size l l W h1 h2 (Nat.le_refl _) (by omega) (by omega)
  rw [decide_eq_true (rfl : l = l)] at h
  exact h
theorem ofR_len (l : List (List UInt8)) : (ofR l).1.length ≤ l.length := by
  unfold ofR
  split
  · exact Nat.zero_le _
  · exact Nat.le_refl _
theorem internR_len (l : List (List UInt8)) (s : List UInt8) (f : Bool) : (internR l s f).1.length ≤ l.length + 1 := by
  unfold internR
  split
  · exact Nat.zero_le _
  split
  · exact Nat.zero_le _
  split
  · split
    · exact Nat.zero_le _
    · exact Nat.le_succ _
  split
  · exact Nat.zero_le _
  · simp
end Go.Proofs.Ytbobpgjgknkogaa
