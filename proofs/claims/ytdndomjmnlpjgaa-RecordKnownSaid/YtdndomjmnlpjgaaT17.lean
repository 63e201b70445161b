/- The walk of TokenBack. -/
import Derived.Test.YtdndomjmnlpjgaaT16
namespace Go.Proofs.Ytdndomjmnlpjgaa
open Go.RowKit
theorem Blk.on {w w' : World} {g : Nat} {t : TypeId} {cs : Array Value} (h : Blk w g t cs) (hb : Below w.heap.size w w') : Blk w' g t cs := h.below hb h.lt
theorem below_on {B : Nat} {w W W' : World} (hB : Below B w W) (hb : Below W.heap.size W W') (hs : B ≤ w.heap.size) : Below B w W' := hB.trans (hb.mono (Nat.le_trans hs hB.size))
theorem frame_bounds (t : Tok) (m : Nat) (h : checkE t m = 0) : t.text.length ≤ 24 ∧ 0 ≤ t.at_ ∧ t.at_ ≤ 1099511627776 := by
  obtain ⟨_, _, _, _, _, _, _, h1, h2, h3⟩ := check_ok t m h
  exact ⟨h1, h2, h3⟩
theorem mod_terms (n : Int) : ∃ (r m : Nat), n % 8 = r ∧ 1 + (r : Int) = m ∧ 1 ≤ m ∧ m ≤ 8 := ⟨(n % 8).toNat, (1 + n % 8).toNat, by omega, by omega, by omega, by omega⟩
theorem made07_agg (k : Int) (m : Nat) (w : World) (h1 : 1 ≤ m) (h8 : m ≤ 8) :
    Calls Try.prog 31 #[.int .i64 k, .int .i64 m] w fun e w' => (∃ (sy : Int) (x : List UInt8) (a : Int), checkE ⟨sy, x, a⟩ m = 0 ∧ e = .returned (.agg #[.int .i64 sy, .string ⟨x.toArray⟩, .int .i64 a])) ∧ Below w.heap.size w w' :=
  (made07_any k m w h1 h8).mono fun _ _ ⟨⟨t, ht, he⟩, hb⟩ => ⟨⟨t.sym, t.text, t.at_, ht, he⟩, hb⟩
set_option maxRecDepth 100000 in
set_option maxHeartbeats 6400000 in
theorem TokenBack_any (k n : Int) (l : List UInt8) (w : World) (hm : l.length ≤ maxLen) :
    Calls Try.prog 8 #[.int .i64 k, .int .i64 n, .string ⟨l.toArray⟩] w fun e w' => e = .returned (.bool true) ∧ Below w.heap.size w w' := by
  have HA := Lib.hid (fun W => awake07_any W)
  unfold maxLen at hm
  by_cases hl : l.length ≤ 40
  · obtain ⟨r, m, hr, hrm, h1, h8⟩ := mod_terms n
    have HM := fun W => Mod_any n 8 W (by decide) (by decide)
    rw [hr] at HM
    have HM' := Lib.hid HM; clear HM hr
    have HD := Lib.hid (fun W => made07_agg k m W h1 h8)
    go_enter Try.func8, Try.ntmps8
    go_wp2_with (first
      | (go_at_call 17; refine (HM'.out _).mono ?_; rintro e w1 ⟨rfl, rfl⟩))
    refine (HD.out _).mono ?_
    rintro e w2 ⟨⟨sy, x, a, hck, rfl⟩, hb2⟩
    clear HM' HD
    obtain ⟨q1, q2, q3, q4, q5⟩ := read_frame ⟨sy, x, a⟩ m hck l
    have q6 := bytes_len ⟨sy, x, a⟩ m hck
    obtain ⟨q7, q8, q9⟩ := frame_bounds ⟨sy, x, a⟩ m hck
    have HBy := fun W => Bytes_any ⟨sy, x, a⟩ m W (by simp only at q7 ⊢; omega)
    rw [hck] at HBy
    simp only at q6 q7 q8 q9
    have HRd := fun W => Read_any (bytesL ⟨sy, x, a⟩ m ++ l) m a W (by rw [List.length_append]; omega)
    have HSz := Lib.hid (fun W => size_any ⟨sy, x, a⟩ W (by simp only; omega))
    simp only at q1 q2 q3
    rw [q1, q2, q3] at HRd
    clear q1 q2 q3 q4 q5
    generalize bytesL ⟨sy, x, a⟩ m = L at *
    have hLl : L.length + l.length ≤ 9223372036854775807 := by omega
    have HBy' := Lib.hid HBy; clear HBy
    have HRd' := Lib.hid HRd; clear HRd
    have hck' := Lib.hid hck; clear hck
    unfold Tok.v Fault.v at *
    simp only at HBy' HRd' HSz
    have hT := Blk.new w2 41 #[.int .i64 sy, .string ⟨x.toArray⟩, .int .i64 a]
    have hB := hb2.alloc hb2.size (.cells #[.int .i64 sy, .string ⟨x.toArray⟩, .int .i64 a] 41)
    clear hb2
    go_wp2_with fail
    refine (HBy'.out _).mono ?_
    rintro e w3 ⟨rfl, hb3⟩
    have hT3 := Blk.on hT hb3
    have hB3 := below_on hB hb3 (Nat.le_refl _)
    clear hT hB hb3 HBy'
    obtain ⟨c0, c1, c2, f0, f1, f2⟩ := cells3 hT3
    go_wp2_with fail
    refine (HRd'.out _).mono ?_
    rintro e w4 ⟨rfl, hb4⟩
    obtain ⟨r1, r2, r3⟩ := put_new w4 (.int .i64 sy) (.string ⟨x.toArray⟩) (.int .i64 a) (.int .i64 0) (.int .i64 0) 41 27
    have hT4 := ((Blk.on hT3 hb4).alloc (.cells #[.int .i64 sy, .string ⟨x.toArray⟩, .int .i64 a] 41)).alloc (.cells #[.int .i64 0, .int .i64 0] 27)
    have hB4 := below_on hB3 hb4 (Nat.le_refl _)
    have hB5 := hB4.trans (r3.mono hB4.size)
    have hz4 := hB4.size
    clear c0 c1 c2 f0 f1 f2 hT3 hb4 hB4 r1 r3 hB3
    obtain ⟨c0, c1, c2, f0, f1, f2⟩ := cells3 hT4
    have HT4 := Lib.hid hT4
    have HR2 := Lib.hid r2
    have HB5 := Lib.hid hB5
    clear hT4 r2 hB5
    go_wp2_with fail
    refine (HSz.out _).mono ?_
    rintro e w5 ⟨rfl, hb5⟩
    have r5 := Blk.on HR2.out hb5
    have hB6 := below_on HB5.out hb5 (Nat.le_refl _)
    clear HT4 HR2 HB5 c0 c1 c2 f0 f1 f2 hb5 HRd' HSz
    have hfr := frame_read l m h1 h8 0 (by decide) (by decide)
    have HQ := fun W => Read_any l m 0 W (by omega)
    generalize readT l m 0 = t2 at *
    generalize readU l m 0 = u2 at *
    generalize readF l m 0 = f2 at *
    obtain ⟨sy2, x2, a2⟩ := t2
    obtain ⟨fe, fa⟩ := f2
    unfold Tok.v Fault.v at HQ
    simp only at HQ hfr
    have HQ' := Lib.hid HQ; clear HQ
    have HFR := Lib.hid hfr; clear hfr
    clear hLl q7 q8 q9 hck'
    go_wp2_with fail
    clear q6
    refine (HQ'.out _).mono ?_
    rintro e w6 ⟨rfl, hb6⟩
    have r6 := Blk.on r5 hb6
    have hB7 := below_on hB6 hb6 (Nat.le_refl _)
    have r7 := r6.alloc (.cells #[.int .i64 sy2, .string ⟨x2.toArray⟩, .int .i64 a2] 41)
    have hlt := r6.lt
    have hz5 : w.heap.size ≤ w4.heap.size + 1 := by omega
    have hne : w4.heap.size + 1 ≠ w6.heap.size := by omega
    obtain ⟨c0, c1, f0, f1⟩ := cells2 r6
    obtain ⟨d0, d1, k0, k1⟩ := cells2 r7
    clear HQ' r5 hB6 hb6 r6 r7
    by_cases hfe : fe = 0
    · subst hfe
      obtain ⟨g1, g2, g3, g4, _, _⟩ := HFR.out rfl
      obtain ⟨q7, _, _⟩ := frame_bounds ⟨sy2, x2, a2⟩ m g1
      have HBy := fun W => Bytes_any ⟨sy2, x2, a2⟩ m W (by simp only at q7 ⊢; omega)
      rw [g1] at HBy
      generalize bytesL ⟨sy2, x2, a2⟩ m = L2 at *
      unfold Tok.v at HBy
      simp only at HBy
      have HBy' := Lib.hid HBy; clear HBy g1 HFR q7
      go_wp2_with fail
      refine (HBy'.out _).mono ?_
      rintro e w7 ⟨rfl, hb9⟩
      have hW := below_on (((hB7.setCell (p := ⟨w4.heap.size + 1, 0, none⟩) hz5 (.int .i64 0)).setCell (p := ⟨w4.heap.size + 1, 1, none⟩) hz5 (.int .i64 fa)).alloc (by simp; exact hB7.size) (.cells #[.int .i64 sy2, .string ⟨x2.toArray⟩, .int .i64 a2] 41)) hb9 (Nat.le_refl _)
      clear hb9 HBy' c0 c1 f0 f1 d0 d1 k0 k1
      go_wp2_with (go_at_call 30; refine (HA.out _).mono ?_; rintro e w8 ⟨rfl, hb8⟩)
      go_ret
      exact ⟨rfl, below_on hW hb8 (Nat.le_refl _)⟩
    · clear HFR
      go_wp2_with (go_at_call 30; refine (HA.out _).mono ?_; rintro e w8 ⟨rfl, hb8⟩)
      go_ret
      exact ⟨rfl, below_on (((hB7.setCell (p := ⟨w4.heap.size + 1, 0, none⟩) hz5 (.int .i64 fe)).setCell (p := ⟨w4.heap.size + 1, 1, none⟩) hz5 (.int .i64 fa)).alloc (by simp; exact hB7.size) (.cells #[.int .i64 sy2, .string ⟨x2.toArray⟩, .int .i64 a2] 41)) hb8 (Nat.le_refl _)⟩
  · go_enter Try.func8, Try.ntmps8
    go_wp2_with (go_at_call 30; refine (HA.out _).mono ?_; rintro e w1 ⟨rfl, hb1⟩)
    go_ret
    exact ⟨rfl, hb1⟩
end Go.Proofs.Ytdndomjmnlpjgaa
