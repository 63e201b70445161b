/- The walk of TokenCuts. -/
import Derived.Test.YtdndomjmnlpjgaaT18
namespace Go.Proofs.Ytdndomjmnlpjgaa
open Go.RowKit
theorem read_short (l : List UInt8) (m : Nat) (h1 : 1 ≤ m) (h8 : m ≤ 8) (hb : badE l m = 0) (hw : wholeB l = false) : readT l m 0 = tok0 ∧ readU l m 0 = 0 ∧ readF l m 0 = ⟨5, 0⟩ ∧ begB l m = true ∧ begE l m = 0 := by
  have hok : readOk l m 0 = false := by rw [readOk_in l m 0 h1 h8 (by decide) (by decide), hb, hw]; rfl
  refine ⟨if_neg (by rw [hok]; decide), if_neg (by rw [hok]; decide), ?_, ?_, ?_⟩
  · rw [readF_in l m 0 h1 h8 (by decide) (by decide), hb, hw]; rfl
  · rw [begB_in l m h1 h8, hb, hw]; rfl
  · rw [begE_in l m h1 h8, hb]
set_option maxRecDepth 100000 in
set_option maxHeartbeats 6400000 in
theorem TokenCuts_any (k n cut : Int) (b : Nat) (w : World) (hb8 : b < 256) :
    Calls Try.prog 11 #[.int .i64 k, .int .i64 n, .int .i64 cut, .int .u8 b] w fun e w' => e = .returned (.bool true) ∧ Below w.heap.size w w' := by
  have HA := Lib.hid (fun W => awake07_any W)
  obtain ⟨r, m, hr, hrm, h1, h8⟩ := mod_terms n
  have HM := fun W => Mod_any n 8 W (by decide) (by decide)
  rw [hr] at HM
  have HM' := Lib.hid HM; clear HM hr
  have HD := Lib.hid (fun W => made07_agg k m W h1 h8)
  go_enter Try.func11, Try.ntmps11
  go_wp2_with (first
    | (go_at_call 17; refine (HM'.out _).mono ?_; rintro e w1 ⟨rfl, rfl⟩))
  refine (HD.out _).mono ?_
  rintro e w2 ⟨⟨sy, x, a, hck, rfl⟩, hb2⟩
  clear HM' HD
  have q45 := (read_frame ⟨sy, x, a⟩ m hck []).2.2.2
  obtain ⟨q4, q5⟩ := q45
  rw [List.append_nil] at q4 q5
  have q6 := bytes_len ⟨sy, x, a⟩ m hck
  have hcf := cut_facts ⟨sy, x, a⟩ m hck
  obtain ⟨q7, q8, q9⟩ := frame_bounds ⟨sy, x, a⟩ m hck
  have HBy := fun W => Bytes_any ⟨sy, x, a⟩ m W (by simp only at q7 ⊢; omega)
  rw [hck] at HBy
  simp only at q6 q7 q8 q9
  generalize bytesL ⟨sy, x, a⟩ m = L at *
  have HMc := fun W => Mod_any cut (L.length : Int) W (by omega) (by omega)
  obtain ⟨c, hc, hcL⟩ : ∃ c : Nat, cut % (L.length : Int) = c ∧ c < L.length := by
    have e1 := Int.emod_nonneg cut (show (L.length : Int) ≠ 0 by omega)
    have e2 := Int.emod_lt_of_pos cut (show (0 : Int) < (L.length : Int) by omega)
    exact ⟨(cut % (L.length : Int)).toNat, by omega, by omega⟩
  rw [hc] at HMc
  obtain ⟨g1, g2, g3⟩ := hcf c hcL
  have hpl : (L.take c).length = c := by rw [List.length_take]; omega
  clear hc hcf
  obtain ⟨p1, p2, p3, p4, p5⟩ := read_short _ m h1 h8 g1 g2
  have HRp := fun W => Read_any (L.take c) m 0 W (by omega)
  have HBp := fun W => begins_any (L.take c) m W (by omega)
  rw [p1, p2, p3] at HRp
  rw [p4, p5] at HBp
  have HBs := fun W => begins_any L m W (by omega)
  rw [begB_in L m h1 h8, begE_in L m h1 h8, q4, q5, show (decide ((0 : Int) = 0) && !true) = false from rfl] at HBs
  rw [← hpl] at g3
  have hmf := more_facts (L.take c) (UInt8.ofNat b) m h1 h8 (by rw [hpl] at g3 ⊢; exact g3)
  have HRn := fun W => Read_any (L.take c ++ [UInt8.ofNat b]) m 0 W (by rw [List.length_append, hpl]; simp; omega)
  have HBn := fun W => begins_any (L.take c ++ [UInt8.ofNat b]) m W (by rw [List.length_append, hpl]; simp; omega)
  generalize readT (L.take c ++ [UInt8.ofNat b]) m 0 = t2 at *
  generalize readU (L.take c ++ [UInt8.ofNat b]) m 0 = u2 at *
  generalize readF (L.take c ++ [UInt8.ofNat b]) m 0 = f2 at *
  generalize begB (L.take c ++ [UInt8.ofNat b]) m = bb at *
  generalize begE (L.take c ++ [UInt8.ofNat b]) m = be at *
  obtain ⟨sy2, x2, a2⟩ := t2
  obtain ⟨fe, fa⟩ := f2
  unfold Tok.v Fault.v tok0 at *
  simp only at *
  have HBy' := Lib.hid HBy; clear HBy
  have HMc' := Lib.hid HMc; clear HMc
  have HRp' := Lib.hid HRp; clear HRp
  have HBp' := Lib.hid HBp; clear HBp
  have HBs' := Lib.hid HBs; clear HBs
  have HRn' := Lib.hid HRn; clear HRn
  have HBn' := Lib.hid HBn; clear HBn
  have hck' := Lib.hid hck
  have hmf' := Lib.hid hmf
  have hpl' := Lib.hid hpl
  have hL2 : 2 ≤ L.length := by omega
  have hL26 : L.length ≤ 26 := by omega
  clear hck hmf q4 q5 p1 p2 p3 p4 p5 g1 g2 g3 q8 q9 hpl q6 q7 hck'
  have hT := Blk.new w2 41 #[.int .i64 sy, .string ⟨x.toArray⟩, .int .i64 a]
  have hB := hb2.alloc hb2.size (.cells #[.int .i64 sy, .string ⟨x.toArray⟩, .int .i64 a] 41)
  clear hb2
  go_wp2_with fail
  refine (HBy'.out _).mono ?_
  rintro e w3 ⟨rfl, hb3⟩
  have hB3 := below_on hB hb3 (Nat.le_refl _)
  clear hT hB hb3 HBy'
  go_wp2_with (go_at_call 17; refine (HMc'.out _).mono ?_; rintro e w1 ⟨rfl, rfl⟩)
  refine (HBp'.out _).mono ?_
  rintro e w4 ⟨rfl, hb4⟩
  have hB4 := below_on hB3 hb4 (Nat.le_refl _)
  clear HMc' HBp' hB3 hb4
  go_wp2_with fail
  refine (HRp'.out _).mono ?_
  rintro e w5 ⟨rfl, hb5⟩
  have hB5 := below_on hB4 hb5 (Nat.le_refl _)
  have hz5 := hB5.size
  obtain ⟨r1, r2, r3⟩ := put_new w5 (.int .i64 0) (.string ⟨#[]⟩) (.int .i64 0) (.int .i64 5) (.int .i64 0) 41 27
  have hB6 := hB5.trans (r3.mono hB5.size)
  clear HRp' hB4 hb5 hB5 r1 r3
  have HF := Lib.hid r2
  have HB6 := Lib.hid hB6
  clear r2 hB6
  go_wp2_with fail
  refine (HBs'.out _).mono ?_
  rintro e w6 ⟨rfl, hb6⟩
  have r6 := Blk.on HF.out hb6
  have hB7 := below_on HB6.out hb6 (Nat.le_refl _)
  clear HF HB6 hb6 HBs'
  obtain ⟨c0, c1, f0, f1⟩ := cells2 r6
  have hcv := run_byte_str w6 b hb8
  have r7 := r6.alloc (.cells #[.int .u8 b] 5)
  have hB8 := hB7.alloc hB7.size (.cells #[.int .u8 b] 5)
  have hpc : ((L.take c).length : Int) = c := by have := hpl'.out; omega
  have hmin : min c L.length = c := by omega
  have hmin2 : min (c : Int) (L.length : Int) = c := by omega
  go_wp2_with fail
  refine (HBn'.out _).mono ?_
  rintro e w7 ⟨rfl, hb7⟩
  have r8 := Blk.on r7 hb7
  have hB9 := below_on hB8 hb7 (Nat.le_refl _)
  clear HBn' hb7 r7 r6 hcv hB8 hB7 c0 c1 f0 f1
  go_wp2_with fail
  refine (HRn'.out _).mono ?_
  rintro e w8 ⟨rfl, hb8'⟩
  have r9 := Blk.on r8 hb8'
  have hBx := below_on hB9 hb8' (Nat.le_refl _)
  have hlt := r9.lt
  have hz6 : w.heap.size ≤ w5.heap.size + 1 := by omega
  have hne : w5.heap.size + 1 ≠ w8.heap.size := by omega
  have ra := r9.alloc (.cells #[.int .i64 sy2, .string ⟨x2.toArray⟩, .int .i64 a2] 41)
  obtain ⟨c0, c1, f0, f1⟩ := cells2 r9
  obtain ⟨d0, d1, k0, k1⟩ := cells2 ra
  have hW := fun v => ((hBx.setCell (p := ⟨w5.heap.size + 1, 0, none⟩) hz6 v).setCell (p := ⟨w5.heap.size + 1, 1, none⟩) hz6 (.int .i64 fa)).alloc (by simp; exact hBx.size) (.cells #[.int .i64 sy2, .string ⟨x2.toArray⟩, .int .i64 a2] 41)
  have HW := Lib.hid hW
  clear hW HRn' r8 hb8' hB9 r9 ra hBx
  have hml := hpl'.out
  rcases hmf'.out with ⟨rfl, rfl, rfl⟩ | ⟨rfl, rfl, rfl, hu⟩ | ⟨rfl, hbe, rfl⟩
  · clear hmf' hpl' hml
    go_wp2_with (go_at_call 30; refine (HA.out _).mono ?_; rintro e w9 ⟨rfl, hb9⟩)
    go_ret
    exact ⟨rfl, below_on (HW.out _) hb9 (Nat.le_refl _)⟩
  · rw [hml] at hu
    subst hu
    clear hmf' hpl' hml
    go_wp2_with (go_at_call 30; refine (HA.out _).mono ?_; rintro e w9 ⟨rfl, hb9⟩)
    go_ret
    exact ⟨rfl, below_on (HW.out _) hb9 (Nat.le_refl _)⟩
  · clear hmf' hpl' hml
    go_wp2_with (go_at_call 30; refine (HA.out _).mono ?_; rintro e w9 ⟨rfl, hb9⟩)
    go_ret
    exact ⟨by show Ending.returned (.bool (fe != 0)) = _; rw [bne_iff_ne.2 hbe], below_on (HW.out _) hb9 (Nat.le_refl _)⟩
end Go.Proofs.Ytdndomjmnlpjgaa
