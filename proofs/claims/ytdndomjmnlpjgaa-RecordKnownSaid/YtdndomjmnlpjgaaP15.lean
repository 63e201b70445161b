/- record.Check of good tokens. No condition. -/
import Derived.Test.YtdndomjmnlpjgaaP14
namespace Go.Proofs.Ytdndomjmnlpjgaa
open Go.RowKit
set_option maxRecDepth 100000 in
set_option maxHeartbeats 6400000 in
theorem Check_e1 (A : Option Addr) (cap D m : Nat) (l : List Tok) (fin at_ : Int) (w : World) (hS : Sl w D 3 A l.length cap (tokC l)) (hD : D ≤ w.heap.size) (h1 : 1 ≤ m) (h8 : m ≤ 8) (hn : l.length ≤ 1000) (hl : ∀ t ∈ l, t.text.length ≤ maxLen)
    (he : listE1 l m = 0) (hno : ∀ t ∈ l, t.sym ≠ m) (hpl : plE l = 0) (ha0 : 0 ≤ at_) (ha1 : at_ ≤ 1099511627776) (hnil : l = []) (hfin : fin = 1) :
    Calls Try.prog 23 #[.agg #[.slice A l.length cap, .int .i64 fin, .int .i64 at_], .int .i64 m] w fun e w' => e = .returned (.int .i64 0) ∧ Below w.heap.size w w' := by
  have hck : chkE l m = 0 := by unfold chkE; rw [if_pos he, hpl]
  have HCk := Lib.hid (fun W hS hD => checked_any A cap D l m W hS hD (by omega) hl)
  rw [hck] at HCk
  have HHas := Lib.hid (fun p W hS hD hp => has_none A cap D l m p W hS hD (by omega) hp hno)
  have HBd := Lib.hid (chk_bounds he)
  have mz1 : (1 : Int) ≤ m := by omega
  have mz8 : (m : Int) ≤ 8 := by omega
  have nz : (l.length : Int) ≤ 1000 := by omega
  have b0 := (Blk.new w 43 #[.slice A l.length cap, .int .i64 fin, .int .i64 at_]).alloc (.cells #[.int .i64 m] 3)
  have b1 := Blk.newAt (w.alloc (.cells #[.slice A l.length cap, .int .i64 fin, .int .i64 at_] 43)) 3 #[.int .i64 m] (g := w.heap.size + 1) (by simp)
  have hB0 := ((Below.refl w.heap.size w).alloc (Nat.le_refl _) (.cells #[.slice A l.length cap, .int .i64 fin, .int .i64 at_] 43)).alloc (by simp) (.cells #[.int .i64 m] 3)
  have HH := Lib.hid (And.intro b0 (And.intro b1 hB0))
  clear hck hno hpl b0 b1 hB0
  have HNil := Lib.hid hnil
  have HFin := Lib.hid hfin
  clear hnil hfin
  go_enter Try.func23, Try.ntmps23
  go_wp2_with fail
  obtain ⟨b0, b1, hB0⟩ := HH.out
  clear HH
  generalize (w.alloc (.cells #[.slice A l.length cap, .int .i64 fin, .int .i64 at_] 43)).alloc (.cells #[.int .i64 m] 3) = W1 at *
  go_loopw [26] (fun v W => ∃ k : Nat, k ≤ l.length ∧ v = .int .i64 k ∧ Blk W w.heap.size 43 #[.slice A l.length cap, .int .i64 fin, .int .i64 at_] ∧ Blk W (w.heap.size + 1) 3 #[.int .i64 m] ∧ Below w.heap.size w W) (fun v _ => l.length - (intOf v).toNat)
  case atStart => exact ⟨0, Nat.zero_le _, rfl, b0, b1, hB0⟩
  case round =>
    clear b0 b1 hB0
    obtain ⟨k, hk, rfl, b0, b1, hB⟩ := hrel
    obtain ⟨x0, x1, x2, f0, f1, f2⟩ := cells3 b0
    have y0 : wr.cell? ⟨w.heap.size + 1, 0, none⟩ = some (.int .i64 m) := b1.cell 0
    have hz0 := b0.lt
    have hz1 := b1.lt
    by_cases hlt : k < l.length
    · obtain ⟨b, o, rfl, hb, c0, c1, c2⟩ := sl_tok (hS.below hB hD) hlt
      have htl := hl l[k] (List.getElem_mem hlt)
      have hc0 := listE1_all l m he l[k] (List.getElem_mem hlt)
      have HC := Lib.hid (fun W => check_any l[k] m W htl)
      rw [hc0] at HC
      generalize l[k] = t at *
      obtain ⟨sy, x, a⟩ := t
      unfold Tok.v at HC
      simp only at *
      have y1 := ((b1.alloc (.cells #[.int .i64 sy, .string ⟨x.toArray⟩, .int .i64 a] 41)).cell 0)
      have HB := Lib.hid (And.intro (hB.alloc hB.size (.cells #[.int .i64 sy, .string ⟨x.toArray⟩, .int .i64 a] 41)) (And.intro (b0.alloc (.cells #[.int .i64 sy, .string ⟨x.toArray⟩, .int .i64 a] 41)) (b1.alloc (.cells #[.int .i64 sy, .string ⟨x.toArray⟩, .int .i64 a] 41))))
      clear hB b0 b1 hl hS hc0
      go_wp2_with fail
      refine (HC.out _).mono ?_
      rintro e w3 ⟨rfl, hb3⟩
      have HR := Lib.hid (And.intro (Blk.on HB.out.2.1 hb3) (And.intro (Blk.on HB.out.2.2 hb3) (below_on HB.out.1 hb3 (Nat.le_refl _))))
      clear hb3
      go_wp2_with fail
      go_roundw
      case rel => exact ⟨k + 1, by omega, by go_num, HR.out⟩
      case measure => simp [intOf]; omega
    · obtain rfl : k = l.length := by omega
      have HHas1 := Lib.hid (HHas.out (w.heap.size + 1) wr (hS.below hB hD) (Nat.le_trans hD hB.size) y0)
      have HB := Lib.hid (And.intro hB (And.intro b0 b1))
      have HS := Lib.hid hS
      clear hB b0 b1 hS hl HHas hk hlt
      go_wp2_with fail
      refine HHas1.out.mono ?_
      rintro e w3 ⟨rfl, hb3⟩
      obtain ⟨hB, b0, b1⟩ := HB.out
      have b0' := Blk.on b0 hb3
      have b1' := Blk.on b1 hb3
      have hB' := below_on hB hb3 (Nat.le_refl _)
      clear x0 x1 x2 f0 f1 f2 y0 HB hb3 hB b0 b1 HHas1 hz0 hz1
      obtain ⟨x0, x1, x2, f0, f1, f2⟩ := cells3 b0'
      have y0 : w3.cell? ⟨w.heap.size + 1, 0, none⟩ = some (.int .i64 m) := b1'.cell 0
      have HCk1 := Lib.hid (HCk.out w3 (HS.out.below hB' hD) (Nat.le_trans hD hB'.size))
      have HB := Lib.hid (And.intro hB' (And.intro b0' b1'))
      clear b0' b1' hB' HCk
      go_wp2_with fail
      refine HCk1.out.mono ?_
      rintro e w4 ⟨rfl, hb4⟩
      obtain ⟨hB, b0, b1⟩ := HB.out
      have b0' := Blk.on b0 hb4
      have hB' := below_on hB hb4 (Nat.le_refl _)
      clear x0 x1 x2 f0 f1 f2 y0 HB hb4 hB b0 b1 HCk1
      obtain ⟨x0, x1, x2, f0, f1, f2⟩ := cells3 b0'
      have hfin := HFin.out
      subst hfin
      have HB := Lib.hid hB'
      clear hB' b0'
      have hnil := HNil.out
      subst hnil
      simp only [List.length_nil] at *
      go_wp2_with fail
      go_ret
      exact ⟨rfl, HB.out⟩
set_option maxRecDepth 100000 in
set_option maxHeartbeats 6400000 in
theorem Check_e2 (A : Option Addr) (cap D m : Nat) (l : List Tok) (fin at_ : Int) (w : World) (hS : Sl w D 3 A l.length cap (tokC l)) (hD : D ≤ w.heap.size) (h1 : 1 ≤ m) (h8 : m ≤ 8) (hn : l.length ≤ 1000) (hl : ∀ t ∈ l, t.text.length ≤ maxLen)
    (he : listE1 l m = 0) (hno : ∀ t ∈ l, t.sym ≠ m) (hpl : plE l = 0) (ha0 : 0 ≤ at_) (ha1 : at_ ≤ 1099511627776) (hnil : l = []) (hfin : fin = 2) :
    Calls Try.prog 23 #[.agg #[.slice A l.length cap, .int .i64 fin, .int .i64 at_], .int .i64 m] w fun e w' => e = .returned (.int .i64 5) ∧ Below w.heap.size w w' := by
  have hck : chkE l m = 0 := by unfold chkE; rw [if_pos he, hpl]
  have HCk := Lib.hid (fun W hS hD => checked_any A cap D l m W hS hD (by omega) hl)
  rw [hck] at HCk
  have HHas := Lib.hid (fun p W hS hD hp => has_none A cap D l m p W hS hD (by omega) hp hno)
  have HBd := Lib.hid (chk_bounds he)
  have mz1 : (1 : Int) ≤ m := by omega
  have mz8 : (m : Int) ≤ 8 := by omega
  have nz : (l.length : Int) ≤ 1000 := by omega
  have b0 := (Blk.new w 43 #[.slice A l.length cap, .int .i64 fin, .int .i64 at_]).alloc (.cells #[.int .i64 m] 3)
  have b1 := Blk.newAt (w.alloc (.cells #[.slice A l.length cap, .int .i64 fin, .int .i64 at_] 43)) 3 #[.int .i64 m] (g := w.heap.size + 1) (by simp)
  have hB0 := ((Below.refl w.heap.size w).alloc (Nat.le_refl _) (.cells #[.slice A l.length cap, .int .i64 fin, .int .i64 at_] 43)).alloc (by simp) (.cells #[.int .i64 m] 3)
  have HH := Lib.hid (And.intro b0 (And.intro b1 hB0))
  clear hck hno hpl b0 b1 hB0
  have HNil := Lib.hid hnil
  have HFin := Lib.hid hfin
  clear hnil hfin
  go_enter Try.func23, Try.ntmps23
  go_wp2_with fail
  obtain ⟨b0, b1, hB0⟩ := HH.out
  clear HH
  generalize (w.alloc (.cells #[.slice A l.length cap, .int .i64 fin, .int .i64 at_] 43)).alloc (.cells #[.int .i64 m] 3) = W1 at *
  go_loopw [26] (fun v W => ∃ k : Nat, k ≤ l.length ∧ v = .int .i64 k ∧ Blk W w.heap.size 43 #[.slice A l.length cap, .int .i64 fin, .int .i64 at_] ∧ Blk W (w.heap.size + 1) 3 #[.int .i64 m] ∧ Below w.heap.size w W) (fun v _ => l.length - (intOf v).toNat)
  case atStart => exact ⟨0, Nat.zero_le _, rfl, b0, b1, hB0⟩
  case round =>
    clear b0 b1 hB0
    obtain ⟨k, hk, rfl, b0, b1, hB⟩ := hrel
    obtain ⟨x0, x1, x2, f0, f1, f2⟩ := cells3 b0
    have y0 : wr.cell? ⟨w.heap.size + 1, 0, none⟩ = some (.int .i64 m) := b1.cell 0
    have hz0 := b0.lt
    have hz1 := b1.lt
    by_cases hlt : k < l.length
    · obtain ⟨b, o, rfl, hb, c0, c1, c2⟩ := sl_tok (hS.below hB hD) hlt
      have htl := hl l[k] (List.getElem_mem hlt)
      have hc0 := listE1_all l m he l[k] (List.getElem_mem hlt)
      have HC := Lib.hid (fun W => check_any l[k] m W htl)
      rw [hc0] at HC
      generalize l[k] = t at *
      obtain ⟨sy, x, a⟩ := t
      unfold Tok.v at HC
      simp only at *
      have y1 := ((b1.alloc (.cells #[.int .i64 sy, .string ⟨x.toArray⟩, .int .i64 a] 41)).cell 0)
      have HB := Lib.hid (And.intro (hB.alloc hB.size (.cells #[.int .i64 sy, .string ⟨x.toArray⟩, .int .i64 a] 41)) (And.intro (b0.alloc (.cells #[.int .i64 sy, .string ⟨x.toArray⟩, .int .i64 a] 41)) (b1.alloc (.cells #[.int .i64 sy, .string ⟨x.toArray⟩, .int .i64 a] 41))))
      clear hB b0 b1 hl hS hc0
      go_wp2_with fail
      refine (HC.out _).mono ?_
      rintro e w3 ⟨rfl, hb3⟩
      have HR := Lib.hid (And.intro (Blk.on HB.out.2.1 hb3) (And.intro (Blk.on HB.out.2.2 hb3) (below_on HB.out.1 hb3 (Nat.le_refl _))))
      clear hb3
      go_wp2_with fail
      go_roundw
      case rel => exact ⟨k + 1, by omega, by go_num, HR.out⟩
      case measure => simp [intOf]; omega
    · obtain rfl : k = l.length := by omega
      have HHas1 := Lib.hid (HHas.out (w.heap.size + 1) wr (hS.below hB hD) (Nat.le_trans hD hB.size) y0)
      have HB := Lib.hid (And.intro hB (And.intro b0 b1))
      have HS := Lib.hid hS
      clear hB b0 b1 hS hl HHas hk hlt
      go_wp2_with fail
      refine HHas1.out.mono ?_
      rintro e w3 ⟨rfl, hb3⟩
      obtain ⟨hB, b0, b1⟩ := HB.out
      have b0' := Blk.on b0 hb3
      have b1' := Blk.on b1 hb3
      have hB' := below_on hB hb3 (Nat.le_refl _)
      clear x0 x1 x2 f0 f1 f2 y0 HB hb3 hB b0 b1 HHas1 hz0 hz1
      obtain ⟨x0, x1, x2, f0, f1, f2⟩ := cells3 b0'
      have y0 : w3.cell? ⟨w.heap.size + 1, 0, none⟩ = some (.int .i64 m) := b1'.cell 0
      have HCk1 := Lib.hid (HCk.out w3 (HS.out.below hB' hD) (Nat.le_trans hD hB'.size))
      have HB := Lib.hid (And.intro hB' (And.intro b0' b1'))
      clear b0' b1' hB' HCk
      go_wp2_with fail
      refine HCk1.out.mono ?_
      rintro e w4 ⟨rfl, hb4⟩
      obtain ⟨hB, b0, b1⟩ := HB.out
      have b0' := Blk.on b0 hb4
      have hB' := below_on hB hb4 (Nat.le_refl _)
      clear x0 x1 x2 f0 f1 f2 y0 HB hb4 hB b0 b1 HCk1
      obtain ⟨x0, x1, x2, f0, f1, f2⟩ := cells3 b0'
      have hfin := HFin.out
      subst hfin
      have HB := Lib.hid hB'
      clear hB' b0'
      have hnil := HNil.out
      subst hnil
      simp only [List.length_nil] at *
      go_wp2_with fail
      go_ret
      exact ⟨rfl, HB.out⟩
set_option maxRecDepth 100000 in
set_option maxHeartbeats 6400000 in
theorem Check_e0 (A : Option Addr) (cap D m : Nat) (l : List Tok) (fin at_ : Int) (w : World) (hS : Sl w D 3 A l.length cap (tokC l)) (hD : D ≤ w.heap.size) (h1 : 1 ≤ m) (h8 : m ≤ 8) (hn : l.length ≤ 1000) (hl : ∀ t ∈ l, t.text.length ≤ maxLen)
    (he : listE1 l m = 0) (hno : ∀ t ∈ l, t.sym ≠ m) (hpl : plE l = 0) (ha0 : 0 ≤ at_) (ha1 : at_ ≤ 1099511627776) (hnil : l = []) (hfin : fin = 0) :
    Calls Try.prog 23 #[.agg #[.slice A l.length cap, .int .i64 fin, .int .i64 at_], .int .i64 m] w fun e w' => e = .returned (.int .i64 11) ∧ Below w.heap.size w w' := by
  have hck : chkE l m = 0 := by unfold chkE; rw [if_pos he, hpl]
  have HCk := Lib.hid (fun W hS hD => checked_any A cap D l m W hS hD (by omega) hl)
  rw [hck] at HCk
  have HHas := Lib.hid (fun p W hS hD hp => has_none A cap D l m p W hS hD (by omega) hp hno)
  have HBd := Lib.hid (chk_bounds he)
  have mz1 : (1 : Int) ≤ m := by omega
  have mz8 : (m : Int) ≤ 8 := by omega
  have nz : (l.length : Int) ≤ 1000 := by omega
  have b0 := (Blk.new w 43 #[.slice A l.length cap, .int .i64 fin, .int .i64 at_]).alloc (.cells #[.int .i64 m] 3)
  have b1 := Blk.newAt (w.alloc (.cells #[.slice A l.length cap, .int .i64 fin, .int .i64 at_] 43)) 3 #[.int .i64 m] (g := w.heap.size + 1) (by simp)
  have hB0 := ((Below.refl w.heap.size w).alloc (Nat.le_refl _) (.cells #[.slice A l.length cap, .int .i64 fin, .int .i64 at_] 43)).alloc (by simp) (.cells #[.int .i64 m] 3)
  have HH := Lib.hid (And.intro b0 (And.intro b1 hB0))
  clear hck hno hpl b0 b1 hB0
  have HNil := Lib.hid hnil
  have HFin := Lib.hid hfin
  clear hnil hfin
  go_enter Try.func23, Try.ntmps23
  go_wp2_with fail
  obtain ⟨b0, b1, hB0⟩ := HH.out
  clear HH
  generalize (w.alloc (.cells #[.slice A l.length cap, .int .i64 fin, .int .i64 at_] 43)).alloc (.cells #[.int .i64 m] 3) = W1 at *
  go_loopw [26] (fun v W => ∃ k : Nat, k ≤ l.length ∧ v = .int .i64 k ∧ Blk W w.heap.size 43 #[.slice A l.length cap, .int .i64 fin, .int .i64 at_] ∧ Blk W (w.heap.size + 1) 3 #[.int .i64 m] ∧ Below w.heap.size w W) (fun v _ => l.length - (intOf v).toNat)
  case atStart => exact ⟨0, Nat.zero_le _, rfl, b0, b1, hB0⟩
  case round =>
    clear b0 b1 hB0
    obtain ⟨k, hk, rfl, b0, b1, hB⟩ := hrel
    obtain ⟨x0, x1, x2, f0, f1, f2⟩ := cells3 b0
    have y0 : wr.cell? ⟨w.heap.size + 1, 0, none⟩ = some (.int .i64 m) := b1.cell 0
    have hz0 := b0.lt
    have hz1 := b1.lt
    by_cases hlt : k < l.length
    · obtain ⟨b, o, rfl, hb, c0, c1, c2⟩ := sl_tok (hS.below hB hD) hlt
      have htl := hl l[k] (List.getElem_mem hlt)
      have hc0 := listE1_all l m he l[k] (List.getElem_mem hlt)
      have HC := Lib.hid (fun W => check_any l[k] m W htl)
      rw [hc0] at HC
      generalize l[k] = t at *
      obtain ⟨sy, x, a⟩ := t
      unfold Tok.v at HC
      simp only at *
      have y1 := ((b1.alloc (.cells #[.int .i64 sy, .string ⟨x.toArray⟩, .int .i64 a] 41)).cell 0)
      have HB := Lib.hid (And.intro (hB.alloc hB.size (.cells #[.int .i64 sy, .string ⟨x.toArray⟩, .int .i64 a] 41)) (And.intro (b0.alloc (.cells #[.int .i64 sy, .string ⟨x.toArray⟩, .int .i64 a] 41)) (b1.alloc (.cells #[.int .i64 sy, .string ⟨x.toArray⟩, .int .i64 a] 41))))
      clear hB b0 b1 hl hS hc0
      go_wp2_with fail
      refine (HC.out _).mono ?_
      rintro e w3 ⟨rfl, hb3⟩
      have HR := Lib.hid (And.intro (Blk.on HB.out.2.1 hb3) (And.intro (Blk.on HB.out.2.2 hb3) (below_on HB.out.1 hb3 (Nat.le_refl _))))
      clear hb3
      go_wp2_with fail
      go_roundw
      case rel => exact ⟨k + 1, by omega, by go_num, HR.out⟩
      case measure => simp [intOf]; omega
    · obtain rfl : k = l.length := by omega
      have HHas1 := Lib.hid (HHas.out (w.heap.size + 1) wr (hS.below hB hD) (Nat.le_trans hD hB.size) y0)
      have HB := Lib.hid (And.intro hB (And.intro b0 b1))
      have HS := Lib.hid hS
      clear hB b0 b1 hS hl HHas hk hlt
      go_wp2_with fail
      refine HHas1.out.mono ?_
      rintro e w3 ⟨rfl, hb3⟩
      obtain ⟨hB, b0, b1⟩ := HB.out
      have b0' := Blk.on b0 hb3
      have b1' := Blk.on b1 hb3
      have hB' := below_on hB hb3 (Nat.le_refl _)
      clear x0 x1 x2 f0 f1 f2 y0 HB hb3 hB b0 b1 HHas1 hz0 hz1
      obtain ⟨x0, x1, x2, f0, f1, f2⟩ := cells3 b0'
      have y0 : w3.cell? ⟨w.heap.size + 1, 0, none⟩ = some (.int .i64 m) := b1'.cell 0
      have HCk1 := Lib.hid (HCk.out w3 (HS.out.below hB' hD) (Nat.le_trans hD hB'.size))
      have HB := Lib.hid (And.intro hB' (And.intro b0' b1'))
      clear b0' b1' hB' HCk
      go_wp2_with fail
      refine HCk1.out.mono ?_
      rintro e w4 ⟨rfl, hb4⟩
      obtain ⟨hB, b0, b1⟩ := HB.out
      have b0' := Blk.on b0 hb4
      have hB' := below_on hB hb4 (Nat.le_refl _)
      clear x0 x1 x2 f0 f1 f2 y0 HB hb4 hB b0 b1 HCk1
      obtain ⟨x0, x1, x2, f0, f1, f2⟩ := cells3 b0'
      have hfin := HFin.out
      subst hfin
      have HB := Lib.hid hB'
      clear hB' b0'
      have hnil := HNil.out
      subst hnil
      simp only [List.length_nil] at *
      go_wp2_with fail
      go_ret
      exact ⟨rfl, HB.out⟩
set_option maxRecDepth 100000 in
set_option maxHeartbeats 6400000 in
theorem Check_n1 (A : Option Addr) (cap D m : Nat) (l : List Tok) (fin at_ : Int) (w : World) (hS : Sl w D 3 A l.length cap (tokC l)) (hD : D ≤ w.heap.size) (h1 : 1 ≤ m) (h8 : m ≤ 8) (hn : l.length ≤ 1000) (hl : ∀ t ∈ l, t.text.length ≤ maxLen)
    (he : listE1 l m = 0) (hno : ∀ t ∈ l, t.sym ≠ m) (hpl : plE l = 0) (ha0 : 0 ≤ at_) (ha1 : at_ ≤ 1099511627776) (hpos : 0 < l.length) (hend : ∀ j, (hj : j + 1 = l.length) → at_ = l[j].at_ + (2 + (l[j].text.length : Int))) (hfin : fin = 1) :
    Calls Try.prog 23 #[.agg #[.slice A l.length cap, .int .i64 fin, .int .i64 at_], .int .i64 m] w fun e w' => e = .returned (.int .i64 0) ∧ Below w.heap.size w w' := by
  have hck : chkE l m = 0 := by unfold chkE; rw [if_pos he, hpl]
  have HCk := Lib.hid (fun W hS hD => checked_any A cap D l m W hS hD (by omega) hl)
  rw [hck] at HCk
  have HHas := Lib.hid (fun p W hS hD hp => has_none A cap D l m p W hS hD (by omega) hp hno)
  have HBd := Lib.hid (chk_bounds he)
  have mz1 : (1 : Int) ≤ m := by omega
  have mz8 : (m : Int) ≤ 8 := by omega
  have nz : (l.length : Int) ≤ 1000 := by omega
  have b0 := (Blk.new w 43 #[.slice A l.length cap, .int .i64 fin, .int .i64 at_]).alloc (.cells #[.int .i64 m] 3)
  have b1 := Blk.newAt (w.alloc (.cells #[.slice A l.length cap, .int .i64 fin, .int .i64 at_] 43)) 3 #[.int .i64 m] (g := w.heap.size + 1) (by simp)
  have hB0 := ((Below.refl w.heap.size w).alloc (Nat.le_refl _) (.cells #[.slice A l.length cap, .int .i64 fin, .int .i64 at_] 43)).alloc (by simp) (.cells #[.int .i64 m] 3)
  have HH := Lib.hid (And.intro b0 (And.intro b1 hB0))
  clear hck hno hpl b0 b1 hB0
  have HPos := Lib.hid hpos
  have HEnd := Lib.hid hend
  have HFin := Lib.hid hfin
  clear hpos hend hfin
  go_enter Try.func23, Try.ntmps23
  go_wp2_with fail
  obtain ⟨b0, b1, hB0⟩ := HH.out
  clear HH
  generalize (w.alloc (.cells #[.slice A l.length cap, .int .i64 fin, .int .i64 at_] 43)).alloc (.cells #[.int .i64 m] 3) = W1 at *
  go_loopw [26] (fun v W => ∃ k : Nat, k ≤ l.length ∧ v = .int .i64 k ∧ Blk W w.heap.size 43 #[.slice A l.length cap, .int .i64 fin, .int .i64 at_] ∧ Blk W (w.heap.size + 1) 3 #[.int .i64 m] ∧ Below w.heap.size w W) (fun v _ => l.length - (intOf v).toNat)
  case atStart => exact ⟨0, Nat.zero_le _, rfl, b0, b1, hB0⟩
  case round =>
    clear b0 b1 hB0
    obtain ⟨k, hk, rfl, b0, b1, hB⟩ := hrel
    obtain ⟨x0, x1, x2, f0, f1, f2⟩ := cells3 b0
    have y0 : wr.cell? ⟨w.heap.size + 1, 0, none⟩ = some (.int .i64 m) := b1.cell 0
    have hz0 := b0.lt
    have hz1 := b1.lt
    by_cases hlt : k < l.length
    · obtain ⟨b, o, rfl, hb, c0, c1, c2⟩ := sl_tok (hS.below hB hD) hlt
      have htl := hl l[k] (List.getElem_mem hlt)
      have hc0 := listE1_all l m he l[k] (List.getElem_mem hlt)
      have HC := Lib.hid (fun W => check_any l[k] m W htl)
      rw [hc0] at HC
      generalize l[k] = t at *
      obtain ⟨sy, x, a⟩ := t
      unfold Tok.v at HC
      simp only at *
      have y1 := ((b1.alloc (.cells #[.int .i64 sy, .string ⟨x.toArray⟩, .int .i64 a] 41)).cell 0)
      have HB := Lib.hid (And.intro (hB.alloc hB.size (.cells #[.int .i64 sy, .string ⟨x.toArray⟩, .int .i64 a] 41)) (And.intro (b0.alloc (.cells #[.int .i64 sy, .string ⟨x.toArray⟩, .int .i64 a] 41)) (b1.alloc (.cells #[.int .i64 sy, .string ⟨x.toArray⟩, .int .i64 a] 41))))
      clear hB b0 b1 hl hS hc0
      go_wp2_with fail
      refine (HC.out _).mono ?_
      rintro e w3 ⟨rfl, hb3⟩
      have HR := Lib.hid (And.intro (Blk.on HB.out.2.1 hb3) (And.intro (Blk.on HB.out.2.2 hb3) (below_on HB.out.1 hb3 (Nat.le_refl _))))
      clear hb3
      go_wp2_with fail
      go_roundw
      case rel => exact ⟨k + 1, by omega, by go_num, HR.out⟩
      case measure => simp [intOf]; omega
    · obtain rfl : k = l.length := by omega
      have HHas1 := Lib.hid (HHas.out (w.heap.size + 1) wr (hS.below hB hD) (Nat.le_trans hD hB.size) y0)
      have HB := Lib.hid (And.intro hB (And.intro b0 b1))
      have HS := Lib.hid hS
      clear hB b0 b1 hS hl HHas hk hlt
      go_wp2_with fail
      refine HHas1.out.mono ?_
      rintro e w3 ⟨rfl, hb3⟩
      obtain ⟨hB, b0, b1⟩ := HB.out
      have b0' := Blk.on b0 hb3
      have b1' := Blk.on b1 hb3
      have hB' := below_on hB hb3 (Nat.le_refl _)
      clear x0 x1 x2 f0 f1 f2 y0 HB hb3 hB b0 b1 HHas1 hz0 hz1
      obtain ⟨x0, x1, x2, f0, f1, f2⟩ := cells3 b0'
      have y0 : w3.cell? ⟨w.heap.size + 1, 0, none⟩ = some (.int .i64 m) := b1'.cell 0
      have HCk1 := Lib.hid (HCk.out w3 (HS.out.below hB' hD) (Nat.le_trans hD hB'.size))
      have HB := Lib.hid (And.intro hB' (And.intro b0' b1'))
      clear b0' b1' hB' HCk
      go_wp2_with fail
      refine HCk1.out.mono ?_
      rintro e w4 ⟨rfl, hb4⟩
      obtain ⟨hB, b0, b1⟩ := HB.out
      have b0' := Blk.on b0 hb4
      have hB' := below_on hB hb4 (Nat.le_refl _)
      clear x0 x1 x2 f0 f1 f2 y0 HB hb4 hB b0 b1 HCk1
      obtain ⟨x0, x1, x2, f0, f1, f2⟩ := cells3 b0'
      have hfin := HFin.out
      subst hfin
      have hpos := HPos.out
      have hend := HEnd.out
      obtain ⟨j, hj⟩ : ∃ j, l.length = j + 1 := ⟨l.length - 1, by omega⟩
      obtain ⟨b, o, rfl, hb, d0, d1, d2⟩ := sl_tok (HS.out.below hB' hD) (show j < l.length by omega)
      obtain ⟨hx, hy0, hy1⟩ := HBd.out l[j] (List.getElem_mem _)
      have HSz := Lib.hid (fun W => size_any l[j] W (by omega))
      have hlast := hend j (by omega)
      generalize l[j] = t at *
      obtain ⟨sy, x, a⟩ := t
      unfold Tok.v at HSz
      simp only at *
      have hs1 : IntKind.i64.wrap ((l.length : Int) - 1) = j := by rw [Go.IntWalk.i64_in _ (by omega)]; omega
      have hs2 : IntKind.i64.wrap (a + (2 + (x.length : Int))) = a + (2 + (x.length : Int)) := Go.IntWalk.i64_in _ (by omega)
      have hjz : (j : Int) < l.length := by omega
      have hj2 : j < l.length := by omega
      have hl0 : (0 : Int) < l.length := by omega
      have hl1 : 0 < l.length := by omega
      have hbw : b < w4.heap.size := by have := hB'.size; omega
      have hzw := b0'.lt
      have hqb : (at_ == a + (2 + (x.length : Int))) = true := by simpa using hlast
      have hb0 := (Below.refl w4.heap.size w4).drew
      have HB := Lib.hid hB'
      have HJ := Lib.hid hj
      clear hB' b0' hj hb hx hy0 hy1 HS HBd hD he hend hlast
      go_wp2_with fail
      go_region_held3 (fun W => Below w4.heap.size w4 W ∧ W.cell? ⟨w.heap.size, 0, none⟩ = some (.slice (some ⟨b, o, none⟩) l.length cap) ∧ W.cell? ⟨w.heap.size, 2, none⟩ = some (.int .i64 at_) ∧ W.cell? ⟨b, o + j * 3, none⟩ = some (.int .i64 sy) ∧ W.cell? ⟨b, o + j * 3 + 1, none⟩ = some (.string ⟨x.toArray⟩) ∧ W.cell? ⟨b, o + j * 3 + 2, none⟩ = some (.int .i64 a))
        (exact ⟨by assumption, ((by assumption : Below w4.heap.size w4 _).cell (p := ⟨w.heap.size, 0, none⟩) hzw).trans x0, ((by assumption : Below w4.heap.size w4 _).cell (p := ⟨w.heap.size, 2, none⟩) hzw).trans x2, ((by assumption : Below w4.heap.size w4 _).cell (p := ⟨b, o + j * 3, none⟩) hbw).trans d0, ((by assumption : Below w4.heap.size w4 _).cell (p := ⟨b, o + j * 3 + 1, none⟩) hbw).trans d1, ((by assumption : Below w4.heap.size w4 _).cell (p := ⟨b, o + j * 3 + 2, none⟩) hbw).trans d2⟩)
        (first
          | (go_at_call 34; refine (HSz.out _).mono ?_; rintro e w5 ⟨rfl, hb5⟩; have hb6 := hb0.trans (hb5.mono hb0.size); have z1 := (hb6.cell (p := ⟨w.heap.size, 1, none⟩) hzw).trans x1; have z0 := (hb6.cell (p := ⟨w.heap.size, 0, none⟩) hzw).trans x0))
      go_wp2_with fail
      go_ret
      exact ⟨rfl, below_on HB.out (by assumption) (Nat.le_refl _)⟩
set_option maxRecDepth 100000 in
set_option maxHeartbeats 6400000 in
theorem Check_n2 (A : Option Addr) (cap D m : Nat) (l : List Tok) (fin at_ : Int) (w : World) (hS : Sl w D 3 A l.length cap (tokC l)) (hD : D ≤ w.heap.size) (h1 : 1 ≤ m) (h8 : m ≤ 8) (hn : l.length ≤ 1000) (hl : ∀ t ∈ l, t.text.length ≤ maxLen)
    (he : listE1 l m = 0) (hno : ∀ t ∈ l, t.sym ≠ m) (hpl : plE l = 0) (ha0 : 0 ≤ at_) (ha1 : at_ ≤ 1099511627776) (hpos : 0 < l.length) (hend : ∀ j, (hj : j + 1 = l.length) → at_ = l[j].at_ + (2 + (l[j].text.length : Int))) (hfin : fin = 2) :
    Calls Try.prog 23 #[.agg #[.slice A l.length cap, .int .i64 fin, .int .i64 at_], .int .i64 m] w fun e w' => e = .returned (.int .i64 0) ∧ Below w.heap.size w w' := by
  have hck : chkE l m = 0 := by unfold chkE; rw [if_pos he, hpl]
  have HCk := Lib.hid (fun W hS hD => checked_any A cap D l m W hS hD (by omega) hl)
  rw [hck] at HCk
  have HHas := Lib.hid (fun p W hS hD hp => has_none A cap D l m p W hS hD (by omega) hp hno)
  have HBd := Lib.hid (chk_bounds he)
  have mz1 : (1 : Int) ≤ m := by omega
  have mz8 : (m : Int) ≤ 8 := by omega
  have nz : (l.length : Int) ≤ 1000 := by omega
  have b0 := (Blk.new w 43 #[.slice A l.length cap, .int .i64 fin, .int .i64 at_]).alloc (.cells #[.int .i64 m] 3)
  have b1 := Blk.newAt (w.alloc (.cells #[.slice A l.length cap, .int .i64 fin, .int .i64 at_] 43)) 3 #[.int .i64 m] (g := w.heap.size + 1) (by simp)
  have hB0 := ((Below.refl w.heap.size w).alloc (Nat.le_refl _) (.cells #[.slice A l.length cap, .int .i64 fin, .int .i64 at_] 43)).alloc (by simp) (.cells #[.int .i64 m] 3)
  have HH := Lib.hid (And.intro b0 (And.intro b1 hB0))
  clear hck hno hpl b0 b1 hB0
  have HPos := Lib.hid hpos
  have HEnd := Lib.hid hend
  have HFin := Lib.hid hfin
  clear hpos hend hfin
  go_enter Try.func23, Try.ntmps23
  go_wp2_with fail
  obtain ⟨b0, b1, hB0⟩ := HH.out
  clear HH
  generalize (w.alloc (.cells #[.slice A l.length cap, .int .i64 fin, .int .i64 at_] 43)).alloc (.cells #[.int .i64 m] 3) = W1 at *
  go_loopw [26] (fun v W => ∃ k : Nat, k ≤ l.length ∧ v = .int .i64 k ∧ Blk W w.heap.size 43 #[.slice A l.length cap, .int .i64 fin, .int .i64 at_] ∧ Blk W (w.heap.size + 1) 3 #[.int .i64 m] ∧ Below w.heap.size w W) (fun v _ => l.length - (intOf v).toNat)
  case atStart => exact ⟨0, Nat.zero_le _, rfl, b0, b1, hB0⟩
  case round =>
    clear b0 b1 hB0
    obtain ⟨k, hk, rfl, b0, b1, hB⟩ := hrel
    obtain ⟨x0, x1, x2, f0, f1, f2⟩ := cells3 b0
    have y0 : wr.cell? ⟨w.heap.size + 1, 0, none⟩ = some (.int .i64 m) := b1.cell 0
    have hz0 := b0.lt
    have hz1 := b1.lt
    by_cases hlt : k < l.length
    · obtain ⟨b, o, rfl, hb, c0, c1, c2⟩ := sl_tok (hS.below hB hD) hlt
      have htl := hl l[k] (List.getElem_mem hlt)
      have hc0 := listE1_all l m he l[k] (List.getElem_mem hlt)
      have HC := Lib.hid (fun W => check_any l[k] m W htl)
      rw [hc0] at HC
      generalize l[k] = t at *
      obtain ⟨sy, x, a⟩ := t
      unfold Tok.v at HC
      simp only at *
      have y1 := ((b1.alloc (.cells #[.int .i64 sy, .string ⟨x.toArray⟩, .int .i64 a] 41)).cell 0)
      have HB := Lib.hid (And.intro (hB.alloc hB.size (.cells #[.int .i64 sy, .string ⟨x.toArray⟩, .int .i64 a] 41)) (And.intro (b0.alloc (.cells #[.int .i64 sy, .string ⟨x.toArray⟩, .int .i64 a] 41)) (b1.alloc (.cells #[.int .i64 sy, .string ⟨x.toArray⟩, .int .i64 a] 41))))
      clear hB b0 b1 hl hS hc0
      go_wp2_with fail
      refine (HC.out _).mono ?_
      rintro e w3 ⟨rfl, hb3⟩
      have HR := Lib.hid (And.intro (Blk.on HB.out.2.1 hb3) (And.intro (Blk.on HB.out.2.2 hb3) (below_on HB.out.1 hb3 (Nat.le_refl _))))
      clear hb3
      go_wp2_with fail
      go_roundw
      case rel => exact ⟨k + 1, by omega, by go_num, HR.out⟩
      case measure => simp [intOf]; omega
    · obtain rfl : k = l.length := by omega
      have HHas1 := Lib.hid (HHas.out (w.heap.size + 1) wr (hS.below hB hD) (Nat.le_trans hD hB.size) y0)
      have HB := Lib.hid (And.intro hB (And.intro b0 b1))
      have HS := Lib.hid hS
      clear hB b0 b1 hS hl HHas hk hlt
      go_wp2_with fail
      refine HHas1.out.mono ?_
      rintro e w3 ⟨rfl, hb3⟩
      obtain ⟨hB, b0, b1⟩ := HB.out
      have b0' := Blk.on b0 hb3
      have b1' := Blk.on b1 hb3
      have hB' := below_on hB hb3 (Nat.le_refl _)
      clear x0 x1 x2 f0 f1 f2 y0 HB hb3 hB b0 b1 HHas1 hz0 hz1
      obtain ⟨x0, x1, x2, f0, f1, f2⟩ := cells3 b0'
      have y0 : w3.cell? ⟨w.heap.size + 1, 0, none⟩ = some (.int .i64 m) := b1'.cell 0
      have HCk1 := Lib.hid (HCk.out w3 (HS.out.below hB' hD) (Nat.le_trans hD hB'.size))
      have HB := Lib.hid (And.intro hB' (And.intro b0' b1'))
      clear b0' b1' hB' HCk
      go_wp2_with fail
      refine HCk1.out.mono ?_
      rintro e w4 ⟨rfl, hb4⟩
      obtain ⟨hB, b0, b1⟩ := HB.out
      have b0' := Blk.on b0 hb4
      have hB' := below_on hB hb4 (Nat.le_refl _)
      clear x0 x1 x2 f0 f1 f2 y0 HB hb4 hB b0 b1 HCk1
      obtain ⟨x0, x1, x2, f0, f1, f2⟩ := cells3 b0'
      have hfin := HFin.out
      subst hfin
      have hpos := HPos.out
      have hend := HEnd.out
      obtain ⟨j, hj⟩ : ∃ j, l.length = j + 1 := ⟨l.length - 1, by omega⟩
      obtain ⟨b, o, rfl, hb, d0, d1, d2⟩ := sl_tok (HS.out.below hB' hD) (show j < l.length by omega)
      obtain ⟨hx, hy0, hy1⟩ := HBd.out l[j] (List.getElem_mem _)
      have HSz := Lib.hid (fun W => size_any l[j] W (by omega))
      have hlast := hend j (by omega)
      generalize l[j] = t at *
      obtain ⟨sy, x, a⟩ := t
      unfold Tok.v at HSz
      simp only at *
      have hs1 : IntKind.i64.wrap ((l.length : Int) - 1) = j := by rw [Go.IntWalk.i64_in _ (by omega)]; omega
      have hs2 : IntKind.i64.wrap (a + (2 + (x.length : Int))) = a + (2 + (x.length : Int)) := Go.IntWalk.i64_in _ (by omega)
      have hjz : (j : Int) < l.length := by omega
      have hj2 : j < l.length := by omega
      have hl0 : (0 : Int) < l.length := by omega
      have hl1 : 0 < l.length := by omega
      have hbw : b < w4.heap.size := by have := hB'.size; omega
      have hzw := b0'.lt
      have hqb : (at_ == a + (2 + (x.length : Int))) = true := by simpa using hlast
      have hb0 := (Below.refl w4.heap.size w4).drew
      have HB := Lib.hid hB'
      have HJ := Lib.hid hj
      clear hB' b0' hj hb hx hy0 hy1 HS HBd hD he hend hlast
      go_wp2_with fail
      go_region_held3 (fun W => Below w4.heap.size w4 W ∧ W.cell? ⟨w.heap.size, 0, none⟩ = some (.slice (some ⟨b, o, none⟩) l.length cap) ∧ W.cell? ⟨w.heap.size, 2, none⟩ = some (.int .i64 at_) ∧ W.cell? ⟨b, o + j * 3, none⟩ = some (.int .i64 sy) ∧ W.cell? ⟨b, o + j * 3 + 1, none⟩ = some (.string ⟨x.toArray⟩) ∧ W.cell? ⟨b, o + j * 3 + 2, none⟩ = some (.int .i64 a))
        (exact ⟨by assumption, ((by assumption : Below w4.heap.size w4 _).cell (p := ⟨w.heap.size, 0, none⟩) hzw).trans x0, ((by assumption : Below w4.heap.size w4 _).cell (p := ⟨w.heap.size, 2, none⟩) hzw).trans x2, ((by assumption : Below w4.heap.size w4 _).cell (p := ⟨b, o + j * 3, none⟩) hbw).trans d0, ((by assumption : Below w4.heap.size w4 _).cell (p := ⟨b, o + j * 3 + 1, none⟩) hbw).trans d1, ((by assumption : Below w4.heap.size w4 _).cell (p := ⟨b, o + j * 3 + 2, none⟩) hbw).trans d2⟩)
        (first
          | (go_at_call 34; refine (HSz.out _).mono ?_; rintro e w5 ⟨rfl, hb5⟩; have hb6 := hb0.trans (hb5.mono hb0.size); have z1 := (hb6.cell (p := ⟨w.heap.size, 1, none⟩) hzw).trans x1; have z0 := (hb6.cell (p := ⟨w.heap.size, 0, none⟩) hzw).trans x0))
      go_wp2_with fail
      go_ret
      exact ⟨rfl, below_on HB.out (by assumption) (Nat.le_refl _)⟩
set_option maxRecDepth 100000 in
set_option maxHeartbeats 6400000 in
theorem Check_nb (A : Option Addr) (cap D m : Nat) (l : List Tok) (fin at_ : Int) (w : World) (hS : Sl w D 3 A l.length cap (tokC l)) (hD : D ≤ w.heap.size) (h1 : 1 ≤ m) (h8 : m ≤ 8) (hn : l.length ≤ 1000) (hl : ∀ t ∈ l, t.text.length ≤ maxLen)
    (he : listE1 l m = 0) (hno : ∀ t ∈ l, t.sym ≠ m) (hpl : plE l = 0) (ha0 : 0 ≤ at_) (ha1 : at_ ≤ 1099511627776) (hpos : 0 < l.length) (hend : ∀ j, (hj : j + 1 = l.length) → at_ ≠ l[j].at_ + (2 + (l[j].text.length : Int))) (hfin : fin = 1) :
    Calls Try.prog 23 #[.agg #[.slice A l.length cap, .int .i64 fin, .int .i64 at_], .int .i64 m] w fun e w' => e = .returned (.int .i64 2) ∧ Below w.heap.size w w' := by
  have hck : chkE l m = 0 := by unfold chkE; rw [if_pos he, hpl]
  have HCk := Lib.hid (fun W hS hD => checked_any A cap D l m W hS hD (by omega) hl)
  rw [hck] at HCk
  have HHas := Lib.hid (fun p W hS hD hp => has_none A cap D l m p W hS hD (by omega) hp hno)
  have HBd := Lib.hid (chk_bounds he)
  have mz1 : (1 : Int) ≤ m := by omega
  have mz8 : (m : Int) ≤ 8 := by omega
  have nz : (l.length : Int) ≤ 1000 := by omega
  have b0 := (Blk.new w 43 #[.slice A l.length cap, .int .i64 fin, .int .i64 at_]).alloc (.cells #[.int .i64 m] 3)
  have b1 := Blk.newAt (w.alloc (.cells #[.slice A l.length cap, .int .i64 fin, .int .i64 at_] 43)) 3 #[.int .i64 m] (g := w.heap.size + 1) (by simp)
  have hB0 := ((Below.refl w.heap.size w).alloc (Nat.le_refl _) (.cells #[.slice A l.length cap, .int .i64 fin, .int .i64 at_] 43)).alloc (by simp) (.cells #[.int .i64 m] 3)
  have HH := Lib.hid (And.intro b0 (And.intro b1 hB0))
  clear hck hno hpl b0 b1 hB0
  have HPos := Lib.hid hpos
  have HEnd := Lib.hid hend
  have HFin := Lib.hid hfin
  clear hpos hend hfin
  go_enter Try.func23, Try.ntmps23
  go_wp2_with fail
  obtain ⟨b0, b1, hB0⟩ := HH.out
  clear HH
  generalize (w.alloc (.cells #[.slice A l.length cap, .int .i64 fin, .int .i64 at_] 43)).alloc (.cells #[.int .i64 m] 3) = W1 at *
  go_loopw [26] (fun v W => ∃ k : Nat, k ≤ l.length ∧ v = .int .i64 k ∧ Blk W w.heap.size 43 #[.slice A l.length cap, .int .i64 fin, .int .i64 at_] ∧ Blk W (w.heap.size + 1) 3 #[.int .i64 m] ∧ Below w.heap.size w W) (fun v _ => l.length - (intOf v).toNat)
  case atStart => exact ⟨0, Nat.zero_le _, rfl, b0, b1, hB0⟩
  case round =>
    clear b0 b1 hB0
    obtain ⟨k, hk, rfl, b0, b1, hB⟩ := hrel
    obtain ⟨x0, x1, x2, f0, f1, f2⟩ := cells3 b0
    have y0 : wr.cell? ⟨w.heap.size + 1, 0, none⟩ = some (.int .i64 m) := b1.cell 0
    have hz0 := b0.lt
    have hz1 := b1.lt
    by_cases hlt : k < l.length
    · obtain ⟨b, o, rfl, hb, c0, c1, c2⟩ := sl_tok (hS.below hB hD) hlt
      have htl := hl l[k] (List.getElem_mem hlt)
      have hc0 := listE1_all l m he l[k] (List.getElem_mem hlt)
      have HC := Lib.hid (fun W => check_any l[k] m W htl)
      rw [hc0] at HC
      generalize l[k] = t at *
      obtain ⟨sy, x, a⟩ := t
      unfold Tok.v at HC
      simp only at *
      have y1 := ((b1.alloc (.cells #[.int .i64 sy, .string ⟨x.toArray⟩, .int .i64 a] 41)).cell 0)
      have HB := Lib.hid (And.intro (hB.alloc hB.size (.cells #[.int .i64 sy, .string ⟨x.toArray⟩, .int .i64 a] 41)) (And.intro (b0.alloc (.cells #[.int .i64 sy, .string ⟨x.toArray⟩, .int .i64 a] 41)) (b1.alloc (.cells #[.int .i64 sy, .string ⟨x.toArray⟩, .int .i64 a] 41))))
      clear hB b0 b1 hl hS hc0
      go_wp2_with fail
      refine (HC.out _).mono ?_
      rintro e w3 ⟨rfl, hb3⟩
      have HR := Lib.hid (And.intro (Blk.on HB.out.2.1 hb3) (And.intro (Blk.on HB.out.2.2 hb3) (below_on HB.out.1 hb3 (Nat.le_refl _))))
      clear hb3
      go_wp2_with fail
      go_roundw
      case rel => exact ⟨k + 1, by omega, by go_num, HR.out⟩
      case measure => simp [intOf]; omega
    · obtain rfl : k = l.length := by omega
      have HHas1 := Lib.hid (HHas.out (w.heap.size + 1) wr (hS.below hB hD) (Nat.le_trans hD hB.size) y0)
      have HB := Lib.hid (And.intro hB (And.intro b0 b1))
      have HS := Lib.hid hS
      clear hB b0 b1 hS hl HHas hk hlt
      go_wp2_with fail
      refine HHas1.out.mono ?_
      rintro e w3 ⟨rfl, hb3⟩
      obtain ⟨hB, b0, b1⟩ := HB.out
      have b0' := Blk.on b0 hb3
      have b1' := Blk.on b1 hb3
      have hB' := below_on hB hb3 (Nat.le_refl _)
      clear x0 x1 x2 f0 f1 f2 y0 HB hb3 hB b0 b1 HHas1 hz0 hz1
      obtain ⟨x0, x1, x2, f0, f1, f2⟩ := cells3 b0'
      have y0 : w3.cell? ⟨w.heap.size + 1, 0, none⟩ = some (.int .i64 m) := b1'.cell 0
      have HCk1 := Lib.hid (HCk.out w3 (HS.out.below hB' hD) (Nat.le_trans hD hB'.size))
      have HB := Lib.hid (And.intro hB' (And.intro b0' b1'))
      clear b0' b1' hB' HCk
      go_wp2_with fail
      refine HCk1.out.mono ?_
      rintro e w4 ⟨rfl, hb4⟩
      obtain ⟨hB, b0, b1⟩ := HB.out
      have b0' := Blk.on b0 hb4
      have hB' := below_on hB hb4 (Nat.le_refl _)
      clear x0 x1 x2 f0 f1 f2 y0 HB hb4 hB b0 b1 HCk1
      obtain ⟨x0, x1, x2, f0, f1, f2⟩ := cells3 b0'
      have hfin := HFin.out
      subst hfin
      have hpos := HPos.out
      have hend := HEnd.out
      obtain ⟨j, hj⟩ : ∃ j, l.length = j + 1 := ⟨l.length - 1, by omega⟩
      obtain ⟨b, o, rfl, hb, d0, d1, d2⟩ := sl_tok (HS.out.below hB' hD) (show j < l.length by omega)
      obtain ⟨hx, hy0, hy1⟩ := HBd.out l[j] (List.getElem_mem _)
      have HSz := Lib.hid (fun W => size_any l[j] W (by omega))
      have hlast := hend j (by omega)
      generalize l[j] = t at *
      obtain ⟨sy, x, a⟩ := t
      unfold Tok.v at HSz
      simp only at *
      have hs1 : IntKind.i64.wrap ((l.length : Int) - 1) = j := by rw [Go.IntWalk.i64_in _ (by omega)]; omega
      have hs2 : IntKind.i64.wrap (a + (2 + (x.length : Int))) = a + (2 + (x.length : Int)) := Go.IntWalk.i64_in _ (by omega)
      have hjz : (j : Int) < l.length := by omega
      have hj2 : j < l.length := by omega
      have hl0 : (0 : Int) < l.length := by omega
      have hl1 : 0 < l.length := by omega
      have hbw : b < w4.heap.size := by have := hB'.size; omega
      have hzw := b0'.lt
      have hqb : (at_ == a + (2 + (x.length : Int))) = false := by simpa using hlast
      have hb0 := (Below.refl w4.heap.size w4).drew
      have HB := Lib.hid hB'
      have HJ := Lib.hid hj
      clear hB' b0' hj hb hx hy0 hy1 HS HBd hD he hend hlast
      go_wp2_with fail
      go_region_held3 (fun W => Below w4.heap.size w4 W ∧ W.cell? ⟨w.heap.size, 0, none⟩ = some (.slice (some ⟨b, o, none⟩) l.length cap) ∧ W.cell? ⟨w.heap.size, 2, none⟩ = some (.int .i64 at_) ∧ W.cell? ⟨b, o + j * 3, none⟩ = some (.int .i64 sy) ∧ W.cell? ⟨b, o + j * 3 + 1, none⟩ = some (.string ⟨x.toArray⟩) ∧ W.cell? ⟨b, o + j * 3 + 2, none⟩ = some (.int .i64 a))
        (exact ⟨by assumption, ((by assumption : Below w4.heap.size w4 _).cell (p := ⟨w.heap.size, 0, none⟩) hzw).trans x0, ((by assumption : Below w4.heap.size w4 _).cell (p := ⟨w.heap.size, 2, none⟩) hzw).trans x2, ((by assumption : Below w4.heap.size w4 _).cell (p := ⟨b, o + j * 3, none⟩) hbw).trans d0, ((by assumption : Below w4.heap.size w4 _).cell (p := ⟨b, o + j * 3 + 1, none⟩) hbw).trans d1, ((by assumption : Below w4.heap.size w4 _).cell (p := ⟨b, o + j * 3 + 2, none⟩) hbw).trans d2⟩)
        (first
          | (go_at_call 34; refine (HSz.out _).mono ?_; rintro e w5 ⟨rfl, hb5⟩; have hb6 := hb0.trans (hb5.mono hb0.size); have z1 := (hb6.cell (p := ⟨w.heap.size, 1, none⟩) hzw).trans x1; have z0 := (hb6.cell (p := ⟨w.heap.size, 0, none⟩) hzw).trans x0))
      go_wp2_with fail
      go_ret
      exact ⟨rfl, below_on HB.out (by assumption) (Nat.le_refl _)⟩
end Go.Proofs.Ytdndomjmnlpjgaa
