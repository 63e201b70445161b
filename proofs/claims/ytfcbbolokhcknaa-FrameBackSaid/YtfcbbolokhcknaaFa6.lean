/- The part that some bytes are: begun, Good, Needs, Take. -/
import Derived.Test.YtfcbbolokhcknaaFa5
namespace Go.Proofs.Ytfcbbolokhcknaa
open Go.RowKit
instance (m : Nat) (t : List UInt8) : Decidable (okG m t) := by unfold okG; infer_instance
def rangedB (n : Int) : Bool := decide (1 ≤ n) && decide (n ≤ 8)
/-- The error of a part. -/
def partE (n : Int) (l : List UInt8) : Int := if rangedB n = false then 2 else if okG n.toNat l then 0 else 3
def partL (n : Int) (l : List UInt8) : List UInt8 := if partE n l = 0 then l else []
theorem partE_cases (n : Int) (l : List UInt8) : (n < 1 ∧ partE n l = 2 ∧ partL n l = []) ∨ (1 ≤ n ∧ 8 < n ∧ partE n l = 2 ∧ partL n l = []) ∨
    (∃ m : Nat, n = m ∧ 1 ≤ m ∧ m ≤ 8 ∧ okG m l ∧ partE n l = 0 ∧ partL n l = l) ∨ (∃ m : Nat, n = m ∧ 1 ≤ m ∧ m ≤ 8 ∧ ¬ okG m l ∧ partE n l = 3 ∧ partL n l = []) := by
  unfold partL partE rangedB
  by_cases h1 : n < 1
  · left
    rw [decide_eq_false (show ¬ (1 : Int) ≤ n by omega)]
    simp [h1]
  · by_cases h8 : 8 < n
    · right; left
      rw [decide_eq_false (show ¬ n ≤ 8 by omega)]
      simp [h8]; omega
    · right; right
      obtain ⟨m, rfl⟩ := Int.eq_ofNat_of_zero_le (show 0 ≤ n by omega)
      rw [decide_eq_true (show (1 : Int) ≤ (m : Int) by omega), decide_eq_true (show (m : Int) ≤ 8 by omega)]
      simp only [Bool.and_self, Bool.true_eq_false, if_false, Int.toNat_natCast]
      by_cases hg : okG m l
      · left; exact ⟨m, rfl, by omega, by omega, hg, if_pos hg, by rw [if_pos hg]; rfl⟩
      · right; exact ⟨m, rfl, by omega, by omega, hg, if_neg hg, by rw [if_neg hg]; rfl⟩
theorem Pt.zz (w : World) {g : Nat} (hg : g = w.heap.size) : Pt (w.alloc (.cells #[.int .u8 0, .int .u8 0, .int .u8 0, .int .u8 0, .int .u8 0, .int .u8 0, .int .u8 0, .int .u8 0, .int .u8 0, .int .u8 0, .int .u8 0, .int .u8 0, .int .u8 0, .int .u8 0, .int .u8 0, .int .u8 0, .int .u8 0, .int .u8 0, .int .u8 0, .int .u8 0, .int .u8 0, .int .u8 0, .int .u8 0, .int .u8 0, .int .u8 0, .int .u8 0, .int .i64 0] 53)) g [] := Pt.zero w hg
theorem read_yes (m : Nat) (l : List UInt8) (hg : okG m l) (w : World) (hl : l.length ≤ 1000) : Calls Try.prog 39 #[.int .i64 m, .string ⟨l.toArray⟩] w fun e w' => e = .returned (.tuple #[partV l, .bool true]) ∧ Below w.heap.size w w' :=
  (read_ok_any m l w hl).mono fun _ _ ⟨h, hb⟩ => ⟨h.elim (·.2) (fun h => absurd hg h.1), hb⟩
theorem read_no (m : Nat) (l : List UInt8) (hg : ¬ okG m l) (w : World) (hl : l.length ≤ 1000) : Calls Try.prog 39 #[.int .i64 m, .string ⟨l.toArray⟩] w fun e w' => e = .returned (.tuple #[partV [], .bool false]) ∧ Below w.heap.size w w' :=
  (read_ok_any m l w hl).mono fun _ _ ⟨h, hb⟩ => ⟨h.elim (fun h => absurd h.1 hg) (·.2), hb⟩
theorem results_ct {P : Program} {fn : Func} {p u : Tmp} {tp : TypeId} (h : fn.results = #[.cell p tp, .tmp u]) (tmps : Array Value) (w : World) (g : Nat) (t : TypeId) (cs : Array Value) (d : TypeDesc)
    (hp : tmps.getD p undef = .pointer (some ⟨g, 0, none⟩)) (hg : Blk w g t cs)
    (hu : P.underlying tp = some d) (hd : (match d with | .struct _ | .array _ _ => true | _ => false) = true) (hi : (P.info? tp).map (·.size) = some cs.size) :
    (results fn tmps).run P w = .ok (.tuple #[.agg cs, tmps.getD u undef]) w := by
  obtain ⟨fr, hg, _⟩ := hg
  have hp' : tmps[p]?.getD undef = .pointer (some ⟨g, 0, none⟩) := by simpa using hp
  simp [results, h, hp', asAddr, run_loadVar_row w g t tp cs fr d hg hu hd hi]
set_option maxRecDepth 100000 in
set_option maxHeartbeats 3200000 in
theorem begun_any (n : Int) (l : List UInt8) (w : World) (hl : l.length ≤ 1000) :
    Calls Try.prog 28 #[.int .i64 n, .string ⟨l.toArray⟩] w fun e w' => e = .returned (.tuple #[partV (partL n l), .int .i64 (partE n l)]) ∧ Below w.heap.size w w' := by
  have hc := partE_cases n l
  generalize partE n l = PE at *
  generalize partL n l = PL at *
  rcases hc with ⟨h1, rfl, rfl⟩ | ⟨h1, h8, rfl, rfl⟩ | ⟨m, rfl, h1, h8, hg, rfl, hpl⟩ | ⟨m, rfl, h1, h8, hg, rfl, rfl⟩
  · have hQ := Pt.zz w (g := w.heap.size) rfl
    have hQ2 := hQ.row (k := []) (by decide)
    have hB := below_setRow ((Below.refl w.heap.size w).alloc (Nat.le_refl _) (.cells #[.int .u8 0, .int .u8 0, .int .u8 0, .int .u8 0, .int .u8 0, .int .u8 0, .int .u8 0, .int .u8 0, .int .u8 0, .int .u8 0, .int .u8 0, .int .u8 0, .int .u8 0, .int .u8 0, .int .u8 0, .int .u8 0, .int .u8 0, .int .u8 0, .int .u8 0, .int .u8 0, .int .u8 0, .int .u8 0, .int .u8 0, .int .u8 0, .int .u8 0, .int .u8 0, .int .i64 0] 53)) (Nat.le_refl _) (partC []).toArray
    go_enter Try.func28, Try.ntmps28
    go_wp2_with (first
      | (refine wpList_store_part rfl _ _ rfl w.heap.size rfl [] (by decide) rfl [] hQ ?_))
    exact bodyPost_ret (results_ct rfl _ _ _ _ _ _ rfl hQ2.1 Try.underlying53 rfl (part_in [] (by decide))) rfl ⟨rfl, hB⟩
  · have d1 : ¬ n < 1 := by omega
    have hQ := Pt.zz w (g := w.heap.size) rfl
    have hQ2 := hQ.row (k := []) (by decide)
    have hB := below_setRow ((Below.refl w.heap.size w).alloc (Nat.le_refl _) (.cells #[.int .u8 0, .int .u8 0, .int .u8 0, .int .u8 0, .int .u8 0, .int .u8 0, .int .u8 0, .int .u8 0, .int .u8 0, .int .u8 0, .int .u8 0, .int .u8 0, .int .u8 0, .int .u8 0, .int .u8 0, .int .u8 0, .int .u8 0, .int .u8 0, .int .u8 0, .int .u8 0, .int .u8 0, .int .u8 0, .int .u8 0, .int .u8 0, .int .u8 0, .int .u8 0, .int .i64 0] 53)) (Nat.le_refl _) (partC []).toArray
    go_enter Try.func28, Try.ntmps28
    go_wp2_with (first
      | (refine wpList_store_part rfl _ _ rfl w.heap.size rfl [] (by decide) rfl [] hQ ?_))
    exact bodyPost_ret (results_ct rfl _ _ _ _ _ _ rfl hQ2.1 Try.underlying53 rfl (part_in [] (by decide))) rfl ⟨rfl, hB⟩
  · have hpl' := hpl.symm
    subst hpl'
    have HR := Lib.hid (fun W => read_yes m l hg W hl)
    have hl26 : l.length ≤ 26 := by have := (okG_len m l hg).1; omega
    clear hg hpl
    have hQ := Pt.zz w (g := w.heap.size) rfl
    have hB := (Below.refl w.heap.size w).alloc (Nat.le_refl _) (.cells #[.int .u8 0, .int .u8 0, .int .u8 0, .int .u8 0, .int .u8 0, .int .u8 0, .int .u8 0, .int .u8 0, .int .u8 0, .int .u8 0, .int .u8 0, .int .u8 0, .int .u8 0, .int .u8 0, .int .u8 0, .int .u8 0, .int .u8 0, .int .u8 0, .int .u8 0, .int .u8 0, .int .u8 0, .int .u8 0, .int .u8 0, .int .u8 0, .int .u8 0, .int .u8 0, .int .i64 0] 53)
    have d1 : (m : Int) ≤ 8 := by omega
    have d2 : (1 : Int) ≤ m := by omega
    go_enter Try.func28, Try.ntmps28
    go_wp2_with fail
    refine (HR.out _).mono ?_
    rintro e w1 ⟨rfl, hb1⟩
    have hQ1 := (hQ.on hb1).alloc (.cells #[.int .u8 0, .int .u8 0, .int .u8 0, .int .u8 0, .int .u8 0, .int .u8 0, .int .u8 0, .int .u8 0, .int .u8 0, .int .u8 0, .int .u8 0, .int .u8 0, .int .u8 0, .int .u8 0, .int .u8 0, .int .u8 0, .int .u8 0, .int .u8 0, .int .u8 0, .int .u8 0, .int .u8 0, .int .u8 0, .int .u8 0, .int .u8 0, .int .u8 0, .int .u8 0, .int .i64 0] 53)
    have hB1 := (below_on hB hb1 (Nat.le_refl _)).alloc (Nat.le_trans (by simp) (Nat.le_trans hb1.size (Nat.le_refl _))) (.cells #[.int .u8 0, .int .u8 0, .int .u8 0, .int .u8 0, .int .u8 0, .int .u8 0, .int .u8 0, .int .u8 0, .int .u8 0, .int .u8 0, .int .u8 0, .int .u8 0, .int .u8 0, .int .u8 0, .int .u8 0, .int .u8 0, .int .u8 0, .int .u8 0, .int .u8 0, .int .u8 0, .int .u8 0, .int .u8 0, .int .u8 0, .int .u8 0, .int .u8 0, .int .u8 0, .int .i64 0] 53)
    have hZ1 := Pt.zz w1 (g := w1.heap.size) rfl
    have hne : w.heap.size ≠ w1.heap.size := by have := hb1.size; simp only [World.size_alloc] at this; omega
    have hle : w.heap.size ≤ w1.heap.size := by have := hb1.size; simp only [World.size_alloc] at this; omega
    clear HR hQ hB hb1
    · have hZ2 := hZ1.row (k := l) hl26
      have hQ2 := hQ1.rowFar (j := w1.heap.size) hne (partC l).toArray
      have hB2 := below_setRow hB1 hle (partC l).toArray
      have hQ3 := hQ2.row (k := l) hl26
      have hB3 := below_setRow hB2 (Nat.le_refl _) (partC l).toArray
      go_wp2_with (first
        | (refine wpList_store_part rfl _ _ rfl w1.heap.size rfl l hl26 rfl [] hZ1 ?_)
        | (refine wpList_load_part rfl _ rfl w1.heap.size rfl l hZ2 ?_)
        | (refine wpList_store_part rfl _ _ rfl w.heap.size rfl l hl26 rfl [] hQ2 ?_))
      exact bodyPost_ret (results_ct rfl _ _ _ _ _ _ rfl hQ3.1 Try.underlying53 rfl (part_in l hl26)) rfl ⟨rfl, hB3⟩
  · have HR := Lib.hid (fun W => read_no m l hg W hl)
    clear hg
    have hQ := Pt.zz w (g := w.heap.size) rfl
    have hB := (Below.refl w.heap.size w).alloc (Nat.le_refl _) (.cells #[.int .u8 0, .int .u8 0, .int .u8 0, .int .u8 0, .int .u8 0, .int .u8 0, .int .u8 0, .int .u8 0, .int .u8 0, .int .u8 0, .int .u8 0, .int .u8 0, .int .u8 0, .int .u8 0, .int .u8 0, .int .u8 0, .int .u8 0, .int .u8 0, .int .u8 0, .int .u8 0, .int .u8 0, .int .u8 0, .int .u8 0, .int .u8 0, .int .u8 0, .int .u8 0, .int .i64 0] 53)
    have d1 : (m : Int) ≤ 8 := by omega
    have d2 : (1 : Int) ≤ m := by omega
    go_enter Try.func28, Try.ntmps28
    go_wp2_with fail
    refine (HR.out _).mono ?_
    rintro e w1 ⟨rfl, hb1⟩
    have hQ1 := (hQ.on hb1).alloc (.cells #[.int .u8 0, .int .u8 0, .int .u8 0, .int .u8 0, .int .u8 0, .int .u8 0, .int .u8 0, .int .u8 0, .int .u8 0, .int .u8 0, .int .u8 0, .int .u8 0, .int .u8 0, .int .u8 0, .int .u8 0, .int .u8 0, .int .u8 0, .int .u8 0, .int .u8 0, .int .u8 0, .int .u8 0, .int .u8 0, .int .u8 0, .int .u8 0, .int .u8 0, .int .u8 0, .int .i64 0] 53)
    have hB1 := (below_on hB hb1 (Nat.le_refl _)).alloc (Nat.le_trans (by simp) (Nat.le_trans hb1.size (Nat.le_refl _))) (.cells #[.int .u8 0, .int .u8 0, .int .u8 0, .int .u8 0, .int .u8 0, .int .u8 0, .int .u8 0, .int .u8 0, .int .u8 0, .int .u8 0, .int .u8 0, .int .u8 0, .int .u8 0, .int .u8 0, .int .u8 0, .int .u8 0, .int .u8 0, .int .u8 0, .int .u8 0, .int .u8 0, .int .u8 0, .int .u8 0, .int .u8 0, .int .u8 0, .int .u8 0, .int .u8 0, .int .i64 0] 53)
    have hZ1 := Pt.zz w1 (g := w1.heap.size) rfl
    have hne : w.heap.size ≠ w1.heap.size := by have := hb1.size; simp only [World.size_alloc] at this; omega
    have hle : w.heap.size ≤ w1.heap.size := by have := hb1.size; simp only [World.size_alloc] at this; omega
    clear HR hQ hB hb1
    · have hZ2 := hZ1.row (k := []) (by decide)
      have hQ2 := hQ1.rowFar (j := w1.heap.size) hne (partC []).toArray
      have hB2 := below_setRow hB1 hle (partC []).toArray
      have hQ3 := hQ2.row (k := []) (by decide)
      have hB3 := below_setRow hB2 (Nat.le_refl _) (partC []).toArray
      go_wp2_with (first
        | (refine wpList_store_part rfl _ _ rfl w1.heap.size rfl [] (by decide) rfl [] hZ1 ?_)
        | (refine wpList_load_part rfl _ rfl w1.heap.size rfl [] hZ2 ?_)
        | (refine wpList_store_part rfl _ _ rfl w.heap.size rfl [] (by decide) rfl [] hQ2 ?_))
      exact bodyPost_ret (results_ct rfl _ _ _ _ _ _ rfl hQ3.1 Try.underlying53 rfl (part_in [] (by decide))) rfl ⟨rfl, hB3⟩
end Go.Proofs.Ytfcbbolokhcknaa
