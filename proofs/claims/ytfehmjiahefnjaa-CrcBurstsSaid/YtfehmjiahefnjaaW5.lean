/- Walks: both Of, both Table; stenotypekit.Short. -/
import Derived.Test.YtfehmjiahefnjaaW4
namespace Go.Proofs.Ytfehmjiahefnjaa
open Go.RowKit

theorem sl_str {w : World} {D : Nat} {A : Option Addr} {cap : Nat} {ls : List (List UInt8)} (h : Sl w D 1 A ls.length cap (ls.map strV)) {k : Nat} (hk : k < ls.length) :
    ∃ b o, A = some ⟨b, o, none⟩ ∧ b < D ∧ w.cell? ⟨b, o + k, none⟩ = some (.string ⟨(ls[k]).toArray⟩) := by
  obtain ⟨b, o, u, e, hb, hu, hc⟩ := h.at_ hk
  refine ⟨b, o, e, hb, ?_⟩
  rw [hc, ← hu]
  simp [hk, strV]
set_option maxHeartbeats 800000 in
theorem of_any (A : Option Addr) (cap D : Nat) (ls : List (List UInt8)) (w : World) (h : Sl w D 1 A ls.length cap (ls.map strV)) (hD : D ≤ w.heap.size) (hn : ls.length ≤ 1000000) (hl : ∀ l ∈ ls, l.length ≤ 30000) :
    Calls Try.prog 16 #[.slice A ls.length cap] w fun e w' => e = .returned (.int .u32 (endc (ofs 4294967295 ls))) ∧ Below w.heap.size w w' := by
  go_enter Try.func16, Try.ntmps16
  go_wp2_with (go_at_call 21; refine (start_any _).mono ?_; rintro e w' ⟨rfl, rfl⟩)
  go_loopw [3, 9] (fun v i wr => ∃ k : Nat, k ≤ ls.length ∧ i = .int .i64 k ∧ v = .int .u32 (ofs 4294967295 (ls.take k)) ∧ Below w.heap.size w wr) (fun _ i _ => ls.length - (intOf i).toNat)
  case atStart => exact ⟨0, Nat.zero_le _, rfl, rfl, Below.refl _ _⟩
  case round =>
    obtain ⟨k, hk, rfl, rfl, hbel⟩ := hrel
    have hm := ofs_lt (show 4294967295 < 2 ^ 32 by decide) (ls.take k)
    have HS := Lib.hid (h.below hbel hD)
    by_cases hlt : k < ls.length
    · have HE := Lib.hid (ofs_snoc 4294967295 ls k hlt)
      obtain ⟨b, o, rfl, hb, hc⟩ := sl_str HS.out hlt
      have hlk := hl ls[k] (List.getElem_mem hlt)
      generalize ofs 4294967295 (ls.take k) = m at *
      have HA := Lib.hid (add_any m ls[k] wr hm hlk)
      generalize ls[k] = x at *
      generalize addc m x = r at *
      go_wp2_with (go_at_call 11; refine HA.out.mono ?_; rintro e w2 ⟨rfl, hb2⟩)
      go_roundw
      case rel => exact ⟨k + 1, by omega, by go_num, by rw [HE.out], hbel.trans (hb2.mono hbel.size)⟩
      case measure => simp [intOf]; omega
    · have hk' : ofs 4294967295 (ls.take k) = ofs 4294967295 ls := by rw [List.take_of_length_le (by omega)]
      rw [hk'] at hm ⊢
      generalize hg : ofs 4294967295 ls = m at *
      have HG := Lib.hid hg; clear hg
      go_wp2_with (go_at_call 19; refine (end_any m _ hm).mono ?_; rintro e w2 ⟨rfl, rfl⟩)
      go_ret
      exact ⟨ret_int (by rw [HG.out]), hbel⟩
set_option maxHeartbeats 800000 in
theorem refOf_any (A : Option Addr) (cap D : Nat) (ls : List (List UInt8)) (w : World) (h : Sl w D 1 A ls.length cap (ls.map strV)) (hn : ls.length ≤ 1000000) (hl : ∀ l ∈ ls, l.length ≤ 30000) :
    Calls Try.prog 17 #[.slice A ls.length cap] w fun e w' => e = .returned (.int .u32 (endc (ofs 4294967295 ls))) ∧ w = w' := by
  go_enter Try.func17, Try.ntmps17
  go_wp2_with (go_at_call 22; refine (refStart_any _).mono ?_; rintro e w' ⟨rfl, rfl⟩)
  go_loop [3, 4] (fun v i => ∃ k : Nat, k ≤ ls.length ∧ i = .int .i64 k ∧ v = .int .u32 (ofs 4294967295 (ls.take k))) (fun _ i => ls.length - (intOf i).toNat)
  case atStart => exact ⟨0, Nat.zero_le _, rfl, rfl⟩
  case round =>
    obtain ⟨k, hk, rfl, rfl⟩ := hrel
    have hm := ofs_lt (show 4294967295 < 2 ^ 32 by decide) (ls.take k)
    by_cases hlt : k < ls.length
    · have HE := Lib.hid (ofs_snoc 4294967295 ls k hlt)
      obtain ⟨b, o, rfl, hb, hc⟩ := sl_str h hlt
      have hlk := hl ls[k] (List.getElem_mem hlt)
      generalize ofs 4294967295 (ls.take k) = m at *
      have HA := Lib.hid (refAdd_any m ls[k] w hm hlk)
      generalize ls[k] = x at *
      generalize addc m x = r at *
      go_wp2_with (go_at_call 12; refine HA.out.mono ?_; rintro e w2 ⟨rfl, rfl⟩)
      go_round
      case rel => exact ⟨k + 1, by omega, by go_num, by rw [HE.out]⟩
      case measure => simp [intOf]; omega
    · have hk' : ofs 4294967295 (ls.take k) = ofs 4294967295 ls := by rw [List.take_of_length_le (by omega)]
      rw [hk'] at hm ⊢
      generalize hg : ofs 4294967295 ls = m at *
      have HG := Lib.hid hg; clear hg
      go_wp2_with (go_at_call 20; refine (refEnd_any m _ hm).mono ?_; rintro e w2 ⟨rfl, rfl⟩)
      go_ret
      exact ⟨ret_int (by rw [HG.out]), rfl⟩

/-- An element of an array value, an integer. -/
theorem run_index_arr {P : Program} (t e : TypeId) (n : Nat) (cs : Array Value) (k : Nat) (v : Value) (q : IntKind) (ht : P.underlying t = some (.array n e)) (he : P.underlying e = some (.int q)) (hs : (P.info? e).map (·.size) = some 1)
    (hk : k < n) (hv : cs[k]? = some v) (w : World) : (Instr.index t (.agg cs) (.int .i64 (k : Int))).run P w = .ok v w := by
  cases hq : P.info? e with
  | none => simp [hq] at hs
  | some i =>
    have hi : i.size = 1 := by simpa [hq] using hs
    have h1 : (0 : Int) ≤ (k : Int) ∧ (k : Int) < (n : Int) := by omega
    simp [Instr.index, asIntOf, run_underlying ht, h1, sizeOf, typeInfo, hq, hi, part, isAgg, run_underlying he, hv]
    intro hh; omega
theorem u32_size : (Try.prog.info? 22).map (·.size) = some 1 := by kernel_rfl
def tabN (i : Int) : Nat := if i < 0 ∨ 255 < i then 0 else s8 i.toNat
def tabE (i : Int) : Int := if i < 0 ∨ 255 < i then 2 else 0
set_option maxRecDepth 100000 in
set_option maxHeartbeats 800000 in
theorem Table_any (i : Int) (w : World) : Calls Try.prog 14 #[.int .i64 i] w fun e w' => e = .returned (.tuple #[.int .u32 (tabN i), .int .i64 (tabE i)]) ∧ Below w.heap.size w w' := by
  by_cases h1 : i < 0
  · have hN : tabN i = 0 := if_pos (.inl h1)
    have hE : tabE i = 2 := if_pos (.inl h1)
    rw [hN, hE]
    go_enter Try.func14, Try.ntmps14
    go_wp2
    go_ret2
    exact ⟨rfl, Below.refl _ _⟩
  · by_cases h2 : 255 < i
    · have hN : tabN i = 0 := if_pos (.inr h2)
      have hE : tabE i = 2 := if_pos (.inr h2)
      rw [hN, hE]
      go_enter Try.func14, Try.ntmps14
      go_wp2
      go_ret2
      exact ⟨rfl, Below.refl _ _⟩
    · have hN : tabN i = s8 i.toNat := if_neg (by omega)
      have hE : tabE i = 0 := if_neg (by omega)
      rw [hN, hE]
      obtain ⟨k, rfl⟩ := Int.eq_ofNat_of_zero_le (show 0 ≤ i by omega)
      rw [Int.toNat_natCast]
      go_enter Try.func14, Try.ntmps14
      go_wp2_with fail
      refine (table_any _).mono ?_
      rintro e w1 ⟨rfl, hb1⟩
      have hv := tabK_get 256 k (by omega)
      rw [if_pos (by omega)] at hv
      have hix := run_index_arr 53 22 256 (tabK 256) k _ .u32 Try.underlying53 Try.underlying22 u32_size (by omega) hv w1
      clear hv
      generalize tabK 256 = T at *
      go_wp2
      go_ret2
      exact ⟨rfl, hb1⟩
theorem refTable_any (i : Int) (w : World) : Calls Try.prog 15 #[.int .i64 i] w fun e w' => e = .returned (.tuple #[.int .u32 (tabN i), .int .i64 (tabE i)]) ∧ w = w' := by
  by_cases h1 : i < 0
  · have hN : tabN i = 0 := if_pos (.inl h1)
    have hE : tabE i = 2 := if_pos (.inl h1)
    rw [hN, hE]
    go_enter Try.func15, Try.ntmps15
    go_wp2
    go_ret2
    exact ⟨rfl, rfl⟩
  · by_cases h2 : 255 < i
    · have hN : tabN i = 0 := if_pos (.inr h2)
      have hE : tabE i = 2 := if_pos (.inr h2)
      rw [hN, hE]
      go_enter Try.func15, Try.ntmps15
      go_wp2
      go_ret2
      exact ⟨rfl, rfl⟩
    · have hN : tabN i = s8 i.toNat := if_neg (by omega)
      have hE : tabE i = 0 := if_neg (by omega)
      rw [hN, hE]
      obtain ⟨k, rfl⟩ := Int.eq_ofNat_of_zero_le (show 0 ≤ i by omega)
      rw [Int.toNat_natCast]
      go_enter Try.func15, Try.ntmps15
      go_wp2_with (go_at_call 37; refine (eight_any k _ (by omega)).mono ?_; rintro e w2 ⟨rfl, rfl⟩)
      go_ret2
      exact ⟨rfl, rfl⟩

/-- All of a list are short. -/
def shortB (ls : List (List UInt8)) (m : Int) : Bool := ls.all fun l => decide ((l.length : Int) ≤ m)
set_option maxHeartbeats 800000 in
theorem Short_any (A : Option Addr) (cap D : Nat) (ls : List (List UInt8)) (m : Int) (w : World) (h : Sl w D 1 A ls.length cap (ls.map strV)) (hn : ls.length ≤ 1000000) (hl : ∀ l ∈ ls, l.length ≤ maxLen) :
    Calls Try.prog 9 #[.slice A ls.length cap, .int .i64 m] w fun e w' => e = .returned (.bool (shortB ls m)) ∧ w = w' := by
  go_enter Try.func9, Try.ntmps9
  go_wp2
  go_loop [5] (fun i => ∃ k : Nat, k ≤ ls.length ∧ i = .int .i64 k ∧ shortB (ls.take k) m = true) (fun i => ls.length - (intOf i).toNat)
  case atStart => exact ⟨0, Nat.zero_le _, rfl, rfl⟩
  case round =>
    obtain ⟨k, hk, rfl, ht⟩ := hrel
    by_cases hlt : k < ls.length
    · obtain ⟨b, o, rfl, hb, hc⟩ := sl_str h hlt
      have hlk := hl ls[k] (List.getElem_mem hlt)
      unfold maxLen at hlk
      have HT := Lib.hid ht; clear ht
      have HE := Lib.hid (show shortB (ls.take (k + 1)) m = (shortB (ls.take k) m && decide (((ls[k]).length : Int) ≤ m)) by
        unfold shortB; rw [take_snoc ls k hlt, List.all_append]; simp only [List.all_cons, List.all_nil, Bool.and_true])
      by_cases hs : ((ls[k]).length : Int) ≤ m
      · generalize ls[k] = x at *
        go_wp2
        go_round
        case rel => exact ⟨k + 1, by omega, by go_num, by rw [HE.out, HT.out]; simp [hs]⟩
        case measure => simp [intOf]; omega
      · have HF : shortB ls m = false := by
          unfold shortB
          rw [List.all_eq_false]
          exact ⟨ls[k], List.getElem_mem hlt, by simpa using hs⟩
        have HG := Lib.hid HF; clear HF
        generalize ls[k] = x at *
        go_wp2
        go_ret
        exact ⟨by rw [HG.out]; rfl, rfl⟩
    · have HT := Lib.hid (show shortB ls m = true by rwa [List.take_of_length_le (by omega)] at ht)
      clear ht
      go_wp2
      go_ret
      exact ⟨by rw [HT.out]; rfl, rfl⟩
end Go.Proofs.Ytfehmjiahefnjaa
