/- stenotypekit: OwnTexts, OwnInts, SameInts, Short, Mod. No condition. -/
import Derived.Test.YtbobpgjgknkogaaI17
namespace Go.Proofs.Ytbobpgjgknkogaa
open Go.RowKit
theorem infoI : (Try.prog.info? 3).map (fun i => (i.zero, i.size, i.bytes)) = some (some (.int .i64 0), 1, 8) := by kernel_rfl
theorem strV_one (ls : List (List UInt8)) : ∀ u ∈ ls.map strV, u.oneCell' = true := by
  intro u hu
  obtain ⟨l, _, rfl⟩ := List.mem_map.1 hu
  rfl
theorem intV_one (ls : List Int) : ∀ u ∈ ls.map intV, u.oneCell' = true := by
  intro u hu
  obtain ⟨l, _, rfl⟩ := List.mem_map.1 hu
  rfl
set_option maxHeartbeats 800000 in
theorem OwnTexts_any (A : Option Addr) (cap D : Nat) (ls : List (List UInt8)) (w : World) (h : Sl w D 1 A ls.length cap (ls.map strV)) (hD : D ≤ w.heap.size) (hn : ls.length ≤ 1000000) :
    Calls Try.prog 41 #[.slice A ls.length cap] w fun e w' => (∃ A' cap', e = .returned (.slice A' ls.length cap') ∧ Sl w' w'.heap.size 1 A' ls.length cap' (ls.map strV)) ∧ Below w.heap.size w w' := by
  obtain ⟨i0, hi0, hz0, hz1, hz2⟩ := info_parts infoS
  have h1 := strV_one ls
  have hA := Sl.alloc h hD (.cells #[] 9)
  have hO := (Own.bare w w.heap.size 9 1 (some ⟨w.heap.size, 0, none⟩)).alloc (.cells #[] 9)
  have hB := (Below.refl w.heap.size w).alloc (Nat.le_refl _) (.cells #[] 9)
  go_enter Try.func41, Try.ntmps41
  go_wp2_with (at_builtin; refine wpList_append_o _ rfl _ _ _ rfl w.heap.size 9 i0 _ 1 16 Try.underlying22 hi0 hz0 hz1 hz2 rfl (by decide) rfl hO rfl hA h1 (by simp only [maxLen]; omega) (by omega) (by simp) ?_; intro A2 cap2 w2 hown2 hg2 _)
  have hb2 := grown_below hB hO hg2 (by simp)
  simp only [Nat.zero_add, List.nil_append] at hown2
  go_ret
  exact ⟨⟨A2, cap2, by simp, hown2.sl⟩, hb2⟩
set_option maxHeartbeats 800000 in
theorem OwnInts_any (A : Option Addr) (cap D : Nat) (ls : List Int) (w : World) (h : Sl w D 1 A ls.length cap (ls.map intV)) (hD : D ≤ w.heap.size) (hn : ls.length ≤ 1000000) :
    Calls Try.prog 25 #[.slice A ls.length cap] w fun e w' => (∃ A' cap', e = .returned (.slice A' ls.length cap') ∧ Sl w' w'.heap.size 1 A' ls.length cap' (ls.map intV)) ∧ Below w.heap.size w w' := by
  obtain ⟨i0, hi0, hz0, hz1, hz2⟩ := info_parts infoI
  have h1 := intV_one ls
  have hA := Sl.alloc h hD (.cells #[] 3)
  have hO := (Own.bare w w.heap.size 3 1 (some ⟨w.heap.size, 0, none⟩)).alloc (.cells #[] 3)
  have hB := (Below.refl w.heap.size w).alloc (Nat.le_refl _) (.cells #[] 3)
  go_enter Try.func25, Try.ntmps25
  go_wp2_with (at_builtin; refine wpList_append_o _ rfl _ _ _ rfl w.heap.size 3 i0 _ 1 8 Try.underlying41 hi0 hz0 hz1 hz2 rfl (by decide) rfl hO rfl hA h1 (by simp only [maxLen]; omega) (by omega) (by simp) ?_; intro A2 cap2 w2 hown2 hg2 _)
  have hb2 := grown_below hB hO hg2 (by simp)
  simp only [Nat.zero_add, List.nil_append] at hown2
  go_ret
  exact ⟨⟨A2, cap2, by simp, hown2.sl⟩, hb2⟩
set_option maxHeartbeats 800000 in
theorem SameInts_any (A C : Option Addr) (cA cC D : Nat) (xs ys : List Int) (w : World) (hx : Sl w D 1 A xs.length cA (xs.map intV)) (hy : Sl w D 1 C ys.length cC (ys.map intV)) (hn : xs.length ≤ 1000000) (hm : ys.length ≤ 1000000) :
    Calls Try.prog 28 #[.slice A xs.length cA, .slice C ys.length cC] w fun e w' => e = .returned (.bool (decide (xs = ys))) ∧ ∃ n, w' = w.drewN n := by
  by_cases hl : xs.length = ys.length
  · have hb : ((xs.length : Int) != (ys.length : Int)) = false := by rw [hl]; simp
    have HL := Lib.hid hl; clear hl
    go_enter Try.func28, Try.ntmps28
    go_wp2
    go_loopw [5] (fun i wr => ∃ k n : Nat, k ≤ xs.length ∧ i = .int .i64 k ∧ xs.take k = ys.take k ∧ wr = w.drewN n) (fun i _ => xs.length - (intOf i).toNat)
    case atStart => exact ⟨0, 0, Nat.zero_le _, rfl, rfl, rfl⟩
    case round =>
      obtain ⟨k, n, hk, rfl, ht, rfl⟩ := hrel
      by_cases hlt : k < xs.length
      · have hly : k < ys.length := by have := HL.out; omega
        obtain ⟨b, o, rfl, hb1, hc1⟩ := sl_int hx hlt
        obtain ⟨b2, o2, rfl, hb2, hc2⟩ := sl_int hy hly
        have HT := Lib.hid ht; clear ht
        have HE := Lib.hid (takeSnoc xs k hlt)
        have HF := Lib.hid (takeSnoc ys k hly)
        by_cases he : xs[k] = ys[k]
        · have hb : (xs[k] != ys[k]) = false := by simpa using he
          have HG := Lib.hid he; clear he
          go_wp2
          go_quiet (fail)
          go_wp2
          go_roundw
          case rel => exact ⟨k + 1, n + nq, by omega, by go_num, by rw [HE.out, HF.out, HT.out, HG.out], rfl⟩
          case measure => simp [intOf]; omega
        · have hb : (xs[k] != ys[k]) = true := by simpa using he
          have HG := Lib.hid (show decide (xs = ys) = false from decide_eq_false fun e => he (by subst e; rfl)); clear he
          go_wp2
          go_quiet (fail)
          go_wp2
          go_ret
          exact ⟨by rw [HG.out]; rfl, n + nq, World.drewN_drewN _ _ _⟩
      · have HT := Lib.hid (show decide (xs = ys) = true from decide_eq_true (by rwa [List.take_of_length_le (by omega), List.take_of_length_le (by have := HL.out; omega)] at ht)); clear ht
        go_wp2
        go_ret
        exact ⟨by rw [HT.out]; rfl, n, rfl⟩
  · have hb : ((xs.length : Int) != (ys.length : Int)) = true := by rw [bne_iff_ne]; omega
    have HG := Lib.hid (show decide (xs = ys) = false from decide_eq_false fun e => hl (by rw [e])); clear hl
    go_enter Try.func28, Try.ntmps28
    go_wp2
    go_ret
    exact ⟨by rw [HG.out]; rfl, 0, rfl⟩
/-- All of a list are short. -/
def shortB (ls : List (List UInt8)) (m : Int) : Bool := ls.all fun l => decide ((l.length : Int) ≤ m)
set_option maxHeartbeats 800000 in
theorem Short_any (A : Option Addr) (cap D : Nat) (ls : List (List UInt8)) (m : Int) (w : World) (h : Sl w D 1 A ls.length cap (ls.map strV)) (hn : ls.length ≤ 1000000) (hl : ∀ l ∈ ls, l.length ≤ maxLen) :
    Calls Try.prog 40 #[.slice A ls.length cap, .int .i64 m] w fun e w' => e = .returned (.bool (shortB ls m)) ∧ w = w' := by
  go_enter Try.func40, Try.ntmps40
  go_wp2
  go_loop [5] (fun i => ∃ k : Nat, k ≤ ls.length ∧ i = .int .i64 k ∧ shortB (ls.take k) m = true) (fun i => ls.length - (intOf i).toNat)
  case atStart => exact ⟨0, Nat.zero_le _, rfl, rfl⟩
  case round =>
    obtain ⟨k, hk, rfl, ht⟩ := hrel
    by_cases hlt : k < ls.length
    · obtain ⟨b, o, rfl, hb, hc⟩ := sl_str h hlt
      have hlk := hl ls[k] (List.getElem_mem hlt)
      unfold maxLen at hlk
      have HT := Lib.hid ht; clear ht
      have HE := Lib.hid (show shortB (ls.take (k + 1)) m = (shortB (ls.take k) m && decide (((ls[k]).length : Int) ≤ m)) by
        unfold shortB; rw [takeSnoc ls k hlt, List.all_append]; simp only [List.all_cons, List.all_nil, Bool.and_true])
      by_cases hs : ((ls[k]).length : Int) ≤ m
      · generalize ls[k] = x at *
        go_wp2
        go_round
        case rel => exact ⟨k + 1, by omega, by go_num, by rw [HE.out, HT.out]; simp [hs]⟩
        case measure => simp [intOf]; omega
      · have HF : shortB ls m = false := by
          unfold shortB
          rw [List.all_eq_false]
          exact ⟨ls[k], List.getElem_mem hlt, by simpa using hs⟩
        have HG := Lib.hid HF; clear HF
        generalize ls[k] = x at *
        go_wp2
        go_ret
        exact ⟨by rw [HG.out]; rfl, rfl⟩
    · have HT := Lib.hid (show shortB ls m = true by rwa [List.take_of_length_le (by omega)] at ht)
      clear ht
      go_wp2
      go_ret
      exact ⟨by rw [HT.out]; rfl, rfl⟩
set_option maxHeartbeats 1600000 in
theorem Mod_any (a n : Int) (w : World) (h1 : 1 ≤ n) (h2 : n ≤ 9223372036854775807) :
    Calls Try.prog 39 #[.int .i64 a, .int .i64 n] w fun e w' => e = .returned (.int .i64 (a % n)) ∧ w = w' := by
  have hlo : -n < a.tmod n := by
    have := Int.lt_tmod_of_pos a (show 0 < n by omega)
    omega
  have hhi : a.tmod n < n := Int.tmod_lt_of_pos a (by omega)
  have hbase : a % n = a.tmod n % n := by
    have h := Int.mul_tdiv_add_tmod a n
    have h2 := Int.mul_add_emod_self_left n (a.tdiv n) (a.tmod n)
    rw [h] at h2
    exact h2
  by_cases hneg : a.tmod n < 0
  · have he : a % n = a.tmod n + n := by
      rw [hbase, ← Int.add_emod_right, Int.emod_eq_of_lt (by omega) (by omega)]
    rw [he]
    go_enter Try.func39, Try.ntmps39
    go_wp2
    go_ret
    exact ⟨rfl, rfl⟩
  · have he : a % n = a.tmod n := by
      rw [hbase, Int.emod_eq_of_lt (by omega) (by omega)]
    rw [he]
    go_enter Try.func39, Try.ntmps39
    go_wp2
    go_ret
    exact ⟨rfl, rfl⟩
end Go.Proofs.Ytbobpgjgknkogaa
