/- Slices of numbers: Index, Contains. No condition. -/
import Derived.Test.YtbobpgjgknkogaaI15
namespace Go.Proofs.Ytbobpgjgknkogaa
open Go.RowKit
def intV (x : Int) : Value := .int .i64 x
theorem sl_int {w : World} {D : Nat} {A : Option Addr} {cap : Nat} {ls : List Int} (h : Sl w D 1 A ls.length cap (ls.map intV)) {k : Nat} (hk : k < ls.length) :
    ∃ b o, A = some ⟨b, o, none⟩ ∧ b < D ∧ w.cell? ⟨b, o + k, none⟩ = some (.int .i64 ls[k]) := by
  obtain ⟨b, o, u, e, hb, hu, hc⟩ := h.at_ hk
  refine ⟨b, o, e, hb, ?_⟩
  rw [hc, ← hu]
  simp [hk, intV]
theorem contains_drop (l : List Int) (x : Int) (k : Nat) (hk : k < l.length) : (l.drop k).contains x = (x == l[k] || (l.drop (k + 1)).contains x) := by
  rw [List.drop_eq_getElem_cons hk, List.contains_cons]
set_option maxRecDepth 100000 in
set_option maxHeartbeats 1600000 in
theorem index_any (A : Option Addr) (cap D : Nat) (l : List Int) (x : Int) (w : World) (hS : Sl w D 1 A l.length cap (l.map intV)) (hn : l.length ≤ 1000) :
    Calls Try.prog 58 #[.slice A l.length cap, .int .i64 x] w fun e w' => (∃ r : Int, e = .returned (.int .i64 r) ∧ (decide (0 ≤ r) = l.contains x)) ∧ w' = w := by
  go_enter Try.func58, Try.ntmps58
  go_wp2_with fail
  go_loopw [8] (fun v W => w = W ∧ ∃ k : Nat, k ≤ l.length ∧ v = .int .i64 k ∧ l.contains x = (l.drop k).contains x) (fun v _ => l.length - (intOf v).toNat)
  case atStart => exact ⟨rfl, 0, Nat.zero_le _, rfl, rfl⟩
  case round =>
    obtain ⟨rfl, k, hk, rfl, hc⟩ := hrel
    by_cases hlt : k < l.length
    · obtain ⟨b, o, rfl, hb, c0⟩ := sl_int hS hlt
      rw [contains_drop l x k hlt] at hc
      generalize l[k] = y at *
      by_cases hxy : x = y
      · subst hxy
        have HC := Lib.hid hc
        clear hc
        go_wp2_with fail
        go_ret
        refine ⟨⟨k, rfl, ?_⟩, rfl⟩
        rw [HC.out]
        simp
      · have hb2 : (x == y) = false := by simpa using hxy
        rw [hb2, Bool.false_or] at hc
        have HC := Lib.hid hc
        clear hc
        go_wp2_with fail
        go_roundw
        case rel => exact ⟨trivial, k + 1, by omega, by go_num, HC.out⟩
        case measure => simp [intOf]; omega
    · obtain rfl : k = l.length := by omega
      rw [List.drop_length] at hc
      have HC := Lib.hid hc
      clear hc
      go_wp2_with fail
      go_ret
      refine ⟨⟨-1, rfl, ?_⟩, rfl⟩
      rw [HC.out]
      simp
set_option maxRecDepth 100000 in
theorem contains_any (A : Option Addr) (cap D : Nat) (l : List Int) (x : Int) (w : World) (hS : Sl w D 1 A l.length cap (l.map intV)) (hn : l.length ≤ 1000) :
    Calls Try.prog 50 #[.slice A l.length cap, .int .i64 x] w fun e w' => e = .returned (.bool (l.contains x)) ∧ w' = w := by
  have HI := Lib.hid (index_any A cap D l x w hS hn)
  clear hS
  go_enter Try.func50, Try.ntmps50
  go_wp2_with fail
  refine HI.out.mono ?_
  rintro e w1 ⟨⟨r, rfl, hr⟩, rfl⟩
  have HR := Lib.hid hr
  clear hr HI
  go_wp2_with fail
  go_ret
  exact ⟨by rw [← HR.out]; rfl, rfl⟩
end Go.Proofs.Ytbobpgjgknkogaa
