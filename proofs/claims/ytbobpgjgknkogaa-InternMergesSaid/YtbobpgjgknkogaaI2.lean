/- Slices of strings: Index, Contains, Clone, Equal; Language, name.Check. No condition. -/
import Derived.Test.YtbobpgjgknkogaaI1
namespace Go.Proofs.Ytbobpgjgknkogaa
open Go.RowKit
theorem takeSnoc {α : Type} (l : List α) (j : Nat) (h : j < l.length) : l.take (j + 1) = l.take j ++ [l[j]] := by
  rw [List.take_add_one, List.getElem?_eq_getElem h]; rfl
theorem str_one (l : List (List UInt8)) : ∀ u ∈ l.map strV, u.oneCell' = true := by
  intro u hu
  obtain ⟨x, _, rfl⟩ := List.mem_map.1 hu
  rfl
theorem infoS : (Try.prog.info? 9).map (fun i => (i.zero, i.size, i.bytes)) = some (some (.string ⟨#[]⟩), 1, 16) := by kernel_rfl
theorem contains_dropS (l : List (List UInt8)) (x : List UInt8) (k : Nat) (hk : k < l.length) : (l.drop k).contains x = (x == l[k] || (l.drop (k + 1)).contains x) := by
  rw [List.drop_eq_getElem_cons hk, List.contains_cons]
set_option maxRecDepth 100000 in
set_option maxHeartbeats 1600000 in
theorem sIndex_any (A : Option Addr) (cap D : Nat) (l : List (List UInt8)) (x : List UInt8) (w : World) (hS : Sl w D 1 A l.length cap (l.map strV)) (hn : l.length ≤ 1000) :
    Calls Try.prog 64 #[.slice A l.length cap, .string ⟨x.toArray⟩] w fun e w' => (∃ r : Int, e = .returned (.int .i64 r) ∧ (decide (0 ≤ r) = l.contains x)) ∧ w' = w := by
  go_enter Try.func64, Try.ntmps64
  go_wp2_with fail
  go_loopw [8] (fun v W => w = W ∧ ∃ k : Nat, k ≤ l.length ∧ v = .int .i64 k ∧ l.contains x = (l.drop k).contains x) (fun v _ => l.length - (intOf v).toNat)
  case atStart => exact ⟨rfl, 0, Nat.zero_le _, rfl, rfl⟩
  case round =>
    obtain ⟨rfl, k, hk, rfl, hc⟩ := hrel
    by_cases hlt : k < l.length
    · obtain ⟨b, o, rfl, hb, c0⟩ := sl_str hS hlt
      rw [contains_dropS l x k hlt] at hc
      generalize l[k] = y at *
      by_cases hxy : x = y
      · subst hxy
        have HC := Lib.hid hc
        clear hc
        go_wp2_with fail
        go_ret
        refine ⟨⟨k, rfl, ?_⟩, rfl⟩
        rw [HC.out]
        simp
      · have hb2 : (x == y) = false := by simpa using hxy
        rw [hb2, Bool.false_or] at hc
        have HC := Lib.hid hc
        clear hc
        go_wp2_with fail
        go_roundw
        case rel => exact ⟨trivial, k + 1, by omega, by go_num, HC.out⟩
        case measure => simp [intOf]; omega
    · obtain rfl : k = l.length := by omega
      rw [List.drop_length] at hc
      have HC := Lib.hid hc
      clear hc
      go_wp2_with fail
      go_ret
      refine ⟨⟨-1, rfl, ?_⟩, rfl⟩
      rw [HC.out]
      simp
set_option maxRecDepth 100000 in
theorem sContains_any (A : Option Addr) (cap D : Nat) (l : List (List UInt8)) (x : List UInt8) (w : World) (hS : Sl w D 1 A l.length cap (l.map strV)) (hn : l.length ≤ 1000) :
    Calls Try.prog 61 #[.slice A l.length cap, .string ⟨x.toArray⟩] w fun e w' => e = .returned (.bool (l.contains x)) ∧ w' = w := by
  have HI := Lib.hid (sIndex_any A cap D l x w hS hn)
  clear hS
  go_enter Try.func61, Try.ntmps61
  go_wp2_with fail
  refine HI.out.mono ?_
  rintro e w1 ⟨⟨r, rfl, hr⟩, rfl⟩
  have HR := Lib.hid hr
  clear hr HI
  go_wp2_with fail
  go_ret
  exact ⟨by rw [← HR.out]; rfl, rfl⟩
def langL : List (List UInt8) := [[108, 111, 111, 107, 97, 104, 101, 97, 100], [116, 111, 107, 101, 110], [115, 101, 112, 97, 114, 97, 116, 111, 114], [115, 116, 97, 114, 116]]
def nameE (s : List UInt8) : Int := if wordE s = 0 then (if langL.contains s = true then 12 else 0) else wordE s
set_option maxRecDepth 100000 in
theorem Language_any (s : List UInt8) (w : World) : Calls Try.prog 53 #[.string ⟨s.toArray⟩] w fun e w' => e = .returned (.bool (langL.contains s)) ∧ Below w.heap.size w w' := by
  have hb := Blk.new w 76 (langL.map strV).toArray
  have hB := (Below.refl w.heap.size w).alloc (Nat.le_refl _) (.cells (langL.map strV).toArray 76)
  have hS : Sl (w.alloc (.cells (langL.map strV).toArray 76)) (w.heap.size + 1) 1 (some ⟨w.heap.size, 0, none⟩) langL.length 4 (langL.map strV) :=
    ⟨by simp, by decide, by decide, fun _ => ⟨w.heap.size, 0, rfl, by omega, fun j u hu => by
      rw [Nat.zero_add, hb.cell j]; simpa using hu⟩⟩
  have HC := Lib.hid (sContains_any _ _ _ langL s _ hS (by decide))
  have HB := Lib.hid hB
  obtain ⟨r, hr⟩ : ∃ r, langL.contains s = r := ⟨_, rfl⟩
  rw [hr]
  rw [hr] at HC
  clear hb hB hS hr
  go_enter Try.func53, Try.ntmps53
  go_wp2_with fail
  refine HC.out.mono ?_
  rintro e w1 ⟨rfl, rfl⟩
  go_wp2_with fail
  go_ret
  exact ⟨rfl, HB.out⟩
set_option maxRecDepth 100000 in
theorem nCheck_any (s : List UInt8) (w : World) (hs : s.length ≤ maxLen) : Calls Try.prog 35 #[.string ⟨s.toArray⟩] w fun e w' => e = .returned (.int .i64 (nameE s)) ∧ Below w.heap.size w w' := by
  have HW := Lib.hid (Word_any s w hs)
  have HL := Lib.hid (fun W => Language_any s W)
  have hN : nameE s = if wordE s = 0 then (if langL.contains s = true then 12 else 0) else wordE s := rfl
  generalize nameE s = N at *
  generalize wordE s = e0 at *
  generalize langL.contains s = lg at *
  by_cases h0 : e0 = 0
  · rw [if_pos h0] at hN
    subst h0
    cases lg
    · rw [if_neg (by decide)] at hN
      subst hN
      go_enter Try.func35, Try.ntmps35
      go_wp2_with fail
      refine HW.out.mono ?_
      rintro e w1 ⟨rfl, hb1⟩
      go_wp2_with fail
      refine (HL.out _).mono ?_
      rintro e w2 ⟨rfl, hb2⟩
      have HB := Lib.hid (below_on hb1 hb2 (Nat.le_refl _))
      clear hb1 hb2
      go_wp2_with fail
      go_ret
      exact ⟨rfl, HB.out⟩
    · rw [if_pos rfl] at hN
      subst hN
      go_enter Try.func35, Try.ntmps35
      go_wp2_with fail
      refine HW.out.mono ?_
      rintro e w1 ⟨rfl, hb1⟩
      go_wp2_with fail
      refine (HL.out _).mono ?_
      rintro e w2 ⟨rfl, hb2⟩
      have HB := Lib.hid (below_on hb1 hb2 (Nat.le_refl _))
      clear hb1 hb2
      go_wp2_with fail
      go_ret
      exact ⟨rfl, HB.out⟩
  · rw [if_neg h0] at hN
    subst hN
    have hb : (N == 0) = false := by simpa using h0
    clear h0
    go_enter Try.func35, Try.ntmps35
    go_wp2_with fail
    refine HW.out.mono ?_
    rintro e w1 ⟨rfl, hb1⟩
    have HB := Lib.hid hb1
    clear hb1
    go_wp2_with fail
    go_ret
    exact ⟨rfl, HB.out⟩
end Go.Proofs.Ytbobpgjgknkogaa
