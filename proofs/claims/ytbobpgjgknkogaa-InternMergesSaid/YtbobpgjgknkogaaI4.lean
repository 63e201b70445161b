/- intern.Check. No condition. -/
import Derived.Test.YtbobpgjgknkogaaI3
namespace Go.Proofs.Ytbobpgjgknkogaa
open Go.RowKit Go.Maps
def chkFrom (l : List (List UInt8)) : Nat → List (List UInt8) → Int × Nat
  | _, [] => (0, 0)
  | k, s :: r => if nameE s = 0 then (if (l.take k).contains s = true then (8, k) else chkFrom l (k + 1) r) else (nameE s, k)
def chkT (l : List (List UInt8)) : Int × Nat := if 32 < l.length then (6, 0) else chkFrom l 0 l
theorem chkFrom_drop (l : List (List UInt8)) (k : Nat) (h : k < l.length) : chkFrom l k (l.drop k) = if nameE l[k] = 0 then (if (l.take k).contains l[k] = true then (8, k) else chkFrom l (k + 1) (l.drop (k + 1))) else (nameE l[k], k) := by
  rw [List.drop_eq_getElem_cons h]; rfl
theorem cells1 {w : World} {g : Nat} {T : TypeId} {a : Value} (h : Blk w g T #[a]) : w.cell? ⟨g, 0, none⟩ = some a ∧ w.frozen? ⟨g, 0, none⟩ = false := ⟨h.cell 0, h.frozen (by simp)⟩
theorem ret_i2 {x y : Int} {a b : Value} (h1 : a = .int .i64 x) (h2 : b = .int .i64 y) : (Ending.returned (.tuple #[a, b])) = .returned (.tuple #[.int .i64 x, .int .i64 y]) := by rw [h1, h2]
set_option maxRecDepth 100000 in
set_option maxHeartbeats 3200000 in
theorem iCheck_any (A : Option Addr) (cap D : Nat) (l : List (List UInt8)) (w : World) (hS : Sl w D 1 A l.length cap (l.map strV)) (hD : D ≤ w.heap.size) (hn : l.length ≤ 1000) (hl : ∀ s ∈ l, s.length ≤ maxLen) :
    Calls Try.prog 12 #[.agg #[.slice A l.length cap]] w fun e w' => e = .returned (.tuple #[.int .i64 (chkT l).1, .int .i64 (chkT l).2]) ∧ Below w.heap.size w w' := by
  have hmm := @run_makeMap Try.prog
  have hC : chkT l = if 32 < l.length then (6, 0) else chkFrom l 0 l := rfl
  have bT := Blk.new w 24 #[.slice A l.length cap]
  have hB0 := (Below.refl w.heap.size w).alloc (Nat.le_refl _) (.cells #[.slice A l.length cap] 24)
  have hM0 := MapF.made (w.alloc (.cells #[.slice A l.length cap] 24)) 4
  have hz : (w.alloc (.cells #[.slice A l.length cap] 24)).heap.size = w.heap.size + 1 := by simp
  rw [hz] at hM0
  have bT1 := bT.alloc (.map #[] 0)
  have hB1 := hB0.alloc hB0.size (.map #[] 0)
  have HH := Lib.hid (And.intro bT1 (And.intro hB1 (And.intro hM0 hS)))
  have HL := Lib.hid hl
  generalize chkT l = C at *
  clear hS bT hB0 hM0 hz bT1 hB1 hl
  by_cases h32 : 32 < l.length
  · rw [if_pos h32] at hC
    subst hC
    have hz : (32 : Int) < l.length := by omega
    go_enter Try.func12, Try.ntmps12
    go_wp2_with fail
    go_ret2
    exact ⟨rfl, (Below.refl _ _).alloc (Nat.le_refl _) _⟩
  · rw [if_neg h32] at hC
    have hz : ¬ (32 : Int) < l.length := by omega
    have HC := Lib.hid hC
    clear hC
    go_enter Try.func12, Try.ntmps12
    go_wp2_with fail
    go_loopw [16] (fun i W => ∃ k : Nat, k ≤ l.length ∧ i = .int .i64 k ∧ C = chkFrom l k (l.drop k) ∧ MapF W 4 (w.heap.size + 1) k (seenF (l.take k)) ∧ Below w.heap.size w W) (fun i _ => l.length - (intOf i).toNat)
    case atStart => exact ⟨0, Nat.zero_le _, rfl, HC.out, HH.out.2.2.1, HH.out.2.1⟩
    case round =>
      obtain ⟨k, hk, rfl, hCk, hM, hB⟩ := hrel
      by_cases hlt : k < l.length
      · obtain ⟨b, o, rfl, hb, c0⟩ := sl_str (HH.out.2.2.2.below hB hD) hlt
        rw [chkFrom_drop l k hlt] at hCk
        have hsn : ∀ x, (if x = l[k] then some (.lit (.bool true)) else seenF (l.take k) x) = seenF (l.take (k + 1)) x := fun x => by rw [takeSnoc l k hlt]; exact seenF_snoc _ _ _
        have hsl := HL.out l[k] (List.getElem_mem hlt)
        have HN := Lib.hid (fun W => nCheck_any l[k] W hsl)
        generalize l[k] = s at *
        have HSn := Lib.hid hsn
        generalize nameE s = ne at *
        have hkm : k < maxLen := by simp only [maxLen]; omega
        have HB := Lib.hid (And.intro hM hB)
        clear hsn hM hB
        by_cases hne : ne = 0
        · subst hne
          rw [if_pos rfl] at hCk
          by_cases hct : (l.take k).contains s = true
          · rw [if_pos hct] at hCk
            subst hCk
            go_wp2_with fail
            refine (HN.out _).mono ?_
            rintro e w3 ⟨rfl, hb3⟩
            have hM3 := HB.out.1.on hb3
            have HB3 := Lib.hid (below_on HB.out.2 hb3 (Nat.le_refl _))
            clear hb3 HB
            go_wp2_with (at_lookup; refine wpList_seen rfl _ _ rfl hM3 s hsl rfl rfl ?_; rw [hct])
            go_ret2
            exact ⟨rfl, HB3.out⟩
          · have hcf : (l.take k).contains s = false := by simpa using hct
            rw [if_neg hct] at hCk
            have HCk := Lib.hid hCk
            clear hCk hct
            go_wp2_with fail
            refine (HN.out _).mono ?_
            rintro e w3 ⟨rfl, hb3⟩
            have hM3 := HB.out.1.on hb3
            have HB3 := Lib.hid (below_on HB.out.2 hb3 (Nat.le_refl _))
            clear hb3 HB
            go_wp2_with (first | (at_lookup; refine wpList_seen rfl _ _ rfl hM3 s hsl rfl rfl ?_; rw [hcf]) | (at_mapUpdate; refine wpList_putF rfl _ _ _ _ _ rfl Try.underlying60 hM3 hkm s hsl rfl rfl rfl (plainElem_bool Try.underlying4 true) ?_; intro w4 hM4 hg4))
            have hB4 : Below w.heap.size w w4 := HB3.out.grown hg4 HB3.out.size (fun j hj => by injection hj with hj; omega)
            go_roundw
            case rel => exact ⟨k + 1, by omega, by go_num, HCk.out, hM4.ext HSn.out, hB4⟩
            case measure => simp [intOf]; omega
        · rw [if_neg hne] at hCk
          subst hCk
          have hnb : (ne != 0) = true := bne_iff_ne.2 hne
          go_wp2_with fail
          refine (HN.out _).mono ?_
          rintro e w3 ⟨rfl, hb3⟩
          have HB3 := Lib.hid (below_on HB.out.2 hb3 (Nat.le_refl _))
          clear hb3
          go_wp2_with fail
          go_ret2
          exact ⟨rfl, HB3.out⟩
      · obtain rfl : k = l.length := by omega
        rw [List.drop_length] at hCk
        have hCk' : C = (0, 0) := hCk
        subst hCk'
        go_wp2_with fail
        go_ret2
        exact ⟨rfl, hB⟩
end Go.Proofs.Ytbobpgjgknkogaa
