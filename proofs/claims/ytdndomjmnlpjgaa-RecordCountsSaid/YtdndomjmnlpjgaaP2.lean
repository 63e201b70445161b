/- The walk of RecordParts. -/
import Derived.Test.YtdndomjmnlpjgaaP1
import Derived.Test.YtdndomjmnlpjgaaT33
namespace Go.Proofs.Ytdndomjmnlpjgaa
open Go.RowKit
def intV (x : Int) : Value := .int .i64 x
theorem sl_int {w : World} {D : Nat} {A : Option Addr} {cap : Nat} {ls : List Int} (h : Sl w D 1 A ls.length cap (ls.map intV)) {k : Nat} (hk : k < ls.length) :
    ∃ b o, A = some ⟨b, o, none⟩ ∧ b < D ∧ w.cell? ⟨b, o + k, none⟩ = some (.int .i64 ls[k]) := by
  obtain ⟨b, o, u, e, hb, hu, hc⟩ := h.at_ hk
  refine ⟨b, o, e, hb, ?_⟩
  rw [hc, ← hu]
  simp [hk, intV]
set_option maxRecDepth 100000 in
set_option maxHeartbeats 1600000 in
theorem Frame_any (s : Nat) (x : List UInt8) (w : World) (hs : s < 256) (hx : x.length ≤ 24) :
    Calls Try.prog 54 #[.int .i64 s, .string ⟨x.toArray⟩] w fun e w' => e = .returned (.string ⟨(UInt8.ofNat s :: UInt8.ofNat x.length :: x).toArray⟩) ∧ Below w.heap.size w w' := by
  have hcv := run_bytes2_str w s x.length hs (by omega)
  have e1 : IntKind.u8.wrap (s : Int) = (s : Int) := by simp [IntKind.wrap, IntKind.bits, IntKind.signed]; omega
  have e2 : IntKind.u8.wrap (x.length : Int) = (x.length : Int) := by simp [IntKind.wrap, IntKind.bits, IntKind.signed]; omega
  have m1 : (s : Int) % 256 = s := by omega
  have m2 : (x.length : Int) % 256 = x.length := by omega
  have hB := (Below.refl w.heap.size w).alloc (Nat.le_refl _) (.cells #[.int .u8 s, .int .u8 x.length] 5)
  go_enter Try.func54, Try.ntmps54
  go_wp2_with fail
  go_ret
  exact ⟨rfl, hB⟩
set_option maxRecDepth 100000 in
set_option maxHeartbeats 3200000 in
theorem made23_any (A : Option Addr) (cap D : Nat) (ns : List Int) (m : Nat) (w : World) (hS : Sl w D 1 A ns.length cap (ns.map intV)) (hD : D ≤ w.heap.size) (h1 : 1 ≤ m) (h8 : m ≤ 8) :
    Calls Try.prog 20 #[.slice A ns.length cap, .int .i64 m] w fun e w' => (∃ s : List UInt8, s.length ≤ 60 ∧ e = .returned (.string ⟨s.toArray⟩)) ∧ Below w.heap.size w w' := by
  have HFi := Lib.hid Fill_any
  have HFr := Lib.hid Frame_any
  have hm0 : ns.length ≤ maxLen := Nat.le_trans hS.2.1 hS.2.2.1
  unfold maxLen at hm0
  go_enter Try.func20, Try.ntmps20
  go_wp2_with fail
  go_loopw [5, 6] (fun v5 v6 W => ∃ (j : Nat) (s : List UInt8), j ≤ ns.length ∧ j ≤ 12 ∧ v6 = .int .i64 j ∧ v5 = .string ⟨s.toArray⟩ ∧ s.length ≤ 5 * j ∧ Below w.heap.size w W) (fun _ i _ => ns.length - (intOf i).toNat)
  case atStart => exact ⟨0, [], Nat.zero_le _, by omega, rfl, rfl, Nat.le_refl _, Below.refl _ _⟩
  case round =>
    obtain ⟨j, s, hj, hj12, rfl, rfl, hs, hBr⟩ := hrel
    have hsr := hBr.size
    by_cases hfin : j = ns.length ∨ j = 12
    · have hcs : ¬ (j : Int) < ns.length ∨ ((j : Int) < ns.length ∧ ¬ (j : Int) < 12) := by omega
      have hs60 : s.length ≤ 60 := by omega
      clear hfin
      rcases hcs with h | ⟨h, h2⟩
      all_goals
        go_wp2_with fail
        go_ret
        exact ⟨⟨s, hs60, rfl⟩, hBr⟩
    · have hlt : j < ns.length := by omega
      have hlt12 : (j : Int) < 12 := by omega
      have hltz : (j : Int) < ns.length := by omega
      obtain ⟨b, o, rfl, hb, hc⟩ := sl_int (hS.below hBr hD) hlt
      have HM := Lib.hid (fun W => Mod_any ns[j] 1048576 W (by decide) (by decide))
      have h0 : 0 ≤ ns[j] % 1048576 := Int.emod_nonneg _ (by decide)
      have h1' : ns[j] % 1048576 < 1048576 := Int.emod_lt_of_pos _ (by decide)
      generalize ns[j] = y at *
      obtain ⟨K, hK⟩ := Int.eq_ofNat_of_zero_le h0
      rw [hK] at HM h1'
      clear hK h0 hfin
      have t0 : (K : Int).tmod ((m : Int) + 2) = ((K % (m + 2) : Nat) : Int) := rfl
      have t1 : (K : Int).tdiv 9 = ((K / 9 : Nat) : Int) := rfl
      have t2 : ((K / 9 : Nat) : Int).tmod 4 = ((K / 9 % 4 : Nat) : Int) := rfl
      have b2 : K / 9 % 4 ≤ 3 := by omega
      have b0 : K % (m + 2) < m + 2 := Nat.mod_lt _ (by omega)
      have HFi1 := Lib.hid (fun W => HFi.out K (K / 9 % 4) W (by omega) (by omega))
      have hq9 : ((K / 9 : Nat) : Int) ≤ 1048576 := by omega
      generalize K % (m + 2) = sy at *
      generalize K / 9 % 4 = fl at *
      generalize K / 9 = q at *
      have hBH := Lib.hid hBr
      clear hBr HFi
      by_cases hg : m < sy
      · have hgz : (m : Int) < sy := by omega
        go_wp2_with fail
        refine (HM.out _).mono ?_
        rintro e w1 ⟨rfl, rfl⟩
        go_wp2_with fail
        refine (HFi1.out _).mono ?_
        rintro e w2 ⟨⟨x, hx, rfl⟩, hb2⟩
        have HFr1 := Lib.hid (fun W => HFr.out m x W (by omega) (by omega))
        have hB2 := below_on hBH.out hb2 (Nat.le_refl _)
        go_wp2_with fail
        refine (HFr1.out _).mono ?_
        rintro e w3 ⟨rfl, hb3⟩
        have hB3 := below_on hB2 hb3 (Nat.le_refl _)
        clear hb2 hb3 hB2
        have hsl : (s ++ UInt8.ofNat m :: UInt8.ofNat x.length :: x).length ≤ 5 * (j + 1) := by simp only [List.length_append, List.length_cons]; omega
        generalize UInt8.ofNat m = c1 at *
        generalize UInt8.ofNat x.length = c2 at *
        go_wp2_with fail
        go_roundw
        case rel => exact ⟨j + 1, _, by omega, by omega, by go_num, rfl, hsl, hB3⟩
        case measure => simp [intOf]; omega
      · have hgz : ¬ (m : Int) < sy := by omega
        go_wp2_with fail
        refine (HM.out _).mono ?_
        rintro e w1 ⟨rfl, rfl⟩
        go_wp2_with fail
        refine (HFi1.out _).mono ?_
        rintro e w2 ⟨⟨x, hx, rfl⟩, hb2⟩
        have HFr1 := Lib.hid (fun W => HFr.out sy x W (by omega) (by omega))
        have hB2 := below_on hBH.out hb2 (Nat.le_refl _)
        go_wp2_with fail
        refine (HFr1.out _).mono ?_
        rintro e w3 ⟨rfl, hb3⟩
        have hB3 := below_on hB2 hb3 (Nat.le_refl _)
        clear hb2 hb3 hB2
        have hsl : (s ++ UInt8.ofNat sy :: UInt8.ofNat x.length :: x).length ≤ 5 * (j + 1) := by simp only [List.length_append, List.length_cons]; omega
        generalize UInt8.ofNat sy = c1 at *
        generalize UInt8.ofNat x.length = c2 at *
        go_wp2_with fail
        go_roundw
        case rel => exact ⟨j + 1, _, by omega, by omega, by go_num, rfl, hsl, hB3⟩
        case measure => simp [intOf]; omega
end Go.Proofs.Ytdndomjmnlpjgaa
