/- The cursor: its class, what it passes over, the gap. No condition. -/
import Derived.Test.YtklfaccjbdkfhaaX4
import Derived.Test.YtklfaccjbdkfhaaRg
namespace Go.Proofs.Ytklfaccjbdkfhaa
open Go.RowKit
/-- A cursor at a place of a string. -/
def Cu (W : World) (g : Nat) (s : List UInt8) (k : Nat) : Prop := Blk W g 59 #[.string ⟨s.toArray⟩, .int .i64 k]
theorem Cu.on {W W' : World} {g : Nat} {s : List UInt8} {k : Nat} (h : Cu W g s k) (hb : Below W.heap.size W W') : Cu W' g s k := Blk.on h hb
theorem Cu.cells {W : World} {g : Nat} {s : List UInt8} {k : Nat} (h : Cu W g s k) : W.cell? ⟨g, 0, none⟩ = some (.string ⟨s.toArray⟩) ∧ W.cell? ⟨g, 1, none⟩ = some (.int .i64 k) ∧ W.frozen? ⟨g, 0, none⟩ = false ∧ W.frozen? ⟨g, 1, none⟩ = false := cells2 h
/-- What a call on a cursor leaves: the cursor's own block may have turned. -/
def Gb (W W' : World) (g : Nat) : Prop := W.grownBy W' (some g)
theorem Gb.refl (W : World) (g : Nat) : Gb W W g := World.grownBy.refl W _
theorem Gb.trans {a b c : World} {g : Nat} (h : Gb a b g) (k : Gb b c g) : Gb a c g := World.grownBy.trans h k
theorem Gb.of_below {a b : World} {g : Nat} (h : Below a.heap.size a b) : Gb a b g := ⟨h.os, h.tape, h.output, h.size, fun k hk _ => h.block k hk⟩
theorem Gb.set (w : World) (g i : Nat) (u : Value) : Gb w (w.setCell ⟨g, i, none⟩ u) g := ⟨rfl, rfl, rfl, by simp, fun k _ hk => Below.heap_setCell w _ _ k (fun e => hk (by rw [e]))⟩
theorem Gb.drew (w : World) (g : Nat) : Gb w w.drew g := ⟨rfl, rfl, rfl, Nat.le_refl _, fun _ _ _ => rfl⟩
theorem Gb.drewN (w : World) (n g : Nat) : Gb w (w.drewN n) g := ⟨rfl, rfl, rfl, Nat.le_refl _, fun _ _ _ => rfl⟩
theorem Gb.sl {w w' : World} {g D size n cap : Nat} {A : Option Addr} {xs : List Value} (h : Gb w w' g) (hs : Sl w D size A n cap xs) (hg : ∀ b o, A = some ⟨b, o, none⟩ → 0 < n → b ≠ g) : Sl w' D size A n cap xs :=
  ⟨hs.1, hs.2.1, hs.2.2.1, fun hn => by
    obtain ⟨b, o, e, hb, hc⟩ := hs.2.2.2 hn
    have hne := hg b o e hn
    refine ⟨b, o, e, hb, fun j u hu => ?_⟩
    have h0 := hc j u hu
    rw [← h0]
    exact World.cell?_of_block (h.block b (block_lt_of_cell h0) (by simp [hne]))⟩
/-- Where a cursor stands. -/
def curAt (W : World) (g : Nat) : Nat := match W.cell? ⟨g, 1, none⟩ with | some (.int _ x) => x.toNat | _ => 0
theorem Cu.curAt {W : World} {g : Nat} {s : List UInt8} {k : Nat} (h : Cu W g s k) : curAt W g = k := by unfold Go.Proofs.Ytklfaccjbdkfhaa.curAt; rw [h.cells.2.1]; simp
theorem drop_get {s : List UInt8} {k : Nat} (h : k < s.length) : s.drop k = s[k] :: s.drop (k + 1) := List.drop_eq_getElem_cons h
theorem hd_at {s : List UInt8} {k : Nat} (h : k < s.length) : hd (s.drop k) = clsN s[k].toNat := by rw [drop_get h]; rfl
set_option maxRecDepth 100000 in
set_option maxHeartbeats 1600000 in
theorem class_any (s : List UInt8) (k g : Nat) (w : World) (hb : Cu w g s k) (hk : k ≤ s.length) :
    Calls Try.prog 39 #[.pointer (some ⟨g, 0, none⟩)] w fun e w' => e = .returned (.int .i64 (hd (s.drop k))) ∧ Below w.heap.size w w' := by
  obtain ⟨c0, c1, f0, f1⟩ := hb.cells
  have hlt := hb.lt
  clear hb
  by_cases h : k < s.length
  · have e := hd_at h
    have hO := fun W => of_any s[k].toNat (UInt8.toNat_lt _) W
    rw [e]
    generalize clsN s[k].toNat = c at *
    have hO' := Lib.hid hO
    have hB0 := (Below.refl w.heap.size w).drew
    clear hO e hk
    go_enter Try.func39, Try.ntmps39
    go_wp2_with fail
    go_quiet (fail)
    go_wp2_with fail
    have q0 := (Below.refl (w.drewN nq).heap.size (w.drewN nq)).drew
    have c0' : (w.drewN nq).cell? ⟨g, 0, none⟩ = some (.string ⟨s.toArray⟩) := c0
    have c1' : (w.drewN nq).cell? ⟨g, 1, none⟩ = some (.int .i64 k) := c1
    have q1 : Below w.heap.size w (w.drewN nq) := ⟨rfl, rfl, rfl, Nat.le_refl _, fun _ _ => rfl⟩
    have hlt' : g < (w.drewN nq).drew.heap.size := hlt
    generalize w.drewN nq = w1 at *
    go_region_held3 (fun W => W.cell? ⟨g, 0, none⟩ = some (.string ⟨s.toArray⟩) ∧ W.cell? ⟨g, 1, none⟩ = some (.int .i64 k))
      (first
        | exact ⟨(hb3.cell (p := ⟨g, 0, none⟩) hlt').trans c0', (hb3.cell (p := ⟨g, 1, none⟩) hlt').trans c1'⟩
        | exact ⟨c0', c1'⟩)
      (first | (go_at_call 48; refine (hO'.out _).mono ?_; rintro e w3 ⟨rfl, hb3⟩))
    go_wp2_with fail
    go_ret
    exact ⟨rfl, below_on q1.drew hb3 (Nat.le_refl _)⟩
  · obtain rfl : k = s.length := by omega
    rw [List.drop_length]
    clear hk h
    go_enter Try.func39, Try.ntmps39
    go_wp2_with fail
    go_quiet (fail)
    go_wp2_with fail
    go_ret
    exact ⟨rfl, rfl, rfl, rfl, Nat.le_refl _, fun _ _ => rfl⟩
theorem beq_cast (x c : Nat) : ((x : Int) == (c : Int)) = (x == c) := by rw [Bool.eq_iff_iff, beq_iff_eq, beq_iff_eq]; omega
def natV (n : Nat) : Value := .int .i64 (n : Int)
theorem passN_in {K : List Nat} {s : List UInt8} {m : Nat} (hm : m < s.length) (h : clsN s[m].toNat ∈ K) : passN K (s.drop m) = 1 + passN K (s.drop (m + 1)) := by
  rw [drop_get hm]; simp only [passN]; rw [if_pos (show cl s[m] ∈ K from h)]
theorem passN_out {K : List Nat} {s : List UInt8} {m : Nat} (hm : m < s.length) (h : clsN s[m].toNat ∉ K) : passN K (s.drop m) = 0 := by
  rw [drop_get hm]; simp only [passN]; rw [if_neg (show ¬ cl s[m] ∈ K from h)]
theorem contains_snoc (K : List Nat) (j : Nat) (hj : j < K.length) (c : Nat) : (K.take (j + 1)).contains c = ((K.take j).contains c || K[j] == c) := by
  rw [take_snoc K j hj]
  refine Bool.eq_iff_iff.2 ⟨fun h => ?_, fun h => ?_⟩
  · rw [List.contains_iff_mem, List.mem_append, List.mem_singleton] at h
    rw [Bool.or_eq_true, List.contains_iff_mem, beq_iff_eq]
    exact h.imp id Eq.symm
  · rw [Bool.or_eq_true, List.contains_iff_mem, beq_iff_eq] at h
    rw [List.contains_iff_mem, List.mem_append, List.mem_singleton]
    exact h.imp id Eq.symm
set_option maxRecDepth 100000 in
set_option maxHeartbeats 3200000 in
theorem pass_any (s : List UInt8) (k g : Nat) (w : World) (K : List Nat) (A : Option Addr) (cap D : Nat) (hb : Cu w g s k) (hk : k ≤ s.length) (hl : s.length ≤ 30000) (hS : Sl w D 1 A K.length cap (K.map natV))
    (hne : ∀ b o, A = some ⟨b, o, none⟩ → 0 < K.length → b ≠ g) (hK : K.length ≤ 10) :
    Calls Try.prog 40 #[.pointer (some ⟨g, 0, none⟩), .slice A K.length cap] w fun e w' => (∃ v, e = .returned v) ∧ Cu w' g s (k + passN K (s.drop k)) ∧ Gb w w' g := by
  have hlz : (s.length : Int) ≤ 30000 := by omega
  have HC := Lib.hid (fun m W (h : Cu W g s m) hm => class_any s m g W h hm)
  have HS := Lib.hid hS
  have HE := Lib.hid hne
  clear hS hne
  obtain ⟨N, hN⟩ : ∃ N, k + passN K (s.drop k) = N := ⟨_, rfl⟩
  rw [hN]
  go_enter Try.func40, Try.ntmps40
  go_wp2_with fail
  go_loopw [4] (fun _ W => ∃ m : Nat, m ≤ s.length ∧ m + passN K (s.drop m) = N ∧ Cu W g s m ∧ Gb w W g) (fun _ W => s.length - curAt W g)
  case atStart => exact ⟨k, hk, hN, hb, Gb.refl _ _⟩
  case round =>
    obtain ⟨m, hm, hmN, hC, hG⟩ := hrel
    obtain ⟨c0, c1, f0, f1⟩ := hC.cells
    have HmN := Lib.hid hmN
    have hcur := Lib.hid hC.curAt
    clear hb hN hmN hk
    by_cases hlt : m < s.length
    · have HCm := Lib.hid (fun W (h : Cu W g s m) => HC.out m W h hm)
      rw [hd_at hlt] at HCm
      have Hin := Lib.hid (passN_in (K := K) hlt)
      have Hout := Lib.hid (passN_out (K := K) hlt)
      generalize clsN s[m].toNat = c at *
      go_wp2_with fail
      go_quiet (fail)
      go_wp2_with fail
      have hCq : Cu (wr.drewN nq) g s m := hC
      have hGq := hG.trans (Gb.drewN wr nq g)
      generalize wr.drewN nq = w1 at *
      refine (HCm.out _ hCq).mono ?_
      rintro e w2 ⟨rfl, hb2⟩
      have hC2 := hCq.on hb2
      have hG2 := hGq.trans (Gb.of_below hb2)
      clear hC hCq hG hGq hb2 HCm c0 c1 f0 f1
      go_wp2_with fail
      go_loop [5, 22] (fun is j => ∃ j' : Nat, j' ≤ K.length ∧ j = .int .i64 j' ∧ is = .bool ((K.take j').contains c)) (fun _ j => K.length - (intOf j).toNat)
      case atStart => exact ⟨0, Nat.zero_le _, rfl, rfl⟩
      case round =>
        obtain ⟨j, hj, rfl, rfl⟩ := hrel
        by_cases hjl : j < K.length
        · have hsn := Lib.hid (contains_snoc K j hjl c)
          obtain ⟨b1, o1, u, rfl, hb1, hu, cu⟩ := (hG2.sl HS.out HE.out).at_ hjl
          rw [List.getElem?_map, List.getElem?_eq_getElem hjl] at hu
          simp only [Option.map_some, Option.some.injEq] at hu
          subst hu
          unfold natV at cu
          generalize K[j] = x at *
          generalize (K.take j).contains c = B at *
          cases B with
          | true =>
            go_wp2_with fail
            go_round
            case rel => exact ⟨j + 1, by omega, by go_num, by rw [hsn.out]; rfl⟩
            case measure => simp [intOf]; omega
          | false =>
            go_wp2_with fail
            go_round
            case rel => exact ⟨j + 1, by omega, by go_num, by rw [hsn.out, beq_cast]; rfl⟩
            case measure => simp [intOf]; omega
        · obtain rfl : j = K.length := by omega
          obtain ⟨d0, d1, e0, e1⟩ := hC2.cells
          have hG3 := hG2.trans (Gb.set w2 g 1 (.int .i64 ((m + 1 : Nat) : Int)))
          have hC3 : Cu (w2.setCell ⟨g, 1, none⟩ (.int .i64 ((m + 1 : Nat) : Int))) g s (m + 1) := Blk.set hC2 1 _
          rw [List.take_length]
          by_cases hc : c ∈ K
          · have hct : K.contains c = true := by rw [List.contains_iff_mem]; exact hc
            have hN2 := Lib.hid (Hin.out hc)
            rw [hct]
            go_wp2_with fail
            go_roundw
            case rel => exact ⟨m + 1, by omega, by have := hN2.out; have := HmN.out; omega, hC3, hG3⟩
            case measure =>
              have h1 := hC3.curAt
              have h2 := hcur.out
              rw [show ((m + 1 : Nat) : Int) = (m : Int) + 1 by omega] at h1
              rw [h1, h2]
              omega
          · have hcf : K.contains c = false := by rw [Bool.eq_false_iff, ne_eq, List.contains_iff_mem]; exact hc
            have hN2 := Lib.hid (Hout.out hc)
            rw [hcf]
            go_wp2_with fail
            refine bodyPost_ret (results_none rfl _ _ _) rfl ?_
            refine ⟨⟨_, rfl⟩, ?_, hG2⟩
            have : m = N := by have := hN2.out; have := HmN.out; omega
            rw [← this]
            exact hC2
    · obtain rfl : m = s.length := by omega
      have e : passN K (s.drop s.length) = 0 := by rw [List.drop_length]; rfl
      have e2 : s.length = N := by have := HmN.out; omega
      subst e2
      go_wp2_with fail
      go_quiet (fail)
      go_wp2_with fail
      exact ⟨rfl, _, results_none rfl _ _ _, ⟨_, rfl⟩, hC, hG.trans (Gb.drewN wr nq g)⟩
end Go.Proofs.Ytklfaccjbdkfhaa
