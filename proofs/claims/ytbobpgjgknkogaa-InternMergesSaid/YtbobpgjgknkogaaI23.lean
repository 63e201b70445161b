/- law06: made. No condition. -/
import Derived.Test.YtbobpgjgknkogaaI22
import Derived.Test.YtbobpgjgknkogaaBz
namespace Go.Proofs.Ytbobpgjgknkogaa
open Go.RowKit Go.Maps
/-- The names that are made of numbers. -/
def nmK (k : Nat) : List UInt8 := if 10 ≤ k then [UInt8.ofNat (65 + k % 10), 49] else [UInt8.ofNat (97 + k % 10)]
def NM : List (List UInt8) := (List.range 20).map nmK
theorem nm_mem {k : Nat} (h : k < 20) : nmK k ∈ NM := List.mem_map.2 ⟨k, List.mem_range.2 h, rfl⟩
theorem nm_good : ∀ s ∈ NM, nameE s = 0 := by decide +kernel
theorem nm_short : ∀ s ∈ NM, s.length ≤ 2 := by decide +kernel
/-- A table made of numbers. -/
def ML (l : List (List UInt8)) : Prop := goodT l ∧ ∀ s ∈ l, s ∈ NM
theorem len_le {α : Type} [BEq α] [LawfulBEq α] : ∀ {l m : List α}, l.Nodup → (∀ x ∈ l, x ∈ m) → l.length ≤ m.length
  | [], m, _, _ => Nat.zero_le _
  | x :: l, m, h, hs => by
    have hx : x ∈ m := hs x (by simp)
    have hn := List.nodup_cons.1 h
    have ih := len_le (l := l) (m := m.erase x) hn.2 (fun y hy => (List.mem_erase_of_ne (fun e => hn.1 (by rw [← e]; exact hy))).2 (hs y (by simp [hy])))
    rw [List.length_erase_of_mem hx] at ih
    have : 0 < m.length := List.length_pos_of_mem hx
    simp only [List.length_cons]
    omega
theorem nodup_of {α : Type} {l : List α} (h : ∀ k (hk : k < l.length), l[k] ∉ l.take k) : l.Nodup := by
  unfold List.Nodup
  rw [List.pairwise_iff_getElem]
  intro i j hi hj hij e
  refine h j hj ?_
  rw [← e]
  exact List.mem_take_iff_getElem.2 ⟨i, by omega, rfl⟩
theorem goodT.nodup {l : List (List UInt8)} (h : goodT l) : l.Nodup := nodup_of fun k hk => (h.2 k hk).2
theorem ML.len {l : List (List UInt8)} (h : ML l) : l.length ≤ 20 := by
  have := len_le h.1.nodup h.2
  simpa [NM] using this
theorem ML.short {l : List (List UInt8)} (h : ML l) : ∀ s ∈ l, s.length ≤ maxLen := fun s hs => Nat.le_trans (nm_short s (h.2 s hs)) (by decide)
theorem good_snoc {l : List (List UInt8)} {s : List UInt8} (h : goodT l) (h2 : l.length < 32) (h3 : nameE s = 0) (h4 : s ∉ l) : goodT (l ++ [s]) := by
  refine ⟨by simp; omega, fun k hk => ?_⟩
  simp only [List.length_append, List.length_cons, List.length_nil] at hk
  by_cases hlt : k < l.length
  · rw [List.getElem_append_left hlt, List.take_append_of_le_length (by omega)]
    exact h.2 k hlt
  · obtain rfl : k = l.length := by omega
    rw [List.getElem_append_right (Nat.le_refl _), List.take_left]
    simpa using ⟨h3, h4⟩
theorem ML.nil : ML [] := ⟨⟨by decide, fun k hk => absurd hk (by simp)⟩, fun s hs => by cases hs⟩
theorem ML.put {l : List (List UInt8)} {s : List UInt8} (h : ML l) (hs : s ∈ NM) : (internR l s false).2.2 = 0 ∧ ML (internR l s false).1 := by
  have hc := (chk_good l).1.2 h.1
  have hl := h.len
  unfold internR
  rw [if_neg (by simpa using hc), if_neg (by simpa using nm_good s hs)]
  by_cases hin : s ∈ l
  · rw [if_pos hin, if_neg (by decide)]
    exact ⟨rfl, h⟩
  · rw [if_neg hin, if_neg (by omega)]
    exact ⟨rfl, good_snoc h.1 (by omega) (nm_good s hs) hin, fun x hx => by
      rcases List.mem_append.1 hx with h1 | h1
      · exact h.2 x h1
      · simp at h1; rw [h1]; exact hs⟩
theorem byte_97 (W : World) (r : Nat) (h : r < 10) : (convert 73 9 (.slice (some ⟨W.heap.size, 0, none⟩) 1 1)).run Try.prog (W.alloc (.cells #[.int .u8 (97 + (r : Int))] 5)) = .ok (.string ⟨[UInt8.ofNat (97 + r)].toArray⟩) (W.alloc (.cells #[.int .u8 (97 + (r : Int))] 5)) := run_byte_str W (97 + r) (by omega)
theorem byte_65 (W : World) (r : Nat) (h : r < 10) : (convert 73 9 (.slice (some ⟨W.heap.size, 0, none⟩) 1 1)).run Try.prog (W.alloc (.cells #[.int .u8 (65 + (r : Int))] 5)) = .ok (.string ⟨[UInt8.ofNat (65 + r)].toArray⟩) (W.alloc (.cells #[.int .u8 (65 + (r : Int))] 5)) := run_byte_str W (65 + r) (by omega)
/-- What made holds at the beginning of a round. -/
def MD (w W : World) (l : List (List UInt8)) (A2 : Option Addr) (c2 : Nat) : Prop :=
  Blk W w.heap.size 24 #[.slice none 0 0] ∧ Blk W (w.heap.size + 1) 24 #[.slice A2 l.length c2] ∧ Sl W W.heap.size 1 A2 l.length c2 (l.map strV) ∧ Below w.heap.size w W ∧ w.heap.size + 2 ≤ W.heap.size
theorem MD.on {w W W' : World} {l : List (List UInt8)} {A2 : Option Addr} {c2 : Nat} (h : MD w W l A2 c2) (hb : Below W.heap.size W W') : MD w W' l A2 c2 :=
  ⟨h.1.on hb, h.2.1.on hb, h.2.2.1.on hb, below_on h.2.2.2.1 hb (Nat.le_refl _), Nat.le_trans h.2.2.2.2 hb.size⟩
theorem MD.alloc {w W : World} {l : List (List UInt8)} {A2 : Option Addr} {c2 : Nat} (h : MD w W l A2 c2) (o : Obj) : MD w (W.alloc o) l A2 c2 := h.on ((Below.refl _ _).alloc (Nat.le_refl _) o)
theorem MD.set {w W : World} {l l' : List (List UInt8)} {A2 A3 : Option Addr} {c2 c3 : Nat} (h : MD w W l A2 c2) (hs : Sl W W.heap.size 1 A3 l'.length c3 (l'.map strV)) : MD w (W.setCell ⟨w.heap.size + 1, 0, none⟩ (.slice A3 l'.length c3)) l' A3 c3 :=
  ⟨h.1.far (show w.heap.size ≠ w.heap.size + 1 by omega) _, h.2.1.set 0 _, by rw [World.size_setCell]; exact hs.farT h.2.1 (fun i b e => by cases i <;> simp at e) 0 _, h.2.2.2.1.setCell (p := ⟨w.heap.size + 1, 0, none⟩) (by show w.heap.size ≤ w.heap.size + 1; omega) _, by rw [World.size_setCell]; exact h.2.2.2.2⟩
set_option maxRecDepth 100000 in
set_option maxHeartbeats 3200000 in
theorem made_any (A : Option Addr) (cap D : Nat) (ns : List Int) (w : World) (hS : Sl w D 1 A ns.length cap (ns.map intV)) (hD : D ≤ w.heap.size) (hn : ns.length ≤ maxLen) :
    Calls Try.prog 38 #[.slice A ns.length cap] w fun e w' => (∃ l A2 c2, ML l ∧ e = .returned (.tuple #[.agg #[.slice A2 l.length c2], .bool true]) ∧ Sl w' w'.heap.size 1 A2 l.length c2 (l.map strV)) ∧ Below w.heap.size w w' := by
  have hnm : ns.length ≤ 9223372036854775807 := by simpa only [maxLen] using hn
  obtain ⟨b0, b1, hB0⟩ := two w (.slice none 0 0)
  have HM := Lib.hid (fun a W => Mod_any a 20 W (by decide) (by decide))
  have HS := Lib.hid hS
  have HB := Lib.hid (And.intro b0 (And.intro b1 hB0))
  clear b0 b1 hB0 hS
  go_enter Try.func38, Try.ntmps38
  go_wp2_with fail
  go_loopw [5] (fun i W => ∃ (k : Nat) (l : List (List UInt8)) (A2 : Option Addr) (c2 : Nat), k ≤ ns.length ∧ k ≤ 30 ∧ i = .int .i64 k ∧ ML l ∧ MD w W l A2 c2) (fun i _ => ns.length - (intOf i).toNat)
  case atStart => exact ⟨0, [], none, 0, Nat.zero_le _, Nat.zero_le _, rfl, ML.nil, HB.out.1, HB.out.2.1, Sl.nil _ _ _, HB.out.2.2, by simp⟩
  case round =>
    obtain ⟨k, l, A2, c2, hk, hk30, rfl, hL, hP⟩ := hrel
    by_cases hlt : k < ns.length
    · by_cases hlt30 : k < 30
      · obtain ⟨bb, o, rfl, hb, d0⟩ := sl_int (HS.out.below hP.2.2.2.1 hD) hlt
        generalize ns[k] = n at *
        obtain ⟨K, hK⟩ : ∃ K : Nat, n % 20 = (K : Int) := ⟨(n % 20).toNat, by omega⟩
        have hK20 : K < 20 := by omega
        have HM1 := HM.out n wr
        rw [hK] at HM1
        have HM2 := Lib.hid HM1
        have HI := Lib.hid (fun W h => Intern_any A2 c2 W.heap.size l (nmK K) W h (Nat.le_refl _) (by have := hL.len; omega) hL.short (Nat.le_trans (nm_short _ (nm_mem hK20)) (by decide)))
        have HP := Lib.hid (hL.put (nm_mem hK20))
        have HH := Lib.hid hP
        have HL := Lib.hid hL
        have hr : K % 10 < 10 := Nat.mod_lt _ (by decide)
        have hrt : (K : Int).tmod 10 = ((K % 10 : Nat) : Int) := rfl
        have hrm : (K : Int) % 10 = ((K % 10 : Nat) : Int) := rfl
        clear HM1 hL hP hK HM HB
        by_cases h10 : 10 ≤ K
        · have hnm1 : nmK K = [UInt8.ofNat (65 + K % 10), 49] := if_pos h10
          rw [hnm1] at HI HP
          generalize K % 10 = r at *
          clear hnm1
          have hcv := byte_97 wr r hr
          have hcv2 := byte_65 (wr.alloc (.cells #[.int .u8 (97 + (r : Int))] 5)) r hr
          simp only [World.size_alloc] at hcv2
          generalize UInt8.ofNat (97 + r) = x at *
          generalize UInt8.ofNat (65 + r) = y at *
          have hT := (HH.out.alloc (.cells #[.int .u8 (97 + (r : Int))] 5)).alloc (.cells #[.int .u8 (65 + (r : Int))] 5)
          generalize hW : (wr.alloc (.cells #[.int .u8 (97 + (r : Int))] 5)).alloc (.cells #[.int .u8 (65 + (r : Int))] 5) = W1 at *
          have HT := Lib.hid hT
          have c1 := (cells1 hT.2.1).1
          clear hT
          go_wp2_with (go_at_call 39; refine HM2.out.mono ?_; rintro e w3 ⟨rfl, rfl⟩)
          refine (HI.out _ HT.out.2.2.1).mono ?_
          rintro e w4 ⟨⟨A3, c3, rfl, s3⟩, hb4⟩
          generalize internR l [y, 49] false = R at *
          rw [HP.out.1]
          have hT4 := (HT.out.on hb4).alloc (.cells #[.slice A3 R.1.length c3] 24)
          have s4 := (s3.alloc (Nat.le_refl _) (.cells #[.slice A3 R.1.length c3] 24)).more (D' := (w4.alloc (.cells #[.slice A3 R.1.length c3] 24)).heap.size) (by simp)
          have b4 := Blk.new w4 24 #[.slice A3 R.1.length c3]
          have hT5 := Lib.hid (hT4.set s4)
          obtain ⟨c4, f4⟩ := cells1 hT4.2.1
          obtain ⟨c5, _⟩ := cells1 b4
          clear hb4 s3 hT4 s4 b4 HI HT hcv hcv2 c1
          go_wp2_with fail
          go_roundw
          case rel => exact ⟨k + 1, R.1, A3, c3, by omega, by omega, by go_num, HP.out.2, hT5.out⟩
          case measure => simp [intOf]; omega
        · have hnm1 : nmK K = [UInt8.ofNat (97 + K % 10)] := if_neg h10
          rw [hnm1] at HI HP
          generalize K % 10 = r at *
          clear hnm1
          have hcv := byte_97 wr r hr
          generalize UInt8.ofNat (97 + r) = x at *
          have hT := HH.out.alloc (.cells #[.int .u8 (97 + (r : Int))] 5)
          generalize hW : wr.alloc (.cells #[.int .u8 (97 + (r : Int))] 5) = W1 at *
          have HT := Lib.hid hT
          have c1 := (cells1 hT.2.1).1
          clear hT
          go_wp2_with (go_at_call 39; refine HM2.out.mono ?_; rintro e w3 ⟨rfl, rfl⟩)
          refine (HI.out _ HT.out.2.2.1).mono ?_
          rintro e w4 ⟨⟨A3, c3, rfl, s3⟩, hb4⟩
          generalize internR l [x] false = R at *
          rw [HP.out.1]
          have hT4 := (HT.out.on hb4).alloc (.cells #[.slice A3 R.1.length c3] 24)
          have s4 := (s3.alloc (Nat.le_refl _) (.cells #[.slice A3 R.1.length c3] 24)).more (D' := (w4.alloc (.cells #[.slice A3 R.1.length c3] 24)).heap.size) (by simp)
          have b4 := Blk.new w4 24 #[.slice A3 R.1.length c3]
          have hT5 := Lib.hid (hT4.set s4)
          obtain ⟨c4, f4⟩ := cells1 hT4.2.1
          obtain ⟨c5, _⟩ := cells1 b4
          clear hb4 s3 hT4 s4 b4 HI HT hcv c1
          go_wp2_with fail
          go_roundw
          case rel => exact ⟨k + 1, R.1, A3, c3, by omega, by omega, by go_num, HP.out.2, hT5.out⟩
          case measure => simp [intOf]; omega
      · have HH := Lib.hid hP
        obtain ⟨c1, f1⟩ := cells1 hP.2.1
        obtain ⟨c0, f0⟩ := cells1 hP.1
        have HL := Lib.hid hL
        have o1 := hP.2.2.1.farT hP.1 (fun i b e => by cases i <;> simp at e) 0 (.slice A2 l.length c2)
        have HO := Lib.hid o1
        clear hP hL o1 HM HB
        go_wp2_with fail
        refine bodyPost_ret (results_ct rfl _ _ _ _ _ _ rfl (HH.out.1.set 0 (.slice A2 l.length c2)) Try.underlying24 rfl (by kernel_rfl)) rfl ⟨⟨l, A2, c2, HL.out, rfl, ?_⟩, HH.out.2.2.2.1.setCell (p := ⟨w.heap.size, 0, none⟩) (Nat.le_refl _) _⟩
        rw [World.size_setCell]
        exact HO.out
    · have HH := Lib.hid hP
      obtain ⟨c1, f1⟩ := cells1 hP.2.1
      obtain ⟨c0, f0⟩ := cells1 hP.1
      have HL := Lib.hid hL
      have o1 := hP.2.2.1.farT hP.1 (fun i b e => by cases i <;> simp at e) 0 (.slice A2 l.length c2)
      have HO := Lib.hid o1
      clear hP hL o1 HM HB
      go_wp2_with fail
      refine bodyPost_ret (results_ct rfl _ _ _ _ _ _ rfl (HH.out.1.set 0 (.slice A2 l.length c2)) Try.underlying24 rfl (by kernel_rfl)) rfl ⟨⟨l, A2, c2, HL.out, rfl, ?_⟩, HH.out.2.2.2.1.setCell (p := ⟨w.heap.size, 0, none⟩) (Nat.le_refl _) _⟩
      rw [World.size_setCell]
      exact HO.out
end Go.Proofs.Ytbobpgjgknkogaa
