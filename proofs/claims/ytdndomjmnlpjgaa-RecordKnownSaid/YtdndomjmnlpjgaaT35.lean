/- The walk of TokenLists. -/
import Derived.Test.YtdndomjmnlpjgaaT34
namespace Go.Proofs.Ytdndomjmnlpjgaa
open Go.RowKit
theorem slT_on {w w' : World} {size n cap : Nat} {A : Option Addr} {xs : List Value} (h : Sl w w.heap.size size A n cap xs) (hb : Below w.heap.size w w') : Sl w' w'.heap.size size A n cap xs := (h.below hb (Nat.le_refl _)).more hb.size
theorem belowT_on {B : Nat} {w W W' : World} (hB : Below B w W) (hb : Below W.heap.size W W') (hs : B ≤ w.heap.size) : Below B w W' := hB.trans (hb.mono (Nat.le_trans hs hB.size))
set_option maxRecDepth 100000 in
set_option maxHeartbeats 3200000 in
theorem TokenLists_any (A : Option Addr) (cap : Nat) (l : List Tok) (n a : Int) (w : World) (hS : Sl w w.heap.size 3 A l.length cap (tokC l)) (hm : ∀ t ∈ l, t.text.length ≤ maxLen) :
    Calls Try.prog 13 #[.slice A l.length cap, .int .i64 n, .int .i64 a] w fun e w' => e = .returned (.bool true) ∧ Below w.heap.size w w' := by
  have HA := Lib.hid (fun W => awake07_any W)
  have hcap := hS.2.1
  have hcapm := hS.2.2.1
  unfold maxLen at hcapm hm
  have hcs : (30 < l.length ∧ l.length ≤ 1000) ∨ (1003 < l.length) ∨ (l.length ≤ 30) ∨ (1000 < l.length ∧ l.length ≤ 1003) := by omega
  rcases hcs with ⟨h1, h2⟩ | h1 | hc
  · clear hS
    go_enter Try.func13, Try.ntmps13
    go_wp2_with (go_at_call 30; refine (HA.out _).mono ?_; rintro e w1 ⟨rfl, hb1⟩)
    go_ret
    exact ⟨rfl, hb1⟩
  · clear hS
    have h30 : 30 < l.length := by omega
    have h1000 : 1000 < l.length := by omega
    go_enter Try.func13, Try.ntmps13
    go_wp2_with (go_at_call 30; refine (HA.out _).mono ?_; rintro e w1 ⟨rfl, hb1⟩)
    go_ret
    exact ⟨rfl, hb1⟩
  · have hn : l.length ≤ 2000 := by omega
    rcases hc with h1 | ⟨h1, h2⟩
    all_goals
      first | have h30 : 30 < l.length := (by omega) | skip
      go_enter Try.func13, Try.ntmps13
      go_wp2_with fail
      go_loopw [7] (fun i W => ∃ k : Nat, k ≤ l.length ∧ i = .int .i64 k ∧ (∀ t ∈ l.take k, t.text.length ≤ 60) ∧ W = w) (fun i _ => l.length - (intOf i).toNat)
      case atStart => exact ⟨0, Nat.zero_le _, rfl, by simp, rfl⟩
      case round =>
        obtain ⟨k, hk, rfl, hall, rfl⟩ := hrel
        by_cases hlt : k < l.length
        · obtain ⟨b, o, rfl, hb, c0, c1, c2⟩ := sl_tok hS hlt
          have htl := hm l[k] (List.getElem_mem hlt)
          have hsn := take_snoc l k hlt
          generalize l[k] = t at *
          obtain ⟨sy, x, at_⟩ := t
          simp only at *
          have HSn := Lib.hid hsn
          have HAll := Lib.hid hall
          have HS := Lib.hid hS
          have Hm := Lib.hid hm
          clear hsn hall hS hm
          by_cases hx : x.length ≤ 60
          · go_wp2_with fail
            go_roundw
            case rel =>
              refine ⟨k + 1, by omega, by go_num, ?_, by first | trivial | rfl⟩
              intro t ht
              rw [HSn.out] at ht
              rcases List.mem_append.1 ht with ht | ht
              · exact HAll.out t ht
              · rw [List.mem_singleton.1 ht]; exact hx
            case measure => simp [intOf]; omega
          · go_wp2_with (go_at_call 30; refine (HA.out _).mono ?_; rintro e w1 ⟨rfl, hb1⟩)
            go_ret
            exact ⟨rfl, hb1⟩
        · obtain rfl : k = l.length := by omega
          rw [List.take_length] at hall
          have hl : ∀ t ∈ l, t.text.length ≤ 10000 := fun t ht => by have := hall t ht; omega
          have K1 := Lib.hid (OwnTokens_any A cap wr.heap.size l wr hS (Nat.le_refl _) (by omega))
          have K2 := Lib.hid (fun A' cap' (W : World) (h : Sl W W.heap.size 3 A' l.length cap' (tokC l)) => List_any A' cap' W.heap.size l n W h (Nat.le_refl _) hn hl)
          have K3 := Lib.hid (fun (W : World) (h : Sl W W.heap.size 3 A l.length cap (tokC l)) => refList_any A cap W.heap.size l n W h (Nat.le_refl _) hn hl)
          have K4 := Lib.hid (fun A' cap' (W : World) (h : Sl W W.heap.size 3 A' l.length cap' (tokC l)) => Place_any A' cap' W.heap.size l n a W h (Nat.le_refl _) hn hl)
          have K5 := Lib.hid (fun (W : World) (h : Sl W W.heap.size 3 A l.length cap (tokC l)) => refPlace_any A cap W.heap.size l n a W h (Nat.le_refl _) hn hl)
          have hpr : (placeR l n a).length ≤ 100000 := by
            rcases place_cases l n a with ⟨_, _, h⟩ | ⟨_, _, _, h⟩ | ⟨_, _, _, _, h⟩ | ⟨_, _, _, _, _, h⟩ | ⟨_, _, _, _, _, h⟩ <;> rw [h] <;> first | (simp; done) | (rw [placeL_len]; omega)
          have K6 := fun A1 A2 cap1 cap2 (W : World) (h : Sl W W.heap.size 3 A1 (placeR l n a).length cap1 (tokC (placeR l n a))) (h' : Sl W W.heap.size 3 A2 (placeR l n a).length cap2 (tokC (placeR l n a))) => SameTokens_any A1 A2 cap1 cap2 W.heap.size (placeR l n a) (placeR l n a) W h h' hpr hpr
          rw [decide_eq_true rfl] at K6
          have K7 := Lib.hid (fun A' cap' (W : World) (h : Sl W W.heap.size 3 A' l.length cap' (tokC l)) => Placed_any A' cap' W.heap.size l n W h (Nat.le_refl _) hn hl)
          have K8 := Lib.hid (fun (W : World) (h : Sl W W.heap.size 3 A l.length cap (tokC l)) => refPlaced_any A cap W.heap.size l n W h (Nat.le_refl _) hn hl)
          have K9 := fun A1 cap1 (W : World) (h : Sl W W.heap.size 3 A1 l.length cap1 (tokC l)) (h' : Sl W W.heap.size 3 A l.length cap (tokC l)) => SameTokens_any A1 A cap1 cap W.heap.size l l W h h' (by omega) (by omega)
          rw [decide_eq_true rfl] at K9
          have K6' := Lib.hid K6
          have K9' := Lib.hid K9
          clear K6 K9 hpr hall hl hm
          generalize listL l n = LL at *
          generalize listE l n = LE at *
          generalize placeR l n a = PR at *
          generalize placeE l n a = PE at *
          generalize placedE l n = QE at *
          have hB0 := Below.refl wr.heap.size wr
          have S0 := hS
          clear hS
          have k1 := Lib.hid (K1.out)
          go_wp2_with fail
          refine k1.out.mono ?_
          rintro e w1 ⟨⟨A1, cap1, rfl, hX⟩, hb1⟩
          have S1 := slT_on S0 hb1
          have X1 := hX
          have hB1 := belowT_on hB0 hb1 (Nat.le_refl _)
          clear k1 hB0 hb1 S0
          clear K1 hX
          have k2 := Lib.hid (K2.out A1 cap1 w1 X1)
          go_wp2_with fail
          refine k2.out.mono ?_
          rintro e w2 ⟨rfl, hb2⟩
          have S2 := slT_on S1 hb2
          have X2 := slT_on X1 hb2
          have hB2 := belowT_on hB1 hb2 (Nat.le_refl _)
          clear k2 hB1 hb2 S1 X1
          clear K2
          have k3 := Lib.hid (K3.out w2 S2)
          go_wp2_with fail
          refine k3.out.mono ?_
          rintro e w3 ⟨rfl, hb3⟩
          have S3 := slT_on S2 hb3
          have X3 := slT_on X2 hb3
          have hB3 := belowT_on hB2 hb3 (Nat.le_refl _)
          clear k3 hB2 hb3 S2 X2
          clear K3
          have k4 := Lib.hid (K4.out A1 cap1 w3 X3)
          go_wp2_with fail
          refine k4.out.mono ?_
          rintro e w4 ⟨A4, cap4, rfl, hown4, hb4⟩
          have S4 := slT_on S3 hb4
          have X4 := slT_on X3 hb4
          have P4 := hown4.sl
          have hB4 := belowT_on hB3 hb4 (Nat.le_refl _)
          clear k4 hB3 hb4 S3 X3
          clear K4 hown4
          have k5 := Lib.hid (K5.out w4 S4)
          go_wp2_with fail
          refine k5.out.mono ?_
          rintro e w5 ⟨A5, cap5, rfl, hQ, hb5⟩
          have S5 := slT_on S4 hb5
          have X5 := slT_on X4 hb5
          have P5 := slT_on P4 hb5
          have Q5 := hQ
          have hB5 := belowT_on hB4 hb5 (Nat.le_refl _)
          clear k5 hB4 hb5 S4 X4 P4
          clear K5 hQ
          have k6 := Lib.hid (K6'.out A4 A5 cap4 cap5 w5 P5 Q5)
          go_wp2_with fail
          refine k6.out.mono ?_
          rintro e w6 ⟨rfl, hb6⟩
          have S6 := slT_on S5 hb6
          have X6 := slT_on X5 hb6
          have P6 := slT_on P5 hb6
          have Q6 := slT_on Q5 hb6
          have hB6 := belowT_on hB5 hb6 (Nat.le_refl _)
          clear k6 hB5 hb6 S5 X5 P5 Q5
          clear K6'
          have k7 := Lib.hid (K7.out A1 cap1 w6 X6)
          go_wp2_with fail
          refine k7.out.mono ?_
          rintro e w7 ⟨rfl, hb7⟩
          have S7 := slT_on S6 hb7
          have X7 := slT_on X6 hb7
          have P7 := slT_on P6 hb7
          have Q7 := slT_on Q6 hb7
          have hB7 := belowT_on hB6 hb7 (Nat.le_refl _)
          clear k7 hB6 hb7 S6 X6 P6 Q6
          clear K7
          have k8 := Lib.hid (K8.out w7 S7)
          go_wp2_with fail
          refine k8.out.mono ?_
          rintro e w8 ⟨rfl, hb8⟩
          have S8 := slT_on S7 hb8
          have X8 := slT_on X7 hb8
          have P8 := slT_on P7 hb8
          have Q8 := slT_on Q7 hb8
          have hB8 := belowT_on hB7 hb8 (Nat.le_refl _)
          clear k8 hB7 hb8 S7 X7 P7 Q7
          clear K8
          have k9 := Lib.hid (K9'.out A1 cap1 w8 X8 S8)
          go_wp2_with fail
          refine k9.out.mono ?_
          rintro e w9 ⟨rfl, hb9⟩
          have S9 := slT_on S8 hb9
          have X9 := slT_on X8 hb9
          have P9 := slT_on P8 hb9
          have Q9 := slT_on Q8 hb9
          have hB9 := belowT_on hB8 hb9 (Nat.le_refl _)
          clear k9 hB8 hb9 S8 X8 P8 Q8
          clear K9'
          go_wp2_with (go_at_call 30; refine (HA.out _).mono ?_; rintro e w10 ⟨rfl, hb10⟩)
          go_ret
          exact ⟨rfl, belowT_on hB9 hb10 (Nat.le_refl _)⟩
end Go.Proofs.Ytdndomjmnlpjgaa
