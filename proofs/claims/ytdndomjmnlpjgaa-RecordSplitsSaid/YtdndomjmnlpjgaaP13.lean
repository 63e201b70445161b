/- The walk of RecordSplits, whole. -/
import Derived.Test.YtdndomjmnlpjgaaP12
namespace Go.Proofs.Ytdndomjmnlpjgaa
open Go.RowKit
set_option maxRecDepth 100000 in
set_option maxHeartbeats 6400000 in
theorem light1_any (W0 : World) (A : Option Addr) (cap : Nat) (l : List Tok) (hS : Sl W0 W0.heap.size 3 A l.length cap (tokC l)) (hm : l.length ≤ maxLen) (hl : ∀ t ∈ l, t.text.length ≤ maxLen) :
    Calls Try.prog 28 #[.slice (some ⟨W0.heap.size, 0, none⟩) 1 1] (W0.alloc (.cells #[.slice A l.length cap, .int .i64 0, .int .i64 0] 43)) fun e w' => ∃ R : Bool, e = .returned (.bool R) ∧
      (R = true → (l.length ≤ 20 ∨ (1000 < l.length ∧ l.length ≤ 1003)) ∧ ∀ t ∈ l, t.text.length ≤ 40) ∧ Below (W0.heap.size + 1) (W0.alloc (.cells #[.slice A l.length cap, .int .i64 0, .int .i64 0] 43)) w' := by
  have b0 := Blk.new W0 43 #[.slice A l.length cap, .int .i64 0, .int .i64 0]
  have hS1 := hS.alloc (Nat.le_refl _) (.cells #[.slice A l.length cap, .int .i64 0, .int .i64 0] 43)
  have hz : (W0.alloc (.cells #[.slice A l.length cap, .int .i64 0, .int .i64 0] 43)).heap.size = W0.heap.size + 1 := by simp
  generalize W0.alloc (.cells #[.slice A l.length cap, .int .i64 0, .int .i64 0] 43) = w at *
  obtain ⟨c0, c1, c2, f0, f1, f2⟩ := cells3 b0
  have hbl := b0.lt
  unfold maxLen at hm hl
  go_enter Try.func28, Try.ntmps28
  go_wp2_with fail
  go_loopw [3, 4] (fun v3 v4 W => w = W ∧ ((v3 = .int .i64 0 ∧ v4 = .int .i64 0) ∨ (v3 = .int .i64 l.length ∧ v4 = .int .i64 1 ∧ (l.length ≤ 20 ∨ (1000 < l.length ∧ l.length ≤ 1003)) ∧ ∀ t ∈ l, t.text.length ≤ 40))) (fun _ v4 _ => 1 - (intOf v4).toNat)
  case atStart => exact ⟨rfl, .inl ⟨rfl, rfl⟩⟩
  case round =>
    obtain ⟨rfl, ⟨rfl, rfl⟩ | ⟨rfl, rfl, hq1, hq2⟩⟩ := hrel
    · by_cases h20 : (20 < l.length ∧ l.length ≤ 1000) ∨ 1003 < l.length
      · rcases h20 with ⟨h1, h2⟩ | h1
        · have h1z : (20 : Int) < l.length := by omega
          have h2z : (l.length : Int) ≤ 1000 := by omega
          clear hS hS1 hl
          go_wp2_with fail
          go_ret
          exact ⟨false, rfl, (fun h => by cases h), Below.refl _ _⟩
        · have h1z : (1003 : Int) < l.length := by omega
          have h2z : (20 : Int) < l.length := by omega
          have h3z : ¬ (l.length : Int) ≤ 1000 := by omega
          have h2 : 20 < l.length := by omega
          have h3 : ¬ l.length ≤ 1000 := by omega
          clear hS hS1 hl
          go_wp2_with fail
          go_ret
          exact .inl ⟨rfl, Below.refl _ _⟩
      · by_cases hs : l.length ≤ 20
        · have h1z : ¬ (20 : Int) < l.length := by omega
          have h1 : ¬ 20 < l.length := by omega
          have h2z : ¬ (1003 : Int) < l.length := by omega
          have h2 : ¬ 1003 < l.length := by omega
          have hlong : l.length ≤ 20 ∨ (1000 < l.length ∧ l.length ≤ 1003) := by omega
          have HLo := Lib.hid hlong
          clear hlong h20 hs
          go_wp2_with fail
          go_loopw [6] (fun v6 W => w = W ∧ ∃ k : Nat, k ≤ l.length ∧ v6 = .int .i64 k ∧ ∀ t ∈ l.take k, t.text.length ≤ 40) (fun v6 _ => l.length - (intOf v6).toNat)
          case atStart => exact ⟨rfl, 0, Nat.zero_le _, rfl, by simp⟩
          case round =>
            obtain ⟨rfl, k, hk, rfl, hall⟩ := hrel
            by_cases hlt : k < l.length
            · obtain ⟨b, o, rfl, hb, d0, d1, d2⟩ := sl_tok hS1 hlt
              have hsn := take_snoc l k hlt
              have htm := hl l[k] (List.getElem_mem hlt)
              have hx : l[k].text.length ≤ 40 → ∀ t ∈ l.take (k + 1), t.text.length ≤ 40 := fun h t ht => by
                rw [hsn] at ht
                rcases List.mem_append.1 ht with ht | ht
                · exact hall t ht
                · simp only [List.mem_cons, List.not_mem_nil, or_false] at ht
                  subst ht
                  exact h
              have HX := Lib.hid hx
              clear hsn hx hall hl
              generalize l[k] = t at *
              obtain ⟨sy, x, a⟩ := t
              simp only at *
              by_cases h40 : 40 < x.length
              · have h40z : (40 : Int) < x.length := by omega
                go_wp2_with fail
                go_ret
                exact ⟨false, rfl, (fun h => by cases h), Below.refl _ _⟩
              · have h40z : ¬ (40 : Int) < x.length := by omega
                go_wp2_with fail
                go_roundw
                case rel => exact ⟨trivial, k + 1, by omega, by go_num, HX.out (by omega)⟩
                case measure => simp [intOf]; omega
            · obtain rfl : k = l.length := by omega
              rw [List.take_length] at hall
              have HA := Lib.hid hall
              clear hall hl hS hS1
              go_wp2_with fail
              go_roundw
              case rel => exact ⟨trivial, .inr ⟨rfl, rfl, HLo.out, HA.out⟩⟩
              case measure => simp [intOf]
        · have h1z : (20 : Int) < l.length := by omega
          have h1 : 20 < l.length := by omega
          have h2z : ¬ (1003 : Int) < l.length := by omega
          have h2 : ¬ 1003 < l.length := by omega
          have h3z : ¬ (l.length : Int) ≤ 1000 := by omega
          have h3 : ¬ l.length ≤ 1000 := by omega
          have hlong : l.length ≤ 20 ∨ (1000 < l.length ∧ l.length ≤ 1003) := by omega
          have HLo := Lib.hid hlong
          clear hlong h20 hs
          go_wp2_with fail
          go_loopw [6] (fun v6 W => w = W ∧ ∃ k : Nat, k ≤ l.length ∧ v6 = .int .i64 k ∧ ∀ t ∈ l.take k, t.text.length ≤ 40) (fun v6 _ => l.length - (intOf v6).toNat)
          case atStart => exact ⟨rfl, 0, Nat.zero_le _, rfl, by simp⟩
          case round =>
            obtain ⟨rfl, k, hk, rfl, hall⟩ := hrel
            by_cases hlt : k < l.length
            · obtain ⟨b, o, rfl, hb, d0, d1, d2⟩ := sl_tok hS1 hlt
              have hsn := take_snoc l k hlt
              have htm := hl l[k] (List.getElem_mem hlt)
              have hx : l[k].text.length ≤ 40 → ∀ t ∈ l.take (k + 1), t.text.length ≤ 40 := fun h t ht => by
                rw [hsn] at ht
                rcases List.mem_append.1 ht with ht | ht
                · exact hall t ht
                · simp only [List.mem_cons, List.not_mem_nil, or_false] at ht
                  subst ht
                  exact h
              have HX := Lib.hid hx
              clear hsn hx hall hl
              generalize l[k] = t at *
              obtain ⟨sy, x, a⟩ := t
              simp only at *
              by_cases h40 : 40 < x.length
              · have h40z : (40 : Int) < x.length := by omega
                go_wp2_with fail
                go_ret
                exact ⟨false, rfl, (fun h => by cases h), Below.refl _ _⟩
              · have h40z : ¬ (40 : Int) < x.length := by omega
                go_wp2_with fail
                go_roundw
                case rel => exact ⟨trivial, k + 1, by omega, by go_num, HX.out (by omega)⟩
                case measure => simp [intOf]; omega
            · obtain rfl : k = l.length := by omega
              rw [List.take_length] at hall
              have HA := Lib.hid hall
              clear hall hl hS hS1
              go_wp2_with fail
              go_roundw
              case rel => exact ⟨trivial, .inr ⟨rfl, rfl, HLo.out, HA.out⟩⟩
              case measure => simp [intOf]
    · have hR : ∃ R : Bool, decide ((l.length : Int) ≤ 1500) = R := ⟨_, rfl⟩
      obtain ⟨R, hR⟩ := hR
      have HQ := Lib.hid (And.intro hq1 hq2)
      clear hq1 hq2 hS hS1 hl
      go_wp2_with fail
      go_ret
      exact ⟨_, rfl, fun _ => HQ.out, Below.refl _ _⟩
theorem splitA_len (l : List Tok) (n : Int) : (splitA l n).1.length ≤ l.length ∧ (splitA l n).2.1.length ≤ l.length ∧ ∀ x ∈ (splitA l n).1, x.toks.length ≤ l.length := by
  obtain ⟨h1, h2, h3⟩ := divA_len n l []
  simp only [List.length_nil, Nat.add_zero] at h2 h3
  unfold splitA
  split
  · exact ⟨Nat.zero_le _, Nat.zero_le _, fun x hx => by cases hx⟩
  · split
    · exact ⟨h1, h2, h3⟩
    · exact ⟨Nat.zero_le _, Nat.zero_le _, fun x hx => by cases hx⟩
set_option maxRecDepth 100000 in
set_option maxHeartbeats 6400000 in
theorem RecordSplits_any (A : Option Addr) (cap : Nat) (l : List Tok) (n : Int) (w : World) (hS : Sl w w.heap.size 3 A l.length cap (tokC l)) (hl : ∀ t ∈ l, t.text.length ≤ maxLen) :
    Calls Try.prog 7 #[.slice A l.length cap, .int .i64 n] w fun e w' => e = .returned (.bool true) ∧ Below w.heap.size w w' := by
  have hm : l.length ≤ maxLen := Nat.le_trans hS.2.1 hS.2.2.1
  have HA := Lib.hid (fun W => awake23_any W)
  have HL := Lib.hid (light1_any w A cap l hS hm hl)
  have HB0 := Lib.hid ((Below.refl w.heap.size w).alloc (Nat.le_refl _) (.cells #[.slice A l.length cap, .int .i64 0, .int .i64 0] 43))
  have HSl := Lib.hid hS
  have HTl := Lib.hid hl
  clear hS hl
  unfold maxLen at hm
  go_enter Try.func7, Try.ntmps7
  go_wp2_with fail
  refine HL.out.mono ?_
  rintro e w1 ⟨R, rfl, hR, hb1⟩
  have HB1 := Lib.hid (HB0.out.trans (hb1.mono (Nat.le_succ _)))
  have HR := Lib.hid hR
  clear hb1 hR HB0 HL
  by_cases hbad : R = false ∨ 30 < l.length
  · by_cases hRf : R = false
    · subst hRf
      go_wp2_with fail
      refine (HA.out _).mono ?_
      rintro e w2 ⟨rfl, hb2⟩
      have HB2 := Lib.hid (below_on HB1.out hb2 (Nat.le_refl _))
      clear hb2
      go_wp2_with fail
      go_ret
      exact ⟨rfl, HB2.out⟩
    · obtain rfl : R = true := by simpa using hRf
      have h30 : 30 < l.length := by rcases hbad with h | h; exact absurd h (by simp); exact h
      have h30z : (30 : Int) < l.length := by omega
      clear hbad hRf
      go_wp2_with fail
      refine (HA.out _).mono ?_
      rintro e w2 ⟨rfl, hb2⟩
      have HB2 := Lib.hid (below_on HB1.out hb2 (Nat.le_refl _))
      clear hb2
      go_wp2_with fail
      go_ret
      exact ⟨rfl, HB2.out⟩
  · obtain rfl : R = true := by cases R; exact absurd (Or.inl rfl) hbad; rfl
    have h30 : ¬ 30 < l.length := fun h => hbad (Or.inr h)
    have h30z : ¬ (30 : Int) < l.length := by omega
    have h20 : l.length ≤ 20000 := by omega
    have HF := Lib.hid (fun W hS hD => Split_any A cap w.heap.size l n W hS hD h20 HTl.out)
    have HG := Lib.hid (fun W hS hD => rSplit_any A cap w.heap.size l n W hS hD h20 HTl.out)
    obtain ⟨q1, q2, q3⟩ := splitA_len l n
    have HQ := Lib.hid (fun (L K : List RcM) A1 A2 cap1 cap2 W h1 h2 h3 h4 (e1 : L.map (·.r) = (splitA l n).1) (e2 : K.map (·.r) = (splitA l n).1) => SameRecs_any A1 A2 cap1 cap2 L K W h1 h2 h3 h4
      (by rw [← List.length_map (f := (·.r)), e1]; omega)
      (fun x hx => by have := q3 x.r (by rw [← e1]; exact List.mem_map_of_mem hx); omega)
      (fun x hx => by have := q3 x.r (by rw [← e2]; exact List.mem_map_of_mem hx); omega))
    have HT := Lib.hid (fun A1 A2 cap1 cap2 D W (rest : List Tok) (h : rest = (splitA l n).2.1) h1 h2 => SameTokens_any A1 A2 cap1 cap2 D rest rest W h1 h2 (by rw [h]; omega) (by rw [h]; omega))
    have HF1 := Lib.hid (HF.out w1 (HSl.out.below HB1.out (Nat.le_refl _)) HB1.out.size)
    clear q1 q2 q3 hbad
    go_wp2_with fail
    refine HF1.out.mono ?_
    rintro e w2 ⟨⟨L, rest, Ao, Ar, co, cr, er, hsp, rfl, hO, hR, hT⟩, hb2⟩
    have hB2 := below_on HB1.out hb2 (Nat.le_refl _)
    have HG1 := Lib.hid (HG.out w2 (HSl.out.below hB2 (Nat.le_refl _)) hB2.size)
    have HO := Lib.hid (And.intro hO (And.intro hR (And.intro hT hB2)))
    have HSp := Lib.hid hsp
    clear hO hR hT hB2 hb2 hsp HF1 HF HG
    go_wp2_with fail
    refine HG1.out.mono ?_
    rintro e w3 ⟨⟨K, rest2, Bo, Br, do_, dr, er2, hsp2, rfl, hO2, hR2, hT2⟩, hb3⟩
    obtain ⟨hO, hR, hT, hB2⟩ := HO.out
    have hsp := HSp.out
    have h3 := hsp
    rw [hsp2] at h3
    injection h3 with e1 h3
    injection h3 with e2 e3
    subst e2 e3
    have g1 : L.map (·.r) = (splitA l n).1 := by rw [hsp]
    have g2 : K.map (·.r) = (splitA l n).1 := by rw [hsp2]
    have g3 : rest2 = (splitA l n).2.1 := by rw [hsp2]
    have hB3 := below_on hB2 hb3 (Nat.le_refl _)
    have hO' := (hO.below hb3 (Nat.le_refl _)).sl
    have hR' := (hR.below hb3 (Nat.le_refl _)).sl
    have hT' := (hT.below hb3 (Nat.le_refl _)).sl
    have hSR := HQ.out L K Ao Bo co do_ w3 hO' hO2.sl hR' hR2.sl g1 g2
    rw [g1, g2, decide_eq_true rfl] at hSR
    have HSR := Lib.hid hSR
    have HTT := Lib.hid (fun W (hb : Below w3.heap.size w3 W) => HT.out Ar Br cr dr w3.heap.size W rest2 g3 (hT'.below hb (Nat.le_refl _)) (hT2.sl.below hb (Nat.le_refl _)))
    simp only [decide_true] at HTT
    have HB3 := Lib.hid hB3
    clear hsp hsp2 e1 g1 g2 g3 hB3 hO' hR' hT' hSR hO hR hT hB2 hO2 hR2 hT2 hb3 HO HQ HT HSp HG1
    go_wp2_with fail
    refine HSR.out.mono ?_
    rintro e w4 ⟨rfl, hb4⟩
    have HB4 := Lib.hid (And.intro hb4 (below_on HB3.out hb4 (Nat.le_refl _)))
    clear hb4
    go_wp2_with fail
    refine (HTT.out _ HB4.out.1).mono ?_
    rintro e w5 ⟨rfl, hb5⟩
    have HB5 := Lib.hid (below_on HB4.out.2 hb5 (Nat.le_refl _))
    clear hb5
    go_wp2_with fail
    refine (HA.out _).mono ?_
    rintro e w6 ⟨rfl, hb6⟩
    have HB6 := Lib.hid (below_on HB5.out hb6 (Nat.le_refl _))
    clear hb6
    go_wp2_with fail
    go_ret
    exact ⟨rfl, HB6.out⟩
end Go.Proofs.Ytdndomjmnlpjgaa
