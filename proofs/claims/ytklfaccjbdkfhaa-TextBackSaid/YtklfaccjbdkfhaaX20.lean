/- blank of the law; the program's Check. No condition. -/
import Derived.Test.YtklfaccjbdkfhaaX19
namespace Go.Proofs.Ytklfaccjbdkfhaa
open Go.RowKit
theorem blankQ_at {l : List UInt8} {m : Nat} (q : Bool) (h : m < l.length) : blankQ q (l.drop m) = if l[m] = 10 then blankQ false (l.drop (m + 1)) else if l[m] = 35 then blankQ true (l.drop (m + 1)) else if q = false ∧ l[m] ≠ 32 ∧ l[m] ≠ 9 ∧ l[m] ≠ 13 then false else blankQ q (l.drop (m + 1)) := by
  rw [drop_get h]; rfl
theorem byte_nb {b : UInt8} {n : Nat} (h : b ≠ UInt8.ofNat n) : ((b.toNat : Int) != (n : Int)) = true := by
  rw [bne_iff_ne]
  intro e
  exact h (by rw [← UInt8.ofNat_toNat (x := b), show b.toNat = n by omega])
theorem byte_ne {b : UInt8} {n : Nat} (h : b ≠ UInt8.ofNat n) : ((b.toNat : Int) == (n : Int)) = false := by
  rw [beq_eq_false_iff_ne]
  intro e
  exact h (by rw [← UInt8.ofNat_toNat (x := b), show b.toNat = n by omega])
set_option maxRecDepth 100000 in
set_option maxHeartbeats 3200000 in
theorem blank04_any (l : List UInt8) (w : World) (hl : l.length ≤ 30000) :
    Calls Try.prog 16 #[.string ⟨l.toArray⟩] w fun e w' => e = .returned (.bool (blankQ false l)) ∧ w = w' := by
  have hlz : (l.length : Int) ≤ 30000 := by omega
  obtain ⟨R, hR⟩ : ∃ R, blankQ false l = R := ⟨_, rfl⟩
  rw [hR]
  go_enter Try.func16, Try.ntmps16
  go_wp2_with fail
  go_loop [3, 4] (fun r a => ∃ (q : Bool) (m : Nat), m ≤ l.length ∧ r = .bool q ∧ a = .int .i64 m ∧ blankQ q (l.drop m) = R) (fun _ a => l.length - (intOf a).toNat)
  case atStart => exact ⟨false, 0, Nat.zero_le _, rfl, rfl, hR⟩
  case round =>
    obtain ⟨q, m, hm, rfl, rfl, hmR⟩ := hrel
    clear hR
    by_cases hlt : m < l.length
    · rw [blankQ_at q hlt] at hmR
      by_cases h10 : l[m] = 10
      · rw [if_pos h10] at hmR
        have z : ((l[m].toNat : Int) == 10) = true := by rw [h10]; rfl
        have HR := Lib.hid hmR
        clear hmR h10
        go_wp2_with fail
        go_round
        case rel => exact ⟨false, m + 1, by omega, rfl, by go_num, HR.out⟩
        case measure => simp [intOf]; omega
      · rw [if_neg h10] at hmR
        have z : ((l[m].toNat : Int) == 10) = false := byte_ne (n := 10) h10
        by_cases h35 : l[m] = 35
        · rw [if_pos h35] at hmR
          have z2 : ((l[m].toNat : Int) == 35) = true := by rw [h35]; rfl
          have HR := Lib.hid hmR
          clear hmR h10 h35
          go_wp2_with fail
          go_round
          case rel => exact ⟨true, m + 1, by omega, rfl, by go_num, HR.out⟩
          case measure => simp [intOf]; omega
        · rw [if_neg h35] at hmR
          have z2 : ((l[m].toNat : Int) == 35) = false := byte_ne (n := 35) h35
          clear h10 h35
          cases q
          · have hcs : l[m] = 32 ∨ l[m] ≠ 32 ∧ l[m] = 9 ∨ l[m] ≠ 32 ∧ l[m] ≠ 9 ∧ l[m] = 13 ∨ l[m] ≠ 32 ∧ l[m] ≠ 9 ∧ l[m] ≠ 13 := by
              by_cases h1 : l[m] = 32
              · exact .inl h1
              · by_cases h2 : l[m] = 9
                · exact .inr (.inl ⟨h1, h2⟩)
                · by_cases h3 : l[m] = 13
                  · exact .inr (.inr (.inl ⟨h1, h2, h3⟩))
                  · exact .inr (.inr (.inr ⟨h1, h2, h3⟩))
            rcases hcs with h1 | ⟨h1, h2⟩ | ⟨h1, h2, h3⟩ | ⟨h1, h2, h3⟩
            · rw [if_neg (fun h => h.2.1 h1)] at hmR
              have y : ((l[m].toNat : Int) != 32) = false := by rw [h1]; rfl
              have HR := Lib.hid hmR
              clear hmR h1
              go_wp2_with fail
              go_round
              case rel => exact ⟨false, m + 1, by omega, rfl, by go_num, HR.out⟩
              case measure => simp [intOf]; omega
            · rw [if_neg (fun h => h.2.2.1 h2)] at hmR
              have y : ((l[m].toNat : Int) != 32) = true := byte_nb (n := 32) h1
              have y2 : ((l[m].toNat : Int) != 9) = false := by rw [h2]; rfl
              have HR := Lib.hid hmR
              clear hmR h1 h2
              go_wp2_with fail
              go_round
              case rel => exact ⟨false, m + 1, by omega, rfl, by go_num, HR.out⟩
              case measure => simp [intOf]; omega
            · rw [if_neg (fun h => h.2.2.2 h3)] at hmR
              have y : ((l[m].toNat : Int) != 32) = true := byte_nb (n := 32) h1
              have y2 : ((l[m].toNat : Int) != 9) = true := byte_nb (n := 9) h2
              have y3 : ((l[m].toNat : Int) != 13) = false := by rw [h3]; rfl
              have HR := Lib.hid hmR
              clear hmR h1 h2 h3
              go_wp2_with fail
              go_round
              case rel => exact ⟨false, m + 1, by omega, rfl, by go_num, HR.out⟩
              case measure => simp [intOf]; omega
            · rw [if_pos ⟨rfl, h1, h2, h3⟩] at hmR
              have y : ((l[m].toNat : Int) != 32) = true := byte_nb (n := 32) h1
              have y2 : ((l[m].toNat : Int) != 9) = true := byte_nb (n := 9) h2
              have y3 : ((l[m].toNat : Int) != 13) = true := byte_nb (n := 13) h3
              subst hmR
              clear h1 h2 h3
              go_wp2_with fail
              go_ret
              exact ⟨rfl, rfl⟩
          · rw [if_neg (fun h => by cases h.1)] at hmR
            have HR := Lib.hid hmR
            clear hmR
            go_wp2_with fail
            go_round
            case rel => exact ⟨true, m + 1, by omega, rfl, by go_num, HR.out⟩
            case measure => simp [intOf]; omega
    · obtain rfl : m = l.length := by omega
      rw [List.drop_length] at hmR
      obtain rfl : true = R := by rw [← hmR]; cases q <;> rfl
      go_wp2_with fail
      go_ret
      exact ⟨rfl, rfl⟩
theorem skip_hd {l : List UInt8} (h : skipF false l ≠ 0) : lexB l = (0, 0) := by
  by_cases h5 : hd l = 5
  · unfold lexB; rw [h5]; rfl
  · by_cases h6 : hd l = 6
    · unfold lexB; rw [h6]; rfl
    · exact absurd (skip_zero l h5 h6) h
theorem check_cases (x : Lx) : (x.kind < 1 ∧ checkL x = 11) ∨ (1 ≤ x.kind ∧ 3 < x.kind ∧ checkL x = 11) ∨
    ((1 ≤ x.kind ∧ x.kind ≤ 3) ∧ ((∃ e a : Nat, nextL x.text 0 = .fault e a ∧ e ≠ 0 ∧ checkL x = 3) ∨
     (∃ k n f : Nat, nextL x.text 0 = .lex k n f ∧ (k : Int) ≠ x.kind ∧ checkL x = 3) ∨
     (∃ k n f : Nat, nextL x.text 0 = .lex k n f ∧ (k : Int) = x.kind ∧ (x.text.drop f).take n ≠ x.text ∧ checkL x = 3) ∨
     (∃ k n f : Nat, nextL x.text 0 = .lex k n f ∧ (k : Int) = x.kind ∧ (x.text.drop f).take n = x.text ∧ x.at_ < 0 ∧ checkL x = 2) ∨
     (∃ k n f : Nat, nextL x.text 0 = .lex k n f ∧ (k : Int) = x.kind ∧ (x.text.drop f).take n = x.text ∧ 0 ≤ x.at_ ∧ checkL x = 0))) := by
  by_cases h1 : x.kind < 1
  · exact .inl ⟨h1, by unfold checkL; rw [if_pos (.inl h1)]⟩
  · by_cases h2 : 3 < x.kind
    · exact .inr (.inl ⟨by omega, h2, by unfold checkL; rw [if_pos (.inr h2)]⟩)
    · refine .inr (.inr ⟨⟨by omega, by omega⟩, ?_⟩)
      have e : checkL x = if lexB x.text ≠ (x.kind.toNat, x.text.length) then 3 else if x.at_ < 0 then 2 else 0 := by unfold checkL; rw [if_neg (by omega)]
      rcases nextL_cases x.text 0 (Nat.zero_le _) with ⟨h, _⟩ | ⟨a, h, ha, _⟩ | ⟨k, n, f, h, hmf, hn, hfn, hk1, hk3, hlb, hfe, _⟩
      · refine .inl ⟨5, _, h, by decide, ?_⟩
        rw [e, if_pos]
        intro hb
        have hs := skipF_le false x.text
        by_cases hz : skipF false x.text = 0
        · have h3 : nextL x.text 0 = .fault 5 x.text.length := h
          unfold nextL at h3
          rw [List.drop_zero, Nat.zero_add, hz] at h3
          split at h3
          · rename_i h4
            have hp := lexB_pos x.text (by rw [hb]; simp only; omega)
            omega
          · split at h3
            · injection h3 with h5 h6; omega
            · cases h3
        · rw [skip_hd hz] at hb
          injection hb with h5 h6
          omega
      · refine .inl ⟨3, _, h, by decide, ?_⟩
        rw [e, if_pos]
        intro hb
        by_cases hz : skipF false x.text = 0
        · have h3 : nextL x.text 0 = .fault 3 a := h
          unfold nextL at h3
          rw [List.drop_zero, Nat.zero_add, hz] at h3
          split at h3
          · injection h3 with h5 h6; omega
          · split at h3
            · rename_i h7
              rw [List.drop_zero, hb] at h7
              simp only at h7
              omega
            · cases h3
        · rw [skip_hd hz] at hb
          injection hb with h5 h6
          omega
      · rw [List.drop_zero, Nat.zero_add] at hfe
        by_cases hk : (k : Int) = x.kind
        · by_cases ht : (x.text.drop f).take n = x.text
          · have hlen := congrArg List.length ht
            rw [List.length_take, List.length_drop] at hlen
            have hf : f = 0 := by omega
            have hn2 : n = x.text.length := by omega
            rw [hf, List.drop_zero] at hlb
            have hc : ¬ lexB x.text ≠ (x.kind.toNat, x.text.length) := by
              rw [hlb, ← hn2, ← hk]
              simp
            rw [if_neg hc] at e
            by_cases h0 : x.at_ < 0
            · exact .inr (.inr (.inr (.inl ⟨k, n, f, h, hk, ht, h0, by rw [e, if_pos h0]⟩)))
            · exact .inr (.inr (.inr (.inr ⟨k, n, f, h, hk, ht, by omega, by rw [e, if_neg h0]⟩)))
          · refine .inr (.inr (.inl ⟨k, n, f, h, hk, ht, ?_⟩))
            rw [e, if_pos]
            intro hb
            by_cases hz : skipF false x.text = 0
            · have hf : f = 0 := by omega
              rw [hf, List.drop_zero, hb] at hlb
              injection hlb with h5 h6
              rw [hf, ← h6, List.drop_zero, List.take_length] at ht
              exact ht rfl
            · rw [skip_hd hz] at hb
              injection hb with h5 h6
              omega
        · refine .inr (.inl ⟨k, n, f, h, hk, ?_⟩)
          rw [e, if_pos]
          intro hb
          by_cases hz : skipF false x.text = 0
          · have hf : f = 0 := by omega
            rw [hf, List.drop_zero, hb] at hlb
            injection hlb with h5 h6
            omega
          · rw [skip_hd hz] at hb
            injection hb with h5 h6
            omega
set_option maxRecDepth 100000 in
set_option maxHeartbeats 3200000 in
theorem Check_any (x : Lx) (w : World) (hl : x.text.length ≤ 30000) :
    Calls Try.prog 15 #[x.v] w fun e w' => e = .returned (.int .i64 (checkL x)) ∧ Below w.heap.size w w' := by
  have HC := check_cases x
  obtain ⟨kd, tx, a⟩ := x
  simp only at HC hl
  generalize checkL ⟨kd, tx, a⟩ = R at *
  show Calls Try.prog 15 #[.agg #[.int .i64 kd, .string ⟨tx.toArray⟩, .int .i64 a]] w fun e w' => e = .returned (.int .i64 R) ∧ Below w.heap.size w w'
  have bX := Blk.new w 31 #[.int .i64 kd, .string ⟨tx.toArray⟩, .int .i64 a]
  have hB := (Below.refl w.heap.size w).alloc (Nat.le_refl _) (.cells #[.int .i64 kd, .string ⟨tx.toArray⟩, .int .i64 a] 31)
  have HN := Lib.hid (fun g W (hb : Cu W g tx 0) => next_any tx 0 g W hb (Nat.zero_le _) hl)
  rcases HC with ⟨h1, rfl⟩ | ⟨h1, h2, rfl⟩ | ⟨⟨h1, h2⟩, HC⟩
  · obtain ⟨x0, x1, x2, y0, y1, y2⟩ := cells3 bX
    go_enter Try.func15, Try.ntmps15
    go_wp2_with fail
    go_ret
    exact ⟨rfl, hB⟩
  · obtain ⟨x0, x1, x2, y0, y1, y2⟩ := cells3 bX
    go_enter Try.func15, Try.ntmps15
    go_wp2_with fail
    go_ret
    exact ⟨rfl, hB⟩
  · have HH := Lib.hid HC
    have hC : Cu ((w.alloc (.cells #[.int .i64 kd, .string ⟨tx.toArray⟩, .int .i64 a] 31)).alloc (.cells #[.string ⟨tx.toArray⟩, .int .i64 0] 59)) (w.heap.size + 1) tx 0 := Blk.newAt _ _ _ (by simp)
    have bX2 := bX.alloc (.cells #[.string ⟨tx.toArray⟩, .int .i64 0] 59)
    have hB2 := hB.alloc (by simp) (.cells #[.string ⟨tx.toArray⟩, .int .i64 0] 59)
    have hzz : ((w.alloc (.cells #[.int .i64 kd, .string ⟨tx.toArray⟩, .int .i64 a] 31)).alloc (.cells #[.string ⟨tx.toArray⟩, .int .i64 0] 59)).heap.size = w.heap.size + 2 := by simp
    obtain ⟨x0, x1, x2, y0, y1, y2⟩ := cells3 bX
    have HG := Lib.hid (And.intro hC (And.intro bX2 (And.intro hB2 hzz)))
    clear HC hC bX2 hB2 bX hB hzz
    go_enter Try.func15, Try.ntmps15
    go_wp2_with fail
    clear x0 x1 x2 y0 y1 y2
    obtain ⟨hC, bX, hB, hzz⟩ := HG.out
    clear HG
    generalize (w.alloc (.cells #[.int .i64 kd, .string ⟨tx.toArray⟩, .int .i64 a] 31)).alloc (.cells #[.string ⟨tx.toArray⟩, .int .i64 0] 59) = v1 at *
    refine (HN.out _ _ hC).mono ?_
    rintro e w3 ⟨rfl, ⟨m, hm, hC3, _⟩, hG3⟩
    have bX3 := bX.grown hG3 (by simp)
    have hB3 : Below w.heap.size w w3 := hB.grown hG3 hB.size (fun k e => by cases e; omega)
    have hs3 := hG3.size
    clear hC bX hB hC3 hm hG3 HN
    rcases HH.out with ⟨er, fa, h, he, rfl⟩ | ⟨k, n, f, h, hk, rfl⟩ | ⟨k, n, f, h, rfl, ht, rfl⟩ | ⟨k, n, f, h, rfl, ht, ha, rfl⟩ | ⟨k, n, f, h, rfl, ht, ha, rfl⟩
    · rw [h]
      simp only [nxX, nxF]
      clear h HH
      have hz : ((er : Int) == 0) = false := by rw [beq_eq_false_iff_ne]; omega
      have c1 := (bX3.alloc (.cells #[.int .i64 0, .string ⟨#[]⟩, .int .i64 0] 31)).alloc (.cells #[.int .i64 er, .int .i64 fa] 26)
      have c2 := (Blk.new w3 31 #[.int .i64 0, .string ⟨#[]⟩, .int .i64 0]).alloc (.cells #[.int .i64 er, .int .i64 fa] 26)
      have c3 := Blk.newAt (w3.alloc (.cells #[.int .i64 0, .string ⟨#[]⟩, .int .i64 0] 31)) 26 #[.int .i64 er, .int .i64 fa] (g := w3.heap.size + 1) (by simp)
      have hB5 := Lib.hid ((hB3.alloc hB3.size (.cells #[.int .i64 0, .string ⟨#[]⟩, .int .i64 0] 31)).alloc (by simp; omega) (.cells #[.int .i64 er, .int .i64 fa] 26))
      obtain ⟨x0, x1, x2, _, _, _⟩ := cells3 c1
      obtain ⟨x3, x4, x5, _, _, _⟩ := cells3 c2
      obtain ⟨p0, p1, _, _⟩ := cells2 c3
      clear c1 c2 c3 bX3 hB3
      go_wp2_with fail
      go_ret
      exact ⟨rfl, hB5.out⟩
    · rw [h]
      simp only [nxX, nxF]
      clear h HH
      generalize (tx.drop f).take n = t2 at *
      have c1 := (bX3.alloc (.cells #[.int .i64 k, .string ⟨t2.toArray⟩, .int .i64 f] 31)).alloc (.cells #[.int .i64 0, .int .i64 0] 26)
      have c2 := (Blk.new w3 31 #[.int .i64 k, .string ⟨t2.toArray⟩, .int .i64 f]).alloc (.cells #[.int .i64 0, .int .i64 0] 26)
      have c3 := Blk.newAt (w3.alloc (.cells #[.int .i64 k, .string ⟨t2.toArray⟩, .int .i64 f] 31)) 26 #[.int .i64 0, .int .i64 0] (g := w3.heap.size + 1) (by simp)
      have hB5 := Lib.hid ((hB3.alloc hB3.size (.cells #[.int .i64 k, .string ⟨t2.toArray⟩, .int .i64 f] 31)).alloc (by simp; omega) (.cells #[.int .i64 0, .int .i64 0] 26))
      obtain ⟨x0, x1, x2, _, _, _⟩ := cells3 c1
      obtain ⟨x3, x4, x5, _, _, _⟩ := cells3 c2
      obtain ⟨p0, p1, _, _⟩ := cells2 c3
      clear c1 c2 c3 bX3 hB3
      go_wp2_with fail
      go_ret
      exact ⟨rfl, hB5.out⟩
    · rw [h]
      simp only [nxX, nxF]
      clear h HH
      generalize (tx.drop f).take n = t2 at *
      have hxb : (t2 == tx) = false := by simpa using ht
      have c1 := (bX3.alloc (.cells #[.int .i64 k, .string ⟨t2.toArray⟩, .int .i64 f] 31)).alloc (.cells #[.int .i64 0, .int .i64 0] 26)
      have c2 := (Blk.new w3 31 #[.int .i64 k, .string ⟨t2.toArray⟩, .int .i64 f]).alloc (.cells #[.int .i64 0, .int .i64 0] 26)
      have c3 := Blk.newAt (w3.alloc (.cells #[.int .i64 k, .string ⟨t2.toArray⟩, .int .i64 f] 31)) 26 #[.int .i64 0, .int .i64 0] (g := w3.heap.size + 1) (by simp)
      have hB5 := Lib.hid ((hB3.alloc hB3.size (.cells #[.int .i64 k, .string ⟨t2.toArray⟩, .int .i64 f] 31)).alloc (by simp; omega) (.cells #[.int .i64 0, .int .i64 0] 26))
      obtain ⟨x0, x1, x2, _, _, _⟩ := cells3 c1
      obtain ⟨x3, x4, x5, _, _, _⟩ := cells3 c2
      obtain ⟨p0, p1, _, _⟩ := cells2 c3
      clear c1 c2 c3 bX3 hB3
      go_wp2_with fail
      go_ret
      exact ⟨rfl, hB5.out⟩
    · rw [h]
      simp only [nxX, nxF]
      clear h HH
      rw [ht]
      have c1 := (bX3.alloc (.cells #[.int .i64 k, .string ⟨tx.toArray⟩, .int .i64 f] 31)).alloc (.cells #[.int .i64 0, .int .i64 0] 26)
      have c2 := (Blk.new w3 31 #[.int .i64 k, .string ⟨tx.toArray⟩, .int .i64 f]).alloc (.cells #[.int .i64 0, .int .i64 0] 26)
      have c3 := Blk.newAt (w3.alloc (.cells #[.int .i64 k, .string ⟨tx.toArray⟩, .int .i64 f] 31)) 26 #[.int .i64 0, .int .i64 0] (g := w3.heap.size + 1) (by simp)
      have hB5 := Lib.hid ((hB3.alloc hB3.size (.cells #[.int .i64 k, .string ⟨tx.toArray⟩, .int .i64 f] 31)).alloc (by simp; omega) (.cells #[.int .i64 0, .int .i64 0] 26))
      obtain ⟨x0, x1, x2, _, _, _⟩ := cells3 c1
      obtain ⟨x3, x4, x5, _, _, _⟩ := cells3 c2
      obtain ⟨p0, p1, _, _⟩ := cells2 c3
      clear c1 c2 c3 bX3 hB3
      go_wp2_with fail
      go_ret
      exact ⟨rfl, hB5.out⟩
    · rw [h]
      simp only [nxX, nxF]
      clear h HH
      rw [ht]
      have c1 := (bX3.alloc (.cells #[.int .i64 k, .string ⟨tx.toArray⟩, .int .i64 f] 31)).alloc (.cells #[.int .i64 0, .int .i64 0] 26)
      have c2 := (Blk.new w3 31 #[.int .i64 k, .string ⟨tx.toArray⟩, .int .i64 f]).alloc (.cells #[.int .i64 0, .int .i64 0] 26)
      have c3 := Blk.newAt (w3.alloc (.cells #[.int .i64 k, .string ⟨tx.toArray⟩, .int .i64 f] 31)) 26 #[.int .i64 0, .int .i64 0] (g := w3.heap.size + 1) (by simp)
      have hB5 := Lib.hid ((hB3.alloc hB3.size (.cells #[.int .i64 k, .string ⟨tx.toArray⟩, .int .i64 f] 31)).alloc (by simp; omega) (.cells #[.int .i64 0, .int .i64 0] 26))
      obtain ⟨x0, x1, x2, _, _, _⟩ := cells3 c1
      obtain ⟨x3, x4, x5, _, _, _⟩ := cells3 c2
      obtain ⟨p0, p1, _, _⟩ := cells2 c3
      clear c1 c2 c3 bX3 hB3
      go_wp2_with fail
      go_ret
      exact ⟨rfl, hB5.out⟩
end Go.Proofs.Ytklfaccjbdkfhaa
