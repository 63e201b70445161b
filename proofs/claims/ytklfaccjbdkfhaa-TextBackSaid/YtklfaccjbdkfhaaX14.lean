/- TextJoins. No condition. -/
import Derived.Test.YtklfaccjbdkfhaaX13
namespace Go.Proofs.Ytklfaccjbdkfhaa
open Go.RowKit
theorem lexS_form (s : List UInt8) : (∃ l, lexS s = (l, 0, 0)) ∨ (∃ e a, e ≠ 0 ∧ a < s.length ∧ lexS s = ([], e, a)) := by
  unfold lexS
  rcases lexT_err _ s 0 (Nat.le_refl _) with h | ⟨h1, h2⟩
  · rw [if_pos h]; exact .inl ⟨_, rfl⟩
  · rw [if_neg (by rw [h1]; decide)]
    exact .inr ⟨(lexT s 0).2.1, (lexT s 0).2.2, by rw [h1]; decide, by omega, rfl⟩
theorem lexT_at (N : Nat) : ∀ (t : List UInt8) (o : Nat), t.length ≤ N → ∀ x ∈ (lexT t o).1, (o : Int) ≤ x.at_ ∧ x.at_ ≤ o + t.length := by
  induction N with
  | zero => intro t o h x hx; rw [lexT_end o (by have := skipF_le false t; omega)] at hx; cases hx
  | succ N ih =>
    intro t o hN x hx
    have hle := skipF_le false t
    by_cases he : skipF false t = t.length
    · rw [lexT_end _ he] at hx; cases hx
    · have hlt : skipF false t < t.length := by omega
      by_cases hb : (lexB (t.drop (skipF false t))).1 = 0
      · rw [lexT_bad _ hlt hb] at hx; cases hx
      · obtain ⟨k, n, hkn⟩ : ∃ k n, lexB (t.drop (skipF false t)) = (k, n) := ⟨_, _, rfl⟩
        have hk : k ≠ 0 := by rw [hkn] at hb; exact hb
        have hn := lexB_pos _ hb
        rw [hkn, List.length_drop] at hn
        simp only at hn
        rw [lexT_cons _ hlt hkn hk] at hx
        rcases List.mem_cons.1 hx with rfl | hx
        · simp only; omega
        · have h2 := ih (t.drop (skipF false t + n)) (o + skipF false t + n) (by rw [List.length_drop]; omega) x hx
          rw [List.length_drop] at h2
          omega
theorem lexT_len (N : Nat) : ∀ (t : List UInt8) (o : Nat), t.length ≤ N → (lexT t o).1.length ≤ t.length := by
  induction N with
  | zero => intro t o h; rw [lexT_end o (by have := skipF_le false t; omega)]; simp
  | succ N ih =>
    intro t o hN
    have hle := skipF_le false t
    by_cases he : skipF false t = t.length
    · rw [lexT_end _ he]; simp
    · have hlt : skipF false t < t.length := by omega
      by_cases hb : (lexB (t.drop (skipF false t))).1 = 0
      · rw [lexT_bad _ hlt hb]; simp
      · obtain ⟨k, n, hkn⟩ : ∃ k n, lexB (t.drop (skipF false t)) = (k, n) := ⟨_, _, rfl⟩
        have hk : k ≠ 0 := by rw [hkn] at hb; exact hb
        have hn := lexB_pos _ hb
        rw [hkn, List.length_drop] at hn
        simp only at hn
        rw [lexT_cons _ hlt hkn hk]
        have h2 := ih (t.drop (skipF false t + n)) (o + skipF false t + n) (by rw [List.length_drop]; omega)
        rw [List.length_drop] at h2
        simp only [List.length_cons]
        omega
theorem lexS_len (t : List UInt8) (l : List Lx) (h : lexS t = (l, 0, 0)) : l.length ≤ t.length := by
  have e := congrArg Prod.fst h
  unfold lexS at e
  split at e
  · simp only at e
    rw [← e]
    exact lexT_len _ t 0 (Nat.le_refl _)
  · simp only at e
    rw [← e]
    simp
theorem lexS_at (t : List UInt8) (l : List Lx) (h : lexS t = (l, 0, 0)) : ∀ x ∈ l, 0 ≤ x.at_ ∧ x.at_ ≤ t.length := by
  intro x hx
  unfold lexS at h
  split at h
  · have e := congrArg Prod.fst h
    simp only at e
    rw [← e] at hx
    have := lexT_at _ t 0 (Nat.le_refl _) x hx
    omega
  · have e := congrArg Prod.fst h
    simp only at e
    rw [← e] at hx
    cases hx
theorem lxC_take (l k : List Lx) : (lxC (l ++ k)).take (l.length * 3) = lxC l := by
  rw [lxC_append, ← lxC_len l]; exact List.take_left
set_option maxRecDepth 100000 in
set_option maxHeartbeats 6400000 in
theorem TextJoins_any (s t : List UInt8) (w : World) (hs : s.length ≤ maxLen) (ht : t.length ≤ maxLen) :
    Calls Try.prog 3 #[.string ⟨s.toArray⟩, .string ⟨t.toArray⟩] w fun e w' => e = .returned (.bool true) ∧ Below w.heap.size w w' := by
  have HA := Lib.hid awake04_any
  unfold maxLen at hs ht
  by_cases h1 : 200 < s.length
  · have h1' : (200 : Int) < s.length := by omega
    go_enter Try.func3, Try.ntmps3
    go_wp2_with fail
    refine (HA.out _).mono ?_
    rintro e w1 ⟨rfl, hb⟩
    go_wp2_with fail
    go_ret
    exact ⟨rfl, hb⟩
  · by_cases h2 : 200 < t.length
    · have h1' : (s.length : Int) ≤ 200 := by omega
      have h2' : (200 : Int) < t.length := by omega
      go_enter Try.func3, Try.ntmps3
      go_wp2_with fail
      refine (HA.out _).mono ?_
      rintro e w1 ⟨rfl, hb⟩
      go_wp2_with fail
      go_ret
      exact ⟨rfl, hb⟩
    · have h1' : (s.length : Int) ≤ 200 := by omega
      have h2' : (t.length : Int) ≤ 200 := by omega
      obtain ⟨J1, J2, J3⟩ := joins_plain s t
      rw [show (s ++ [10]) ++ t = s ++ 10 :: t by simp] at J1 J2 J3
      have HL := Lib.hid Lexemes_at
      have hSl : (s ++ [10]).length = s.length + 1 := by simp
      have hStl : (s ++ 10 :: t).length = s.length + 1 + t.length := by simp; omega
      clear hs ht
      rcases lexS_form (s ++ [10]) with ⟨la, ha⟩ | ⟨ea, aa, hea, haa, ha⟩
      · rcases lexS_form t with ⟨lb, hb⟩ | ⟨eb, ab, heb, hab, hb⟩
        · have hc := J3 la lb ha hb
          have hat := Lib.hid (lexS_at t lb hb)
          rw [hSl] at hc
          have hla : la.length ≤ 100000 ∧ lb.length ≤ 100000 := by
            have q1 := lexS_len (s ++ [10]) la ha
            have q2 := lexS_len t lb hb
            omega
          have K1 := Lib.hid (fun W => HL.out _ _ _ _ W (by omega) ha)
          have K2 := Lib.hid (fun W => HL.out _ _ _ _ W (by omega) hb)
          have K3 := Lib.hid (fun W => HL.out _ _ _ _ W (by omega) hc)
          obtain ⟨lb', hlb'⟩ : ∃ l, lb.map (shL (s.length + 1)) = l := ⟨_, rfl⟩
          have hll : lb'.length = lb.length := by rw [← hlb', List.length_map]
          have hget : ∀ k (h : k < lb.length), (la ++ lb')[la.length + k]? = some ⟨lb[k].kind, lb[k].text, lb[k].at_ + (s.length + 1 : Nat)⟩ := fun k h => by
            rw [List.getElem?_append_right (by omega), Nat.add_sub_cancel_left, ← hlb', List.getElem?_map, List.getElem?_eq_getElem h]
            rfl
          have Hget := Lib.hid hget
          rw [hlb'] at K3
          have hca : (la ++ lb').length = la.length + lb.length := by rw [List.length_append, hll]
          have Hca := Lib.hid hca
          have hcut : (lxC (la ++ lb')).take (la.length * 3) = lxC la := lxC_take la lb'
          have Hcut := Lib.hid hcut
          have hdec : decide (la = la) = true := by simp
          have HSa := Lib.hid (fun A1 A2 c1 c2 D W h1 h2 => sameList_any A1 A2 c1 c2 D la la W h1 h2 hla.1 hla.1)
          rw [hdec] at HSa
          have hz1 : (la.length : Int) ≤ 100000 := by omega
          have hz2 : (lb.length : Int) ≤ 100000 := by omega
          rw [hca] at K3
          clear J1 J2 J3 HL ha hb hc h1 h2 hlb' hll hget hcut hdec hla hca
          generalize la ++ lb' = lc at *
          go_enter Try.func3, Try.ntmps3
          go_wp2_with fail
          refine (K1.out _).mono ?_
          rintro e w1 ⟨⟨A1, cap1, rfl, hS1⟩, hb1⟩
          have F1 := Blk.new w1 26 #[.int .i64 0, .int .i64 0]
          have G1 := (Below.refl w1.heap.size w1).alloc (Nat.le_refl _) (.cells #[.int .i64 0, .int .i64 0] 26)
          have hB1 := below_on hb1 G1 (Nat.le_refl _)
          have T1 := hS1.below G1 (Nat.le_refl _)
          have z1 := G1.size
          clear hS1 hb1 K1 G1
          go_wp2_with fail
          refine (K2.out _).mono ?_
          rintro e w2 ⟨⟨A2, cap2, rfl, hS2⟩, hb2⟩
          have G2 := (Below.refl w2.heap.size w2).alloc (Nat.le_refl _) (.cells #[.int .i64 0, .int .i64 0] 26)
          have F1b := (Blk.on (Blk.on F1 hb2) G2)
          have F2 := Blk.new w2 26 #[.int .i64 0, .int .i64 0]
          have hB2 := below_on (below_on hB1 hb2 (Nat.le_refl _)) G2 (Nat.le_refl _)
          have z12 : w1.heap.size ≤ w2.heap.size := Nat.le_trans z1 hb2.size
          have T1b := (T1.below hb2 z1).below G2 z12
          have T2 := hS2.below G2 (Nat.le_refl _)
          have z2 := G2.size
          clear hS2 hb2 K2 G2 F1 hB1 T1
          go_wp2_with fail
          refine (K3.out _).mono ?_
          rintro e w3 ⟨⟨A3, cap3, rfl, hS3⟩, hb3⟩
          have G3 := (Below.refl w3.heap.size w3).alloc (Nat.le_refl _) (.cells #[.int .i64 0, .int .i64 0] 26)
          have F1c := (Blk.on (Blk.on F1b hb3) G3)
          have F2c := (Blk.on (Blk.on F2 hb3) G3)
          have F3c := Blk.new w3 26 #[.int .i64 0, .int .i64 0]
          have hB3 := below_on (below_on hB2 hb3 (Nat.le_refl _)) G3 (Nat.le_refl _)
          have z23 : w2.heap.size ≤ w3.heap.size := Nat.le_trans z2 hb3.size
          have z3 := G3.size
          have T1c := (((T1b.below hb3 (by omega)).below G3 (by omega)).more (show w1.heap.size ≤ (w3.alloc (.cells #[.int .i64 0, .int .i64 0] 26)).heap.size by omega))
          have T2c := (((T2.below hb3 (by omega)).below G3 (by omega)).more (show w2.heap.size ≤ (w3.alloc (.cells #[.int .i64 0, .int .i64 0] 26)).heap.size by omega))
          have T3c := ((hS3.below G3 (Nat.le_refl _)).more (show w3.heap.size ≤ (w3.alloc (.cells #[.int .i64 0, .int .i64 0] 26)).heap.size by omega))
          clear hS3 hb3 K3 G3 F1b F2 hB2 T1b T2 z1 z2 z12 z23 z3
          obtain ⟨p0, p1, _, _⟩ := cells2 F1c
          obtain ⟨p2, p3, _, _⟩ := cells2 F2c
          obtain ⟨p4, p5, _, _⟩ := cells2 F3c
          have hcp : la.length ≤ cap3 := by have := T3c.2.1; omega
          have hcp2 : (la.length : Int) ≤ cap3 := by omega
          go_wp2_with fail
          clear p0 p1 p2 p3 p4 p5 F1c F2c F3c
          generalize w3.alloc (.cells #[.int .i64 0, .int .i64 0] 26) = w4 at *
          have T3t := T3c.take (k := la.length) (by omega)
          rw [Hcut.out] at T3t
          refine (HSa.out A3 A1 cap3 cap1 _ w4 T3t T1c).mono ?_
          rintro e w5 ⟨rfl, hb5⟩
          have hB5 := below_on hB3 hb5 (Nat.le_refl _)
          have T2d := (T2c.below hb5 (Nat.le_refl _)).more hb5.size
          have T3d := (T3c.below hb5 (Nat.le_refl _)).more hb5.size
          clear hB3 hb5 T1c T2c T3c T3t HSa hcp hcp2
          have hcl := Hca.out
          rw [← hcl] at T3d
          go_wp2_with fail
          go_loopw [11] (fun i W => ∃ k : Nat, k ≤ lb.length ∧ i = .int .i64 k ∧ Below w5.heap.size w5 W) (fun i _ => lb.length - (intOf i).toNat)
          case atStart => exact ⟨0, Nat.zero_le _, rfl, Below.refl _ _⟩
          case round =>
            obtain ⟨k, hk, rfl, hBr⟩ := hrel
            have hsr := hBr.size
            by_cases hlt : k < lb.length
            · obtain ⟨b1, o1, rfl, hb1, c0, c1, c2⟩ := sl_lx (T2d.below hBr (Nat.le_refl _)) hlt
              have hlt3 : la.length + k < lc.length := by omega
              obtain ⟨b2, o2, rfl, hb2, d0, d1, d2⟩ := sl_lx (T3d.below hBr (Nat.le_refl _)) hlt3
              have hh := Hget.out k hlt
              rw [List.getElem?_eq_getElem hlt3] at hh
              simp only [Option.some.injEq] at hh
              rw [hh] at d0 d1 d2
              have hab := hat.out lb[k] (List.getElem_mem hlt)
              clear hh
              generalize lb[k] = x at *
              obtain ⟨kd, tx, a⟩ := x
              simp only at *
              have hbb1 : b1 < wr.heap.size := by omega
              have hbb2 : b2 < wr.heap.size := by omega
              have hbn1 : b1 ≠ wr.heap.size := by omega
              have hbn2 : b2 ≠ wr.heap.size := by omega
              have haz : 0 ≤ a ∧ a ≤ 200 := by omega
              have hwk : IntKind.i64.wrap ((la.length : Int) + k) = (la.length : Int) + k := Go.IntWalk.i64_in _ (by omega)
              have hwn : ((la.length : Int) + k).toNat = la.length + k := by omega
              have hw0 : (0 : Int) ≤ (la.length : Int) + k := by omega
              have hwl : (la.length : Int) + k < lc.length := by omega
              rw [show ((s.length + 1 : Nat) : Int) = (s.length : Int) + 1 by omega] at d2
              have hwl2 : (la.length : Int) + k < (la.length : Int) + lb.length := by omega
              have hkl : (k : Int) < lb.length := by omega
              clear hwl
              go_wp2_with fail
              go_quiet (fail)
              go_wp2_with fail
              go_roundw
              case rel => exact ⟨k + 1, by omega, by go_num, (hBr.alloc hBr.size _).trans ⟨rfl, rfl, rfl, Nat.le_refl _, fun _ _ => rfl⟩⟩
              case measure => simp [intOf]; omega
            · go_wp2_with fail
              refine (HA.out _).mono ?_
              rintro e w6 ⟨rfl, hb6⟩
              go_wp2_with fail
              go_ret
              exact ⟨rfl, below_on (below_on hB5 hBr (Nat.le_refl _)) hb6 (Nat.le_refl _)⟩
        · have hc := J2 la eb ab ha heb hb
          rw [hSl] at hc
          obtain ⟨z, hz⟩ : ∃ z : Nat, ab + (s.length + 1) = z := ⟨_, rfl⟩
          rw [hz] at hc
          have hzz : (ab : Int) + ((s.length : Int) + 1) = z := by omega
          clear hz
          have K1 := Lib.hid (fun W => HL.out _ _ _ _ W (by omega) ha)
          have K2 := Lib.hid (fun W => HL.out _ _ _ _ W (by omega) hb)
          have K3 := Lib.hid (fun W => HL.out _ _ _ _ W (by omega) hc)
          have heb' : ((eb : Int) == 0) = false := by rw [beq_eq_false_iff_ne]; omega
          have haz : (ab : Int) ≤ 200 := by omega
          clear J1 J2 J3 HL ha hb hc heb hab h1 h2
          go_enter Try.func3, Try.ntmps3
          go_wp2_with fail
          refine (K1.out _).mono ?_
          rintro e w1 ⟨⟨A1, cap1, rfl, hS1⟩, hb1⟩
          have F1 := Blk.new w1 26 #[.int .i64 0, .int .i64 0]
          have hB1 := hb1.alloc hb1.size (.cells #[.int .i64 0, .int .i64 0] 26)
          clear hS1 hb1 K1
          go_wp2_with fail
          refine (K2.out _).mono ?_
          rintro e w2 ⟨⟨A2, cap2, rfl, hS2⟩, hb2⟩
          have F2 := Blk.on F1 hb2
          have hB2 := below_on hB1 hb2 (Nat.le_refl _)
          have F2' := F2.alloc (.cells #[.int .i64 eb, .int .i64 ab] 26)
          have G2 := Blk.new w2 26 #[.int .i64 eb, .int .i64 ab]
          have hB2' := hB2.alloc hB2.size (.cells #[.int .i64 eb, .int .i64 ab] 26)
          clear hS2 hb2 K2 F1 hB1 F2 hB2
          go_wp2_with fail
          refine (K3.out _).mono ?_
          rintro e w3 ⟨⟨A3, cap3, rfl, hS3⟩, hb3⟩
          have F3 := (Blk.on F2' hb3).alloc (.cells #[.int .i64 eb, .int .i64 z] 26)
          have hB3 := below_on hB2' hb3 (Nat.le_refl _)
          have hB3' := Lib.hid (hB3.alloc hB3.size (.cells #[.int .i64 eb, .int .i64 z] 26))
          obtain ⟨p0, p1, r0, r1⟩ := cells2 F3
          obtain ⟨s0, s1, _, _⟩ := cells2 ((Blk.on G2 hb3).alloc (.cells #[.int .i64 eb, .int .i64 z] 26))
          clear hS3 hb3 K3 F2' hB2' F3 hB3 G2
          go_wp2_with fail
          refine (HA.out _).mono ?_
          rintro e w4 ⟨rfl, hb4⟩
          go_wp2_with fail
          go_ret
          exact ⟨rfl, below_on hB3'.out hb4 (Nat.le_refl _)⟩
      · have hc := J1 ea aa hea ha
        have hcb : ∃ lb eb ab, lexS t = (lb, eb, ab) := ⟨_, _, _, rfl⟩
        obtain ⟨lb, eb, ab, hb⟩ := hcb
        have K1 := Lib.hid (fun W => HL.out _ _ _ _ W (by omega) ha)
        have K2 := Lib.hid (fun W => HL.out _ _ _ _ W (by omega) hb)
        have K3 := Lib.hid (fun W => HL.out _ _ _ _ W (by omega) hc)
        have hea' : ((ea : Int) == 0) = false := by rw [beq_eq_false_iff_ne]; omega
        clear J1 J2 J3 HL ha hb hc hea haa h1 h2
        go_enter Try.func3, Try.ntmps3
        go_wp2_with fail
        refine (K1.out _).mono ?_
        rintro e w1 ⟨⟨A1, cap1, rfl, hS1⟩, hb1⟩
        have F1 := Blk.new w1 26 #[.int .i64 ea, .int .i64 aa]
        have hB1 := hb1.alloc hb1.size (.cells #[.int .i64 ea, .int .i64 aa] 26)
        clear hS1 hb1 K1
        go_wp2_with fail
        refine (K2.out _).mono ?_
        rintro e w2 ⟨⟨A2, cap2, rfl, hS2⟩, hb2⟩
        have F2 := Blk.on F1 hb2
        have hB2 := below_on hB1 hb2 (Nat.le_refl _)
        have F2' := F2.alloc (.cells #[.int .i64 eb, .int .i64 ab] 26)
        have hB2' := hB2.alloc hB2.size (.cells #[.int .i64 eb, .int .i64 ab] 26)
        clear hS2 hb2 K2 F1 hB1 F2 hB2
        go_wp2_with fail
        refine (K3.out _).mono ?_
        rintro e w3 ⟨⟨A3, cap3, rfl, hS3⟩, hb3⟩
        have F3 := (Blk.on F2' hb3).alloc (.cells #[.int .i64 ea, .int .i64 aa] 26)
        have hB3 := below_on hB2' hb3 (Nat.le_refl _)
        have hB3' := Lib.hid (hB3.alloc hB3.size (.cells #[.int .i64 ea, .int .i64 aa] 26))
        obtain ⟨p0, p1, r0, r1⟩ := cells2 F3
        clear hS3 hb3 K3 F2' hB2' F3 hB3
        go_wp2_with fail
        refine (HA.out _).mono ?_
        rintro e w4 ⟨rfl, hb4⟩
        go_wp2_with fail
        go_ret
        exact ⟨rfl, below_on hB3'.out hb4 (Nat.le_refl _)⟩
end Go.Proofs.Ytklfaccjbdkfhaa
