/- The walk of RecordParts, whole. -/
import Derived.Test.YtdndomjmnlpjgaaP2
namespace Go.Proofs.Ytdndomjmnlpjgaa
open Go.RowKit
/-- An append behind a guard that says yes. -/
theorem wpList_append_g {P : Program} (w : World) {ops : Array Oper} {rest : List Oper} {o : Oper} {a : Act} {Q : Exit → Act → World → Prop} (hw : Region.wanted o (yielded ops a.tmps) = true) (s x : Operand) (t : TypeId)
    (ho : o.op = .call { callee := .builtin .append, args := #[s, x], argTypes := #[t, t] })
    (B : Nat) (e : TypeId) (i : TypeInfo) (z : Value) (size bytes : Nat) (ht : P.underlying t = some (.slice e)) (hi : P.info? e = some i) (hz : i.zero = some z)
    (hsize : i.size = size) (hby : i.bytes = bytes) (hzs : z.cells.size = size) (hsz : 0 < size)
    {A : Option Addr} {n cap : Nat} {xs : List Value} (hs : a.eval s = .slice A n cap) (hown : Own w B e size A n cap xs)
    {D : Nat} {A' : Option Addr} {m c : Nat} {news : List Value} (hx : a.eval x = .slice A' m c) (hr : Sl w D size A' m c news) (h1 : ∀ u ∈ news, u.oneCell' = true)
    (h63 : n + m ≤ maxLen) (hbytes : (n + m) * bytes ≤ 140737488355328) (hbase : B ≤ w.heap.size)
    (h : ∀ A2 cap2 w', Own w' B e size A2 (n + m) cap2 (xs ++ news) → w.grownBy w' (blockOf A cap) → (blockOf A2 cap2 = blockOf A cap ∨ blockOf A2 cap2 = some w.heap.size) → wpList P ops Q rest (a.put o.dst (.slice A2 (n + m) cap2)) w') : wpList P ops Q (o :: rest) a w :=
  BigFrame.wpList_want hw fun _ hK => wp_append_o w s x t ho B e i z size bytes ht hi hz hsize hby hzs hsz hs hown hx hr h1 h63 hbytes hbase fun A2 cap2 w' h2 h3 h4 => hK _ _ (h A2 cap2 w' h2 h3 h4)
theorem parts_facts (m : Nat) (h1 : 1 ≤ m) (h8 : m ≤ 8) (s : List UInt8) (k : Nat) (hk : k ≤ s.length) (hs : s.length ≤ 100) :
    ∃ (ta tb : List Tok) (u last : Nat) (fe fa ge ga : Int), framesT m (s.take k).length (s.take k) 3 = (ta, u, ⟨ge, ga⟩) ∧ framesT m s.length s 3 = (ta ++ tb, u + last, ⟨fe, fa⟩) ∧ framesT m (s.drop u).length (s.drop u) (3 + (u : Int)) = (tb, last, ⟨fe, fa⟩) ∧
      u ≤ k ∧ u + last ≤ s.length ∧ (ta ++ tb).length ≤ 100 ∧ listE (ta ++ tb) m = 0 ∧ listL (ta ++ tb) m = s.take (u + last) ∧ (∀ t ∈ ta ++ tb, t.text.length ≤ 10000) ∧
      (ge = 0 ∨ (ge ≠ 0 ∧ ge = fe ∧ ga = fa) ∨ (ge ≠ 0 ∧ ge ≠ fe ∧ ge = 5 ∧ ga = 3 + u) ∨ (ge ≠ 0 ∧ ge = fe ∧ ga ≠ fa ∧ ge = 5 ∧ ga = 3 + u)) := by
  have hl : (s.take k).length = k := by rw [List.length_take]; omega
  have hp := framesT_parts m h1 h8 (s.take k).length s.length (s.take k) (s.drop k) 3 (Nat.le_refl _) (by rw [List.take_append_drop]; omega) (by decide) (by rw [List.take_append_drop]; omega)
  rw [List.take_append_drop] at hp
  obtain ⟨⟨ta, u, ⟨ge, ga⟩⟩, hF⟩ : ∃ q, framesT m (s.take k).length (s.take k) 3 = q := ⟨_, rfl⟩
  rw [hF] at hp
  simp only at hp
  obtain ⟨q1, q2, q3, q4, q5⟩ := hp
  have hfu := framesT_fuel m h1 h8 s.length (s.drop u).length (s.drop u) (3 + (u : Int)) (by rw [List.length_drop]; omega) (Nat.le_refl _) (by omega) (by rw [List.length_drop]; omega)
  rw [hfu] at q2 q3 q4
  obtain ⟨⟨tb, last, ⟨he, ha⟩⟩, hH⟩ : ∃ q, framesT m (s.drop u).length (s.drop u) (3 + (u : Int)) = q := ⟨_, rfl⟩
  rw [hH] at q2 q3 q4
  obtain ⟨⟨all, en, ⟨fe, fa⟩⟩, hG⟩ : ∃ q, framesT m s.length s 3 = q := ⟨_, rfl⟩
  have hlen := framesT_len m h1 h8 s.length s 3 (by decide) (by omega)
  have hby := framesT_bytes m h1 h8 s.length s 3 (Nat.le_refl _) (by decide) (by omega)
  rw [hG] at q2 q3 q4 q5 hlen hby
  simp only at q2 q3 q4 q5 hlen hby
  subst q2 q3
  injection q4 with e1 e2
  subst e1 e2
  have hE : listE (ta ++ tb) m = 0 := by
    unfold listE
    rw [if_neg (by omega)]
    exact listE1_none m _ hby.1
  refine ⟨ta, tb, u, last, he, ha, ge, ga, hF, hG, hH, by omega, hlen.2, by omega, hE, ?_, fun t ht => by have := frame_bounds t m (hby.1 t ht); omega, ?_⟩
  · unfold listL
    rw [if_pos hE]
    exact hby.2
  · rcases q5 with h | h | h
    · exact .inl h
    · injection h with e1 e2
      by_cases h0 : ge = 0
      · exact .inl h0
      · exact .inr (.inl ⟨h0, e1, e2⟩)
    · injection h with e1 e2
      by_cases h3 : ge = he
      · by_cases h4 : ga = ha
        · exact .inr (.inl ⟨by omega, h3, h4⟩)
        · exact .inr (.inr (.inr ⟨by omega, h3, h4, e1, e2⟩))
      · exact .inr (.inr (.inl ⟨by omega, h3, e1, e2⟩))
set_option maxRecDepth 100000 in
set_option maxHeartbeats 6400000 in
theorem RecordParts_any (A : Option Addr) (cap : Nat) (ns : List Int) (n cut : Int) (l : List UInt8) (w : World) (hS : Sl w w.heap.size 1 A ns.length cap (ns.map intV)) (hl : l.length ≤ maxLen) :
    Calls Try.prog 12 #[.slice A ns.length cap, .int .i64 n, .int .i64 cut, .string ⟨l.toArray⟩] w fun e w' => e = .returned (.bool true) ∧ Below w.heap.size w w' := by
  unfold maxLen at hl
  have HA := Lib.hid (fun W => awake23_any W)
  by_cases h40 : 40 < l.length
  · have h40z : (40 : Int) < l.length := by omega
    go_enter Try.func12, Try.ntmps12
    go_wp2_with fail
    refine (HA.out _).mono ?_
    rintro e w1 ⟨rfl, hb⟩
    go_wp2_with fail
    go_ret
    exact ⟨rfl, hb⟩
  · have h40z : ¬ (40 : Int) < l.length := by omega
    obtain ⟨r, m, hr, hrm, h1, h8⟩ := mod_terms n
    have HM := Lib.hid (fun W => Mod_any n 8 W (by decide) (by decide))
    rw [hr] at HM
    have HMa := Lib.hid (made23_any A cap w.heap.size ns m w hS (Nat.le_refl _) h1 h8)
    have HPf := Lib.hid (fun s k hk hs => parts_facts m h1 h8 s k hk hs)
    have HMod := Lib.hid Mod_any
    clear hr hS
    go_enter Try.func12, Try.ntmps12
    go_wp2_with fail
    refine (HM.out _).mono ?_
    rintro e w1 ⟨rfl, rfl⟩
    go_wp2_with fail
    refine HMa.out.mono ?_
    rintro e w2 ⟨⟨s0, hs0, rfl⟩, hb2⟩
    have hs : (s0 ++ l).length ≤ 100 := by rw [List.length_append]; omega
    have hsl : (s0 ++ l).length = s0.length + l.length := List.length_append
    have hs0z : (s0.length : Int) ≤ 60 := by omega
    have hlz : (l.length : Int) ≤ 40 := by omega
    have HMo := Lib.hid (fun W => HMod.out cut ((s0.length : Int) + (l.length : Int) + 1) W (by omega) (by omega))
    have hn0 : 0 ≤ cut % ((s0.length : Int) + (l.length : Int) + 1) := Int.emod_nonneg _ (by omega)
    have hn1 : cut % ((s0.length : Int) + (l.length : Int) + 1) < (s0.length : Int) + (l.length : Int) + 1 := Int.emod_lt_of_pos _ (by omega)
    obtain ⟨k, hk⟩ := Int.eq_ofNat_of_zero_le hn0
    rw [hk] at HMo hn1
    clear HM HMa h40z h40 hl hk hn0 HMod
    go_wp2_with fail
    refine (HMo.out _).mono ?_
    rintro e w3 ⟨rfl, rfl⟩
    generalize s0 ++ l = s at *
    have hks : k ≤ s.length := by omega
    have hksz : (k : Int) ≤ s.length := by omega
    obtain ⟨ta, tb, u, last, fe, fa, ge, ga, g1, g2, g3, g4, g5, g6, g7, g8, g9, g10⟩ := HPf.out s k hks hs
    have htk : (s.take k).length = k := by rw [List.length_take]; omega
    have hdr : (s.drop u).length = s.length - u := List.length_drop
    have HF1 := Lib.hid (fun W => Frames_at s m 3 (ta ++ tb) (u + last) fe fa W h1 h8 (by decide) (by omega) (by omega) g2)
    have HF2 := Lib.hid (fun W => Frames_at (s.take k) m 3 ta u ge ga W h1 h8 (by decide) (by omega) (by omega) g1)
    have HF3 := Lib.hid (fun W => Frames_at (s.drop u) m (3 + (u : Int)) tb last fe fa W h1 h8 (by omega) (by omega) (by omega) g3)
    have HLi := Lib.hid (fun A cap D W h hD => List_any A cap D (ta ++ tb) m W h hD (by omega) g9)
    rw [g7, g8] at HLi
    have HSm := Lib.hid (fun A A' cap cap' D W h h' => SameTokens_any A A' cap cap' D (ta ++ tb) (ta ++ tb) W h h' (by omega) (by omega))
    rw [decide_eq_true rfl] at HSm
    have hab : (ta ++ tb).length = ta.length + tb.length := List.length_append
    have hone1 := Lib.hid (tokC_one ta)
    have hone2 := Lib.hid (tokC_one tb)
    have hcat := Lib.hid (tokC_append ta tb)
    rw [hab] at HF1 HLi HSm g6
    generalize ta ++ tb = tc at *
    have huk : (u : Int) ≤ k := by omega
    have hus : (u : Int) ≤ s.length := by omega
    have hend : (u : Int) + (last : Int) ≤ s.length := by omega
    have hus0 : u + last ≤ s.length := g5
    have hendn : ((u + last : Nat) : Int) = (u : Int) + (last : Int) := by omega
    rw [hendn] at HF1
    have HG10 := Lib.hid g10
    clear HPf g1 g2 g3 g4 g5 g7 g8 g9 g10 htk hdr hn1 HMo hs0z hlz hsl
    go_wp2_with fail
    refine (HF1.out _).mono ?_
    rintro e w4 ⟨A4, c4, rfl, S4, hb4⟩
    have F4 := Blk.new w4 27 #[.int .i64 fe, .int .i64 fa]
    have G4 := (Below.refl w4.heap.size w4).alloc (Nat.le_refl _) (.cells #[.int .i64 fe, .int .i64 fa] 27)
    have hB4 := below_on (below_on hb2 hb4 (Nat.le_refl _)) G4 (Nat.le_refl _)
    have S4 := (S4.below G4 (Nat.le_refl _)).more G4.size
    clear hb2 hb4 G4 HF1
    go_wp2_with fail
    generalize w4.alloc (.cells #[.int .i64 fe, .int .i64 fa] 27) = v4 at *
    refine (HF2.out _).mono ?_
    rintro e w5 ⟨A5, c5, rfl, S5, hb5⟩
    have F5 := Blk.new w5 27 #[.int .i64 ge, .int .i64 ga]
    have G5 := (Below.refl w5.heap.size w5).alloc (Nat.le_refl _) (.cells #[.int .i64 ge, .int .i64 ga] 27)
    have F4 := Blk.on (Blk.on F4 hb5) G5
    have hB5 := below_on (below_on hB4 hb5 (Nat.le_refl _)) G5 (Nat.le_refl _)
    have S4 := (((S4.below hb5 (Nat.le_refl _)).more hb5.size).below G5 (Nat.le_refl _)).more G5.size
    have S5 := (S5.below G5 (Nat.le_refl _)).more G5.size
    clear hB4 hb5 G5 HF2
    go_wp2_with fail
    generalize w5.alloc (.cells #[.int .i64 ge, .int .i64 ga] 27) = v5 at *
    refine (HF3.out _).mono ?_
    rintro e w6 ⟨A6, c6, rfl, S6, hb6⟩
    have F6 := Blk.new w6 27 #[.int .i64 fe, .int .i64 fa]
    have G6 := (Below.refl w6.heap.size w6).alloc (Nat.le_refl _) (.cells #[.int .i64 fe, .int .i64 fa] 27)
    have F4 := Blk.on (Blk.on F4 hb6) G6
    have F5 := Blk.on (Blk.on F5 hb6) G6
    have hB6 := below_on (below_on hB5 hb6 (Nat.le_refl _)) G6 (Nat.le_refl _)
    have S4 := (((S4.below hb6 (Nat.le_refl _)).more hb6.size).below G6 (Nat.le_refl _)).more G6.size
    have S5 := (((S5.below hb6 (Nat.le_refl _)).more hb6.size).below G6 (Nat.le_refl _)).more G6.size
    have S6 := (S6.below G6 (Nat.le_refl _)).more G6.size
    clear hB5 hb6 G6 HF3
    go_wp2_with fail
    generalize w6.alloc (.cells #[.int .i64 fe, .int .i64 fa] 27) = v6 at *
    refine (HLi.out _ _ _ _ S4 (Nat.le_refl _)).mono ?_
    rintro e w7 ⟨rfl, hb7⟩
    have F4 := Blk.on F4 hb7
    have F5 := Blk.on F5 hb7
    have F6 := Blk.on F6 hb7
    have hB7 := below_on hB6 hb7 (Nat.le_refl _)
    have S4 := (S4.below hb7 (Nat.le_refl _)).more hb7.size
    have S5 := (S5.below hb7 (Nat.le_refl _)).more hb7.size
    have S6 := (S6.below hb7 (Nat.le_refl _)).more hb7.size
    clear hB6 hb7 HLi
    have hb8 := (Below.refl w7.heap.size w7).alloc (Nat.le_refl _) (.cells #[] 41)
    have hO := (Own.bare w7 w7.heap.size 41 3 (some ⟨w7.heap.size, 0, none⟩)).alloc (.cells #[] 41)
    have S5a := S5.below hb8 (Nat.le_refl _)
    have S6a := S6.below hb8 (Nat.le_refl _)
    have hs8 : w7.heap.size ≤ (w7.alloc (.cells #[] 41)).heap.size := by simp
    obtain ⟨i0, hi0, hz0, hz1, hz2⟩ := info_parts infoT
    obtain ⟨p0, p1, _, _⟩ := cells2 F4
    obtain ⟨p2, p3, _, _⟩ := cells2 F6
    have htn : List.take ((u : Int) + (last : Int)).toNat s = s.take (u + last) := by rw [show ((u : Int) + (last : Int)).toNat = u + last by omega]
    have HG := Lib.hid (And.intro F4 (And.intro F5 (And.intro F6 (And.intro hB7 (And.intro S4 (And.intro S6a hb8))))))
    have hm1 : 0 + ta.length ≤ maxLen := by simp only [maxLen]; omega
    have hm2 : (0 + ta.length) * 32 ≤ 140737488355328 := by omega
    clear F4 F5 F6 hB7 S4 S5 S6 S6a hb8
    have hm3 : ta.length + tb.length ≤ maxLen := by simp only [maxLen]; omega
    have hm4 : (ta.length + tb.length) * 32 ≤ 140737488355328 := by omega
    go_wp2_with (first
      | (at_builtin; refine wpList_append_g _ rfl _ _ _ rfl w7.heap.size 41 i0 _ 3 32 Try.underlying24 hi0 hz0 hz1 hz2 rfl (by decide) rfl hO rfl S5a hone1.out hm1 hm2 hs8 ?_; intro A9 cap9 w9 hown9 hg9 hat9; simp only [Nat.zero_add, List.nil_append] at hown9; have hb9 := grown_below (Below.refl w7.heap.size _) hO hg9 hs8; have S6b := HG.out.2.2.2.2.2.1.below hb9 (Nat.le_refl _); have hs9 := Nat.le_trans hs8 hb9.size; clear hO S5a hg9 hat9; simp only [Nat.zero_add])
      | (at_builtin; refine wpList_append_g _ rfl _ _ _ rfl w7.heap.size 41 i0 _ 3 32 Try.underlying24 hi0 hz0 hz1 hz2 rfl (by decide) rfl hown9 rfl S6b hone2.out hm3 hm4 hs9 ?_; intro A10 cap10 w10 hown10 hg10 hat10))
    obtain ⟨F4, F5, F6, hB7, S4, S6a, hb8⟩ := HG.out
    have hb10 := (hb8.trans hb9).trans (grown_below (Below.refl w7.heap.size _) hown9 hg10 hs9)
    have hB10 := below_on hB7 hb10 (Nat.le_refl _)
    have F4 := Blk.on F4 hb10
    have F5 := Blk.on F5 hb10
    have S4 := (S4.below hb10 (Nat.le_refl _)).more hb10.size
    have S10 := hown10.sl
    rw [← hcat.out] at S10
    clear HG F6 hB7 S6a hb8 hb9 hb10 hown9 hg10 hown10 S6b hat10 p0 p1 p2 p3 hs9 hs8
    refine (HSm.out _ _ _ _ _ _ S10 S4).mono ?_
    rintro e w11 ⟨rfl, hb11⟩
    have F4 := Blk.on F4 hb11
    have F5 := Blk.on F5 hb11
    have hB11 := below_on hB10 hb11 (Nat.le_refl _)
    obtain ⟨p0, p1, _, _⟩ := cells2 F4
    obtain ⟨p2, p3, _, _⟩ := cells2 F5
    clear hB10 hb11 S4 S10 F4 F5 HSm
    have HA1 := Lib.hid (HA.out w11)
    have HB := Lib.hid hB11
    clear hB11 HA
    rcases HG10.out with h | ⟨h, ha, hb⟩ | ⟨h, ha, hb, hc⟩ | ⟨h, ha, hb, hc, hd⟩
    · subst h
      clear HG10
      go_wp2_with fail
      refine HA1.out.mono ?_
      rintro e w12 ⟨rfl, hb12⟩
      have hB12 := below_on HB.out hb12 (Nat.le_refl _)
      go_wp2_with fail
      go_ret
      exact ⟨rfl, hB12⟩
    · subst ha hb
      have hz : (ge == 0) = false := by simpa using h
      clear HG10 h
      go_wp2_with fail
      refine HA1.out.mono ?_
      rintro e w12 ⟨rfl, hb12⟩
      have hB12 := below_on HB.out hb12 (Nat.le_refl _)
      go_wp2_with fail
      go_ret
      exact ⟨rfl, hB12⟩
    · subst hb hc
      clear HG10 h
      go_wp2_with fail
      refine HA1.out.mono ?_
      rintro e w12 ⟨rfl, hb12⟩
      have hB12 := below_on HB.out hb12 (Nat.le_refl _)
      go_wp2_with fail
      go_ret
      exact ⟨rfl, hB12⟩
    · subst ha
      subst hc hd
      clear HG10 h
      go_wp2_with fail
      refine HA1.out.mono ?_
      rintro e w12 ⟨rfl, hb12⟩
      have hB12 := below_on HB.out hb12 (Nat.le_refl _)
      go_wp2_with fail
      go_ret
      exact ⟨rfl, hB12⟩
end Go.Proofs.Ytdndomjmnlpjgaa
