/- QueueParts. No condition. -/
import Derived.Test.YtogldckkmjbohaaQ15
namespace Go.Proofs.Ytogldckkmjbohaa
open Go.RowKit
theorem nat_of_mod (x : Int) (n : Nat) (h : 0 < n) : ∃ k : Nat, x % (n : Int) = k ∧ k < n :=
  ⟨(x % (n : Int)).toNat, by rw [Int.toNat_of_nonneg (Int.emod_nonneg _ (by omega))], by have := Int.emod_lt_of_pos x (show (0 : Int) < n by omega); have := Int.emod_nonneg x (show (n : Int) ≠ 0 by omega); omega⟩
theorem Sl.on {w W : World} {A : Option Addr} {n cap : Nat} {xs : List Value} (h : Sl w w.heap.size 7 A n cap xs) (hb : Below w.heap.size w W) : Sl W W.heap.size 7 A n cap xs := (h.below hb (Nat.le_refl _)).more hb.size
theorem Sl.takeE {w : World} {A : Option Addr} {D cap : Nat} {l : List Ev} (h : Sl w D 7 A l.length cap (evC l)) {k : Nat} (hk : k ≤ l.length) : Sl w D 7 A (l.take k).length cap (evC (l.take k)) := by
  rw [← evC_take, List.length_take, Nat.min_eq_left hk]
  exact h.take hk
theorem Sl.dropE {w : World} {b o D cap : Nat} {l : List Ev} (h : Sl w D 7 (some ⟨b, o, none⟩) l.length cap (evC l)) {k : Nat} (hk : k < l.length) : Sl w D 7 (some ⟨b, o + k * 7, none⟩) (l.drop k).length (cap - k) (evC (l.drop k)) := by
  have hc := h.cut (Nat.le_of_lt hk)
  have hcap := h.2.1
  rw [if_neg (by omega), evC_drop] at hc
  rw [List.length_drop]
  by_cases h0 : k * 7 = 0
  · simpa [Addr.add, h0] using hc
  · simpa [Addr.add, h0] using hc
section
variable {P : Program} (w : World)
theorem wpList_wanted {ops : Array Oper} {rest : List Oper} {o : Oper} {a : Act} {Q : Exit → Act → World → Prop} (hw : Region.wanted o (yielded ops a.tmps) = true)
    (h : ∀ K : Act → World → Prop, (∀ a w, wpList P ops Q rest a w → K a w) → o.wp P a w K Q) : wpList P ops Q (o :: rest) a w := by
  unfold wpList
  rw [if_pos hw]
  exact .inl (h _ fun _ _ h => h)
/-- .. under a guard that is open. -/
theorem wpList_append_og {ops : Array Oper} {rest : List Oper} {o : Oper} {a : Act} {Q : Exit → Act → World → Prop} (hw : Region.wanted o (yielded ops a.tmps) = true) (s x : Operand) (t : TypeId)
    (ho : o.op = .call { callee := .builtin .append, args := #[s, x], argTypes := #[t, t] })
    (B : Nat) (e : TypeId) (i : TypeInfo) (z : Value) (size bytes : Nat) (ht : P.underlying t = some (.slice e)) (hi : P.info? e = some i) (hz : i.zero = some z)
    (hsize : i.size = size) (hby : i.bytes = bytes) (hzs : z.cells.size = size) (hsz : 0 < size)
    {A : Option Addr} {n cap : Nat} {xs : List Value} (hs : a.eval s = .slice A n cap) (hown : Own w B e size A n cap xs)
    {D : Nat} {A' : Option Addr} {m c : Nat} {news : List Value} (hx : a.eval x = .slice A' m c) (hr : Sl w D size A' m c news) (h1 : ∀ u ∈ news, u.oneCell' = true)
    (h63 : n + m ≤ maxLen) (hbytes : (n + m) * bytes ≤ 140737488355328) (hbase : B ≤ w.heap.size)
    (h : ∀ A2 cap2 w', Own w' B e size A2 (n + m) cap2 (xs ++ news) → w.grownBy w' (blockOf A cap) → (blockOf A2 cap2 = blockOf A cap ∨ blockOf A2 cap2 = some w.heap.size) → wpList P ops Q rest (a.put o.dst (.slice A2 (n + m) cap2)) w') : wpList P ops Q (o :: rest) a w :=
  wpList_wanted w hw fun _ hK => wp_append_o w s x t ho B e i z size bytes ht hi hz hsize hby hzs hsz hs hown hx hr h1 h63 hbytes hbase fun A2 cap2 w' h2 h3 h4 => hK _ _ (h A2 cap2 w' h2 h3 h4)
end
set_option maxRecDepth 100000 in
set_option maxHeartbeats 6400000 in
theorem QueueParts_any (A : Option Addr) (cap : Nat) (ls : List Int) (p at_ n : Int) (w : World) (hS : Sl w w.heap.size 1 A ls.length cap (ls.map intV)) :
    Calls Try.prog 6 #[.int .i64 p, .slice A ls.length cap, .int .i64 at_, .int .i64 n] w fun e w' => e = .returned (.bool true) ∧ Below w.heap.size w w' := by
  obtain ⟨i0, hi0, hz0, hz1, hz2⟩ := info_parts infoE
  have HK := Lib.hid QueueKnown_any
  have HM1 := Lib.hid (fun W => Mod_any p 20 W (by decide) (by decide))
  have HM3 := Lib.hid (fun W => Mod_any n 10 W (by decide) (by decide))
  obtain ⟨K, hK, hK20⟩ := nat_of_mod p 20 (by decide)
  obtain ⟨N, hN, hN10⟩ := nat_of_mod n 10 (by decide)
  rw [show p % 20 = (K : Int) from hK] at HM1
  rw [show n % 10 = (N : Int) from hN] at HM3
  have HEv := Lib.hid (fun W hS => events_any A cap ls W hS)
  have hlen : (evs ls).length ≤ 40 := by rw [evs_len]; omega
  have hright := evs_right ls
  have htext : ∀ t ∈ evs ls, t.text.length ≤ maxLen := fun t ht => by rw [evs_text ls t ht]; exact Nat.zero_le _
  generalize evs ls = L at *
  obtain ⟨m, hm, hmL⟩ := nat_of_mod at_ (L.length + 1) (by omega)
  have HM2 := Lib.hid (fun W => Mod_any at_ ((L.length : Int) + 1) W (by omega) (by omega))
  rw [show at_ % ((L.length : Int) + 1) = (m : Int) from hm] at HM2
  obtain ⟨whole, half, wide, c, p1, p2, p3, p4, q1, q2, q3, q4, q5, q6, q7, q8, q9⟩ := parts_plain (1 + K) L m (by omega) (by omega) (by omega) hright
  have hcast : (((1 + K : Nat)) : Int) = 1 + (K : Int) := by omega
  rw [hcast] at p1 p2 p3 p4
  have hwl : whole.length ≤ 20 := by omega
  have hdl : wide.length ≤ 40 := by omega
  have hhl : half.length ≤ 20 := by omega
  have HP1 := Lib.hid (fun A2 c2 W hM => qPutAll_in p1 none A2 0 c2 W.heap.size W (Sl.nil _ _ _) hM (Nat.le_refl _) (by simp) (by omega) (by simp) htext)
  have hmt : (L.take m).length = m := by rw [List.length_take]; omega
  have HP2 := Lib.hid (fun A2 c2 W hM => qPutAll_in p2 none A2 0 c2 W.heap.size W (Sl.nil _ _ _) (Sl.takeE hM (show m ≤ L.length by omega)) (Nat.le_refl _) (by simp) (by omega) (by simp) (fun t ht => htext t (List.mem_of_mem_take ht)))
  rw [hmt] at HP2
  have hht : ∀ t ∈ half, t.text.length ≤ maxLen := fun t ht => htext t (q8 t ht)
  have HP3 := Lib.hid (fun A1 c1 A2 c2 W hS hM => qPutAll_in p3 A1 A2 c1 c2 W.heap.size W hS hM (Nat.le_refl _) (by omega) (by rw [List.length_drop]; omega) hht (fun t ht => htext t (List.mem_of_mem_drop ht)))
  have HP4 := Lib.hid (fun A2 c2 W hM => qPutAll_in p4 none A2 0 c2 W.heap.size W (Sl.nil _ _ _) hM (Nat.le_refl _) (by simp) (by omega) (by simp) htext)
  have PS := Lib.hid (fun l A1 c1 A2 c2 W h1 h2 hl => same_any A1 A2 c1 c2 W.heap.size l l W h1 h2 hl hl)
  simp only [decide_true] at PS
  have hwt : ∀ t ∈ whole, t.text.length ≤ maxLen := fun t ht => htext t (q7 t ht)
  have hwr : ∀ t ∈ whole, evE t = 0 := fun t ht => hright t (q7 t ht)
  have t1 : takeR (1 + K) whole (1 + N) = (whole.drop (1 + N), whole.take (1 + N), 0) := by
    have h := takeR_all (q := 1 + (K : Int)) (n := 1 + (N : Int)) (l := whole) (by omega) (by omega) (by omega) hwr (by omega) (by omega)
    rw [show (1 + (N : Int)).toNat = 1 + N by omega] at h
    exact h
  have t2 : takeR (1 + K) (whole.drop (1 + N)) 2 = ((whole.drop (1 + N)).drop 2, (whole.drop (1 + N)).take 2, 0) :=
    takeR_all (q := 1 + (K : Int)) (n := 2) (by omega) (by omega) (by rw [List.length_drop]; omega) (fun t ht => hwr t (List.mem_of_mem_drop ht)) (by omega) (by omega)
  have t3 : takeR (1 + K) whole (1 + N + 2) = (whole.drop (1 + N + 2), whole.take (1 + N + 2), 0) := by
    have h := takeR_all (q := 1 + (K : Int)) (n := 1 + (N : Int) + 2) (l := whole) (by omega) (by omega) (by omega) hwr (by omega) (by omega)
    rw [show (1 + (N : Int) + 2).toNat = 1 + N + 2 by omega] at h
    exact h
  rw [show (whole.drop (1 + N)).drop 2 = whole.drop (1 + N + 2) by rw [List.drop_drop]] at t2
  have hx : whole.take (1 + N) ++ (whole.drop (1 + N)).take 2 = whole.take (1 + N + 2) := take_split _ _ _
  have HT1 := Lib.hid (fun A c W hS => qTake_in t1 A c W.heap.size W hS (Nat.le_refl _) (by omega) hwt)
  have HT2 := Lib.hid (fun A c W hS => qTake_in t2 A c W.heap.size W hS (Nat.le_refl _) (by rw [List.length_drop]; omega) (fun t ht => hwt t (List.mem_of_mem_drop ht)))
  have HT3 := Lib.hid (fun A c W hS => qTake_in t3 A c W.heap.size W hS (Nat.le_refl _) (by omega) hwt)
  have HO := Lib.hid (fun A c W hS => own_any A c W.heap.size (whole.take (1 + N)) W hS (Nat.le_refl _) (by rw [List.length_take]; omega))
  have hl1 : (whole.drop (1 + N)).length ≤ 20 := by rw [List.length_drop]; omega
  have hl2 : (whole.take (1 + N)).length ≤ 20 := by rw [List.length_take]; omega
  have hl3 : (whole.drop (1 + N + 2)).length ≤ 20 := by rw [List.length_drop]; omega
  have hl4 : (whole.take (1 + N + 2)).length ≤ 20 := by rw [List.length_take]; omega
  have hl5 : ((whole.drop (1 + N)).take 2).length ≤ 20 := by rw [List.length_take]; omega
  have HXX := Lib.hid hx
  clear hx t1 t2 t3 p1 p2 p3 p4 hright htext hwt hwr hht q7 q8 hm hK hN hcast hmt
  generalize whole.drop (1 + N + 2) = one at *
  generalize whole.drop (1 + N) = rest at *
  generalize whole.take (1 + N + 2) = z at *
  generalize whole.take (1 + N) = x at *
  generalize rest.take 2 = y at *
  have HQ := Lib.hid (And.intro q1 (And.intro q2 (And.intro q3 (And.intro q4 (And.intro q5 q6)))))
  clear q1 q2 q3 q4 q5 q6
  have HS := Lib.hid hS
  clear hS
  go_enter Try.func6, Try.ntmps6
  go_wp2_with fail
  refine (HK.out _).mono ?_
  rintro e w1 ⟨rfl, hb1⟩
  go_wp2_with fail
  refine (HM1.out _).mono ?_
  rintro e w2 ⟨rfl, rfl⟩
  go_wp2_with fail
  have Q := Lib.hid (HEv.out w1 ((HS.out.below hb1 (Nat.le_refl _)).more hb1.size))
  refine Q.out.mono ?_
  rintro e w3 ⟨⟨A3, c3, rfl, o3⟩, hd3⟩
  have hb3 := below_on hb1 hd3 (Nat.le_refl _)
  have s3 := o3.sl
  clear Q hb1 hd3 o3 HEv HK HM1 HS
  go_wp2_with fail
  refine (HM2.out _).mono ?_
  rintro e w4 ⟨rfl, rfl⟩
  go_wp2_with fail
  have Q := Lib.hid (HP1.out _ _ _ s3)
  refine Q.out.mono ?_
  rintro e w5 ⟨⟨A5, c5, rfl, s5⟩, hd5⟩
  have hb5 := below_on hb3 hd5 (Nat.le_refl _)
  have s3' := s3.on hd5
  have hm3 : (m : Int) ≤ c3 := by have := s3.2.1; omega
  clear Q hb3 hd5 s3 HP1 HM2
  go_wp2_with fail
  have Q := Lib.hid (HP2.out _ _ _ s3')
  refine Q.out.mono ?_
  rintro e w6 ⟨⟨A6, c6, rfl, s6⟩, hd6⟩
  have hb6 := below_on hb5 hd6 (Nat.le_refl _)
  have s3'' := s3'.on hd6
  have s5' := s5.on hd6
  clear Q hb5 hd6 s3' s5 HP2 hm3
  have hhL := HQ.out.2.2.2.2.1
  have hcases : half.length < L.length ∨ L.length = half.length := by omega
  rcases hcases with hlt | heq
  case' inl =>
    obtain ⟨bb, oo, rfl, _⟩ := s3''.2.2.2 (by omega)
    have hdl : (L.drop half.length).length = L.length - half.length := List.length_drop
    have Q3 := Lib.hid (HP3.out _ _ _ _ _ s6 (Sl.dropE s3'' hlt))
    rw [hdl] at Q3
    have hle : (half.length : Int) ≤ L.length := by omega
    have hne : ¬ c3 = half.length := by have := s3''.2.1; omega
    clear hdl HP3
    go_wp2_with fail
    refine Q3.out.mono ?_
    clear Q3 hne
  case' inr =>
    have hde : L.drop half.length = [] := List.drop_of_length_le (by omega)
    have hcm := s3''.2.2.1
    have hle : (half.length : Int) ≤ L.length := by omega
    have HP3e := Lib.hid (fun A2 c2 h => HP3.out _ _ A2 c2 _ s6 (show Sl w6 w6.heap.size 7 A2 (L.drop half.length).length c2 (evC (L.drop half.length)) by rw [hde]; exact Sl.empty w6 w6.heap.size 7 A2 (cap := c2) h))
    have hdl : (L.drop half.length).length = L.length - half.length := List.length_drop
    rw [hdl] at HP3e
    clear HP3 hde hdl heq
    by_cases hc3 : c3 = half.length
    case' pos => subst hc3
    all_goals
      go_wp2_with fail
      refine (HP3e.out _ _ (by omega)).mono ?_
      clear HP3e hcm
  all_goals
    rintro e w7 ⟨⟨A7, c7, rfl, s7⟩, hd7⟩
    have hb7 := below_on hb6 hd7 (Nat.le_refl _)
    have s3 := s3''.on hd7
    have s5 := s5'.on hd7
    clear hle hb6 hd7 s3'' s5' s6
    go_wp2_with fail
    have Q := Lib.hid (HP4.out _ _ _ s3)
    refine Q.out.mono ?_
    rintro e w8 ⟨⟨A8, c8, rfl, s8⟩, hd8⟩
    have hb8 := below_on hb7 hd8 (Nat.le_refl _)
    have s5' := s5.on hd8
    have s7' := s7.on hd8
    have Q1 := Lib.hid (PS.out _ _ _ _ _ w8 s5' s7' (by omega))
    clear Q hb7 hd8 s3 s5 s7 HP4
    go_wp2_with fail
    refine Q1.out.mono ?_
    rintro e w9 ⟨rfl, hd9⟩
    have hb9 := below_on hb8 hd9 (Nat.le_refl _)
    have s5'' := s5'.on hd9
    have s8' : Sl w9 w9.heap.size 7 A8 whole.length c8 (evC whole) := by have h := Sl.takeE (s8.on hd9) HQ.out.2.1; rw [HQ.out.2.2.1] at h; exact h
    have Q2 := Lib.hid (PS.out _ _ _ _ _ w9 s8' s5'' (by omega))
    have hq1 : (half.length : Int) + c = whole.length := by have := HQ.out.1; omega
    have hq2 : ¬ (wide.length : Int) < whole.length := by have := HQ.out.2.1; omega
    have hq3 : (whole.length : Int) ≤ c8 := by have := s8'.2.1; omega
    clear hb8 hd9 s5' s7' s8 Q1 hhL
    by_cases hPL : 1 + K ≤ L.length
    case' pos =>
      have hPK : 1 + (K : Int) = whole.length := by have := HQ.out.2.2.2.1; omega
      have hwL : (whole.length : Int) ≤ L.length := by have := HQ.out.2.2.2.1; omega
      rw [hPK] at HT1 HT2 HT3
      clear hPL
      go_wp2_with fail
    case' neg =>
      have hLw : (L.length : Int) = whole.length := by have := HQ.out.2.2.2.1; omega
      have hlt : (whole.length : Int) < 1 + K := by have := HQ.out.2.2.2.1; omega
      clear hPL
      go_wp2_with fail
    all_goals
      refine Q2.out.mono ?_
      rintro e w10 ⟨rfl, hd10⟩
      have hb10 := below_on hb9 hd10 (Nat.le_refl _)
      have s5 := s5''.on hd10
      clear hb9 hd10 s8' s5'' Q2 hq1 hq2 hq3
      (try clear hwL)
      (try clear hLw hlt)
      go_wp2_with fail
      refine (HM3.out _).mono ?_
      rintro e w11 ⟨rfl, rfl⟩
      go_wp2_with fail
      have Q := Lib.hid (HT1.out _ _ _ s5)
      refine Q.out.mono ?_
      rintro e w12 ⟨⟨A12, c12, A13, c13, rfl, s12, s13⟩, hd12⟩
      have hb12 := below_on hb10 hd12 (Nat.le_refl _)
      have s5' := s5.on hd12
      clear Q hb10 hd12 s5 HT1 HM3
      go_wp2_with fail
      have Q := Lib.hid (HT2.out _ _ _ s12)
      refine Q.out.mono ?_
      rintro e w14 ⟨⟨A14, c14, A15, c15, rfl, s14, s15⟩, hd14⟩
      have hb14 := below_on hb12 hd14 (Nat.le_refl _)
      have s5 := s5'.on hd14
      have s13' := s13.on hd14
      clear Q hb12 hd14 s5' s12 s13 HT2
      go_wp2_with fail
      have Q := Lib.hid (HT3.out _ _ _ s5)
      refine Q.out.mono ?_
      rintro e w16 ⟨⟨A16, c16, A17, c17, rfl, s16, s17⟩, hd16⟩
      have hb16 := below_on hb14 hd16 (Nat.le_refl _)
      have s13 := s13'.on hd16
      have s14' := s14.on hd16
      have s15' := s15.on hd16
      have Q1 := Lib.hid (PS.out _ _ _ _ _ w16 s14' s16 (by omega))
      clear Q hb14 hd16 s5 s13' s14 s14' s15 s16 HT3
      go_wp2_with fail
      refine Q1.out.mono ?_
      rintro e w17 ⟨rfl, hd17⟩
      have hb17 := below_on hb16 hd17 (Nat.le_refl _)
      have s13' := s13.on hd17
      have s15 := s15'.on hd17
      have s17' := s17.on hd17
      have Q2 := Lib.hid (HO.out _ _ _ s13')
      clear Q1 hb16 hd17 s13 s13' s15' s17 HO
      go_wp2_with fail
      refine Q2.out.mono ?_
      rintro e w18 ⟨⟨A18, c18, rfl, o18⟩, hd18⟩
      have hb18 := below_on hb17 hd18 (Nat.le_refl _)
      have s15' := s15.on hd18
      have hbase := hd18.size
      clear Q2 s15
      go_wp2_with (at_builtin; refine wpList_append_og _ (by rfl) _ _ _ rfl w17.heap.size 34 i0 _ 7 64 Try.underlying22 hi0 hz0 hz1 hz2 rfl (by decide) rfl o18 rfl s15' (evC_one y) (by simp only [maxLen]; omega) (by omega) hbase ?_; intro A19 c19 w19 o19 hg19 hat19)
      have hB19 := grown_below hd18 o18 hg19 hbase
      have hb19 := Lib.hid (below_on hb17 hB19 (Nat.le_refl _))
      have s17 := s17'.on hB19
      have hzl : z.length = x.length + y.length := by rw [← HXX.out, List.length_append]
      have s19 : Sl w19 w19.heap.size 7 A19 z.length c19 (evC z) := by have h := o19.sl; rw [← evC_append, HXX.out, ← hzl] at h; exact h
      have Q3 := Lib.hid (PS.out _ _ _ _ _ w19 s19 s17 (by omega))
      rw [← hzl]
      clear hb17 hB19 hb18 hd18 o18 hg19 hat19 hbase o19 s17 s17' s15' s19 hzl
      refine Q3.out.mono ?_
      rintro e w20 ⟨rfl, hd20⟩
      have hb20 := Lib.hid (below_on hb19.out hd20 (Nat.le_refl _))
      clear hd20 Q3
      go_wp2_with fail
      go_ret
      exact ⟨rfl, hb20.out⟩
end Go.Proofs.Ytogldckkmjbohaa
