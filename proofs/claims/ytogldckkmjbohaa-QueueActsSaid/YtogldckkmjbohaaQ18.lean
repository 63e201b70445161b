/- QueueOrder. No condition. -/
import Derived.Test.YtogldckkmjbohaaQ17
namespace Go.Proofs.Ytogldckkmjbohaa
open Go.RowKit
section
variable {P : Program} (w : World)
theorem step_append_og {ops : Array Oper} {o : Oper} {a : Act} {K : Act → World → Prop} {Q : Exit → Act → World → Prop} {E : Prop} (hw : Region.wanted o (yielded ops a.tmps) = true) (s x : Operand) (t : TypeId)
    (ho : o.op = .call { callee := .builtin .append, args := #[s, x], argTypes := #[t, t] })
    (B : Nat) (e : TypeId) (i : TypeInfo) (z : Value) (size bytes : Nat) (ht : P.underlying t = some (.slice e)) (hi : P.info? e = some i) (hz : i.zero = some z)
    (hsize : i.size = size) (hby : i.bytes = bytes) (hzs : z.cells.size = size) (hsz : 0 < size)
    {A : Option Addr} {n cap : Nat} {xs : List Value} (hs : a.eval s = .slice A n cap) (hown : Own w B e size A n cap xs)
    {D : Nat} {A' : Option Addr} {m c : Nat} {news : List Value} (hx : a.eval x = .slice A' m c) (hr : Sl w D size A' m c news) (h1 : ∀ u ∈ news, u.oneCell' = true)
    (h63 : n + m ≤ maxLen) (hbytes : (n + m) * bytes ≤ 140737488355328) (hbase : B ≤ w.heap.size)
    (h : ∀ A2 cap2 w', Own w' B e size A2 (n + m) cap2 (xs ++ news) → w.grownBy w' (blockOf A cap) → (blockOf A2 cap2 = blockOf A cap ∨ blockOf A2 cap2 = some w.heap.size) → K (a.put o.dst (.slice A2 (n + m) cap2)) w') :
    if Region.wanted o (yielded ops a.tmps) = true then Oper.wp P o a w K Q else E := by
  rw [if_pos hw]
  exact wp_append_o w s x t ho B e i z size bytes ht hi hz hsize hby hzs hsz hs hown hx hr h1 h63 hbytes hbase h
end
/-- One act on a queue, in plain words: putting. -/
theorem put_plain (P : Nat) (L Q O : List Ev) (j r : Nat) (h1 : 1 ≤ P) (h2 : P ≤ 20) (hQ : Q.length ≤ P) (hj : j ≤ L.length) (hO : O ++ Q = L.take j) (hL : ∀ t ∈ L, evE t = 0) :
    ∃ (Q' : List Ev) (n : Nat), putR P Q ((L.drop j).take r) = (Q', n, 0) ∧ n ≤ L.length - j ∧ Q'.length = Q.length + n ∧ Q'.length ≤ P ∧ O ++ Q' = L.take (j + n) ∧ (∀ t ∈ Q', t ∈ L) := by
  have hQL : ∀ t ∈ Q, t ∈ L := fun t ht => List.mem_of_mem_take (by rw [← hO]; exact List.mem_append_right O ht)
  have hlen : ((L.drop j).take r).length = min r (L.length - j) := by rw [List.length_take, List.length_drop]
  refine ⟨Q ++ ((L.drop j).take r).take (min ((L.drop j).take r).length ((P : Int) - Q.length).toNat), min ((L.drop j).take r).length ((P : Int) - Q.length).toNat, putR_all (by omega) (by omega) (by omega) (fun t ht => hL t (hQL t ht)) (fun t ht => hL t (List.mem_of_mem_drop (List.mem_of_mem_take ht))), ?_, ?_, ?_, ?_, ?_⟩
  · rw [hlen]; omega
  · rw [List.length_append, List.length_take]; omega
  · rw [List.length_append, List.length_take]; omega
  · rw [← List.append_assoc, hO, List.take_take, ← take_split L j]
    congr 2
    rw [hlen]
    omega
  · intro t ht
    rcases List.mem_append.1 ht with h | h
    · exact hQL t h
    · exact List.mem_of_mem_drop (List.mem_of_mem_take (List.mem_of_mem_take h))
/-- .. taking. -/
theorem take_plain (P : Nat) (L Q O : List Ev) (j k : Nat) (h1 : 1 ≤ P) (h2 : P ≤ 20) (hQ : Q.length ≤ P) (hO : O ++ Q = L.take j) (hL : ∀ t ∈ L, evE t = 0) :
    chkQ P Q = 0 ∧ (O ++ Q.take k) ++ Q.drop k = L.take j ∧ (Q.drop k).length ≤ P ∧ (∀ t ∈ Q, t ∈ L) ∧ ((Q.drop k).length : Int) + (Q.take k).length = Q.length := by
  have hQL : ∀ t ∈ Q, t ∈ L := fun t ht => List.mem_of_mem_take (by rw [← hO]; exact List.mem_append_right O ht)
  refine ⟨chkQ_all (by omega) (by omega) (by omega) (fun t ht => hL t (hQL t ht)), ?_, ?_, hQL, ?_⟩
  · rw [List.append_assoc, List.take_append_drop, hO]
  · rw [List.length_drop]; omega
  · rw [List.length_drop, List.length_take]; omega
theorem Sl.midE {w : World} {b o D cap : Nat} {l : List Ev} (h : Sl w D 7 (some ⟨b, o, none⟩) l.length cap (evC l)) {j m : Nat} (hj : j < l.length) (hm : j + m ≤ l.length) : Sl w D 7 (some ⟨b, o + j * 7, none⟩) ((l.drop j).take m).length (cap - j) (evC ((l.drop j).take m)) :=
  Sl.takeE (Sl.dropE h hj) (by rw [List.length_drop]; omega)
set_option maxRecDepth 100000 in
set_option maxHeartbeats 6400000 in
theorem QueueOrder_any (A A0 : Option Addr) (cap cap0 : Nat) (ls acs : List Int) (p : Int) (w : World) (hS : Sl w w.heap.size 1 A ls.length cap (ls.map intV)) (hS0 : Sl w w.heap.size 1 A0 acs.length cap0 (acs.map intV)) :
    Calls Try.prog 5 #[.int .i64 p, .slice A ls.length cap, .slice A0 acs.length cap0] w fun e w' => e = .returned (.bool true) ∧ Below w.heap.size w w' := by
  obtain ⟨i0, hi0, hz0, hz1, hz2⟩ := info_parts infoE
  have hSc := hS0.2.1
  have hSm := hS0.2.2.1
  unfold maxLen at hSm
  have HK := Lib.hid QueueKnown_any
  have HM1 := Lib.hid (fun W => Mod_any p 20 W (by decide) (by decide))
  obtain ⟨K0, hK, hK20⟩ := nat_of_mod p 20 (by decide)
  rw [show p % 20 = (K0 : Int) from hK] at HM1
  obtain ⟨P, hP⟩ : ∃ P : Nat, 1 + (K0 : Int) = P := ⟨1 + K0, by omega⟩
  have hP1 : 1 ≤ P := by omega
  have hP2 : P ≤ 20 := by omega
  have HEv := Lib.hid (fun W hS => events_any A cap ls W hS)
  have hlen : (evs ls).length ≤ 40 := by rw [evs_len]; omega
  have hright := evs_right ls
  have htext : ∀ t ∈ evs ls, t.text.length ≤ maxLen := fun t ht => by rw [evs_text ls t ht]; exact Nat.zero_le _
  generalize evs ls = L at *
  have HMd := Lib.hid (fun a W => Mod_any a 1048576 W (by decide) (by decide))
  have HS := Lib.hid (And.intro hS hS0)
  have HR := Lib.hid (And.intro hright htext)
  clear hS hS0 hK hright htext
  go_enter Try.func5, Try.ntmps5
  go_wp2_with fail
  refine (HK.out _).mono ?_
  rintro e w1 ⟨rfl, hb1⟩
  go_wp2_with fail
  refine (HM1.out _).mono ?_
  rintro e w2 ⟨rfl, rfl⟩
  go_wp2_with fail
  have Q := Lib.hid (HEv.out w1 ((HS.out.1.below hb1 (Nat.le_refl _)).more hb1.size))
  refine Q.out.mono ?_
  rintro e w3 ⟨⟨A3, c3, rfl, o3⟩, hd3⟩
  have hb3 := below_on hb1 hd3 (Nat.le_refl _)
  have HS3 := Lib.hid (And.intro o3.sl hb3)
  have hcL := o3.2.1
  have hcm := o3.2.2.1
  clear Q hb1 hb3 hd3 o3 HEv HK HM1
  go_wp2_with fail
  go_loopw [9, 10, 11, 12] (fun lv ov pv iv W => ∃ (k j : Nat) (Q O : List Ev) (A1 : Option Addr) (c1 : Nat) (A2 : Option Addr) (c2 : Nat), k ≤ acs.length ∧ k ≤ 40 ∧ j ≤ L.length ∧ O ++ Q = L.take j ∧ Q.length ≤ P ∧ lv = .slice A1 Q.length c1 ∧ ov = .slice A2 O.length c2 ∧ pv = .int .i64 j ∧ iv = .int .i64 k ∧
    Sl W W.heap.size 7 A1 Q.length c1 (evC Q) ∧ Own W w3.heap.size 34 7 A2 O.length c2 (evC O) ∧ Below w3.heap.size w3 W) (fun _ _ _ i _ => acs.length - (intOf i).toNat)
  case atStart => exact ⟨0, 0, [], [], none, 0, none, 0, Nat.zero_le _, Nat.zero_le _, Nat.zero_le _, rfl, Nat.zero_le _, rfl, rfl, rfl, rfl, Sl.nil _ _ _, Own.nil _ _ _ _, Below.refl _ _⟩
  case round =>
    obtain ⟨k, j, Q, O, A1, c1, A2, c2, hk, hk40, hj, hOQ, hQP, rfl, rfl, rfl, rfl, sQ, oO, hB⟩ := hrel
    by_cases hlt : k < acs.length ∧ k < 40
    · obtain ⟨hlt1, hlt2⟩ := hlt
      obtain ⟨bb, oo, rfl, hbb, a0⟩ := sl_int ((((HS.out.2.below (HS3.out.2) (Nat.le_refl _)).more HS3.out.2.size).below hB (Nat.le_refl _)).more hB.size) hlt1
      generalize acs[k] = y at *
      obtain ⟨K, hKy, hK2⟩ := nat_of_mod y 1048576 (by decide)
      have HM := Lib.hid (fun W => HMd.out y W)
      rw [show y % 1048576 = (K : Int) from hKy] at HM
      have t0 : (K : Int).tmod 2 = ((K % 2 : Nat) : Int) := rfl
      have t1 : (K : Int).tdiv 2 = ((K / 2 : Nat) : Int) := rfl
      have t2 : ((K / 2 : Nat) : Int).tmod 5 = ((K / 2 % 5 : Nat) : Int) := rfl
      have t4 : ((K / 2 : Nat) : Int).tmod 4 = ((K / 2 % 4 : Nat) : Int) := rfl
      clear hKy
      by_cases hev : K % 2 = 0
      · have t0' : (K : Int).tmod 2 = 0 := by rw [t0, hev]; rfl
        have hr5 : K / 2 % 5 ≤ 4 := by omega
        have t5 : (K : Int) / 2 % 5 = ((K / 2 % 5 : Nat) : Int) := by omega
        clear t0 t4
        generalize K / 2 % 5 = r at *
        have hsz := hB.size
        have sL := ((HS3.out.1.below hB (Nat.le_refl _)).more hsz)
        have hcase : (∃ m b o, A3 = some ⟨b, o, none⟩ ∧ j < L.length ∧ m = r ∧ j + r < L.length) ∨ (∃ m b o, A3 = some ⟨b, o, none⟩ ∧ j < L.length ∧ m = L.length - j ∧ L.length ≤ j + r) ∨ (j = L.length) := by
          rcases Nat.lt_or_ge j L.length with h | h
          · obtain ⟨b, o, e, _⟩ := sL.2.2.2 (by omega)
            rcases Nat.lt_or_ge (j + r) L.length with h2 | h2
            · exact .inl ⟨r, b, o, e, h, rfl, h2⟩
            · exact .inr (.inl ⟨L.length - j, b, o, e, h, rfl, h2⟩)
          · exact .inr (.inr (by omega))
        rcases hcase with ⟨m, b, o, rfl, hjl, rfl, hm⟩ | ⟨m, b, o, rfl, hjl, rfl, hm⟩ | rfl
        case' inl =>
          obtain ⟨Q', n, hput, hn, hql, hqP, hOQ', hQm⟩ := put_plain P L Q O j m hP1 hP2 hQP hj hOQ HR.out.1
          have hml : ((L.drop j).take m).length = m := by rw [List.length_take, List.length_drop]; omega
          have sM := Sl.midE sL (j := j) (m := m) hjl (by omega)
          have Q1 := Lib.hid (qPutAll_in hput A1 (some ⟨b, o + j * 7, none⟩) c1 (c3 - j) wr.heap.size wr sQ sM (Nat.le_refl _) (by omega) (by omega) (fun t ht => HR.out.2 t (List.mem_of_mem_take (by rw [← hOQ]; exact List.mem_append_right O ht))) (fun t ht => HR.out.2 t (List.mem_of_mem_drop (List.mem_of_mem_take ht))))
          rw [hml] at Q1
          have hmz : (j : Int) + m < L.length := by omega
          have hne : ¬ c3 = j := by omega
          have hn' : ¬ (L.length : Int) - j < n := by omega
          have hJ := Lib.hid (show j + n ≤ L.length by omega)
          have hql' : (Q'.length : Int) = Q.length + n := by omega
          have hq3 : (Q.length : Int) + n ≤ P := by omega
          have HF := Lib.hid (And.intro hOQ' (And.intro hqP hQm))
          have HB := Lib.hid (And.intro oO hB)
          clear hml sM hput hn hql hqP hOQ' hQm hjl hm sL oO hB hOQ sQ
          go_wp2_with fail
          refine (HM.out _).mono ?_
          rintro e w4 ⟨rfl, rfl⟩
          clear HM a0 HMd
          go_wp2_with fail
          refine Q1.out.mono ?_
          clear Q1
        case' inr.inl =>
          obtain ⟨Q', n, hput, hn, hql, hqP, hOQ', hQm⟩ := put_plain P L Q O j (L.length - j) hP1 hP2 hQP hj hOQ HR.out.1
          have hml : ((L.drop j).take (L.length - j)).length = L.length - j := by rw [List.length_take, List.length_drop]; omega
          have sM := Sl.midE sL (j := j) (m := L.length - j) hjl (by omega)
          have Q1 := Lib.hid (qPutAll_in hput A1 (some ⟨b, o + j * 7, none⟩) c1 (c3 - j) wr.heap.size wr sQ sM (Nat.le_refl _) (by omega) (by omega) (fun t ht => HR.out.2 t (List.mem_of_mem_take (by rw [← hOQ]; exact List.mem_append_right O ht))) (fun t ht => HR.out.2 t (List.mem_of_mem_drop (List.mem_of_mem_take ht))))
          rw [hml] at Q1
          have hmz : (L.length : Int) ≤ (j : Int) + r := by omega
          have hjz : (j : Int) ≤ L.length := by omega
          have hne : ¬ c3 = j := by omega
          have hn' : ¬ (L.length : Int) - j < n := by omega
          have hJ := Lib.hid (show j + n ≤ L.length by omega)
          have hql' : (Q'.length : Int) = Q.length + n := by omega
          have hq3 : (Q.length : Int) + n ≤ P := by omega
          have HF := Lib.hid (And.intro hOQ' (And.intro hqP hQm))
          have HB := Lib.hid (And.intro oO hB)
          clear hml sM hput hn hql hqP hOQ' hQm hjl hm sL oO hB hOQ sQ
          go_wp2_with fail
          refine (HM.out _).mono ?_
          rintro e w4 ⟨rfl, rfl⟩
          clear HM a0 HMd
          go_wp2_with fail
          refine Q1.out.mono ?_
          clear Q1
        case' inr.inr =>
          obtain ⟨Q', n, hput, hn, hql, hqP, hOQ', hQm⟩ := put_plain P L Q O L.length 0 hP1 hP2 hQP hj hOQ HR.out.1
          rw [show (L.drop L.length).take 0 = [] from rfl] at hput
          obtain rfl : n = 0 := by omega
          have Q1 := Lib.hid (fun A6 c6 h => qPutAll_in hput A1 A6 c1 c6 wr.heap.size wr sQ (Sl.empty wr wr.heap.size 7 A6 (cap := c6) h) (Nat.le_refl _) (by omega) (by simp) (fun t ht => HR.out.2 t (List.mem_of_mem_take (by rw [← hOQ]; exact List.mem_append_right O ht))) (by simp))
          have hJ := Lib.hid (show L.length + 0 ≤ L.length by omega)
          have hql' : (Q'.length : Int) = Q.length + (0 : Nat) := by omega
          have hq3 : (Q.length : Int) ≤ P := by omega
          have hr0 : (0 : Int) ≤ r := by omega
          have HF := Lib.hid (And.intro hOQ' (And.intro hqP hQm))
          have HB := Lib.hid (And.intro oO hB)
          clear hput hn hql hqP hOQ' hQm sL oO hB hOQ sQ
          by_cases hc3 : c3 = L.length
          case' pos => subst hc3
          all_goals
            go_wp2_with fail
            refine (HM.out _).mono ?_
            rintro e w4 ⟨rfl, rfl⟩
            clear HM a0 HMd
            go_wp2_with fail
            refine (Q1.out _ _ (by omega)).mono ?_
            clear Q1
        all_goals
          rintro e w5 ⟨⟨A5, c5, rfl, s5⟩, hd5⟩
          have hQc : chkQ P Q' = 0 := chkQ_all (by omega) (by omega) (by have := HF.out.2.1; omega) (fun t ht => HR.out.1 t (HF.out.2.2 t ht))
          have Q2 := Lib.hid (qCheck_in hQc A5 c5 w5.heap.size w5 s5 (Nat.le_refl _) (by have := HF.out.2.1; omega) (fun t ht => HR.out.2 t (HF.out.2.2 t ht)))
          have HG := Lib.hid (And.intro s5 (And.intro (HB.out.1.below hd5 (Nat.le_refl _)) (below_on HB.out.2 hd5 (Nat.le_refl _))))
          clear hQc s5 hd5 HB
          go_wp2_with fail
          refine Q2.out.mono ?_
          rintro e w6 ⟨rfl, hd6⟩
          obtain ⟨s5, o5, hb5⟩ := HG.out
          have HG6 := Lib.hid (And.intro (s5.on hd6) (And.intro (o5.below hd6 (Nat.le_refl _)) (below_on hb5 hd6 (Nat.le_refl _))))
          clear s5 o5 hb5 HG hd6 Q2
          go_wp2_with fail
          go_roundw
          case rel => exact ⟨k + 1, _, Q', O, A5, c5, A2, c2, by omega, by omega, hJ.out, HF.out.1, HF.out.2.1, rfl, rfl, by go_num, by go_num, HG6.out.1, HG6.out.2.1, HG6.out.2.2⟩
          case measure => simp [intOf]; omega
      · have hodd : K % 2 = 1 := by omega
        have t0' : (K : Int).tmod 2 = 1 := by rw [t0, hodd]; rfl
        have hr4 : K / 2 % 4 ≤ 3 := by omega
        have t5 : (K : Int) / 2 % 4 = ((K / 2 % 4 : Nat) : Int) := by omega
        clear t0 t2 hev hodd
        generalize K / 2 % 4 = r at *
        obtain ⟨hQc, hOQ', hRP, hQm, hlen2⟩ := take_plain P L Q O j (1 + r) hP1 hP2 hQP hOQ HR.out.1
        have Q1 := Lib.hid (qTake2_any P (1 + r) A1 c1 wr.heap.size Q wr sQ (Nat.le_refl _) (by omega) (fun t ht => HR.out.2 t (hQm t ht)) hQc (by omega) (by omega))
        rw [show (((1 + r : Nat)) : Int) = 1 + (r : Int) by omega] at Q1
        have hRm : ∀ t ∈ Q.drop (1 + r), t ∈ L := fun t ht => hQm t (List.mem_of_mem_drop ht)
        have hgl : (Q.take (1 + r)).length ≤ 20 := by rw [List.length_take]; omega
        have hOl : O.length ≤ 40 := by have := congrArg List.length hOQ; rw [List.length_append, List.length_take] at this; omega
        have HB := Lib.hid (And.intro oO hB)
        generalize Q.drop (1 + r) = R at *
        generalize Q.take (1 + r) = G at *
        have HF := Lib.hid (And.intro hOQ' (And.intro hRP hRm))
        have hRz : (R.length : Int) ≤ P := by omega
        clear hOQ' hRP hRm hQm hQc oO hB hOQ sQ
        go_wp2_with fail
        refine (HM.out _).mono ?_
        rintro e w4 ⟨rfl, rfl⟩
        clear HM a0 HMd
        go_wp2_with fail
        refine Q1.out.mono ?_
        rintro e w5 ⟨⟨A5, c5, A6, c6, rfl, s5, s6, hfr⟩, hd5⟩
        obtain ⟨oO, hB⟩ := HB.out
        have o5 := oO.below hd5 (Nat.le_refl _)
        have hb5 := below_on hB hd5 (Nat.le_refl _)
        have hfr' : 0 < R.length → ∃ b o, A5 = some ⟨b, o, none⟩ ∧ some b ≠ blockOf A2 c2 := fun h => by
          obtain ⟨b, o, e, hb⟩ := hfr h
          exact ⟨b, o, e, fun hh => by have := (oO.lt hh.symm).2; omega⟩
        have HFr := Lib.hid (And.intro s5 hfr')
        have hbase := hb5.size
        clear Q1 HB oO hB s5 hfr hfr' hd5
        go_wp2_with (at_builtin; refine wpList_append_o _ rfl _ _ _ rfl w3.heap.size 34 i0 _ 7 64 Try.underlying22 hi0 hz0 hz1 hz2 rfl (by decide) rfl o5 rfl s6 (evC_one G) (by simp only [maxLen]; omega) (by omega) hbase ?_; intro A7 c7 w7 o7 hg7 hat7)
        have hb7 := grown_below hb5 o5 hg7 hbase
        have s7 := Sl.grownF HFr.out.1 HFr.out.2 hg7
        have hQc : chkQ P R = 0 := chkQ_all (by omega) (by omega) (by omega) (fun t ht => HR.out.1 t (HF.out.2.2 t ht))
        have Q2 := Lib.hid (qCheck_in hQc A5 c5 w7.heap.size w7 s7 (Nat.le_refl _) (by omega) (fun t ht => HR.out.2 t (HF.out.2.2 t ht)))
        have HG := Lib.hid (And.intro s7 (And.intro o7 hb7))
        clear hQc hg7 hat7 HFr o5 hb5 s6 s7 o7 hb7 hbase hlen2
        go_wp2_with fail
        refine Q2.out.mono ?_
        rintro e w8 ⟨rfl, hd8⟩
        obtain ⟨s7, o7, hb7⟩ := HG.out
        have HG8 := Lib.hid (And.intro (s7.on hd8) (And.intro (o7.below hd8 (Nat.le_refl _)) (below_on hb7 hd8 (Nat.le_refl _))))
        clear s7 o7 hb7 HG hd8 Q2
        go_wp2_with fail
        go_roundw
        case rel =>
          refine ⟨k + 1, j, R, O ++ G, A5, c5, A7, c7, by omega, by omega, hj, HF.out.1, HF.out.2.1, rfl, ?_, rfl, by go_num, HG8.out.1, ?_, HG8.out.2.2⟩
          · rw [List.length_append]
          · rw [List.length_append, evC_append]; exact HG8.out.2.1
        case measure => simp [intOf]; omega
    · have hcases : ¬ k < acs.length ∨ k < acs.length ∧ ¬ k < 40 := by omega
      have hsz := hB.size
      have sL := Sl.takeE ((HS3.out.1.below hB (Nat.le_refl _)).more hsz) hj
      have hjl : (L.take j).length = j := by rw [List.length_take]; omega
      rw [hjl] at sL
      have hOl : O.length + Q.length = j := by have := congrArg List.length hOQ; rw [List.length_append, hjl] at this; exact this
      have HO := Lib.hid (fun W h => own_any A2 c2 W.heap.size O W h (Nat.le_refl _) (by omega))
      have PS := Lib.hid (fun A1 c1 A2 c2 W h1 h2 => same_any A1 A2 c1 c2 W.heap.size (O ++ Q) (L.take j) W h1 h2 (by rw [List.length_append]; omega) (by omega))
      rw [decide_eq_true hOQ, hjl, List.length_append, evC_append, hOl] at PS
      have sO := oO.sl
      have hjc : (j : Int) ≤ c3 := by omega
      have HOQ := Lib.hid hOQ
      have HB := Lib.hid (And.intro sL (And.intro sQ (And.intro (sO.more (Nat.le_refl _)) (below_on HS3.out.2 hB (Nat.le_refl _)))))
      clear hlt sL hjl sO hOQ oO hB HMd sQ
      rcases hcases with hx | ⟨hx, hy⟩
      all_goals
        go_wp2_with fail
        have hy0 := (Below.refl wr.heap.size wr).drew
        go_region_held3 (fun W => Below wr.heap.size wr W)
          (first
            | exact hz8
            | exact hz7
            | exact hz4
            | exact hy0)
          (first
            | (go_at_call 14; refine (PS.out A7 c7 A3 c3 w7 sO7 sL7).mono ?_; rintro e w8 ⟨rfl, hd8⟩; have hz8 := below_on hz7 hd8 (Nat.le_refl _))
            | (go_at_call 9; refine (HO.out wr.drew HB.out.2.2.1.drew).mono ?_; rintro e w4 ⟨⟨A4, c4, rfl, o4⟩, hd4⟩; have sQ4 := (Sl.drew HB.out.2.1).on hd4; have hbase := hd4.size; have hz4 := below_on hy0 hd4 (Nat.le_refl _))
            | (refine step_append_og _ (by rfl) (.tmp 129) (.tmp 130) 22 (by rfl) wr.drew.heap.size 34 i0 _ 7 64 Try.underlying22 hi0 hz0 hz1 hz2 rfl (by decide) (by rfl) o4 (by rfl) sQ4 (evC_one Q) (by simp only [maxLen]; omega) (by omega) hbase ?_; intro A7 c7 w7 o7 hg7 hat7; have hB7 := grown_below hd4 o4 hg7 hbase; have sL7 := (Sl.drew HB.out.1).on hB7; have hz7 := below_on hy0 hB7 (Nat.le_refl _); have sO7 := o7.sl; rw [hOl] at sO7; clear o4 sQ4))
        have hb8 := Lib.hid (below_on HB.out.2.2.2 hz8 (Nat.le_refl _))
        clear hy0 hz4 hz7 hz8 hB7 hd8 hd4 o7 sO7 sL7 hg7 hat7
        go_wp2_with fail
        go_ret
        exact ⟨rfl, hb8.out⟩
end Go.Proofs.Ytogldckkmjbohaa
