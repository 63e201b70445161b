/- QueueActs. No condition. -/
import Derived.Test.YtogldckkmjbohaaQ24
namespace Go.Proofs.Ytogldckkmjbohaa
open Go.RowKit
set_option maxRecDepth 100000 in
set_option maxHeartbeats 3200000 in
theorem light_any (A : Option Addr) (cap D : Nat) (l : List Ev) (w : World) (hS : Sl w D 7 A l.length cap (evC l)) (hl : ∀ t ∈ l, t.text.length ≤ maxLen) :
    Calls Try.prog 7 #[.slice A l.length cap] w fun e w' => (∃ r : Bool, e = .returned (.bool r) ∧ (r = true → l.length ≤ 80 ∧ ∀ t ∈ l, t.text.length ≤ 60)) ∧ w' = w := by
  have hcap := hS.2.1
  have hcm := hS.2.2.1
  unfold maxLen at hcm
  by_cases h80 : l.length ≤ 80
  · have h8 : (l.length : Int) ≤ 80 := by omega
    go_enter Try.func7, Try.ntmps7
    go_wp2_with fail
    go_loopw [3] (fun i W => W = w ∧ ∃ k : Nat, k ≤ l.length ∧ i = .int .i64 k ∧ (∀ t ∈ l.take k, t.text.length ≤ 60)) (fun i _ => l.length - (intOf i).toNat)
    case atStart => exact ⟨rfl, 0, Nat.zero_le _, rfl, by simp⟩
    case round =>
      obtain ⟨rfl, k, hk, rfl, hall⟩ := hrel
      by_cases hlt : k < l.length
      · obtain ⟨b, o, rfl, hb, c0, c1, c2, c3, c4, c5, c6⟩ := sl_ev hS hlt
        have hsn : ∀ t ∈ l.take (k + 1), t ∈ l.take k ∨ t = l[k] := fun t ht => by
          rw [takeSnoc l k hlt] at ht
          rcases List.mem_append.1 ht with h | h
          · exact .inl h
          · exact .inr (by simpa using h)
        have htl := hl l[k] (List.getElem_mem hlt)
        generalize l[k] = t at *
        obtain ⟨kk, sy, pr, rc, a, x, er⟩ := t
        simp only at *
        have HA := Lib.hid (And.intro hall hsn)
        clear hall hsn hl hS
        unfold maxLen at htl
        by_cases h60 : x.length ≤ 60
        · have h6 : ¬ (60 : Int) < x.length := by omega
          go_wp2_with fail
          go_roundw
          case rel =>
            refine ⟨trivial, k + 1, by omega, by go_num, fun t ht => ?_⟩
            rcases HA.out.2 t ht with h | rfl
            · exact HA.out.1 t h
            · exact h60
          case measure => simp [intOf]; omega
        · have h6 : (60 : Int) < x.length := by omega
          go_wp2_with fail
          go_ret
          exact ⟨⟨false, rfl, fun h => by cases h⟩, rfl⟩
      · obtain rfl : k = l.length := by omega
        rw [List.take_length] at hall
        have HA := Lib.hid hall
        clear hall
        go_wp2_with fail
        go_ret
        exact ⟨⟨true, rfl, fun _ => ⟨h80, HA.out⟩⟩, rfl⟩
  · have h8 : (80 : Int) < l.length := by omega
    go_enter Try.func7, Try.ntmps7
    go_wp2_with fail
    go_ret
    exact ⟨⟨false, rfl, fun h => by cases h⟩, rfl⟩
theorem sl4 (w : World) (A Am Ah Ak : Option Addr) (cap cm ch ck : Nat) (l more : List Ev) (h1 : Sl w w.heap.size 7 A l.length cap (evC l)) (h2 : Sl w w.heap.size 7 Am more.length cm (evC more)) (h3 : Sl w w.heap.size 7 Ah l.length ch (evC l)) (h4 : Sl w w.heap.size 7 Ak more.length ck (evC more)) :
    ∀ W, Below w.heap.size w W → Sl W W.heap.size 7 A l.length cap (evC l) ∧ Sl W W.heap.size 7 Am more.length cm (evC more) ∧ Sl W W.heap.size 7 Ah l.length ch (evC l) ∧ Sl W W.heap.size 7 Ak more.length ck (evC more) :=
  fun _ hW => ⟨h1.on hW, h2.on hW, h3.on hW, h4.on hW⟩
set_option maxRecDepth 100000 in
set_option maxHeartbeats 12800000 in
theorem QueueActs_any (q n : Int) (A Am : Option Addr) (cap cm : Nat) (l more : List Ev) (w : World) (hS : Sl w w.heap.size 7 A l.length cap (evC l)) (hM : Sl w w.heap.size 7 Am more.length cm (evC more)) (hl : ∀ t ∈ l, t.text.length ≤ maxLen) (hm : ∀ t ∈ more, t.text.length ≤ maxLen) :
    Calls Try.prog 3 #[.int .i64 q, .slice A l.length cap, .slice Am more.length cm, .int .i64 n] w fun e w' => e = .returned (.bool true) ∧ Below w.heap.size w w' := by
  have HA := Lib.hid awake30_any
  have HL1 := Lib.hid (light_any A cap w.heap.size l w hS hl)
  have HL2 := Lib.hid (light_any Am cm w.heap.size more w hM hm)
  have HS := Lib.hid (And.intro hS hM)
  have HT := Lib.hid (And.intro hl hm)
  clear hS hM hl hm
  go_enter Try.func3, Try.ntmps3
  go_wp2_with fail
  refine HL1.out.mono ?_
  rintro e w0 ⟨⟨r1, rfl, hr1⟩, rfl⟩
  have HR1 := Lib.hid hr1
  clear hr1 HL1
  cases r1
  · clear HL2 HR1
    go_wp2_with fail
    refine (HA.out _).mono ?_
    rintro e w1 ⟨rfl, hb1⟩
    have HB := Lib.hid hb1
    clear hb1
    go_wp2_with fail
    go_ret
    exact ⟨rfl, HB.out⟩
  go_wp2_with fail
  refine HL2.out.mono ?_
  rintro e w1 ⟨⟨r2, rfl, hr2⟩, rfl⟩
  have HR2 := Lib.hid hr2
  clear hr2 HL2
  cases r2
  · clear HR1 HR2
    go_wp2_with fail
    refine (HA.out _).mono ?_
    rintro e w2 ⟨rfl, hb1⟩
    have HB := Lib.hid hb1
    clear hb1
    go_wp2_with fail
    go_ret
    exact ⟨rfl, HB.out⟩
  have hl80 := (HR1.out trivial).1
  have hm80 := (HR2.out rfl).1
  have hlt : ∀ t ∈ l, t.text.length ≤ maxLen := HT.out.1
  have hmt : ∀ t ∈ more, t.text.length ≤ maxLen := HT.out.2
  have PC := Lib.hid (fun A c W hS => qCheck_any q A c W.heap.size l W hS (Nat.le_refl _) (by omega) hlt)
  have QC := Lib.hid (fun A c W hS => rqCheck_any q A c W.heap.size l W hS (Nat.le_refl _) (by omega) hlt)
  have PP := Lib.hid (fun A Am c cm W hS hM => qPutAll_any q A Am c cm W.heap.size l more W hS hM (Nat.le_refl _) (by omega) (by omega) hlt hmt)
  have QP := Lib.hid (fun A Am c cm W hS hM => rqPutAll_any q A Am c cm W.heap.size l more W hS hM (Nat.le_refl _) (by omega) (by omega) hlt hmt)
  have PU := Lib.hid (fun A c t W hS ht => qPut_any q A c W.heap.size l t W hS (Nat.le_refl _) (by omega) hlt ht)
  have QU := Lib.hid (fun A c t W hS ht => rqPut_any q A c W.heap.size l t W hS (Nat.le_refl _) (by omega) hlt ht)
  have PT := Lib.hid (fun A c W hS => qTake_any q n A c W.heap.size l W hS (Nat.le_refl _) (by omega) hlt)
  have QT := Lib.hid (fun A c W hS => rqTake_any q n A c W.heap.size l W hS (Nat.le_refl _) (by omega) hlt)
  have PR := Lib.hid (fun A c W hS => qRoom_any q A c W.heap.size l W hS (Nat.le_refl _) (by omega) hlt)
  have QR := Lib.hid (fun A c W hS => rqRoom_any q A c W.heap.size l W hS (Nat.le_refl _) (by omega) hlt)
  have PF := Lib.hid (fun A c W hS => qFull_any q A c W.heap.size l W hS (Nat.le_refl _) (by omega) hlt)
  have QF := Lib.hid (fun A c W hS => rqFull_any q A c W.heap.size l W hS (Nat.le_refl _) (by omega) hlt)
  have PI := Lib.hid (fun A c W hS => qFirst_any q A c W.heap.size l W hS (Nat.le_refl _) (by omega) hlt)
  have QI := Lib.hid (fun A c W hS => rqFirst_any q A c W.heap.size l W hS (Nat.le_refl _) (by omega) hlt)
  have PO := Lib.hid (fun A c k W hS hk => own_any A c W.heap.size k W hS (Nat.le_refl _) hk)
  have PS := Lib.hid (fun k A1 c1 A2 c2 W h1 h2 hk => same_any A1 A2 c1 c2 W.heap.size k k W h1 h2 hk hk)
  simp only [decide_true] at PS
  have hRl : (putR q l more).1.length ≤ 160 := by
    unfold putR
    split
    · simp only [List.length_append, List.length_take]; omega
    · exact Nat.zero_le _
  have hVl : ∀ t, (put1R q l t).1.length ≤ 81 := fun t => by
    unfold put1R
    split
    · simp only [List.length_append, List.length_singleton]; omega
    · exact Nat.zero_le _
  have hTl : (takeR q l n).1.length ≤ 80 ∧ (takeR q l n).2.1.length ≤ 80 := by
    unfold takeR
    split
    · simp only [List.length_drop, List.length_take]; omega
    · exact ⟨Nat.zero_le _, Nat.zero_le _⟩
  generalize putR q l more = R at *
  generalize put1R q l = V at *
  generalize takeR q l n = T at *
  generalize roomR q l = M at *
  generalize chkQ q l = c at *
  generalize firstV q l = fv at *
  generalize firstE q l = fe at *
  obtain ⟨fk, fs, fp, fr, fa, fx, fz⟩ := fv
  unfold Ev.v at PI QI
  unfold Ev.cs at PI QI
  simp only at PI QI hRl hTl
  generalize (decide (M.2 = 0) && decide (M.1 = 0)) = fb at *
  obtain ⟨R, N, er⟩ := R
  obtain ⟨T1, T2, te⟩ := T
  obtain ⟨ra, rb⟩ := M
  unfold takePost at PT QT
  simp only at PT QT PR QR PF QF PP QP hRl hTl
  obtain ⟨hT1, hT2⟩ := hTl
  have HMt := Lib.hid hmt
  clear hlt hmt HT HR1 HR2
  go_wp2_with fail
  have Q := Lib.hid (PO.out A cap l _ HS.out.1 (by omega))
  refine Q.out.mono ?_
  rintro e w2 ⟨⟨Ah, ch, rfl, o2⟩, hb2⟩
  have s2 := o2.sl
  clear Q o2
  go_wp2_with fail
  have Q := Lib.hid (PO.out Am cm more w2 (HS.out.2.on hb2) (by omega))
  refine Q.out.mono ?_
  rintro e w3 ⟨⟨Ak, ck, rfl, o3⟩, hd3⟩
  have hb3 := below_on hb2 hd3 (Nat.le_refl _)
  have HX := Lib.hid (sl4 w3 A Am Ah Ak cap cm ch ck l more (HS.out.1.on hb3) (HS.out.2.on hb3) (s2.on hd3) o3.sl)
  have HB3 := Lib.hid hb3
  have hb := Below.refl w3.heap.size w3
  clear Q o3 s2 hb2 hd3 hb3 HS PO
  go_wp2_with fail
  have Q := Lib.hid (PC.out _ _ _ (HX.out _ hb).2.2.1)
  refine Q.out.mono ?_
  rintro e w4 ⟨rfl, hd⟩
  have hb4 := below_on hb hd (Nat.le_refl _)
  clear Q hb hd PC
  have hb := hb4
  clear hb4
  go_wp2_with fail
  have Q := Lib.hid (QC.out _ _ _ (HX.out _ hb).1)
  refine Q.out.mono ?_
  rintro e w5 ⟨rfl, hd⟩
  have hb5 := below_on hb hd (Nat.le_refl _)
  clear Q hb hd QC
  have hb := hb5
  clear hb5
  go_wp2_with fail
  have Q := Lib.hid (PP.out _ _ _ _ _ (HX.out _ hb).2.2.1 (HX.out _ hb).2.2.2)
  refine Q.out.mono ?_
  rintro e w6 ⟨⟨A6, c6, rfl, s6⟩, hd⟩
  have hb6 := below_on hb hd (Nat.le_refl _)
  clear Q hb hd PP
  have hb := hb6
  clear hb6
  go_wp2_with fail
  have Q := Lib.hid (QP.out _ _ _ _ _ (HX.out _ hb).1 (HX.out _ hb).2.1)
  refine Q.out.mono ?_
  rintro e w7 ⟨⟨A7, c7, rfl, s7⟩, hd⟩
  have s6a := s6.on hd
  have hb7 := below_on hb hd (Nat.le_refl _)
  clear Q hb hd QP s6
  have hb := hb7
  clear hb7
  go_wp2_with fail
  have Q := Lib.hid (PS.out _ _ _ _ _ _ s6a s7 (by omega))
  refine Q.out.mono ?_
  rintro e w8 ⟨rfl, hd⟩
  have hb8 := below_on hb hd (Nat.le_refl _)
  clear Q hb hd s6a s7
  have hb := hb8
  clear hb8
  have hmore : more = [] ∨ ∃ x rest, more = x :: rest := by
    cases more with
    | nil => exact .inl rfl
    | cons x rest => exact .inr ⟨x, rest, rfl⟩
  rcases hmore with hme | ⟨x, rest, hme⟩
  case' inl =>
    have hml : more.length = 0 := by rw [hme]; rfl
    have hmz : ¬ (0 : Int) < more.length := by omega
    have HML := Lib.hid hml
    clear hme hml PU QU hVl
  case' inr =>
    have hml : 0 < more.length := by rw [hme]; simp
    have hmz : (0 : Int) < more.length := by omega
    have hx0 : more[0] = x := by simp [hme]
    have hxt : x.text.length ≤ maxLen := HMt.out x (by rw [hme]; simp)
    have HEv := Lib.hid (fun (W : World) (B : Option Addr) (cc : Nat) (h : Sl W W.heap.size 7 B more.length cc (evC more)) => sl_ev h hml)
    rw [hx0] at HEv
    have PUx := Lib.hid (fun A c W hS => PU.out A c x W hS hxt)
    have QUx := Lib.hid (fun A c W hS => QU.out A c x W hS hxt)
    have hVx := hVl x
    generalize V x = Vx at *
    obtain ⟨Vl, ve⟩ := Vx
    obtain ⟨kk, sy, pr, rc, a, xx, exx⟩ := x
    unfold Ev.v at PUx QUx
    unfold Ev.cs at PUx QUx
    simp only [Nat.zero_mul, Nat.add_zero] at PUx QUx HEv hVx
    clear hx0 hxt hme PU QU hVl
    obtain ⟨bk, ok, hAk, hbk, d0, d1, d2, d3, d4, d5, d6⟩ := HEv.out _ _ _ (HX.out _ hb).2.2.2
    subst hAk
    go_wp2_with fail
    have Q := Lib.hid (PUx.out _ _ _ (HX.out _ hb).2.2.1)
    refine Q.out.mono ?_
    rintro e w9 ⟨⟨A9, c9, rfl, s9⟩, hd⟩
    have hb9 := below_on hb hd (Nat.le_refl _)
    clear Q hb hd PUx d0 d1 d2 d3 d4 d5 d6
    have hb := hb9
    clear hb9
    obtain ⟨bm, om, hAm, hbm, d0, d1, d2, d3, d4, d5, d6⟩ := HEv.out _ _ _ (HX.out _ hb).2.1
    subst hAm
    go_wp2_with fail
    have Q := Lib.hid (QUx.out _ _ _ (HX.out _ hb).1)
    refine Q.out.mono ?_
    rintro e w10 ⟨⟨A10, c10, rfl, s10⟩, hd⟩
    have s9a := s9.on hd
    have hb10 := below_on hb hd (Nat.le_refl _)
    clear Q hb hd QUx HEv s9 d0 d1 d2 d3 d4 d5 d6
    have hb := hb10
    clear hb10
    go_wp2_with fail
    have Q := Lib.hid (PS.out _ _ _ _ _ _ s9a s10 (by omega))
    refine Q.out.mono ?_
    rintro e w11 ⟨rfl, hd⟩
    have hb11 := below_on hb hd (Nat.le_refl _)
    clear Q hb hd s9a s10 hVx hbk hbm
    have hb := hb11
    clear hb11
  all_goals
    go_wp2_with fail
    have Q := Lib.hid (PT.out _ _ _ (HX.out _ hb).2.2.1)
    refine Q.out.mono ?_
    rintro e w12 ⟨⟨A12, c12, B12, d12, rfl, s12, u12⟩, hd⟩
    have hb12 := below_on hb hd (Nat.le_refl _)
    clear Q hb hd PT
    have hb := hb12
    clear hb12
    go_wp2_with fail
    have Q := Lib.hid (QT.out _ _ _ (HX.out _ hb).1)
    refine Q.out.mono ?_
    rintro e w13 ⟨⟨A13, c13, B13, d13, rfl, s13, u13⟩, hd⟩
    have s12a := s12.on hd
    have u12a := u12.on hd
    have hb13 := below_on hb hd (Nat.le_refl _)
    clear Q hb hd QT s12 u12
    have hb := hb13
    clear hb13
    go_wp2_with fail
    have Q := Lib.hid (PS.out _ _ _ _ _ _ s12a s13 (by omega))
    refine Q.out.mono ?_
    rintro e w14 ⟨rfl, hd⟩
    have u12b := u12a.on hd
    have u13b := u13.on hd
    have hb14 := below_on hb hd (Nat.le_refl _)
    clear Q hb hd s12a s13 u12a u13
    have hb := hb14
    clear hb14
    go_wp2_with fail
    have Q := Lib.hid (PS.out _ _ _ _ _ _ u12b u13b (by omega))
    refine Q.out.mono ?_
    rintro e w15 ⟨rfl, hd⟩
    have hb15 := below_on hb hd (Nat.le_refl _)
    clear Q hb hd u12b u13b
    have hb := hb15
    clear hb15
    go_wp2_with fail
    have Q := Lib.hid (PR.out _ _ _ (HX.out _ hb).2.2.1)
    refine Q.out.mono ?_
    rintro e w16 ⟨rfl, hd⟩
    have hb16 := below_on hb hd (Nat.le_refl _)
    clear Q hb hd PR
    have hb := hb16
    clear hb16
    go_wp2_with fail
    have Q := Lib.hid (QR.out _ _ _ (HX.out _ hb).1)
    refine Q.out.mono ?_
    rintro e w17 ⟨rfl, hd⟩
    have hb17 := below_on hb hd (Nat.le_refl _)
    clear Q hb hd QR
    have hb := hb17
    clear hb17
    go_wp2_with fail
    have Q := Lib.hid (PF.out _ _ _ (HX.out _ hb).2.2.1)
    refine Q.out.mono ?_
    rintro e w18 ⟨rfl, hd⟩
    have hb18 := below_on hb hd (Nat.le_refl _)
    clear Q hb hd PF
    have hb := hb18
    clear hb18
    go_wp2_with fail
    have Q := Lib.hid (QF.out _ _ _ (HX.out _ hb).1)
    refine Q.out.mono ?_
    rintro e w19 ⟨rfl, hd⟩
    have hb19 := below_on hb hd (Nat.le_refl _)
    clear Q hb hd QF
    have hb := hb19
    clear hb19
    go_wp2_with fail
    have Q := Lib.hid (PI.out _ _ _ (HX.out _ hb).2.2.1)
    refine Q.out.mono ?_
    rintro e w20 ⟨rfl, hd⟩
    have hb20 := below_on hb hd (Nat.le_refl _)
    clear Q hb hd PI
    have hb := hb20
    clear hb20
    have bF := Blk.new w20 34 #[.int .i64 fk, .int .i64 fs, .int .i64 fp, .int .i64 fr, .int .i64 fa, .string ⟨fx.toArray⟩, .int .i64 fz]
    have hba := hb.alloc hb.size (.cells #[.int .i64 fk, .int .i64 fs, .int .i64 fp, .int .i64 fr, .int .i64 fa, .string ⟨fx.toArray⟩, .int .i64 fz] 34)
    clear hb
    have hb := hba
    clear hba
    have HF := Lib.hid bF
    clear bF
    go_wp2_with fail
    have Q := Lib.hid (QI.out _ _ _ (HX.out _ hb).1)
    refine Q.out.mono ?_
    rintro e w21 ⟨rfl, hd⟩
    have bF := Blk.on HF.out hd
    have hb21 := below_on hb hd (Nat.le_refl _)
    clear Q hb hd QI HF
    have hb := hb21
    clear hb21
    have bG := Blk.new w21 34 #[.int .i64 fk, .int .i64 fs, .int .i64 fp, .int .i64 fr, .int .i64 fa, .string ⟨fx.toArray⟩, .int .i64 fz]
    have bF2 := bF.alloc (.cells #[.int .i64 fk, .int .i64 fs, .int .i64 fp, .int .i64 fr, .int .i64 fa, .string ⟨fx.toArray⟩, .int .i64 fz] 34)
    have hba := hb.alloc hb.size (.cells #[.int .i64 fk, .int .i64 fs, .int .i64 fp, .int .i64 fr, .int .i64 fa, .string ⟨fx.toArray⟩, .int .i64 fz] 34)
    obtain ⟨⟨p0, p1, p2, p3, p4, p5, p6⟩, _⟩ := cells7 bF2
    obtain ⟨⟨q0, q1, q2, q3, q4, q5, q6⟩, _⟩ := cells7 bG
    clear hb
    have hb := hba
    clear hba bF bF2 bG
    go_wp2_with fail
    have Q := Lib.hid (PS.out _ _ _ _ _ _ (HX.out _ hb).2.2.1 (HX.out _ hb).1 (by omega))
    refine Q.out.mono ?_
    rintro e w22 ⟨rfl, hd⟩
    have hb22 := below_on hb hd (Nat.le_refl _)
    clear Q hb hd p0 p1 p2 p3 p4 p5 p6 q0 q1 q2 q3 q4 q5 q6
    have hb := hb22
    clear hb22
    go_wp2_with fail
    have Q := Lib.hid (PS.out _ _ _ _ _ _ (HX.out _ hb).2.2.2 (HX.out _ hb).2.1 (by omega))
    refine Q.out.mono ?_
    rintro e w23 ⟨rfl, hd⟩
    have hb23 := below_on hb hd (Nat.le_refl _)
    clear Q hb hd PS
    have hb := hb23
    clear hb23
    go_wp2_with fail
    have Q := Lib.hid (HA.out w23)
    refine Q.out.mono ?_
    rintro e w24 ⟨rfl, hd⟩
    have hb24 := below_on hb hd (Nat.le_refl _)
    clear Q hb hd HA
    have hb := hb24
    clear hb24
    have HB := Lib.hid (below_on HB3.out hb (Nat.le_refl _))
    clear hb HX
    go_wp2_with fail
    go_ret
    exact ⟨rfl, HB.out⟩
end Go.Proofs.Ytogldckkmjbohaa
