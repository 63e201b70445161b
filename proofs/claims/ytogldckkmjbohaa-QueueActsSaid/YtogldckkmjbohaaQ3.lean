/- event.Check. No condition. -/
import Derived.Test.YtogldckkmjbohaaQ2
import Derived.Lib.SliceRun
namespace Go.Proofs.Ytogldckkmjbohaa
open Go.RowKit
def hasF (k f : Int) : Bool := (flds k).contains f
def fieldE (e : Ev) (f : Int) : Int := if f = 0 then (if countsB e.rec_ = true then 0 else 2) else if f = 5 then (if countsB e.at_ = true then 0 else 2) else if f = 1 then (if symB e = true then 0 else 14) else if f = 2 then (if e.prod < 0 ∨ 24 ≤ e.prod then 2 else 0)
  else if f = 3 then (if 24 < e.text.length then 4 else 0) else (if reasonB e = true then 0 else 11)
def put1 (o e : Ev) (f : Int) : Ev := if f = 0 then { o with rec_ := e.rec_ } else if f = 5 then { o with at_ := e.at_ } else if f = 1 then { o with sym := e.sym } else if f = 2 then { o with prod := e.prod } else if f = 3 then { o with text := e.text } else { o with err := e.err }
def runE (e : Ev) : List Int → Ev → Int
  | [], o => if o = e then 0 else 3
  | f :: fs, o => if hasF e.kind f = true then (if fieldE e f = 0 then runE e fs (put1 o e f) else fieldE e f) else runE e fs o
def evE (e : Ev) : Int := if e.kind < 1 ∨ 7 < e.kind then 11 else runE e [0, 5, 1, 2, 3, 4] ⟨e.kind, 0, 0, 0, 0, [], 0⟩
theorem runE_no {e o : Ev} {f : Int} {fs : List Int} (h : hasF e.kind f = false) : runE e (f :: fs) o = runE e fs o := by show (if _ then _ else _) = _; rw [if_neg (by rw [h]; simp)]
theorem runE_ok {e o : Ev} {f : Int} {fs : List Int} (h : hasF e.kind f = true) (h2 : fieldE e f = 0) : runE e (f :: fs) o = runE e fs (put1 o e f) := by show (if _ then _ else _) = _; rw [if_pos h, if_pos h2]
theorem runE_bad {e o : Ev} {f : Int} {fs : List Int} (h : hasF e.kind f = true) (h2 : fieldE e f ≠ 0) : runE e (f :: fs) o = fieldE e f := by show (if _ then _ else _) = _; rw [if_pos h, if_neg h2]
theorem cells7 {w : World} {g : Nat} {T : TypeId} {a b c d e f h : Value} (k : Blk w g T #[a, b, c, d, e, f, h]) :
    (w.cell? ⟨g, 0, none⟩ = some a ∧ w.cell? ⟨g, 1, none⟩ = some b ∧ w.cell? ⟨g, 2, none⟩ = some c ∧ w.cell? ⟨g, 3, none⟩ = some d ∧ w.cell? ⟨g, 4, none⟩ = some e ∧ w.cell? ⟨g, 5, none⟩ = some f ∧ w.cell? ⟨g, 6, none⟩ = some h) ∧
    w.frozen? ⟨g, 1, none⟩ = false ∧ w.frozen? ⟨g, 2, none⟩ = false ∧ w.frozen? ⟨g, 3, none⟩ = false ∧ w.frozen? ⟨g, 4, none⟩ = false ∧ w.frozen? ⟨g, 5, none⟩ = false ∧ w.frozen? ⟨g, 6, none⟩ = false :=
  ⟨⟨k.cell 0, k.cell 1, k.cell 2, k.cell 3, k.cell 4, k.cell 5, k.cell 6⟩, k.frozen (by simp), k.frozen (by simp), k.frozen (by simp), k.frozen (by simp), k.frozen (by simp), k.frozen (by simp)⟩
theorem sl_blk1 {w : World} {g : Nat} {T : TypeId} {l : List Int} (h : Blk w g T (l.map intV).toArray) (hm : l.length ≤ maxLen) : Sl w (g + 1) 1 (some ⟨g, 0, none⟩) l.length l.length (l.map intV) :=
  ⟨by simp, Nat.le_refl _, hm, fun _ => ⟨g, 0, rfl, by omega, fun j u hu => by
    rw [Nat.zero_add, h.cell j]; simpa using hu⟩⟩
theorem flds_len (k : Int) : (flds k).length ≤ 3 ∧ 2 ≤ (flds k).length := by
  unfold flds
  split
  · simp
  split
  · simp
  split
  · simp
  split
  · simp
  split
  · simp
  split
  · simp
  simp
set_option maxRecDepth 100000 in
set_option maxHeartbeats 12800000 in
theorem evCheck_any (e : Ev) (w : World) (hl : e.text.length ≤ maxLen) : Calls Try.prog 35 #[e.v] w fun r w' => r = .returned (.int .i64 (evE e)) ∧ Below w.heap.size w w' := by
  have qT : ∀ (w : World) (a : Option Addr) (n c n' c' : Nat), (binOp .eql 46 (.slice a n c) (.slice none n' c')).run Try.prog w = .ok (.bool a.isNone) w := fun w a n c n' c' => Lib.run_eql_slice_nil w _ _ a n c n' c' Try.underlying46
  by_cases hk : e.kind < 1 ∨ 7 < e.kind
  · have hev : evE e = 11 := if_pos hk
    rw [hev]
    have HF := Lib.hid (fun W => fields_no e.kind W hk)
    have hB := (Below.refl w.heap.size w).alloc (Nat.le_refl _) (.cells e.cs.toArray 34)
    clear hev hk
    obtain ⟨k, sy, pr, rc, a, x, er⟩ := e
    unfold Ev.v
    unfold Ev.cs at *
    simp only at *
    have HB := Lib.hid hB
    clear hB
    go_enter Try.func35, Try.ntmps35
    go_wp2_with fail
    go_step3
    go_wp2_with (go_at_call 38; refine (HF.out _).mono ?_; rintro r w1 ⟨rfl, rfl⟩)
    (try rw [Exit.noGoto_ret])
    go_ret
    exact ⟨rfl, HB.out⟩
  · have hk7 : 1 ≤ e.kind ∧ e.kind ≤ 7 := by omega
    have hev : evE e = runE e [0, 5, 1, 2, 3, 4] ⟨e.kind, 0, 0, 0, 0, [], 0⟩ := if_neg hk
    have HF := Lib.hid (fun W => fields_ok e.kind W hk7)
    have HN1 := Lib.hid (fun W => counted_any e.rec_ W)
    have HN2 := Lib.hid (fun W => counted_any e.at_ W)
    have HSy := Lib.hid (fun W => symbol_any e W)
    have HRe := Lib.hid (fun W => reason_any e W)
    have b1 := ((((Blk.new w 34 e.cs.toArray).alloc (.cells ((flds e.kind).map intV).toArray 3)).alloc (.cells #[.int .i64 e.kind, .int .i64 0, .int .i64 0, .int .i64 0, .int .i64 0, .string ⟨#[]⟩, .int .i64 0] 34)).alloc (.cells #[.int .i64 0, .int .i64 5, .int .i64 1, .int .i64 2, .int .i64 3, .int .i64 4] 3))
    have b2 := ((Blk.newAt (w.alloc (.cells e.cs.toArray 34)) 3 ((flds e.kind).map intV).toArray (g := w.heap.size + 1) (by simp)).alloc (.cells #[.int .i64 e.kind, .int .i64 0, .int .i64 0, .int .i64 0, .int .i64 0, .string ⟨#[]⟩, .int .i64 0] 34)).alloc (.cells #[.int .i64 0, .int .i64 5, .int .i64 1, .int .i64 2, .int .i64 3, .int .i64 4] 3)
    have b3 := (Blk.newAt ((w.alloc (.cells e.cs.toArray 34)).alloc (.cells ((flds e.kind).map intV).toArray 3)) 34 #[.int .i64 e.kind, .int .i64 0, .int .i64 0, .int .i64 0, .int .i64 0, .string ⟨#[]⟩, .int .i64 0] (g := w.heap.size + 2) (by simp)).alloc (.cells #[.int .i64 0, .int .i64 5, .int .i64 1, .int .i64 2, .int .i64 3, .int .i64 4] 3)
    have b4 := Blk.newAt (((w.alloc (.cells e.cs.toArray 34)).alloc (.cells ((flds e.kind).map intV).toArray 3)).alloc (.cells #[.int .i64 e.kind, .int .i64 0, .int .i64 0, .int .i64 0, .int .i64 0, .string ⟨#[]⟩, .int .i64 0] 34)) 3 #[.int .i64 0, .int .i64 5, .int .i64 1, .int .i64 2, .int .i64 3, .int .i64 4] (g := w.heap.size + 3) (by simp)
    have hB := ((((Below.refl w.heap.size w).alloc (Nat.le_refl _) (.cells e.cs.toArray 34)).alloc (by simp) (.cells ((flds e.kind).map intV).toArray 3)).alloc (by simp; omega) (.cells #[.int .i64 e.kind, .int .i64 0, .int .i64 0, .int .i64 0, .int .i64 0, .string ⟨#[]⟩, .int .i64 0] 34)).alloc (by simp; omega) (.cells #[.int .i64 0, .int .i64 5, .int .i64 1, .int .i64 2, .int .i64 3, .int .i64 4] 3)
    clear hk
    obtain ⟨k, sy, pr, rc, a, x, er⟩ := e
    unfold Ev.v at *
    unfold Ev.cs at *
    simp only at *
    have HH := Lib.hid (And.intro b1 (And.intro b2 (And.intro b3 (And.intro b4 hB))))
    have HE := Lib.hid hev
    clear b1 b2 b3 b4 hB hev
    have hfl := (flds_len k).1
    go_enter Try.func35, Try.ntmps35
    go_wp2_with fail
    go_step3
    go_wp2_with (go_at_call 38; refine (HF.out _).mono ?_; rintro r w1 ⟨rfl, rfl⟩)
    go_step3
    go_wp2_with fail
    obtain ⟨b1, b2, b3, b4, hB⟩ := HH.out
    clear HH HF
    go_loopw [17] (fun v W => ∃ (i : Nat) (o : Ev), i ≤ 6 ∧ v = .int .i64 i ∧ evE ⟨k, sy, pr, rc, a, x, er⟩ = runE ⟨k, sy, pr, rc, a, x, er⟩ (([0, 5, 1, 2, 3, 4] : List Int).drop i) o ∧ Blk W w.heap.size 34 #[.int .i64 k, .int .i64 sy, .int .i64 pr, .int .i64 rc, .int .i64 a, .string ⟨x.toArray⟩, .int .i64 er] ∧
      Blk W (w.heap.size + 1) 3 ((flds k).map intV).toArray ∧ Blk W (w.heap.size + 2) 34 #[.int .i64 o.kind, .int .i64 o.sym, .int .i64 o.prod, .int .i64 o.rec_, .int .i64 o.at_, .string ⟨o.text.toArray⟩, .int .i64 o.err] ∧
      Blk W (w.heap.size + 3) 3 #[.int .i64 0, .int .i64 5, .int .i64 1, .int .i64 2, .int .i64 3, .int .i64 4] ∧ Below w.heap.size w W) (fun v _ => 6 - (intOf v).toNat)
    case atStart => exact ⟨0, ⟨k, 0, 0, 0, 0, [], 0⟩, by omega, rfl, HE.out, b1, b2, b3, b4, hB⟩
    case round =>
      clear b1 b2 b3 b4 hB
      obtain ⟨i, ⟨ok, os, op, oc, oa, ox, oe⟩, hi, rfl, hru, b1, b2, b3, b4, hB⟩ := hrel
      simp only at b3
      obtain ⟨⟨c0, c1, c2, c3, c4, c5, c6⟩, _⟩ := cells7 b1
      obtain ⟨⟨d0, d1, d2, d3, d4, d5, d6⟩, z1, z2, z3, z4, z5, z6⟩ := cells7 b3
      rcases (show i = 0 ∨ i = 1 ∨ i = 2 ∨ i = 3 ∨ i = 4 ∨ i = 5 ∨ i = 6 by omega) with rfl | rfl | rfl | rfl | rfl | rfl | rfl
      · have hc : (flds k).contains 0 = hasF k 0 := rfl
        have HC := Lib.hid (contains_any (some ⟨w.heap.size + 1, 0, none⟩) (flds k).length (w.heap.size + 1 + 1) (flds k) 0 wr (sl_blk1 b2 (by have := (flds_len k).1; simp only [maxLen]; omega)) (by have := (flds_len k).1; omega))
        rw [hc] at HC
        clear hc
        have q1 : wr.cell? ⟨w.heap.size + 3, 0, none⟩ = some (.int .i64 0) := b4.cell 0
        have HB := Lib.hid (And.intro b1 (And.intro b2 (And.intro b3 (And.intro b4 hB))))
        have hru' : evE ⟨k, sy, pr, rc, a, x, er⟩ = runE ⟨k, sy, pr, rc, a, x, er⟩ (0 :: [5, 1, 2, 3, 4]) ⟨ok, os, op, oc, oa, ox, oe⟩ := hru
        clear hru
        obtain ⟨hf, hhf⟩ : ∃ hf, hasF k 0 = hf := ⟨_, rfl⟩
        rw [hhf] at HC
        have HH := Lib.hid hhf
        clear hhf
        cases hf
        · have HR := Lib.hid (hru'.trans (runE_no HH.out))
          clear hru' b1 b2 b3 b4 hB
          go_wp2_with (go_at_call 39; refine HC.out.mono ?_; rintro r w1 ⟨rfl, rfl⟩)
          go_roundw
          case rel => obtain ⟨b1, b2, b3, b4, hB⟩ := HB.out; exact ⟨0 + 1, ⟨ok, os, op, oc, oa, ox, oe⟩, by omega, rfl, HR.out, b1, b2, b3, b4, hB⟩
          case measure => simp [intOf]
        · obtain ⟨cb, hcb⟩ : ∃ cb, countsB rc = cb := ⟨_, rfl⟩
          rw [hcb] at HN1
          have HCB := Lib.hid hcb
          clear hcb
          cases cb
          · have hfe : fieldE ⟨k, sy, pr, rc, a, x, er⟩ 0 = 2 := by show (if countsB rc = true then 0 else 2) = 2; rw [HCB.out]; rfl
            have HR := Lib.hid (hru'.trans (runE_bad HH.out (by rw [hfe]; decide)))
            have HV := Lib.hid hfe
            clear hru' b1 b2 b3 b4 hB hfe
            go_wp2_with (first | (go_at_call 39; refine HC.out.mono ?_; rintro r w1 ⟨rfl, rfl⟩) | (go_at_call 40; refine (HN1.out _).mono ?_; rintro r w1 ⟨rfl, rfl⟩))
            (try rw [Exit.noGoto_ret])
            go_ret
            exact ⟨by rw [HR.out, HV.out]; rfl, HB.out.2.2.2.2⟩
          · have hfe : fieldE ⟨k, sy, pr, rc, a, x, er⟩ 0 = 0 := by show (if countsB rc = true then 0 else 2) = 0; rw [HCB.out]; rfl
            have HR := Lib.hid (hru'.trans (runE_ok HH.out hfe))
            clear hru' b1 b2 b3 b4 hB hfe
            go_wp2_with (first | (go_at_call 39; refine HC.out.mono ?_; rintro r w1 ⟨rfl, rfl⟩) | (go_at_call 40; refine (HN1.out _).mono ?_; rintro r w1 ⟨rfl, rfl⟩))
            go_roundw
            case rel =>
              obtain ⟨b1, b2, b3, b4, hB⟩ := HB.out
              exact ⟨0 + 1, put1 ⟨ok, os, op, oc, oa, ox, oe⟩ ⟨k, sy, pr, rc, a, x, er⟩ 0, by omega, rfl, HR.out, b1.far (Nat.ne_of_lt (by show w.heap.size < w.heap.size + 2; omega)) _, b2.far (by simp) _, b3.set 3 (.int .i64 rc), b4.far (by simp) _, hB.setCell (p := ⟨w.heap.size + 2, 3, none⟩) (by simp) _⟩
            case measure => simp [intOf]
      · have hc : (flds k).contains 5 = hasF k 5 := rfl
        have HC := Lib.hid (contains_any (some ⟨w.heap.size + 1, 0, none⟩) (flds k).length (w.heap.size + 1 + 1) (flds k) 5 wr (sl_blk1 b2 (by have := (flds_len k).1; simp only [maxLen]; omega)) (by have := (flds_len k).1; omega))
        rw [hc] at HC
        clear hc
        have q1 : wr.cell? ⟨w.heap.size + 3, 1, none⟩ = some (.int .i64 5) := b4.cell 1
        have HB := Lib.hid (And.intro b1 (And.intro b2 (And.intro b3 (And.intro b4 hB))))
        have hru' : evE ⟨k, sy, pr, rc, a, x, er⟩ = runE ⟨k, sy, pr, rc, a, x, er⟩ (5 :: [1, 2, 3, 4]) ⟨ok, os, op, oc, oa, ox, oe⟩ := hru
        clear hru
        obtain ⟨hf, hhf⟩ : ∃ hf, hasF k 5 = hf := ⟨_, rfl⟩
        rw [hhf] at HC
        have HH := Lib.hid hhf
        clear hhf
        cases hf
        · have HR := Lib.hid (hru'.trans (runE_no HH.out))
          clear hru' b1 b2 b3 b4 hB
          go_wp2_with (go_at_call 39; refine HC.out.mono ?_; rintro r w1 ⟨rfl, rfl⟩)
          go_roundw
          case rel => obtain ⟨b1, b2, b3, b4, hB⟩ := HB.out; exact ⟨1 + 1, ⟨ok, os, op, oc, oa, ox, oe⟩, by omega, rfl, HR.out, b1, b2, b3, b4, hB⟩
          case measure => simp [intOf]
        · obtain ⟨cb, hcb⟩ : ∃ cb, countsB a = cb := ⟨_, rfl⟩
          rw [hcb] at HN2
          have HCB := Lib.hid hcb
          clear hcb
          cases cb
          · have hfe : fieldE ⟨k, sy, pr, rc, a, x, er⟩ 5 = 2 := by show (if countsB a = true then 0 else 2) = 2; rw [HCB.out]; rfl
            have HR := Lib.hid (hru'.trans (runE_bad HH.out (by rw [hfe]; decide)))
            have HV := Lib.hid hfe
            clear hru' b1 b2 b3 b4 hB hfe
            go_wp2_with (first | (go_at_call 39; refine HC.out.mono ?_; rintro r w1 ⟨rfl, rfl⟩) | (go_at_call 40; refine (HN2.out _).mono ?_; rintro r w1 ⟨rfl, rfl⟩))
            (try rw [Exit.noGoto_ret])
            go_ret
            exact ⟨by rw [HR.out, HV.out]; rfl, HB.out.2.2.2.2⟩
          · have hfe : fieldE ⟨k, sy, pr, rc, a, x, er⟩ 5 = 0 := by show (if countsB a = true then 0 else 2) = 0; rw [HCB.out]; rfl
            have HR := Lib.hid (hru'.trans (runE_ok HH.out hfe))
            clear hru' b1 b2 b3 b4 hB hfe
            go_wp2_with (first | (go_at_call 39; refine HC.out.mono ?_; rintro r w1 ⟨rfl, rfl⟩) | (go_at_call 40; refine (HN2.out _).mono ?_; rintro r w1 ⟨rfl, rfl⟩))
            go_roundw
            case rel =>
              obtain ⟨b1, b2, b3, b4, hB⟩ := HB.out
              exact ⟨1 + 1, put1 ⟨ok, os, op, oc, oa, ox, oe⟩ ⟨k, sy, pr, rc, a, x, er⟩ 5, by omega, rfl, HR.out, b1.far (Nat.ne_of_lt (by show w.heap.size < w.heap.size + 2; omega)) _, b2.far (by simp) _, b3.set 4 (.int .i64 a), b4.far (by simp) _, hB.setCell (p := ⟨w.heap.size + 2, 4, none⟩) (by simp) _⟩
            case measure => simp [intOf]
      · have hc : (flds k).contains 1 = hasF k 1 := rfl
        have HC := Lib.hid (contains_any (some ⟨w.heap.size + 1, 0, none⟩) (flds k).length (w.heap.size + 1 + 1) (flds k) 1 wr (sl_blk1 b2 (by have := (flds_len k).1; simp only [maxLen]; omega)) (by have := (flds_len k).1; omega))
        rw [hc] at HC
        clear hc
        have q1 : wr.cell? ⟨w.heap.size + 3, 2, none⟩ = some (.int .i64 1) := b4.cell 2
        have HB := Lib.hid (And.intro b1 (And.intro b2 (And.intro b3 (And.intro b4 hB))))
        have hru' : evE ⟨k, sy, pr, rc, a, x, er⟩ = runE ⟨k, sy, pr, rc, a, x, er⟩ (1 :: [2, 3, 4]) ⟨ok, os, op, oc, oa, ox, oe⟩ := hru
        clear hru
        obtain ⟨hf, hhf⟩ : ∃ hf, hasF k 1 = hf := ⟨_, rfl⟩
        rw [hhf] at HC
        have HH := Lib.hid hhf
        clear hhf
        cases hf
        · have HR := Lib.hid (hru'.trans (runE_no HH.out))
          clear hru' b1 b2 b3 b4 hB
          go_wp2_with (go_at_call 39; refine HC.out.mono ?_; rintro r w1 ⟨rfl, rfl⟩)
          go_roundw
          case rel => obtain ⟨b1, b2, b3, b4, hB⟩ := HB.out; exact ⟨2 + 1, ⟨ok, os, op, oc, oa, ox, oe⟩, by omega, rfl, HR.out, b1, b2, b3, b4, hB⟩
          case measure => simp [intOf]
        · obtain ⟨cb, hcb⟩ : ∃ cb, symB ⟨k, sy, pr, rc, a, x, er⟩ = cb := ⟨_, rfl⟩
          rw [hcb] at HSy
          have HCB := Lib.hid hcb
          clear hcb
          cases cb
          · have hfe : fieldE ⟨k, sy, pr, rc, a, x, er⟩ 1 = 14 := by show (if symB ⟨k, sy, pr, rc, a, x, er⟩ = true then 0 else 14) = 14; rw [HCB.out]; rfl
            have HR := Lib.hid (hru'.trans (runE_bad HH.out (by rw [hfe]; decide)))
            have HV := Lib.hid hfe
            clear hru' b1 b2 b3 b4 hB hfe
            go_wp2_with (first | (go_at_call 39; refine HC.out.mono ?_; rintro r w1 ⟨rfl, rfl⟩) | (go_at_call 41; refine (HSy.out _).mono ?_; rintro r w1 ⟨rfl, rfl⟩))
            (try rw [Exit.noGoto_ret])
            go_ret
            exact ⟨by rw [HR.out, HV.out]; rfl, HB.out.2.2.2.2.alloc HB.out.2.2.2.2.size (.cells #[.int .i64 k, .int .i64 sy, .int .i64 pr, .int .i64 rc, .int .i64 a, .string ⟨x.toArray⟩, .int .i64 er] 34)⟩
          · have hfe : fieldE ⟨k, sy, pr, rc, a, x, er⟩ 1 = 0 := by show (if symB ⟨k, sy, pr, rc, a, x, er⟩ = true then 0 else 14) = 0; rw [HCB.out]; rfl
            have HR := Lib.hid (hru'.trans (runE_ok HH.out hfe))
            obtain ⟨⟨C0, C1, C2, C3, C4, C5, C6⟩, _⟩ := cells7 (b1.alloc (.cells #[.int .i64 k, .int .i64 sy, .int .i64 pr, .int .i64 rc, .int .i64 a, .string ⟨x.toArray⟩, .int .i64 er] 34))
            obtain ⟨⟨D0, D1, D2, D3, D4, D5, D6⟩, Z1, Z2, Z3, Z4, Z5, Z6⟩ := cells7 (b3.alloc (.cells #[.int .i64 k, .int .i64 sy, .int .i64 pr, .int .i64 rc, .int .i64 a, .string ⟨x.toArray⟩, .int .i64 er] 34))
            clear hru' b1 b2 b3 b4 hB hfe
            go_wp2_with (first | (go_at_call 39; refine HC.out.mono ?_; rintro r w1 ⟨rfl, rfl⟩) | (go_at_call 41; refine (HSy.out _).mono ?_; rintro r w1 ⟨rfl, rfl⟩))
            go_roundw
            case rel =>
              obtain ⟨b1, b2, b3, b4, hB⟩ := HB.out
              exact ⟨2 + 1, put1 ⟨ok, os, op, oc, oa, ox, oe⟩ ⟨k, sy, pr, rc, a, x, er⟩ 1, by omega, rfl, HR.out, (b1.alloc (.cells #[.int .i64 k, .int .i64 sy, .int .i64 pr, .int .i64 rc, .int .i64 a, .string ⟨x.toArray⟩, .int .i64 er] 34)).far (Nat.ne_of_lt (by show w.heap.size < w.heap.size + 2; omega)) _, (b2.alloc (.cells #[.int .i64 k, .int .i64 sy, .int .i64 pr, .int .i64 rc, .int .i64 a, .string ⟨x.toArray⟩, .int .i64 er] 34)).far (by simp) _, (b3.alloc (.cells #[.int .i64 k, .int .i64 sy, .int .i64 pr, .int .i64 rc, .int .i64 a, .string ⟨x.toArray⟩, .int .i64 er] 34)).set 1 (.int .i64 sy), (b4.alloc (.cells #[.int .i64 k, .int .i64 sy, .int .i64 pr, .int .i64 rc, .int .i64 a, .string ⟨x.toArray⟩, .int .i64 er] 34)).far (by simp) _, (hB.alloc hB.size (.cells #[.int .i64 k, .int .i64 sy, .int .i64 pr, .int .i64 rc, .int .i64 a, .string ⟨x.toArray⟩, .int .i64 er] 34)).setCell (p := ⟨w.heap.size + 2, 1, none⟩) (by simp) _⟩
            case measure => simp [intOf]
      · have hc : (flds k).contains 2 = hasF k 2 := rfl
        have HC := Lib.hid (contains_any (some ⟨w.heap.size + 1, 0, none⟩) (flds k).length (w.heap.size + 1 + 1) (flds k) 2 wr (sl_blk1 b2 (by have := (flds_len k).1; simp only [maxLen]; omega)) (by have := (flds_len k).1; omega))
        rw [hc] at HC
        clear hc
        have q1 : wr.cell? ⟨w.heap.size + 3, 3, none⟩ = some (.int .i64 2) := b4.cell 3
        have HB := Lib.hid (And.intro b1 (And.intro b2 (And.intro b3 (And.intro b4 hB))))
        have hru' : evE ⟨k, sy, pr, rc, a, x, er⟩ = runE ⟨k, sy, pr, rc, a, x, er⟩ (2 :: [3, 4]) ⟨ok, os, op, oc, oa, ox, oe⟩ := hru
        clear hru
        obtain ⟨hf, hhf⟩ : ∃ hf, hasF k 2 = hf := ⟨_, rfl⟩
        rw [hhf] at HC
        have HH := Lib.hid hhf
        clear hhf
        cases hf
        · have HR := Lib.hid (hru'.trans (runE_no HH.out))
          clear hru' b1 b2 b3 b4 hB
          go_wp2_with (go_at_call 39; refine HC.out.mono ?_; rintro r w1 ⟨rfl, rfl⟩)
          go_roundw
          case rel => obtain ⟨b1, b2, b3, b4, hB⟩ := HB.out; exact ⟨3 + 1, ⟨ok, os, op, oc, oa, ox, oe⟩, by omega, rfl, HR.out, b1, b2, b3, b4, hB⟩
          case measure => simp [intOf]
        · rcases (show pr < 0 ∨ (¬ pr < 0 ∧ 24 ≤ pr) ∨ (¬ pr < 0 ∧ ¬ 24 ≤ pr) by omega) with h | ⟨h, h2⟩ | ⟨h, h2⟩
          · have h0 := h
            have hfe : fieldE ⟨k, sy, pr, rc, a, x, er⟩ 2 = 2 := by show (if pr < 0 ∨ 24 ≤ pr then 2 else 0) = 2; rw [if_pos (.inl h0)]
            have HR := Lib.hid (hru'.trans (runE_bad HH.out (by rw [hfe]; decide)))
            have HV := Lib.hid hfe
            clear hru' b1 b2 b3 b4 hB hfe
            go_wp2_with (go_at_call 39; refine HC.out.mono ?_; rintro r w1 ⟨rfl, rfl⟩)
            (try rw [Exit.noGoto_ret])
            go_ret
            exact ⟨by rw [HR.out, HV.out]; rfl, HB.out.2.2.2.2⟩
          · have h0 := h
            have hfe : fieldE ⟨k, sy, pr, rc, a, x, er⟩ 2 = 2 := by show (if pr < 0 ∨ 24 ≤ pr then 2 else 0) = 2; rw [if_pos (.inr h2)]
            have HR := Lib.hid (hru'.trans (runE_bad HH.out (by rw [hfe]; decide)))
            have HV := Lib.hid hfe
            clear hru' b1 b2 b3 b4 hB hfe
            go_wp2_with (go_at_call 39; refine HC.out.mono ?_; rintro r w1 ⟨rfl, rfl⟩)
            (try rw [Exit.noGoto_ret])
            go_ret
            exact ⟨by rw [HR.out, HV.out]; rfl, HB.out.2.2.2.2⟩
          · have h0 := h
            have hfe : fieldE ⟨k, sy, pr, rc, a, x, er⟩ 2 = 0 := by show (if pr < 0 ∨ 24 ≤ pr then 2 else 0) = 0; rw [if_neg (by omega)]
            have HR := Lib.hid (hru'.trans (runE_ok HH.out hfe))
            clear hru' b1 b2 b3 b4 hB hfe
            go_wp2_with (go_at_call 39; refine HC.out.mono ?_; rintro r w1 ⟨rfl, rfl⟩)
            go_roundw
            case rel =>
              obtain ⟨b1, b2, b3, b4, hB⟩ := HB.out
              exact ⟨3 + 1, put1 ⟨ok, os, op, oc, oa, ox, oe⟩ ⟨k, sy, pr, rc, a, x, er⟩ 2, by omega, rfl, HR.out, b1.far (Nat.ne_of_lt (by show w.heap.size < w.heap.size + 2; omega)) _, b2.far (by simp) _, b3.set 2 (.int .i64 pr), b4.far (by simp) _, hB.setCell (p := ⟨w.heap.size + 2, 2, none⟩) (by simp) _⟩
            case measure => simp [intOf]
      · have hc : (flds k).contains 3 = hasF k 3 := rfl
        have HC := Lib.hid (contains_any (some ⟨w.heap.size + 1, 0, none⟩) (flds k).length (w.heap.size + 1 + 1) (flds k) 3 wr (sl_blk1 b2 (by have := (flds_len k).1; simp only [maxLen]; omega)) (by have := (flds_len k).1; omega))
        rw [hc] at HC
        clear hc
        have q1 : wr.cell? ⟨w.heap.size + 3, 4, none⟩ = some (.int .i64 3) := b4.cell 4
        have HB := Lib.hid (And.intro b1 (And.intro b2 (And.intro b3 (And.intro b4 hB))))
        have hru' : evE ⟨k, sy, pr, rc, a, x, er⟩ = runE ⟨k, sy, pr, rc, a, x, er⟩ (3 :: [4]) ⟨ok, os, op, oc, oa, ox, oe⟩ := hru
        clear hru
        obtain ⟨hf, hhf⟩ : ∃ hf, hasF k 3 = hf := ⟨_, rfl⟩
        rw [hhf] at HC
        have HH := Lib.hid hhf
        clear hhf
        cases hf
        · have HR := Lib.hid (hru'.trans (runE_no HH.out))
          clear hru' b1 b2 b3 b4 hB
          go_wp2_with (go_at_call 39; refine HC.out.mono ?_; rintro r w1 ⟨rfl, rfl⟩)
          go_roundw
          case rel => obtain ⟨b1, b2, b3, b4, hB⟩ := HB.out; exact ⟨4 + 1, ⟨ok, os, op, oc, oa, ox, oe⟩, by omega, rfl, HR.out, b1, b2, b3, b4, hB⟩
          case measure => simp [intOf]
        · rcases (show 24 < x.length ∨ ¬ 24 < x.length by omega) with h | h
          · have h0 : (24 : Int) < x.length := by omega
            have hfe : fieldE ⟨k, sy, pr, rc, a, x, er⟩ 3 = 4 := by show (if 24 < x.length then 4 else 0) = 4; rw [if_pos h]
            have HR := Lib.hid (hru'.trans (runE_bad HH.out (by rw [hfe]; decide)))
            have HV := Lib.hid hfe
            clear hru' b1 b2 b3 b4 hB hfe
            go_wp2_with (go_at_call 39; refine HC.out.mono ?_; rintro r w1 ⟨rfl, rfl⟩)
            (try rw [Exit.noGoto_ret])
            go_ret
            exact ⟨by rw [HR.out, HV.out]; rfl, HB.out.2.2.2.2⟩
          · have h0 : ¬ (24 : Int) < x.length := by omega
            have hfe : fieldE ⟨k, sy, pr, rc, a, x, er⟩ 3 = 0 := by show (if 24 < x.length then 4 else 0) = 0; rw [if_neg h]
            have HR := Lib.hid (hru'.trans (runE_ok HH.out hfe))
            clear hru' b1 b2 b3 b4 hB hfe
            go_wp2_with (go_at_call 39; refine HC.out.mono ?_; rintro r w1 ⟨rfl, rfl⟩)
            go_roundw
            case rel =>
              obtain ⟨b1, b2, b3, b4, hB⟩ := HB.out
              exact ⟨4 + 1, put1 ⟨ok, os, op, oc, oa, ox, oe⟩ ⟨k, sy, pr, rc, a, x, er⟩ 3, by omega, rfl, HR.out, b1.far (Nat.ne_of_lt (by show w.heap.size < w.heap.size + 2; omega)) _, b2.far (by simp) _, b3.set 5 (.string ⟨x.toArray⟩), b4.far (by simp) _, hB.setCell (p := ⟨w.heap.size + 2, 5, none⟩) (by simp) _⟩
            case measure => simp [intOf]
      · have hc : (flds k).contains 4 = hasF k 4 := rfl
        have HC := Lib.hid (contains_any (some ⟨w.heap.size + 1, 0, none⟩) (flds k).length (w.heap.size + 1 + 1) (flds k) 4 wr (sl_blk1 b2 (by have := (flds_len k).1; simp only [maxLen]; omega)) (by have := (flds_len k).1; omega))
        rw [hc] at HC
        clear hc
        have q1 : wr.cell? ⟨w.heap.size + 3, 5, none⟩ = some (.int .i64 4) := b4.cell 5
        have HB := Lib.hid (And.intro b1 (And.intro b2 (And.intro b3 (And.intro b4 hB))))
        have hru' : evE ⟨k, sy, pr, rc, a, x, er⟩ = runE ⟨k, sy, pr, rc, a, x, er⟩ (4 :: []) ⟨ok, os, op, oc, oa, ox, oe⟩ := hru
        clear hru
        obtain ⟨hf, hhf⟩ : ∃ hf, hasF k 4 = hf := ⟨_, rfl⟩
        rw [hhf] at HC
        have HH := Lib.hid hhf
        clear hhf
        cases hf
        · have HR := Lib.hid (hru'.trans (runE_no HH.out))
          clear hru' b1 b2 b3 b4 hB
          go_wp2_with (go_at_call 39; refine HC.out.mono ?_; rintro r w1 ⟨rfl, rfl⟩)
          go_roundw
          case rel => obtain ⟨b1, b2, b3, b4, hB⟩ := HB.out; exact ⟨5 + 1, ⟨ok, os, op, oc, oa, ox, oe⟩, by omega, rfl, HR.out, b1, b2, b3, b4, hB⟩
          case measure => simp [intOf]
        · obtain ⟨cb, hcb⟩ : ∃ cb, reasonB ⟨k, sy, pr, rc, a, x, er⟩ = cb := ⟨_, rfl⟩
          rw [hcb] at HRe
          have HCB := Lib.hid hcb
          clear hcb
          cases cb
          · have hfe : fieldE ⟨k, sy, pr, rc, a, x, er⟩ 4 = 11 := by show (if reasonB ⟨k, sy, pr, rc, a, x, er⟩ = true then 0 else 11) = 11; rw [HCB.out]; rfl
            have HR := Lib.hid (hru'.trans (runE_bad HH.out (by rw [hfe]; decide)))
            have HV := Lib.hid hfe
            clear hru' b1 b2 b3 b4 hB hfe
            go_wp2_with (first | (go_at_call 39; refine HC.out.mono ?_; rintro r w1 ⟨rfl, rfl⟩) | (go_at_call 42; refine (HRe.out _).mono ?_; rintro r w1 ⟨rfl, rfl⟩))
            (try rw [Exit.noGoto_ret])
            go_ret
            exact ⟨by rw [HR.out, HV.out]; rfl, HB.out.2.2.2.2.alloc HB.out.2.2.2.2.size (.cells #[.int .i64 k, .int .i64 sy, .int .i64 pr, .int .i64 rc, .int .i64 a, .string ⟨x.toArray⟩, .int .i64 er] 34)⟩
          · have hfe : fieldE ⟨k, sy, pr, rc, a, x, er⟩ 4 = 0 := by show (if reasonB ⟨k, sy, pr, rc, a, x, er⟩ = true then 0 else 11) = 0; rw [HCB.out]; rfl
            have HR := Lib.hid (hru'.trans (runE_ok HH.out hfe))
            obtain ⟨⟨C0, C1, C2, C3, C4, C5, C6⟩, _⟩ := cells7 (b1.alloc (.cells #[.int .i64 k, .int .i64 sy, .int .i64 pr, .int .i64 rc, .int .i64 a, .string ⟨x.toArray⟩, .int .i64 er] 34))
            obtain ⟨⟨D0, D1, D2, D3, D4, D5, D6⟩, Z1, Z2, Z3, Z4, Z5, Z6⟩ := cells7 (b3.alloc (.cells #[.int .i64 k, .int .i64 sy, .int .i64 pr, .int .i64 rc, .int .i64 a, .string ⟨x.toArray⟩, .int .i64 er] 34))
            clear hru' b1 b2 b3 b4 hB hfe
            go_wp2_with (first | (go_at_call 39; refine HC.out.mono ?_; rintro r w1 ⟨rfl, rfl⟩) | (go_at_call 42; refine (HRe.out _).mono ?_; rintro r w1 ⟨rfl, rfl⟩))
            go_roundw
            case rel =>
              obtain ⟨b1, b2, b3, b4, hB⟩ := HB.out
              exact ⟨5 + 1, put1 ⟨ok, os, op, oc, oa, ox, oe⟩ ⟨k, sy, pr, rc, a, x, er⟩ 4, by omega, rfl, HR.out, (b1.alloc (.cells #[.int .i64 k, .int .i64 sy, .int .i64 pr, .int .i64 rc, .int .i64 a, .string ⟨x.toArray⟩, .int .i64 er] 34)).far (Nat.ne_of_lt (by show w.heap.size < w.heap.size + 2; omega)) _, (b2.alloc (.cells #[.int .i64 k, .int .i64 sy, .int .i64 pr, .int .i64 rc, .int .i64 a, .string ⟨x.toArray⟩, .int .i64 er] 34)).far (by simp) _, (b3.alloc (.cells #[.int .i64 k, .int .i64 sy, .int .i64 pr, .int .i64 rc, .int .i64 a, .string ⟨x.toArray⟩, .int .i64 er] 34)).set 6 (.int .i64 er), (b4.alloc (.cells #[.int .i64 k, .int .i64 sy, .int .i64 pr, .int .i64 rc, .int .i64 a, .string ⟨x.toArray⟩, .int .i64 er] 34)).far (by simp) _, (hB.alloc hB.size (.cells #[.int .i64 k, .int .i64 sy, .int .i64 pr, .int .i64 rc, .int .i64 a, .string ⟨x.toArray⟩, .int .i64 er] 34)).setCell (p := ⟨w.heap.size + 2, 6, none⟩) (by simp) _⟩
            case measure => simp [intOf]
      · have hfin : evE ⟨k, sy, pr, rc, a, x, er⟩ = if (⟨ok, os, op, oc, oa, ox, oe⟩ : Ev) = ⟨k, sy, pr, rc, a, x, er⟩ then 0 else 3 := hru
        have HB := Lib.hid hB
        clear hru
        by_cases heq : (⟨ok, os, op, oc, oa, ox, oe⟩ : Ev) = ⟨k, sy, pr, rc, a, x, er⟩
        · rw [if_pos heq] at hfin
          injection heq with g1 g2 g3 g4 g5 g6 g7
          subst g1 g2 g3 g4 g5 g6 g7
          have HV := Lib.hid hfin
          clear hfin b1 b2 b3 b4 hB
          go_wp2_with fail
          (try rw [Exit.noGoto_ret])
          go_ret
          exact ⟨by rw [HV.out]; rfl, HB.out⟩
        · rw [if_neg heq] at hfin
          have HV := Lib.hid hfin
          have HQ := Lib.hid heq
          clear hfin b1 b2 b3 b4 hB heq
          go_wp2_with fail
          all_goals (try rw [Exit.noGoto_ret])
          all_goals go_ret
          all_goals first
            | exact ⟨by rw [HV.out]; rfl, HB.out⟩
            | (exfalso; refine HQ.out ?_; simp_all)
end Go.Proofs.Ytogldckkmjbohaa
