/- Chunk. -/
import Derived.Test.YtfcbbolokhcknaaFa13
import Derived.Test.YtfcbbolokhcknaaRh
namespace Go.Proofs.Ytfcbbolokhcknaa
open Go.RowKit Go.Shelf
attribute [local go_sem] Oper.semAt_some
set_option maxRecDepth 100000 in
set_option maxHeartbeats 6400000 in
theorem Chunk_ok (m : Nat) (f str : List UInt8) (w : World) (h1 : 1 ≤ m) (h8 : m ≤ 8) (hg : okG m f) (hl : str.length ≤ 1000) :
    Calls Try.prog 15 #[.int .i64 m, .string ⟨f.toArray⟩, .string ⟨str.toArray⟩] w fun e w' => (∃ A cap, e = .returned (.tuple #[.string ⟨(stC m f (ibs 0 str)).p.toArray⟩, .slice A (stC m f (ibs 0 str)).l.length cap, .int .i64 (stC m f (ibs 0 str)).used, .int .i64 (stC m f (ibs 0 str)).err]) ∧
      Sl w' w'.heap.size 3 A (stC m f (ibs 0 str)).l.length cap (tokC (stC m f (ibs 0 str)).l)) ∧ Below w.heap.size w w' := by
  have hf25 := (okG_len m f hg).1
  have hf26 : f.length ≤ 26 := by omega
  have hE : partE (m : Int) f = 0 ∧ partL (m : Int) f = f := by
    rcases partE_cases (m : Int) f with ⟨h, _⟩ | ⟨_, h, _⟩ | ⟨k, _, _, _, _, h, h'⟩ | ⟨k, hk, _, _, hn, _⟩
    · omega
    · omega
    · exact ⟨h, h'⟩
    · obtain rfl : m = k := by omega
      exact absurd hg hn
  have HBg := fun W => begun_any (m : Int) f W (by omega)
  rw [hE.1, hE.2] at HBg
  have HR := Lib.hid HBg
  have HI := Lib.hid (fun W => bytesIt_any str W)
  have HS := Lib.hid (fun Bs W => bytes_stops Bs str hl W)
  have HG := Lib.hid hg
  clear HBg hE hg
  obtain ⟨Z, hZ⟩ : ∃ Z, stC m f (ibs 0 str) = Z := ⟨_, rfl⟩
  have hZok := (stC_inv m f HG.out (ibs 0 str)).1
  rw [hZ] at hZok ⊢
  obtain ⟨zp, zl, za, zu, ze⟩ := Z
  have HZ := Lib.hid hZ
  have hzp26 : zp.length ≤ 26 := by have := (okG_len m zp hZok).1; omega
  clear hZ hZok
  simp only
  refine calls_of_wpM Try.func15 rfl ?_
  simp only [Try.ntmps15, List.size_toArray, List.length_cons, List.length_nil, Nat.reduceAdd, Nat.reduceSub, Array.replicate_succ, Array.replicate_zero, List.push_toArray, List.append_toArray, List.nil_append, List.cons_append]
  go_wp2_with fail
  go_step3
  go_wp2_with fail
  refine (HR.out _).mono ?_
  rintro e w1 ⟨rfl, hb1⟩
  have hsz1 : w.heap.size + 4 ≤ w1.heap.size := by have := hb1.size; simpa using this
  have bT := Blk.on ((((Blk.new w 3 #[.int .i64 m]).alloc (.cells #[.slice none 0 0] 33)).alloc (.cells #[.int .i64 0] 3)).alloc (.cells #[.int .i64 0] 23)) hb1
  have bL := Blk.on (((Blk.newAt (w.alloc (.cells #[.int .i64 m] 3)) 33 #[.slice none 0 0] (g := w.heap.size + 1) (by simp)).alloc (.cells #[.int .i64 0] 3)).alloc (.cells #[.int .i64 0] 23)) hb1
  have bU := Blk.on ((Blk.newAt ((w.alloc (.cells #[.int .i64 m] 3)).alloc (.cells #[.slice none 0 0] 33)) 3 #[.int .i64 0] (g := w.heap.size + 2) (by simp)).alloc (.cells #[.int .i64 0] 23)) hb1
  have bE := Blk.on (Blk.newAt (((w.alloc (.cells #[.int .i64 m] 3)).alloc (.cells #[.slice none 0 0] 33)).alloc (.cells #[.int .i64 0] 3)) 23 #[.int .i64 0] (g := w.heap.size + 3) (by simp)) hb1
  have hB1 := below_on (((((Below.refl w.heap.size w).alloc (Nat.le_refl _) (.cells #[.int .i64 m] 3)).alloc (by simp) (.cells #[.slice none 0 0] 33)).alloc (by simp; omega) (.cells #[.int .i64 0] 3)).alloc (by simp; omega) (.cells #[.int .i64 0] 23)) hb1 (Nat.le_refl _)
  have hZ1 := Pt.zz w1 (g := w1.heap.size) rfl
  have hZ2 := hZ1.row (k := f) hf26
  have cE := ((bE.alloc (.cells #[.int .u8 0, .int .u8 0, .int .u8 0, .int .u8 0, .int .u8 0, .int .u8 0, .int .u8 0, .int .u8 0, .int .u8 0, .int .u8 0, .int .u8 0, .int .u8 0, .int .u8 0, .int .u8 0, .int .u8 0, .int .u8 0, .int .u8 0, .int .u8 0, .int .u8 0, .int .u8 0, .int .u8 0, .int .u8 0, .int .u8 0, .int .u8 0, .int .u8 0, .int .u8 0, .int .i64 0] 53)).rowFar (k := w1.heap.size) (by omega) (partC f).toArray)
  have cE0 := cE.cell 0
  have cE1 := cE.frozen (i := 0) (by simp)
  simp only [Nat.add_assoc, Nat.reduceAdd]
  go_wp2_with (first
    | (refine wpList_store_part rfl _ _ rfl w1.heap.size rfl f hf26 rfl [] hZ1 ?_))
  have dT := ((bT.alloc (.cells #[.int .u8 0, .int .u8 0, .int .u8 0, .int .u8 0, .int .u8 0, .int .u8 0, .int .u8 0, .int .u8 0, .int .u8 0, .int .u8 0, .int .u8 0, .int .u8 0, .int .u8 0, .int .u8 0, .int .u8 0, .int .u8 0, .int .u8 0, .int .u8 0, .int .u8 0, .int .u8 0, .int .u8 0, .int .u8 0, .int .u8 0, .int .u8 0, .int .u8 0, .int .u8 0, .int .i64 0] 53)).rowFar (k := w1.heap.size) (by omega) (partC f).toArray).far (p := ⟨w.heap.size + 3, 0, none⟩) (by simp) (.int .i64 0)
  have dL := ((bL.alloc (.cells #[.int .u8 0, .int .u8 0, .int .u8 0, .int .u8 0, .int .u8 0, .int .u8 0, .int .u8 0, .int .u8 0, .int .u8 0, .int .u8 0, .int .u8 0, .int .u8 0, .int .u8 0, .int .u8 0, .int .u8 0, .int .u8 0, .int .u8 0, .int .u8 0, .int .u8 0, .int .u8 0, .int .u8 0, .int .u8 0, .int .u8 0, .int .u8 0, .int .u8 0, .int .u8 0, .int .i64 0] 53)).rowFar (k := w1.heap.size) (by omega) (partC f).toArray).far (p := ⟨w.heap.size + 3, 0, none⟩) (by simp) (.int .i64 0)
  have dU := ((bU.alloc (.cells #[.int .u8 0, .int .u8 0, .int .u8 0, .int .u8 0, .int .u8 0, .int .u8 0, .int .u8 0, .int .u8 0, .int .u8 0, .int .u8 0, .int .u8 0, .int .u8 0, .int .u8 0, .int .u8 0, .int .u8 0, .int .u8 0, .int .u8 0, .int .u8 0, .int .u8 0, .int .u8 0, .int .u8 0, .int .u8 0, .int .u8 0, .int .u8 0, .int .u8 0, .int .u8 0, .int .i64 0] 53)).rowFar (k := w1.heap.size) (by omega) (partC f).toArray).far (p := ⟨w.heap.size + 3, 0, none⟩) (by simp) (.int .i64 0)
  have dE := cE.set 0 (.int .i64 0)
  have dP := hZ2.far (p := ⟨w.heap.size + 3, 0, none⟩) (by simp only; omega) (.int .i64 0)
  have dB := (below_setRow (hB1.alloc (by omega) (.cells #[.int .u8 0, .int .u8 0, .int .u8 0, .int .u8 0, .int .u8 0, .int .u8 0, .int .u8 0, .int .u8 0, .int .u8 0, .int .u8 0, .int .u8 0, .int .u8 0, .int .u8 0, .int .u8 0, .int .u8 0, .int .u8 0, .int .u8 0, .int .u8 0, .int .u8 0, .int .u8 0, .int .u8 0, .int .u8 0, .int .u8 0, .int .u8 0, .int .u8 0, .int .u8 0, .int .i64 0] 53)) (show w.heap.size ≤ w1.heap.size by omega) (partC f).toArray).setCell (p := ⟨w.heap.size + 3, 0, none⟩) (by simp only; omega) (.int .i64 0)
  have hsz2 : (((w1.alloc (.cells #[.int .u8 0, .int .u8 0, .int .u8 0, .int .u8 0, .int .u8 0, .int .u8 0, .int .u8 0, .int .u8 0, .int .u8 0, .int .u8 0, .int .u8 0, .int .u8 0, .int .u8 0, .int .u8 0, .int .u8 0, .int .u8 0, .int .u8 0, .int .u8 0, .int .u8 0, .int .u8 0, .int .u8 0, .int .u8 0, .int .u8 0, .int .u8 0, .int .u8 0, .int .u8 0, .int .i64 0] 53)).setRow w1.heap.size (partC f).toArray).setCell ⟨w.heap.size + 3, 0, none⟩ (.int .i64 0)).heap.size = w1.heap.size + 1 := by simp [World.setRow]
  clear bT bL bU bE hB1 hZ1 hZ2 cE cE0 cE1 hb1 HR
  generalize ((w1.alloc (.cells #[.int .u8 0, .int .u8 0, .int .u8 0, .int .u8 0, .int .u8 0, .int .u8 0, .int .u8 0, .int .u8 0, .int .u8 0, .int .u8 0, .int .u8 0, .int .u8 0, .int .u8 0, .int .u8 0, .int .u8 0, .int .u8 0, .int .u8 0, .int .u8 0, .int .u8 0, .int .u8 0, .int .u8 0, .int .u8 0, .int .u8 0, .int .u8 0, .int .u8 0, .int .u8 0, .int .i64 0] 53)).setRow w1.heap.size (partC f).toArray).setCell ⟨w.heap.size + 3, 0, none⟩ (.int .i64 0) = W2 at *
  obtain ⟨gp, hgp⟩ : ∃ gp, w1.heap.size = gp := ⟨_, rfl⟩
  rw [hgp] at hsz1 dP hsz2 ⊢
  clear hgp
  have eT := (dT.alloc (.cells #[.int .i64 0] 3)).alloc (.cells #[.string ⟨str.toArray⟩] 9)
  have eL := (dL.alloc (.cells #[.int .i64 0] 3)).alloc (.cells #[.string ⟨str.toArray⟩] 9)
  have eU := (dU.alloc (.cells #[.int .i64 0] 3)).alloc (.cells #[.string ⟨str.toArray⟩] 9)
  have eE := (dE.alloc (.cells #[.int .i64 0] 3)).alloc (.cells #[.string ⟨str.toArray⟩] 9)
  have eP := (dP.alloc (.cells #[.int .i64 0] 3)).alloc (.cells #[.string ⟨str.toArray⟩] 9)
  have eA := (Blk.newAt W2 3 #[.int .i64 0] (g := gp + 1) hsz2.symm).alloc (.cells #[.string ⟨str.toArray⟩] 9)
  have eS := Blk.newAt (W2.alloc (.cells #[.int .i64 0] 3)) 9 #[.string ⟨str.toArray⟩] (g := gp + 2) (by simp [hsz2])
  have eB := (dB.alloc (by omega) (.cells #[.int .i64 0] 3)).alloc (by simp; omega) (.cells #[.string ⟨str.toArray⟩] 9)
  have hsz3 : (W2.alloc (.cells #[.int .i64 0] 3)).heap.size = gp + 2 := by simp [hsz2]
  have hsz4 : ((W2.alloc (.cells #[.int .i64 0] 3)).alloc (.cells #[.string ⟨str.toArray⟩] 9)).heap.size = gp + 3 := by simp [hsz2]
  clear dT dL dU dE dP dB
  go_step3
  go_wp2_with (go_at_call 36; refine (HI.out _).mono ?_; rintro e w3 ⟨rfl, rfl⟩)
  try simp only [hsz2, Nat.add_assoc, Nat.reduceAdd]
  generalize (W2.alloc (.cells #[.int .i64 0] 3)).alloc (.cells #[.string ⟨str.toArray⟩] 9) = W0 at *
  have HBad := Lib.hid (fun (t : List UInt8) (b : UInt8) (ht : t.length ≤ 26) W => bad_any t m b.toNat W ht b.toNat_lt)
  have HTk := Lib.hid (fun (t : List UInt8) (b : UInt8) (ht : t.length < 26) W => take_any t b.toNat W ht b.toNat_lt)
  have hci0 : CI m str w gp ⟨f, [], 0, 0, 0⟩ none 0 W0 := ⟨eT, eL, eU, eE, eP, eA, eS, Own.nil _ _ _ _, eB⟩
  have hS0 := HS.out (gp + 2) W0 (eS.cell 0)
  clear eT eL eU eE eP eA eS eB HS HI
  refine (wpIn_wide (n := 3)).1 ?_
  refine wpIn_rangeFunc_ownF rfl (by decide) (gf := 42) (lb := #[.pointer (some ⟨gp + 2, 0, none⟩)]) rfl trivial (enters_of Try.func42 (by kernel_rfl) rfl)
    hS0 (fun h k => k.trans h) (fun W j o o' hj ho hc _ => World.cell?_of_block (World.putObj_heap_other (by simp only; omega))) (Below.refl _ _) (fun _ => rfl)
    (fun pre W => (stC m f pre).err = 0 ∧ gp + 3 ≤ W.heap.size ∧ ∃ A cap, CI m str w gp (stC m f pre) A cap W)
    (fun c pre W => (c = .exit 0 ∧ (stC m f pre).err ≠ 0) ∧ ∃ A cap, CI m str w gp (stC m f pre) A cap W)
    (fun pre W W' row hs hg hr => ⟨hs.1, Nat.le_trans hs.2.1 hg.size, hs.2.2.elim fun A h => h.elim fun cap h => ⟨A, cap, h.turn (by omega) hg hr⟩⟩)
    (fun c pre W W' row hs hg hr => ⟨hs.1, hs.2.elim fun A h => h.elim fun cap h => ⟨A, cap, h.turn (by omega) hg hr⟩⟩)
    ⟨rfl, by rw [hsz4]; exact Nat.le_refl _, none, 0, hci0⟩
    (fun x => { tmps := #[.int .i64 m, .string ⟨f.toArray⟩, .string ⟨str.toArray⟩, .pointer (some ⟨w.heap.size, 0, none⟩), undef, undef, .string ⟨#[]⟩, .pointer (some ⟨w.heap.size + 1, 0, none⟩), .pointer (some ⟨w.heap.size + 2, 0, none⟩), .pointer (some ⟨w.heap.size + 3, 0, none⟩), .pointer (some ⟨gp, 0, none⟩), .pointer (some ⟨gp + 1, 0, none⟩), .int .i64 x.1.1, .int .u8 x.1.2.toNat, undef, undef, .tuple #[partV f, .int .i64 0], .int .i64 m, .string ⟨f.toArray⟩, .tuple #[partV f, .int .i64 0], partV f, .int .i64 0, .int .i64 0, .bool false, undef, .string ⟨str.toArray⟩, .func (Fn.func 42) #[] #[.pointer (some ⟨gp + 2, 0, none⟩)], .int .i64 x.1.1, .int .u8 x.1.2.toNat, undef, undef, undef, undef, undef, undef, undef, undef, undef, undef, undef, undef, undef, undef, undef, undef, undef, undef, undef, undef, undef, undef, undef, undef, undef, undef, undef, undef, undef], defers := [] }) ?assign ?body ?done ?stop
  case assign =>
    intro l x W K hK
    unfold ibEnc
    gi_wp2
    exact hK
  case body =>
    rintro loop pre x W ⟨herr, hgsW, A, cap, hci⟩ hlen
    have hsn := stC_snoc m f pre x
    obtain ⟨hok, hll, hat, hus⟩ := stC_inv m f HG.out pre
    obtain ⟨⟨i, b⟩, hi⟩ := x
    simp only at hsn hi ⊢
    generalize stC m f pre = s0 at *
    obtain ⟨p, l, at_, used, err⟩ := s0
    simp only at herr hok hll hat hus
    subst herr
    have ht25 := (okG_len m p hok).1
    have hp26 : p.length ≤ 26 := by omega
    have hp26' : p.length < 26 := by omega
    have HB1 := Lib.hid (HBad.out p b hp26)
    have HT1 := Lib.hid (HTk.out p b hp26')
    rw [show UInt8.ofNat b.toNat = b by simp] at HT1
    have HI0 := Lib.hid hci
    obtain ⟨bT, bL, bU, bE, bP, bA, bS, bO, bB⟩ := hci
    have cT := bT.cell 0
    have hT26 : ([] : List UInt8).length ≤ 26 := by decide
    unfold stepC at hsn
    simp only [ne_eq, not_true_eq_false, if_false] at hsn
    by_cases hbad : badN m p.length b.toNat = 0
    · rw [if_neg (by simpa using hbad)] at hsn
      rw [hbad] at HB1
      have hiz : (i : Int) < 1000 := by omega
      have hk26 : (p ++ [b]).length ≤ 26 := by simp; omega
      by_cases hwh : wholeP (p ++ [b]) = true
      · rw [if_pos hwh] at hsn
        simp only [if_pos hwh] at HT1
        have HSn := Lib.hid hsn
        generalize b0 (p ++ [b]) = sy at *
        generalize (p ++ [b]).drop 2 = tx at *
        clear hsn HTk HBad hci0 hS0 hwh hbad
        gi_wp2_with (first
          | (refine wpListIn_load_part rfl _ rfl gp rfl p bP ?_)
          | (refine ⟨trivial, ?_⟩; gi_at_call 32; refine (CallsIn.inRound loop (callsIn_wide.2 (HB1.out _))).mono ?_; rintro e w4 ⟨rfl, hb4⟩; have hci4 := HI0.out.on hb4; have bE4 := hci4.2.2.2.1; have cE := bE4.cell 0; have fE := bE4.frozen (i := 0) (by simp); have hgs4 : gp + 3 ≤ w4.heap.size := Nat.le_trans hgsW hb4.size; have hci5 := hci4.setErr hsz1 0; have hci6 := hci5.alloc (.cells #[.int .i64 0, .string ⟨#[]⟩, .int .i64 0] 29); have bP6 := hci6.2.2.2.2.1; have bt6 := Blk.newAt (w4.setCell ⟨w.heap.size + 3, 0, none⟩ (.int .i64 0)) 29 #[.int .i64 0, .string ⟨#[]⟩, .int .i64 0] (g := w4.heap.size) (by simp))
          | (refine wpListIn_load_part rfl _ rfl gp rfl p bP6 ?_)
          | (refine ⟨trivial, ?_⟩; gi_at_call 33; refine (CallsIn.inRound loop (callsIn_wide.2 (HT1.out _))).mono ?_; rintro e w7 ⟨rfl, hb7⟩; have hci7 := hci6.on hb7; have bP7 := hci7.2.2.2.2.1; have bt8 := (Blk.on bt6 hb7).rowFar (k := gp) (by omega) (partC ([] : List UInt8)).toArray; have hci8 := hci7.setPart hsz1 hT26; have hne8 : blockOf A cap ≠ some w4.heap.size := hci4.ne; have hci9 := hci8.rowFar hsz1 hgs4 hne8 #[.int .i64 sy, .string ⟨tx.toArray⟩, .int .i64 0]; have bt9 := bt8.row #[.int .i64 sy, .string ⟨tx.toArray⟩, .int .i64 0] rfl; have cU := hci9.2.2.1.cell 0; have fU := hci9.2.2.1.frozen (i := 0) (by simp); have hci10 := hci9.setUsed hsz1 (i + 1); have hcast : ((i + 1 : Nat) : Int) = (i : Int) + 1 := Int.natCast_add i 1; simp only [hcast] at hci10; clear hcast; have cA := hci10.2.2.2.2.2.1.cell 0; have bt10 := bt9.far (p := ⟨w.heap.size + 2, 0, none⟩) (by simp only; omega) (.int .i64 ((i : Int) + 1)); obtain ⟨ct0, ct1, ct2, ft0, ft1, ft2⟩ := cells3 bt10)
          | (refine wpListIn_store_part rfl _ _ rfl gp rfl ([] : List UInt8) hT26 rfl p bP7 ?_)
          | (refine wpListIn_store_tok rfl _ _ rfl w4.heap.size rfl sy 0 ⟨tx.toArray⟩ rfl _ _ _ bt8 ?_))
        have hci11 := (hci10.cellFar (i := 2) hsz1 hgs4 hne8 (.int .i64 at_)).drew
        have bt11 := (bt10.set 2 (.int .i64 at_)).drew
        have hgs11 : gp + 3 ≤ ((((w7.setRow gp (partC ([] : List UInt8)).toArray).setRow w4.heap.size #[.int .i64 sy, .string ⟨tx.toArray⟩, .int .i64 0]).setCell ⟨w.heap.size + 2, 0, none⟩ (.int .i64 ((i : Int) + 1))).setCell ⟨w4.heap.size, 2, none⟩ (.int .i64 at_)).drew.heap.size := by have h7 := hb7.size; simp only [World.size_alloc, World.size_setCell] at h7; simp [World.setRow]; omega
        have kk1 := keeps_below hb4
        have kk2 := (keeps_below hb7)
        have kk3 := keeps_row bP7.1 (partC ([] : List UInt8)).toArray
        have kk4 := keeps_row bt8 #[.int .i64 sy, .string ⟨tx.toArray⟩, .int .i64 0]
        have kkA := (((kk1.trans ((KeepsOthers.setCell w4 ⟨w.heap.size + 3, 0, none⟩ (.int .i64 0)).trans (KeepsOthers.alloc _ _))).trans kk2).trans (kk3.trans kk4)).trans (((KeepsOthers.setCell _ ⟨w.heap.size + 2, 0, none⟩ (.int .i64 ((i : Int) + 1))).trans (KeepsOthers.setCell _ ⟨w4.heap.size, 2, none⟩ (.int .i64 at_))).trans (KeepsOthers.drew _))
        have HKA := Lib.hid (show KeepsOthers W ((((w7.setRow gp (partC ([] : List UInt8)).toArray).setRow w4.heap.size #[.int .i64 sy, .string ⟨tx.toArray⟩, .int .i64 0]).setCell ⟨w.heap.size + 2, 0, none⟩ (.int .i64 ((i : Int) + 1))).setCell ⟨w4.heap.size, 2, none⟩ (.int .i64 at_)).drew from kkA)
        clear kk1 kk2 kk3 kk4 kkA hci10 hci9 hci8 hci7 hci6 hci5 hci4 bt10 bt9 bt8 bt6 bP6 bP7 hb4 hb7 bE4
        generalize hWd : ((((w7.setRow gp (partC ([] : List UInt8)).toArray).setRow w4.heap.size #[.int .i64 sy, .string ⟨tx.toArray⟩, .int .i64 0]).setCell ⟨w.heap.size + 2, 0, none⟩ (.int .i64 ((i : Int) + 1))).setCell ⟨w4.heap.size, 2, none⟩ (.int .i64 at_)) = Wd at *
        clear hWd
        have q0 := hci11.2.1
        have q2 := hci11.2.2.1
        have qo := hci11.2.2.2.2.2.2.2.1
        obtain ⟨i0, hi0, hz0, hz1, hz2⟩ := info_parts infoT
        have hm1 : l.length + 1 ≤ maxLen := by simp only [maxLen]; omega
        have hm2 : (l.length + 1) * 32 ≤ 140737488355328 := by omega
        have hone : ∀ u ∈ [Value.int .i64 sy, .string ⟨tx.toArray⟩, .int .i64 at_], u.oneCell' = true := by simp [Value.oneCell']
        have hnew := sl_newT Wd.drew [⟨sy, tx, at_⟩] #[.int .i64 sy, .string ⟨tx.toArray⟩, .int .i64 at_] rfl (by simp [maxLen])
        have KS : (fun W' => Blk W' w4.heap.size 29 #[.int .i64 sy, .string ⟨tx.toArray⟩, .int .i64 at_] ∧ Blk W' (w.heap.size + 2) 3 #[.int .i64 ((i : Int) + 1)]) Wd.drew := ⟨bt11, q2⟩
        have KS2 : (fun W' => Blk W' w4.heap.size 29 #[.int .i64 sy, .string ⟨tx.toArray⟩, .int .i64 at_] ∧ Blk W' (w.heap.size + 2) 3 #[.int .i64 ((i : Int) + 1)]) (Wd.drew.alloc (.cells #[.int .i64 sy, .string ⟨tx.toArray⟩, .int .i64 at_] 29)) := ⟨bt11.alloc _, q2.alloc _⟩
        have hgt : blockOf A cap ≠ some w4.heap.size := hne8
        have hbase : gp + 3 ≤ (Wd.drew.alloc (.cells #[.int .i64 sy, .string ⟨tx.toArray⟩, .int .i64 at_] 29)).heap.size := by simp only [World.size_alloc]; exact Nat.le_succ_of_le hgs11
        refine wpIn_region_tame (S := fun W' => Blk W' w4.heap.size 29 #[.int .i64 sy, .string ⟨tx.toArray⟩, .int .i64 at_] ∧ Blk W' (w.heap.size + 2) 3 #[.int .i64 ((i : Int) + 1)]) (by kernel_rfl) ?tame (fun _ _ h => h) ?walk
        case tame =>
          intro o ho
          simp only [List.mem_toArray, List.mem_cons, List.not_mem_nil, or_false] at ho
          rcases ho with rfl | rfl | rfl | rfl | rfl | rfl | rfl
          · exact tame_load rfl
          · exact tame_load rfl
          · exact tame_build rfl
          · exact tame_append rfl
          · exact tame_load rfl
          · exact tame_store rfl
          · exact tame_store rfl
        case walk =>
          refine reg_take 1 _ 49 (.agg #[.int .i64 sy, .string ⟨tx.toArray⟩, .int .i64 at_]) rfl rfl (by kernel_rfl) (by kernel_rfl) (by kernel_rfl) (fun _ _ _ h => h) (by rfl) (fun W' hS => exec_load_blk 29 _ rfl w4.heap.size rfl 29 _ _ hS.1 Try.underlying29 rfl tok_size) KS ?_
          refine reg_take 4 _ 52 (.int .i64 ((i : Int) + 1)) rfl rfl (by kernel_rfl) (by kernel_rfl) (by kernel_rfl) (fun _ _ _ h => h) (by rfl) (fun W' hS => exec_load_1 3 _ rfl (w.heap.size + 2) rfl 3 _ _ hS.2 Try.underlying3 rfl) KS ?_
          simp only [List.setIfInBounds_toArray, List.set_cons_zero, List.set_cons_succ]
          refine reg_two 0 2 _ _ (.slice A l.length cap) (.slice (some ⟨Wd.drew.heap.size, 0, none⟩) 1 1) Wd.drew (Wd.drew.alloc (.cells #[.int .i64 sy, .string ⟨tx.toArray⟩, .int .i64 at_] 29)) rfl rfl (by kernel_rfl) (by rfl) (by rfl) (fun K Q h => wp_exec (exec_load_1 33 _ rfl (w.heap.size + 1) rfl 33 _ _ q0 Try.underlying33 rfl) h) (fun K Q h => ?bs) KS KS2 _ _ rfl rfl ?rA ?rB
          case bs =>
            clear HKA hci11 q0 q2 qo KS KS2 bt11 hnew
            go_simp
            exact h
          case rA =>
            refine reg_step 2 _ (.slice (some ⟨Wd.drew.heap.size, 0, none⟩) 1 1) (Wd.drew.alloc (.cells #[.int .i64 sy, .string ⟨tx.toArray⟩, .int .i64 at_] 29)) rfl (by kernel_rfl) (by rfl) (fun K Q h => ?bs2) KS2 _ rfl ?rest
            case bs2 =>
              clear HKA hci11 q0 q2 qo KS KS2 bt11 hnew
              go_simp
              exact h
            case rest =>
              refine reg_callv 3 _ 51 (fun v W' => ∃ A4 cap4, v = .slice A4 (l.length + 1) cap4 ∧ Own W' (gp + 3) 29 3 A4 (l.length + 1) cap4 (tokC l ++ [.int .i64 sy, .string ⟨tx.toArray⟩, .int .i64 at_]) ∧ (Wd.drew.alloc (.cells #[.int .i64 sy, .string ⟨tx.toArray⟩, .int .i64 at_] 29)).grownBy W' (blockOf A cap)) rfl rfl (by kernel_rfl) (by rfl)
                (fun K Q h => wp_append_o _ (.tmp 48) (.tmp 50) 33 rfl (gp + 3) 29 i0 _ 3 32 Try.underlying33 hi0 hz0 hz1 hz2 rfl (by decide) rfl (qo.alloc _) rfl hnew hone hm1 hm2 hbase (fun A4 cap4 W' h1 h2 _ => h _ _ ⟨A4, cap4, rfl, h1, h2⟩))
                (fun v W' ⟨A4, cap4, _, _, h2⟩ => ⟨KS2.1.grown h2 (fun e => hgt e.symm), KS2.2.grown h2 (qo.ne (by omega))⟩) ?_
              rintro v W4 ⟨A4, cap4, rfl, hown4, hg4⟩
              simp only [List.setIfInBounds_toArray, List.set_cons_zero, List.set_cons_succ]
              have hci12 := hci11.alloc (.cells #[.int .i64 sy, .string ⟨tx.toArray⟩, .int .i64 at_] 29)
              have hci13 := hci12.appended hsz1 (by simp only [World.size_alloc]; exact Nat.le_succ_of_le hgs11) (t := ⟨sy, tx, at_⟩) (i + 1) hown4 hg4
              have hcast : ((i + 1 : Nat) : Int) = (i : Int) + 1 := Int.natCast_add i 1
              rw [hcast] at hci13
              have hL4 := hci12.2.1.grown hg4 (qo.ne (by omega))
              have hA4 := hci12.2.2.2.2.2.1.grown hg4 (qo.ne (by omega))
              have hT4 := KS2.1.grown hg4 (fun e => hgt e.symm)
              have hU4 := KS2.2.grown hg4 (qo.ne (by omega))
              have hkf := ((HKA.out.trans (KeepsOthers.alloc _ (.cells #[.int .i64 sy, .string ⟨tx.toArray⟩, .int .i64 at_] 29))).trans (keeps_grown (qo.alloc (.cells #[.int .i64 sy, .string ⟨tx.toArray⟩, .int .i64 at_] 29)) hg4)).trans ((KeepsOthers.setCell W4 ⟨w.heap.size + 1, 0, none⟩ (.slice A4 (l.length + 1) cap4)).trans (KeepsOthers.setCell _ ⟨gp + 1, 0, none⟩ (.int .i64 ((i : Int) + 1))))
              have hgs13 : gp + 3 ≤ W4.heap.size := Nat.le_trans (by simp only [World.size_alloc]; exact Nat.le_succ_of_le hgs11) hg4.size
              refine reg_step 5 _ undef _ rfl (by kernel_rfl) (by rfl) (fun K Q h => wp_store1 33 _ _ rfl (w.heap.size + 1) (.slice A4 (l.length + 1) cap4) _ _ rfl rfl hL4 (by kernel_rfl) rfl rfl h) ⟨hT4.far (by simp only; omega) _, hU4.far (by simp) _⟩ _ rfl ?_
              refine reg_step 6 _ undef _ rfl (by kernel_rfl) (by rfl) (fun K Q h => wp_store1 3 _ _ rfl (gp + 1) (.int .i64 ((i : Int) + 1)) _ _ rfl rfl (hA4.far (by simp only; omega) _) (by kernel_rfl) rfl rfl h) ⟨(hT4.far (by simp only; omega) _).far (by simp only; omega) _, (hU4.far (by simp) _).far (by simp only; omega) _⟩ _ rfl ?_
              refine wpAnyH_done (by kernel_rfl) ?_ _
              gi_wp2
              refine ⟨hkf, (hci13.2.2.2.2.2.2.1.cell 0).trans (bS.cell 0).symm, by rw [HSn.out], by simpa using hgs13, A4, cap4, ?_⟩
              rw [HSn.out]
              exact hci13
          case rB =>
            refine reg_step 0 _ (.slice A l.length cap) (Wd.drew.alloc (.cells #[.int .i64 sy, .string ⟨tx.toArray⟩, .int .i64 at_] 29)) rfl (by kernel_rfl) (by rfl) (fun K Q h => wp_exec (exec_load_1 33 _ rfl (w.heap.size + 1) rfl 33 _ _ (q0.alloc _) Try.underlying33 rfl) h) KS2 _ rfl ?_
            refine reg_callv 3 _ 51 (fun v W' => ∃ A4 cap4, v = .slice A4 (l.length + 1) cap4 ∧ Own W' (gp + 3) 29 3 A4 (l.length + 1) cap4 (tokC l ++ [.int .i64 sy, .string ⟨tx.toArray⟩, .int .i64 at_]) ∧ (Wd.drew.alloc (.cells #[.int .i64 sy, .string ⟨tx.toArray⟩, .int .i64 at_] 29)).grownBy W' (blockOf A cap)) rfl rfl (by kernel_rfl) (by rfl)
              (fun K Q h => wp_append_o _ (.tmp 48) (.tmp 50) 33 rfl (gp + 3) 29 i0 _ 3 32 Try.underlying33 hi0 hz0 hz1 hz2 rfl (by decide) rfl (qo.alloc _) rfl hnew hone hm1 hm2 hbase (fun A4 cap4 W' h1 h2 _ => h _ _ ⟨A4, cap4, rfl, h1, h2⟩))
              (fun v W' ⟨A4, cap4, _, _, h2⟩ => ⟨KS2.1.grown h2 (fun e => hgt e.symm), KS2.2.grown h2 (qo.ne (by omega))⟩) ?_
            rintro v W4 ⟨A4, cap4, rfl, hown4, hg4⟩
            simp only [List.setIfInBounds_toArray, List.set_cons_zero, List.set_cons_succ]
            have hci12 := hci11.alloc (.cells #[.int .i64 sy, .string ⟨tx.toArray⟩, .int .i64 at_] 29)
            have hci13 := hci12.appended hsz1 (by simp only [World.size_alloc]; exact Nat.le_succ_of_le hgs11) (t := ⟨sy, tx, at_⟩) (i + 1) hown4 hg4
            have hcast : ((i + 1 : Nat) : Int) = (i : Int) + 1 := Int.natCast_add i 1
            rw [hcast] at hci13
            have hL4 := hci12.2.1.grown hg4 (qo.ne (by omega))
            have hA4 := hci12.2.2.2.2.2.1.grown hg4 (qo.ne (by omega))
            have hT4 := KS2.1.grown hg4 (fun e => hgt e.symm)
            have hU4 := KS2.2.grown hg4 (qo.ne (by omega))
            have hkf := ((HKA.out.trans (KeepsOthers.alloc _ (.cells #[.int .i64 sy, .string ⟨tx.toArray⟩, .int .i64 at_] 29))).trans (keeps_grown (qo.alloc (.cells #[.int .i64 sy, .string ⟨tx.toArray⟩, .int .i64 at_] 29)) hg4)).trans ((KeepsOthers.setCell W4 ⟨w.heap.size + 1, 0, none⟩ (.slice A4 (l.length + 1) cap4)).trans (KeepsOthers.setCell _ ⟨gp + 1, 0, none⟩ (.int .i64 ((i : Int) + 1))))
            have hgs13 : gp + 3 ≤ W4.heap.size := Nat.le_trans (by simp only [World.size_alloc]; exact Nat.le_succ_of_le hgs11) hg4.size
            refine reg_step 5 _ undef _ rfl (by kernel_rfl) (by rfl) (fun K Q h => wp_store1 33 _ _ rfl (w.heap.size + 1) (.slice A4 (l.length + 1) cap4) _ _ rfl rfl hL4 (by kernel_rfl) rfl rfl h) ⟨hT4.far (by simp only; omega) _, hU4.far (by simp) _⟩ _ rfl ?_
            refine reg_step 6 _ undef _ rfl (by kernel_rfl) (by rfl) (fun K Q h => wp_store1 3 _ _ rfl (gp + 1) (.int .i64 ((i : Int) + 1)) _ _ rfl rfl (hA4.far (by simp only; omega) _) (by kernel_rfl) rfl rfl h) ⟨(hT4.far (by simp only; omega) _).far (by simp only; omega) _, (hU4.far (by simp) _).far (by simp only; omega) _⟩ _ rfl ?_
            refine wpAnyH_done (by kernel_rfl) ?_ _
            gi_wp2
            refine ⟨hkf, (hci13.2.2.2.2.2.2.1.cell 0).trans (bS.cell 0).symm, by rw [HSn.out], by simpa using hgs13, A4, cap4, ?_⟩
            rw [HSn.out]
            exact hci13
      · have hwf : wholeP (p ++ [b]) = false := by revert hwh; cases wholeP (p ++ [b]) <;> simp
        rw [if_neg hwh] at hsn
        simp only [if_neg hwh] at HT1
        have HSn := Lib.hid hsn
        clear hsn HTk HBad hci0 hS0 hwh hbad hwf
        gi_wp2_with (first
          | (refine wpListIn_load_part rfl _ rfl gp rfl p bP ?_)
          | (refine ⟨trivial, ?_⟩; gi_at_call 32; refine (CallsIn.inRound loop (callsIn_wide.2 (HB1.out _))).mono ?_; rintro e w4 ⟨rfl, hb4⟩; have hci4 := HI0.out.on hb4; have bE4 := hci4.2.2.2.1; have cE := bE4.cell 0; have fE := bE4.frozen (i := 0) (by simp); have hgs4 : gp + 3 ≤ w4.heap.size := Nat.le_trans hgsW hb4.size; have hci5 := hci4.setErr hsz1 0; have hci6 := hci5.alloc (.cells #[.int .i64 0, .string ⟨#[]⟩, .int .i64 0] 29); have bP6 := hci6.2.2.2.2.1; have bt6 := Blk.newAt (w4.setCell ⟨w.heap.size + 3, 0, none⟩ (.int .i64 0)) 29 #[.int .i64 0, .string ⟨#[]⟩, .int .i64 0] (g := w4.heap.size) (by simp))
          | (refine wpListIn_load_part rfl _ rfl gp rfl p bP6 ?_)
          | (refine ⟨trivial, ?_⟩; gi_at_call 33; refine (CallsIn.inRound loop (callsIn_wide.2 (HT1.out _))).mono ?_; rintro e w7 ⟨rfl, hb7⟩; have hci7 := hci6.on hb7; have bP7 := hci7.2.2.2.2.1; have bt8 := (Blk.on bt6 hb7).rowFar (k := gp) (by omega) (partC (p ++ [b])).toArray; have hci8 := hci7.setPart hsz1 hk26; have hne8 : blockOf A cap ≠ some w4.heap.size := hci4.ne; have hci9 := hci8.rowFar hsz1 hgs4 hne8 #[.int .i64 0, .string ⟨#[]⟩, .int .i64 0]; have bt9 := bt8.row #[.int .i64 0, .string ⟨#[]⟩, .int .i64 0] rfl; have cU := hci9.2.2.1.cell 0; have fU := hci9.2.2.1.frozen (i := 0) (by simp); have hci10 := hci9.setUsed hsz1 (i + 1); have hcast : ((i + 1 : Nat) : Int) = (i : Int) + 1 := Int.natCast_add i 1; simp only [hcast] at hci10; clear hcast; have cA := hci10.2.2.2.2.2.1.cell 0; have bt10 := bt9.far (p := ⟨w.heap.size + 2, 0, none⟩) (by simp only; omega) (.int .i64 ((i : Int) + 1)); obtain ⟨ct0, ct1, ct2, ft0, ft1, ft2⟩ := cells3 bt10)
          | (refine wpListIn_store_part rfl _ _ rfl gp rfl (p ++ [b]) hk26 rfl p bP7 ?_)
          | (refine wpListIn_store_tok rfl _ _ rfl w4.heap.size rfl 0 0 ⟨#[]⟩ rfl _ _ _ bt8 ?_))
        have kk1 := keeps_below hb4
        have kk2 := (keeps_below hb7)
        have kk3 := keeps_row bP7.1 (partC (p ++ [b])).toArray
        have kk4 := keeps_row bt8 #[.int .i64 0, .string ⟨#[]⟩, .int .i64 0]
        have kkA := (((kk1.trans ((KeepsOthers.setCell w4 ⟨w.heap.size + 3, 0, none⟩ (.int .i64 0)).trans (KeepsOthers.alloc _ _))).trans kk2).trans (kk3.trans kk4)).trans (KeepsOthers.setCell _ ⟨w.heap.size + 2, 0, none⟩ (.int .i64 ((i : Int) + 1)))
        refine ⟨kkA, (hci10.2.2.2.2.2.2.1.cell 0).trans (bS.cell 0).symm, by rw [HSn.out], ?_, A, cap, ?_⟩
        · have h7 := hb7.size; simp only [World.size_alloc, World.size_setCell] at h7; simp [World.setRow]; omega
        · rw [HSn.out]
          exact hci10
    · rw [if_pos (by simpa using hbad)] at hsn
      have hbz : (badN m p.length b.toNat == 0) = false := by simpa using hbad
      have HSn := Lib.hid hsn
      generalize badN m p.length b.toNat = e0 at *
      clear hsn HTk HBad hci0 hS0 HT1
      gi_wp2_with (first
        | (refine wpListIn_load_part rfl _ rfl gp rfl p bP ?_)
        | (refine ⟨trivial, ?_⟩; gi_at_call 32; refine (CallsIn.inRound loop (callsIn_wide.2 (HB1.out _))).mono ?_; rintro e w4 ⟨rfl, hb4⟩; have hci4 := HI0.out.on hb4; have bE4 := hci4.2.2.2.1; have cE := bE4.cell 0; have fE := bE4.frozen (i := 0) (by simp); have bP5 := hci4.2.2.2.2.1.far (p := ⟨w.heap.size + 3, 0, none⟩) (by simp only; omega) (.int .i64 e0))
        | (refine wpListIn_store_part rfl _ _ rfl gp rfl [] (by decide) rfl p bP5 ?_))
      refine ⟨(keeps_below hb4).trans ((KeepsOthers.setCell _ _ _).trans (keeps_row bP5.1 _)), ⟨rfl, ?_⟩, A, cap, ?_⟩
      · rw [HSn.out]; exact hbad
      · rw [HSn.out]; exact (hci4.setErr hsz1 e0).setPart hsz1 (by decide)
  case done =>
    rintro D ys W hD rfl ⟨herr0, hgsW, A, cap, hci⟩ hK
    rw [HZ.out] at hci
    clear herr0
    have hsz3 := hci.2.2.2.2.1.lt
    have KS : (fun W' => CI m str w gp ⟨zp, zl, za, zu, ze⟩ A cap W' ∧ W'.heap[D]? = some (.deferred (some []))) W.drew := ⟨hci.drew, hK⟩
    have HTx := Lib.hid (fun W => text_any zp W hzp26)
    clear HBad HTk hci0 hS0
    gi_wp2_with fail
    go_wp2_with fail
    refine wp_region_noPanic ?_
    refine wp_region_held_drew (S := fun W' => CI m str w gp ⟨zp, zl, za, zu, ze⟩ A cap W' ∧ W'.heap[D]? = some (.deferred (some []))) (by kernel_rfl) KS (fun _ => ?_)
    refine reg_take 0 _ 53 (partV zp) rfl rfl (by kernel_rfl) (by kernel_rfl) (by kernel_rfl) (fun _ _ _ h => h) (by rfl) (fun W' hS => exec_load_blk 53 _ rfl gp rfl 53 _ _ hS.1.2.2.2.2.1.1 Try.underlying53 rfl (part_in zp hzp26)) KS ?_
    refine reg_take 2 _ 55 (.slice A zl.length cap) rfl rfl (by kernel_rfl) (by kernel_rfl) (by kernel_rfl) (fun _ _ _ h => h) (by rfl) (fun W' hS => exec_load_1 33 _ rfl (w.heap.size + 1) rfl 33 _ _ hS.1.2.1 Try.underlying33 rfl) KS ?_
    refine reg_take 3 _ 56 (.int .i64 zu) rfl rfl (by kernel_rfl) (by kernel_rfl) (by kernel_rfl) (fun _ _ _ h => h) (by rfl) (fun W' hS => exec_load_1 3 _ rfl (w.heap.size + 2) rfl 3 _ _ hS.1.2.2.1 Try.underlying3 rfl) KS ?_
    refine reg_take 4 _ 57 (.int .i64 ze) rfl rfl (by kernel_rfl) (by kernel_rfl) (by kernel_rfl) (fun _ _ _ h => h) (by rfl) (fun W' hS => exec_load_1 23 _ rfl (w.heap.size + 3) rfl 23 _ _ hS.1.2.2.2.1 Try.underlying23 rfl) KS ?_
    simp only [List.setIfInBounds_toArray, List.set_cons_zero, List.set_cons_succ]
    refine reg_call 1 _ 54 (.string ⟨zp.toArray⟩) (fun W' => Below W.drew.heap.size W.drew W') rfl rfl (by kernel_rfl) (by rfl) (fun K Q h => wp_callFn 34 _ _ rfl #[partV zp] (by simp only [List.map_toArray, List.map_cons, List.map_nil]; rfl) (enters_of Try.func34 (by kernel_rfl) rfl) (HTx.out _) (fun e w' ⟨he, hb⟩ => ⟨_, he, h w' hb⟩)) (fun W' hb => ⟨KS.1.on hb, (hb.block D (Array.getElem?_eq_some_iff.1 KS.2).1).trans KS.2⟩) ?_
    intro W5 hb5
    have hc5 := KS.1.on hb5
    have hK5 := (hb5.block D (Array.getElem?_eq_some_iff.1 KS.2).1).trans KS.2
    have hc6 := hc5.setSame hsz1
    have hK6 := setCell_obj (p := ⟨w.heap.size + 1, 0, none⟩) (v := .slice A zl.length cap) hK5 (by simp only; omega)
    have hc7 := hc6.setUsed hsz1 zu
    have hK7 := setCell_obj (p := ⟨w.heap.size + 2, 0, none⟩) (v := .int .i64 zu) hK6 (by simp only; omega)
    have hc8 := hc7.setErr hsz1 ze
    have hK8 := setCell_obj (p := ⟨w.heap.size + 3, 0, none⟩) (v := .int .i64 ze) hK7 (by simp only; omega)
    simp only [List.setIfInBounds_toArray, List.set_cons_zero, List.set_cons_succ]
    refine reg_step 5 _ (.string ⟨zp.toArray⟩) _ rfl (by kernel_rfl) (by rfl) (fun K Q h => wp_assign _ rfl h) ⟨hc5, hK5⟩ _ rfl ?_
    refine reg_step 6 _ undef _ rfl (by kernel_rfl) (by rfl) (fun K Q h => wp_store1 33 _ _ rfl (w.heap.size + 1) (.slice A zl.length cap) _ _ rfl rfl hc5.2.1 (by kernel_rfl) rfl rfl h) ⟨hc6, hK6⟩ _ rfl ?_
    refine reg_step 7 _ undef _ rfl (by kernel_rfl) (by rfl) (fun K Q h => wp_store1 3 _ _ rfl (w.heap.size + 2) (.int .i64 zu) _ _ rfl rfl hc6.2.2.1 (by kernel_rfl) rfl rfl h) ⟨hc7, hK7⟩ _ rfl ?_
    refine reg_step 8 _ undef _ rfl (by kernel_rfl) (by rfl) (fun K Q h => wp_store1 23 _ _ rfl (w.heap.size + 3) (.int .i64 ze) _ _ rfl rfl hc7.2.2.2.1 (by kernel_rfl) rfl rfl h) ⟨hc8, hK8⟩ _ rfl ?_
    refine wpAnyH_done (by kernel_rfl) ?_ _
    refine NoPanic.normal ?_
    go_wp2_with fail
    have hmk := (Marks.nil _ w.heap.size).cons (r := D) (by omega) hK8 (by simp)
    have hsl := hc8.2.2.2.2.2.2.2.1.sl
    refine leaves_marks (B := w.heap.size) (v := .tuple #[.string ⟨zp.toArray⟩, .slice A zl.length cap, .int .i64 zu, .int .i64 ze]) [D] _ hmk fun W' hs => ⟨results_tccc (fn := Try.f15) rfl _ W' _ _ _ _ _ _ _ _ _ _ _ _ rfl (hs.blk hc8.2.1) Try.underlying33 rfl rfl (hs.blk hc8.2.2.1) Try.underlying3 rfl rfl (hs.blk hc8.2.2.2.1) Try.underlying23 rfl, ⟨⟨A, cap, rfl, by rw [hs.size]; exact hs.sl hsl⟩, hs.below hc8.2.2.2.2.2.2.2.2⟩⟩
  case stop =>
    rintro D c pre W hD ⟨k, hk, hpre⟩ ⟨⟨rfl, hne⟩, A, cap, hci⟩ hK
    have hst : stC m f pre = ⟨zp, zl, za, zu, ze⟩ := by
      have h0 := stC_stop m f pre ((ibs 0 str).drop k) hne
      rw [← h0, hpre, List.take_append_drop]
      exact HZ.out
    rw [hst] at hci
    clear hst hne hpre
    have hsz3 := hci.2.2.2.2.1.lt
    have KS : (fun W' => CI m str w gp ⟨zp, zl, za, zu, ze⟩ A cap W' ∧ W'.heap[D]? = some (.deferred (some []))) W.drew := ⟨hci.drew, hK⟩
    have HTx := Lib.hid (fun W => text_any zp W hzp26)
    clear HBad HTk hci0 hS0
    gi_wp2_with fail
    go_wp2_with fail
    refine wp_region_noPanic ?_
    refine wp_region_held_drew (S := fun W' => CI m str w gp ⟨zp, zl, za, zu, ze⟩ A cap W' ∧ W'.heap[D]? = some (.deferred (some []))) (by kernel_rfl) KS (fun _ => ?_)
    refine reg_take 0 _ 53 (partV zp) rfl rfl (by kernel_rfl) (by kernel_rfl) (by kernel_rfl) (fun _ _ _ h => h) (by rfl) (fun W' hS => exec_load_blk 53 _ rfl gp rfl 53 _ _ hS.1.2.2.2.2.1.1 Try.underlying53 rfl (part_in zp hzp26)) KS ?_
    refine reg_take 2 _ 55 (.slice A zl.length cap) rfl rfl (by kernel_rfl) (by kernel_rfl) (by kernel_rfl) (fun _ _ _ h => h) (by rfl) (fun W' hS => exec_load_1 33 _ rfl (w.heap.size + 1) rfl 33 _ _ hS.1.2.1 Try.underlying33 rfl) KS ?_
    refine reg_take 3 _ 56 (.int .i64 zu) rfl rfl (by kernel_rfl) (by kernel_rfl) (by kernel_rfl) (fun _ _ _ h => h) (by rfl) (fun W' hS => exec_load_1 3 _ rfl (w.heap.size + 2) rfl 3 _ _ hS.1.2.2.1 Try.underlying3 rfl) KS ?_
    refine reg_take 4 _ 57 (.int .i64 ze) rfl rfl (by kernel_rfl) (by kernel_rfl) (by kernel_rfl) (fun _ _ _ h => h) (by rfl) (fun W' hS => exec_load_1 23 _ rfl (w.heap.size + 3) rfl 23 _ _ hS.1.2.2.2.1 Try.underlying23 rfl) KS ?_
    simp only [List.setIfInBounds_toArray, List.set_cons_zero, List.set_cons_succ]
    refine reg_call 1 _ 54 (.string ⟨zp.toArray⟩) (fun W' => Below W.drew.heap.size W.drew W') rfl rfl (by kernel_rfl) (by rfl) (fun K Q h => wp_callFn 34 _ _ rfl #[partV zp] (by simp only [List.map_toArray, List.map_cons, List.map_nil]; rfl) (enters_of Try.func34 (by kernel_rfl) rfl) (HTx.out _) (fun e w' ⟨he, hb⟩ => ⟨_, he, h w' hb⟩)) (fun W' hb => ⟨KS.1.on hb, (hb.block D (Array.getElem?_eq_some_iff.1 KS.2).1).trans KS.2⟩) ?_
    intro W5 hb5
    have hc5 := KS.1.on hb5
    have hK5 := (hb5.block D (Array.getElem?_eq_some_iff.1 KS.2).1).trans KS.2
    have hc6 := hc5.setSame hsz1
    have hK6 := setCell_obj (p := ⟨w.heap.size + 1, 0, none⟩) (v := .slice A zl.length cap) hK5 (by simp only; omega)
    have hc7 := hc6.setUsed hsz1 zu
    have hK7 := setCell_obj (p := ⟨w.heap.size + 2, 0, none⟩) (v := .int .i64 zu) hK6 (by simp only; omega)
    have hc8 := hc7.setErr hsz1 ze
    have hK8 := setCell_obj (p := ⟨w.heap.size + 3, 0, none⟩) (v := .int .i64 ze) hK7 (by simp only; omega)
    simp only [List.setIfInBounds_toArray, List.set_cons_zero, List.set_cons_succ]
    refine reg_step 5 _ (.string ⟨zp.toArray⟩) _ rfl (by kernel_rfl) (by rfl) (fun K Q h => wp_assign _ rfl h) ⟨hc5, hK5⟩ _ rfl ?_
    refine reg_step 6 _ undef _ rfl (by kernel_rfl) (by rfl) (fun K Q h => wp_store1 33 _ _ rfl (w.heap.size + 1) (.slice A zl.length cap) _ _ rfl rfl hc5.2.1 (by kernel_rfl) rfl rfl h) ⟨hc6, hK6⟩ _ rfl ?_
    refine reg_step 7 _ undef _ rfl (by kernel_rfl) (by rfl) (fun K Q h => wp_store1 3 _ _ rfl (w.heap.size + 2) (.int .i64 zu) _ _ rfl rfl hc6.2.2.1 (by kernel_rfl) rfl rfl h) ⟨hc7, hK7⟩ _ rfl ?_
    refine reg_step 8 _ undef _ rfl (by kernel_rfl) (by rfl) (fun K Q h => wp_store1 23 _ _ rfl (w.heap.size + 3) (.int .i64 ze) _ _ rfl rfl hc7.2.2.2.1 (by kernel_rfl) rfl rfl h) ⟨hc8, hK8⟩ _ rfl ?_
    refine wpAnyH_done (by kernel_rfl) ?_ _
    refine NoPanic.normal ?_
    go_wp2_with fail
    have hmk := (Marks.nil _ w.heap.size).cons (r := D) (by omega) hK8 (by simp)
    have hsl := hc8.2.2.2.2.2.2.2.1.sl
    refine leaves_marks (B := w.heap.size) (v := .tuple #[.string ⟨zp.toArray⟩, .slice A zl.length cap, .int .i64 zu, .int .i64 ze]) [D] _ hmk fun W' hs => ⟨results_tccc (fn := Try.f15) rfl _ W' _ _ _ _ _ _ _ _ _ _ _ _ rfl (hs.blk hc8.2.1) Try.underlying33 rfl rfl (hs.blk hc8.2.2.1) Try.underlying3 rfl rfl (hs.blk hc8.2.2.2.1) Try.underlying23 rfl, ⟨⟨A, cap, rfl, by rw [hs.size]; exact hs.sl hsl⟩, hs.below hc8.2.2.2.2.2.2.2.2⟩⟩
end Go.Proofs.Ytfcbbolokhcknaa
