/- Walk: crc.Bits. -/
import Derived.Test.YtfehmjiahefnjaaW10
import Derived.Test.YtfehmjiahefnjaaRange
namespace Go.Proofs.Ytfehmjiahefnjaa
open Go.RowKit Go.Shelf
attribute [local go_sem] Oper.semAt_some

theorem bits_any (d : Nat) (w : World) : Calls Try.prog 39 #[.int .u8 d] w fun e w' => e = .returned (.func (.func 41) #[] #[.pointer (some ⟨w.heap.size, 0, none⟩)]) ∧ w.alloc (.cells #[.int .u8 d] 5) = w' := by
  go_enter Try.func39, Try.ntmps39
  go_wp2
  go_ret
  exact ⟨rfl, rfl⟩
/-- The numbers below m of the bits that are set in d. -/
def bitsN (d m : Nat) : List Int := ((List.range m).filter fun k => decide (d / 2 ^ k % 2 = 1)).map Int.ofNat
/-- The bits in which two lists differ, in their first k bytes. -/
def diffTo (a b : List UInt8) : Nat → List Int
  | 0 => []
  | k + 1 => diffTo a b k ++ (bitsN ((a.getD k 0).toNat ^^^ (b.getD k 0).toNat) 8).map fun j => 8 * (k : Int) + j
theorem bitsN_len (d m : Nat) : (bitsN d m).length ≤ m := by
  unfold bitsN; rw [List.length_map]; exact Nat.le_trans (List.length_filter_le _ _) (by simp)
theorem diffTo_len (a b : List UInt8) : ∀ k, (diffTo a b k).length ≤ 8 * k
  | 0 => Nat.le_refl _
  | k + 1 => by
    have := diffTo_len a b k
    have h2 := bitsN_len ((a.getD k 0).toNat ^^^ (b.getD k 0).toNat) 8
    simp only [diffTo, List.length_append, List.length_map]; omega
/-- What holds at the head of each round of Bits' loop. -/
def BitsInv (a b : List UInt8) (w : World) (a' : Act) (w' : World) : Prop :=
  ∃ (k : Nat) (rs : List Nat) (A : Option Addr) (cap : Nat) (u7 u8 u17 u18 u19 u20 u21 u22 u23 u24 u25 u26 u27 u28 u29 u30 u31 u32 u33 u34 u35 : Value), a' = { tmps := #[.string ⟨a.toArray⟩, .string ⟨b.toArray⟩, undef, undef, .slice none 0 0, .int .i64 0, .pointer (some ⟨w.heap.size, 0, none⟩), u7, u8, .string ⟨a.toArray⟩, .int .i64 a.length, .string ⟨b.toArray⟩, .int .i64 b.length, .bool false, .string ⟨a.toArray⟩, .int .i64 a.length, .int .i64 k, u17, u18, u19, u20, u21, u22, u23, u24, u25, u26, u27, u28, u29, u30, u31, u32, u33, u34, u35, undef], defers := rs.map mrk } ∧ k ≤ a.length ∧ Marks w' w.heap.size rs ∧
    Blk w' w.heap.size 36 #[.slice A (diffTo a b k).length cap] ∧ Own w' (w.heap.size + 1) 3 1 A (diffTo a b k).length cap ((diffTo a b k).map intV) ∧ Below w.heap.size w w'
/-- What holds while the bits of one byte come. -/
def BitsIt (a b : List UInt8) (k d : Nat) (w : World) (s : Nat) (rs : List Nat) (rec : Loop) (j : Nat) (W : World) : Prop :=
  ∃ (A : Option Addr) (cap : Nat), W.heap[s + 2 + 1]? = some (.loop rec) ∧ W.heap[s + 2]? = some (.deferred (some [])) ∧ Marks W w.heap.size rs ∧
    Blk W w.heap.size 36 #[.slice A ((diffTo a b k).length + (bitsN d j).length) cap] ∧ Own W (w.heap.size + 1) 3 1 A ((diffTo a b k).length + (bitsN d j).length) cap ((diffTo a b k ++ (bitsN d j).map fun x => 8 * (k : Int) + x).map intV) ∧
    Blk W s 3 #[.int .i64 k] ∧ Blk W (s + 1) 5 #[.int .u8 d] ∧ Below w.heap.size w W ∧ some s ≠ blockOf A cap ∧ some (s + 1) ≠ blockOf A cap
theorem bit_u8 (d j : Nat) (hd : d < 256) : bits .and .u8 ((d : Int) / 2 ^ j) 1 = ((d / 2 ^ j % 2 : Nat) : Int) := by
  have h1 : d / 2 ^ j < 256 := Nat.lt_of_le_of_lt (Nat.div_le_self _ _) hd
  have e := u8_and_nat (d / 2 ^ j) 1 h1 (by decide)
  rw [nat_mask1] at e
  have e2 : ((d / 2 ^ j : Nat) : Int) = (d : Int) / 2 ^ j := by simp
  rw [e2] at e
  exact e
theorem bitsN_hit {d j : Nat} (h : d / 2 ^ j % 2 = 1) : bitsN d (j + 1) = bitsN d j ++ [(j : Int)] := by
  unfold bitsN; rw [List.range_succ, List.filter_append]; simp [h]
theorem bitsN_miss {d j : Nat} (h : ¬ d / 2 ^ j % 2 = 1) : bitsN d (j + 1) = bitsN d j := by
  unfold bitsN; rw [List.range_succ, List.filter_append]; simp [h]
set_option maxHeartbeats 1600000 in
theorem Bits_any (a b : List UInt8) (w : World) (hl : a.length = b.length) (h2 : a.length ≤ 30000) :
    Calls Try.prog 31 #[.string ⟨a.toArray⟩, .string ⟨b.toArray⟩] w fun e w' => (∃ A cap, e = .returned (.tuple #[.slice A (diffTo a b a.length).length cap, .int .i64 0]) ∧ Sl w' w'.heap.size 1 A (diffTo a b a.length).length cap ((diffTo a b a.length).map intV)) ∧ Below w.heap.size w w' := by
  have hb : ((a.length : Int) != (b.length : Int)) = false := by rw [hl]; simp
  have HL := Lib.hid hl; clear hl
  refine calls_of_wpM Try.func31 rfl ?_
  simp only [Try.ntmps31, List.size_toArray, List.length_cons, List.length_nil, Nat.reduceAdd, Nat.reduceSub, Array.replicate_succ, Array.replicate_zero, List.push_toArray, List.append_toArray, List.nil_append, List.cons_append]
  go_wp2_with fail
  refine wp_loop (BitsInv a b w) (fun a' _ => a.length - (intOf (a'.tmps.getD 16 undef)).toNat) ?_ ?_
  · exact ⟨0, [], none, 0, undef, undef, undef, undef, undef, undef, undef, undef, undef, undef, undef, undef, undef, undef, undef, undef, undef, undef, undef, undef, undef, rfl, Nat.zero_le _, Marks.nil _ _, Blk.new _ _ _, (Own.nil _ _ _ _), (Below.refl _ _).alloc (Nat.le_refl _) _⟩
  · rintro a' wo ⟨k, rs, A, cap, u7, u8, u17, u18, u19, u20, u21, u22, u23, u24, u25, u26, u27, u28, u29, u30, u31, u32, u33, u34, u35, rfl, hk, hmk, hout, hown, hbel⟩
    have hsz := hbel.size
    have hsz1 : w.heap.size < wo.heap.size := hout.lt
    have hmkO := hmk
    by_cases hlt : k < a.length
    · have hlb : k < b.length := by have := HL.out; omega
      have hx := u8_xor_nat a[k].toNat b[k].toNat a[k].toNat_lt b[k].toNat_lt
      have hd : a[k].toNat ^^^ b[k].toNat < 256 := Nat.xor_lt_two_pow (n := 8) a[k].toNat_lt b[k].toNat_lt
      have HD := Lib.hid (show diffTo a b (k + 1) = diffTo a b k ++ (bitsN (a[k].toNat ^^^ b[k].toNat) 8).map fun j => 8 * (k : Int) + j by
        simp [diffTo, hlt, hlb])
      have hm8 := diffTo_len a b k
      have hxa : a[k].toNat < 256 := a[k].toNat_lt
      have hxb : b[k].toNat < 256 := b[k].toNat_lt
      generalize a[k].toNat ^^^ b[k].toNat = d at *
      go_wp2_with fail
      have hoi := Blk.new wo 3 #[.int .i64 k]
      have hout2 := hout.alloc (.cells #[.int .i64 k] 3)
      have hown2 := hown.alloc (.cells #[.int .i64 k] 3)
      have hmk2 := hmk.keep (W' := wo.alloc (.cells #[.int .i64 k] 3)) fun r hr => Below.heap_alloc _ _ _ (hmk.lt hr)
      have hbel2 := hbel.alloc hsz (.cells #[.int .i64 k] 3)
      have hsz2 : (wo.alloc (.cells #[.int .i64 k] 3)).heap.size = wo.heap.size + 1 := by simp
      clear hout hmk hbel
      generalize wo.alloc (.cells #[.int .i64 k] 3) = wi at *
      have hci : wi.cell? ⟨wo.heap.size, 0, none⟩ = some (.int .i64 k) := hoi.cell 0
      go_still_tail 7, (by kernel_rfl)
      change wpList _ _ _ _ _ wi.drew
      have hoi3 := hoi.drew
      have hout3 := hout2.drew
      have hown3 := hown2.drew
      have hmk3 : Marks wi.drew w.heap.size rs := hmk2
      have hbel3 := hbel2.drew
      have hsz3 : wi.drew.heap.size = wo.heap.size + 1 := hsz2
      clear hoi hout2 hown2 hmk2 hbel2 hsz2 hci
      generalize wi.drew = wd at *
      go_wp2_with (go_at_call 39; refine (bits_any d _).mono ?_; rintro e w2 ⟨rfl, rfl⟩)
      have hob := Blk.new wd 5 #[.int .u8 d]
      have hoi4 := hoi3.alloc (.cells #[.int .u8 d] 5)
      have hout4 := hout3.alloc (.cells #[.int .u8 d] 5)
      have hown4 := hown3.alloc (.cells #[.int .u8 d] 5)
      have hmk4 := hmk3.keep (W' := wd.alloc (.cells #[.int .u8 d] 5)) fun r hr => Below.heap_alloc _ _ _ (hmk3.lt hr)
      have hbel4 := hbel3.alloc (by omega) (.cells #[.int .u8 d] 5)
      have hsz4 : (wd.alloc (.cells #[.int .u8 d] 5)).heap.size = wo.heap.size + 2 := by simp; omega
      rw [hsz3] at hob
      clear hoi3 hout3 hown3 hmk3 hbel3
      generalize wd.alloc (.cells #[.int .u8 d] 5) = wj at *
      refine wp_range rfl (enters_of Try.func41 (by kernel_rfl) rfl) fun fn => ?_
      rw [hsz4]
      have hl1 : ∀ rc : Loop, ((wj.alloc (.deferred (some []))).alloc (.loop rc)).heap[wo.heap.size + 2 + 1]? = some (.loop rc) := fun rc => by
        have := heap_alloc2_new wj (.deferred (some [])) (.loop rc); rw [hsz4] at this; exact this
      have hD1 : ∀ rc : Loop, ((wj.alloc (.deferred (some []))).alloc (.loop rc)).heap[wo.heap.size + 2]? = some (.deferred (some [])) := fun rc => by
        have := heap_alloc2_old wj (.deferred (some [])) (.loop rc); rw [hsz4] at this; exact this
      generalize hrc : recOf fn _ #[27] _ _ (wo.heap.size + 2) = rc
      have hb5 := ((hbel4.alloc (by omega) (.deferred (some []))).alloc (by simp; omega) (.loop (rc .ready none)))
      have hm5 := (hmk4.keep (W' := wj.alloc (.deferred (some []))) fun r hr => Below.heap_alloc _ _ _ (hmk4.lt hr))
      have hm6 := hm5.keep (W' := (wj.alloc (.deferred (some []))).alloc (.loop (rc .ready none))) fun r hr => Below.heap_alloc _ _ _ (hm5.lt hr)
      have ho5 := (hout4.alloc (.deferred (some []))).alloc (.loop (rc .ready none))
      have hw5 := (hown4.alloc (.deferred (some []))).alloc (.loop (rc .ready none))
      have hi5 := (hoi4.alloc (.deferred (some []))).alloc (.loop (rc .ready none))
      have hbb5 := (hob.alloc (.deferred (some []))).alloc (.loop (rc .ready none))
      have hl5 := hl1 (rc .ready none)
      have hD5 := hD1 (rc .ready none)
      clear hm5 hl1 hD1 hbel4 hmk4 hout4 hown4 hoi4 hob
      generalize (wj.alloc (.deferred (some []))).alloc (.loop (rc .ready none)) = W1 at *
      refine callsIn_of_wp Try.func41 rfl trivial ?_ rfl
      simp only [Try.ntmps41, List.size_toArray, List.length_cons, List.length_nil, Nat.reduceAdd, Nat.reduceSub, Array.replicate_succ, Array.replicate_zero, List.push_toArray, List.append_toArray, List.nil_append, List.cons_append]
      gi_wp2
      gi_loopw [4] (fun i W => ∃ (j : Nat), j ≤ 8 ∧ i = .int .i64 j ∧ BitsIt a b k d w wo.heap.size rs (rc .ready none) j W) (fun i _ => 8 - (intOf i).toNat)
      case atStart => exact ⟨0, Nat.zero_le _, rfl, _, _, hl5, hD5, hm6, by simpa [bitsN] using ho5, by simpa [bitsN] using hw5, hi5, hbb5, hb5, fun e => by have := (hown.lt e.symm).2; omega, fun e => by have := (hown.lt e.symm).2; omega⟩
      case round =>
        obtain ⟨j, hj, rfl, hit⟩ := hrel
        clear hl5 hD5 ho5 hw5 hi5 hbb5 hb5
        by_cases hj8 : j < 8
        · obtain ⟨A2, cap2, hl6, hD6, hm6, ho6, hw6, hi6, hb6, hB6, hn1, hn2⟩ := hit
          have hcb : wr.cell? ⟨wo.heap.size + 1, 0, none⟩ = some (.int .u8 d) := hb6.cell 0
          have hbit := bit_u8 d j hd
          by_cases hset : d / 2 ^ j % 2 = 1
          · rw [hset] at hbit
            obtain ⟨Post, hPost⟩ : ∃ Post : World → Prop, Post = BitsIt a b k d w wo.heap.size rs (rc .ready none) (j + 1) := ⟨_, rfl⟩
            have HP := Lib.hid hPost; clear hPost
            have HB := Lib.hid (bitsN_hit hset)
            have hY : ∃ f1 t1 a1 b1, (Instr.yield (wo.heap.size + 2 + 1) #[.int .i64 j]).run Try.prog wr = .ok (.round (wo.heap.size + 2 + 1) f1 t1 a1 b1) wr ∧
                RoundIn Fence.wide 0 Try.prog (wo.heap.size + 2 + 1) f1 t1 a1 b1 wr (fun e W' => e = .returned (.bool true) ∧ Post W') := by
              refine ⟨_, _, _, _, run_yield hl6 (by rw [← hrc]; rfl), ?_⟩
              have hst : (rc .ready none).state = .ready := by rw [← hrc]; rfl
              have hbr := run_beginRound (P := Try.prog) hl6 hst
              rw [← hrc]
              refine roundIn_of_wpIn trivial ?_
              simp only [recOf, List.zip_toArray, List.zip_cons_cons, List.zip_nil_left, List.size_toArray, List.length_cons, List.length_nil, Nat.reduceAdd]
              gi_wp2
              refine ⟨_, hbr, ?_⟩
              have hrb : ∀ o, Blk (wr.putObj (wo.heap.size + 2 + 1) o) w.heap.size 36 #[.slice A2 ((diffTo a b k).length + (bitsN d j).length) cap2] := fun o => ho6.put hl6 o
              have hW : ∀ o, Own (wr.putObj (wo.heap.size + 2 + 1) o) (w.heap.size + 1) 3 1 A2 ((diffTo a b k).length + (bitsN d j).length) cap2 ((diffTo a b k ++ (bitsN d j).map fun x => 8 * (k : Int) + x).map intV) := fun o => hw6.put hl6 o
              have hI : ∀ o, Blk (wr.putObj (wo.heap.size + 2 + 1) o) wo.heap.size 3 #[.int .i64 k] := fun o => hi6.put hl6 o
              have hBB : ∀ o, Blk (wr.putObj (wo.heap.size + 2 + 1) o) (wo.heap.size + 1) 5 #[.int .u8 d] := fun o => hb6.put hl6 o
              have hM : ∀ o, Marks (wr.putObj (wo.heap.size + 2 + 1) o) w.heap.size rs := fun o => hm6.put hl6 o
              have hBel : ∀ o, Below w.heap.size w (wr.putObj (wo.heap.size + 2 + 1) o) := fun o => below_put hB6 (by omega) hB6.size o
              have hSelf : ∀ o, (wr.putObj (wo.heap.size + 2 + 1) o).heap[wo.heap.size + 2 + 1]? = some o := fun o => put_self hl6 o
              have hDD : ∀ o, (wr.putObj (wo.heap.size + 2 + 1) o).heap[wo.heap.size + 2]? = some (.deferred (some [])) := fun o => put_other hl6 hD6 (fun _ => by simp)
              obtain ⟨rb, hrb2⟩ : ∃ rb, rb = ({ rc .ready none with state := .busy } : Loop) := ⟨_, rfl⟩
              rw [← hrb2] at hbr ⊢
              have h1 := hrb (.loop rb)
              have h2' := hW (.loop rb)
              have h3 := hI (.loop rb)
              have h4 := hBB (.loop rb)
              have h5 := hM (.loop rb)
              have h6 := hBel (.loop rb)
              have h7 := hSelf (.loop rb)
              have h8 := hDD (.loop rb)
              clear hrb hW hI hBB hM hBel hSelf hDD hcb hl6 hD6 ho6 hw6 hi6 hb6 hm6 hbr hst
              have hszr : w.heap.size + 1 ≤ (wr.putObj (wo.heap.size + 2 + 1) (.loop rb)).heap.size := by have := (Array.getElem?_eq_some_iff.1 h7).1; omega
              generalize wr.putObj (wo.heap.size + 2 + 1) (.loop rb) = W3 at *
              have hc1 : W3.cell? ⟨w.heap.size, 0, none⟩ = some (.slice A2 ((diffTo a b k).length + (bitsN d j).length) cap2) := h1.cell 0
              have hf1 : W3.frozen? ⟨w.heap.size, 0, none⟩ = false := h1.frozen (by simp)
              have hc3 : W3.cell? ⟨wo.heap.size, 0, none⟩ = some (.int .i64 k) := h3.cell 0
              have HR1 := Lib.hid hrc; clear hrc
              have HR2 := Lib.hid hrb2; clear hrb2
              have hbl := bitsN_len d j
              have hk3 : k ≤ 30000 := by omega
              clear hset
              obtain ⟨i0, hi0, hz0, hz1, hz2⟩ := info_parts infoI
              gi_wp2_with (gi_at_builtin; refine wpListIn_append_new rfl _ _ _ rfl (w.heap.size + 1) 3 i0 _ 1 8 Try.underlying36 hi0 hz0 hz1 hz2 rfl (by decide) rfl h2' #[.int .i64 (8 * (k : Int) + j)] rfl rfl (by simp [Value.oneCell']) (by simp only [maxLen]; omega) (by omega) hszr ?_; intro A4 cap4 W4 hown4 hg4 hat4
                           have h14 := h1.grown hg4 (h2'.ne (by omega))
                           have hc4 := h14.cell 0
                           have hf4 := h14.frozen (i := 0) (by simp))
              have h34 := h3.grown hg4 hn1
              have h44 := h4.grown hg4 hn2
              have h54 := h2'.growMarks hg4 h5
              have h64 := grown_below h6 (h2'.base (Nat.le_succ _)) hg4 (by omega)
              have h74 := h2'.growObj hg4 h7 (fun _ _ _ => by simp)
              have h84 := h2'.growObj hg4 h8 (fun _ _ _ => by simp)
              have hs4 := hg4.size
              have g1 := h14.set 0 (.slice A4 ((diffTo a b k).length + (bitsN d j).length + 1) cap4)
              have g2 := hown4.far (p := ⟨w.heap.size, 0, none⟩) (Nat.lt_succ_self _) (.slice A4 ((diffTo a b k).length + (bitsN d j).length + 1) cap4)
              have g3 := h34.far (p := ⟨w.heap.size, 0, none⟩) (by simp; omega) (.slice A4 ((diffTo a b k).length + (bitsN d j).length + 1) cap4)
              have g4 := h44.far (p := ⟨w.heap.size, 0, none⟩) (by simp; omega) (.slice A4 ((diffTo a b k).length + (bitsN d j).length + 1) cap4)
              have g5 := setCell_marks (p := ⟨w.heap.size, 0, none⟩) (v := .slice A4 ((diffTo a b k).length + (bitsN d j).length + 1) cap4) h54 h14
              have g6 := h64.setCell (p := ⟨w.heap.size, 0, none⟩) (Nat.le_refl _) (.slice A4 ((diffTo a b k).length + (bitsN d j).length + 1) cap4)
              have g7 := setCell_obj (p := ⟨w.heap.size, 0, none⟩) (v := .slice A4 ((diffTo a b k).length + (bitsN d j).length + 1) cap4) h74 (by simp; omega)
              have g8 := setCell_obj (p := ⟨w.heap.size, 0, none⟩) (v := .slice A4 ((diffTo a b k).length + (bitsN d j).length + 1) cap4) h84 (by simp; omega)
              generalize W4.setCell ⟨w.heap.size, 0, none⟩ (.slice A4 ((diffTo a b k).length + (bitsN d j).length + 1) cap4) = W5 at *
              refine ⟨_, _, run_endRound none g7, rfl, ?_⟩
              rw [HP.out]
              have hrec : ({ rb with state := if (none : Option Code).isNone then .ready else .done, pending := none } : Loop) = rc .ready none := by rw [HR2.out, ← HR1.out]; rfl
              rw [hrec]
              have hlen : (bitsN d (j + 1)).length = (bitsN d j).length + 1 := by rw [HB.out]; simp
              have hls : (diffTo a b k ++ (bitsN d (j + 1)).map fun x => 8 * (k : Int) + x).map intV = (diffTo a b k ++ (bitsN d j).map fun x => 8 * (k : Int) + x).map intV ++ [Value.int .i64 (8 * (k : Int) + j)] := by
                rw [HB.out]; simp [intV]
              refine ⟨A4, cap4, put_self g7 _, put_other g7 g8 (fun _ => by simp), g5.put g7 _, ?_, ?_, g3.put g7 _, g4.put g7 _, below_put g6 (by omega) g6.size _, ?_, ?_⟩
              · rw [hlen]; exact g1.put g7 _
              · rw [hlen, hls]; exact g2.put g7 _
              · rcases hat4 with e | e <;> rw [e]
                · exact hn1
                · intro h; injection h with h; have := (Array.getElem?_eq_some_iff.1 h7).1; omega
              · rcases hat4 with e | e <;> rw [e]
                · exact hn2
                · intro h; injection h with h; have := (Array.getElem?_eq_some_iff.1 h7).1; omega
            obtain ⟨f1, t1, a1, b1, hy, hR⟩ := hY
            have HR := Lib.hid hR; clear hR hset
            gi_wp2
            refine ⟨rfl, HR.out.mono ?_⟩
            rintro e W2 ⟨rfl, hit2⟩
            rw [HP.out] at hit2
            gi_wp2
            go_roundw
            case rel => exact ⟨j + 1, by omega, by go_num, hit2⟩
            case measure => simp [intOf]; omega
          · have hz : d / 2 ^ j % 2 = 0 := by omega
            rw [hz] at hbit
            have HM := Lib.hid (bitsN_miss hset); clear hset hz
            gi_wp2
            refine ⟨fun _ h => (by cases h), ?_⟩
            gi_wp2
            go_roundw
            case rel => exact ⟨j + 1, by omega, by go_num, A2, cap2, hl6, hD6, hm6, by rw [HM.out]; exact ho6, by rw [HM.out]; exact hw6, hi6, hb6, hB6, hn1, hn2⟩
            case measure => simp [intOf]; omega
        · obtain ⟨A2, cap2, hl6, hD6, hm6, ho6, hw6, hi6, hb6, hB6, hn1, hn2⟩ := hit
          obtain rfl : j = 8 := by omega
          have hpd : (rc .ready none).pending = none := by rw [← hrc]; rfl
          have hend := run_endLoop (P := Try.prog) hl6 (by rw [← hrc]; simp [recOf])
          have HEnd := Lib.hid hend; clear hend
          have HPD := Lib.hid hpd; clear hpd
          have HR1 := Lib.hid hrc; clear hrc
          gi_wp2
          go_end0
          refine ⟨_, _, HEnd.out, ?_⟩
          have g1 := ho6.put hl6 (.loop { rc .ready none with state := .exhausted })
          have g2 := hw6.put hl6 (.loop { rc .ready none with state := .exhausted })
          have g5 := hm6.put hl6 (.loop { rc .ready none with state := .exhausted })
          have g6 := below_put (l := wo.heap.size + 2 + 1) hB6 (by omega) hB6.size (.loop { rc .ready none with state := .exhausted })
          have g8 := put_other (o' := .loop { rc .ready none with state := .exhausted }) hl6 hD6 (fun _ => by simp)
          have hnot : wo.heap.size + 2 ∉ rs := fun h => by have := hmkO.lt h; omega
          have g9 := g5.cons (r := wo.heap.size + 2) (by omega) g8 hnot
          clear HEnd
          generalize wr.putObj (wo.heap.size + 2 + 1) (.loop { rc .ready none with state := .exhausted }) = W9 at *
          rw [HPD.out]
          simp only []
          go_wp2
          refine ⟨⟨k + 1, (wo.heap.size + 2) :: rs, A2, cap2, _, _, _, _, _, _, _, _, _, _, _, _, _, _, _, _, _, _, _, _, _, rfl, by omega, g9, ?_, ?_, g6⟩, ?_⟩
          · rw [HD.out]; simpa using g1
          · rw [HD.out]; simpa using g2
          · simp [intOf]; omega
    · obtain rfl : k = a.length := by omega
      have hco := hout.cell 0
      go_wp2
      have hsl := hown.sl
      exact leaves_marks (B := w.heap.size) (v := .tuple #[.slice A (diffTo a b a.length).length cap, .int .i64 0]) rs wo hmk fun W' hs => ⟨results_tmp2 (fn := Try.f31) (t := 4) (u := 5) rfl _ Try.prog W', ⟨A, cap, rfl, by rw [hs.size]; exact hs.sl hsl⟩, hs.below hbel⟩
theorem Bits_ne (a b : List UInt8) (w : World) (hl : a.length ≠ b.length) :
    Calls Try.prog 31 #[.string ⟨a.toArray⟩, .string ⟨b.toArray⟩] w fun e w' => e = .returned (.tuple #[.slice none 0 0, .int .i64 2]) ∧ w = w' := by
  have hb : ((a.length : Int) != (b.length : Int)) = true := by rw [bne_iff_ne]; omega
  clear hl
  go_enter Try.func31, Try.ntmps31
  go_wp2
  go_ret2
  exact ⟨rfl, rfl⟩
end Go.Proofs.Ytfehmjiahefnjaa
