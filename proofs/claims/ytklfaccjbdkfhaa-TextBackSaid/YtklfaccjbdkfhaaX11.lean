/- The iterator over the lexemes of a text. No condition. -/
import Derived.Test.YtklfaccjbdkfhaaX10
import Derived.Test.YtklfaccjbdkfhaaRx
import Derived.Test.YtklfaccjbdkfhaaRange
namespace Go.Proofs.Ytklfaccjbdkfhaa
open Go.RowKit Go.Shelf
attribute [local go_sem] Oper.semAt_some
theorem each_any (s : List UInt8) (w : World) :
    Calls Try.prog 32 #[.string ⟨s.toArray⟩] w fun e w' => e = .returned (.func (.func 37) #[] #[.pointer (some ⟨w.heap.size, 0, none⟩)]) ∧ w' = w.alloc (.cells #[.string ⟨s.toArray⟩] 9) := by
  go_enter Try.func32, Try.ntmps32
  go_wp2
  go_ret
  exact ⟨rfl, rfl⟩
def nxEnc (s : List UInt8) (x : Nx) : Array Value := #[nxX x s, nxF x]
theorem seqR_succ (s : List UInt8) (f o : Nat) (e a : Nat) (h : nextL s o = .fault e a) : seqR s (f + 1) o = [.fault e a] := by unfold seqR; rw [h]
theorem seqR_lex (s : List UInt8) (f o : Nat) (k n g : Nat) (h : nextL s o = .lex k n g) : seqR s (f + 1) o = .lex k n g :: seqR s f (g + n) := by rw [seqR, h]
/-- What a round that goes on keeps. -/
def eachK (W W' : World) : Prop := KT 59 W W' ∧ KT 26 W W'
set_option maxRecDepth 100000 in
set_option maxHeartbeats 3200000 in
theorem each_seq (Bs : Nat) (s : List UInt8) (hl : s.length ≤ 30000) (w : World) (hBs : w.cell? ⟨Bs, 0, none⟩ = some (.string ⟨s.toArray⟩)) :
    SeqX Try.prog 37 #[.pointer (some ⟨Bs, 0, none⟩)] (nxEnc s) 59 eachK (fun ys => ys = seqR s (s.length + 2) 0) (fun pre => ∃ rest, pre ++ rest = seqR s (s.length + 2) 0) (s.length + 2) w := fun loop J Jx W hW hJ hJx hY h0 => by
  have hBs' : W.cell? ⟨Bs, 0, none⟩ = some (.string ⟨s.toArray⟩) := (hW.cell (p := ⟨Bs, 0, none⟩) (block_lt_of_cell hBs)).trans hBs
  have HF := Lib.hid (fun k g W hb hk er fa h => next_fault s k g W hb hk hl er fa h)
  have HLx := Lib.hid (fun k g W hb hk kd n f h => next_lexeme s k g W hb hk hl kd n f h)
  have HY := Lib.hid hY
  have HJ := Lib.hid hJ
  have HJx := Lib.hid hJx
  clear hY hJ hJx
  refine callsIn_of_wp Try.func37 rfl trivial ?_ rfl
  simp only [Try.ntmps37, List.size_toArray, List.length_cons, List.length_nil, Nat.reduceAdd, Nat.reduceSub, Array.replicate_succ, Array.replicate_zero, List.push_toArray, List.append_toArray, List.nil_append, List.cons_append]
  have hC0 : Cu (W.alloc (.cells #[.string ⟨s.toArray⟩, .int .i64 0] 59)) W.heap.size s 0 := Blk.new W _ _
  have hJ0 := HJ.out.alloc h0 (.cells #[.string ⟨s.toArray⟩, .int .i64 0] 59)
  have hsz0 : W.heap.size < (W.alloc (.cells #[.string ⟨s.toArray⟩, .int .i64 0] 59)).heap.size := by simp
  gi_wp2
  gi_loopw [10] (fun _ V => ∃ (pre : List Nx) (o f : Nat), o ≤ s.length ∧ s.length - o < f ∧ pre.length + f ≤ s.length + 2 ∧ pre ++ seqR s f o = seqR s (s.length + 2) 0 ∧ J pre V ∧ Cu V W.heap.size s o) (fun _ V => s.length - curAt V W.heap.size)
  case atStart => exact ⟨[], 0, s.length + 2, Nat.zero_le _, by omega, by simp, rfl, hJ0, hC0⟩
  case round =>
    obtain ⟨pre, o, f, ho, hf, hpf, hseq, hJp, hC⟩ := hrel
    clear hC0 hJ0 hsz0 hBs' h0
    obtain ⟨f, rfl⟩ : ∃ f', f = f' + 1 := ⟨f - 1, by omega⟩
    have hcur := Lib.hid hC.curAt
    rcases nextL_cases s o ho with ⟨e, _⟩ | ⟨b, e, _⟩ | ⟨kd, n, g, e, h1, h2, h3, hrest⟩
    · have hN := Lib.hid (HF.out o W.heap.size wr hC ho 5 s.length e)
      have hsq := Lib.hid ((congrArg (pre ++ ·) (seqR_succ s f o _ _ e)).symm.trans hseq)
      have HYx := Lib.hid (fun V (h : J pre V) => HY.out pre (.fault 5 s.length) V h (by omega))
      rw [show nxEnc s (.fault 5 s.length) = #[.agg #[.int .i64 0, .string ⟨#[]⟩, .int .i64 0], .agg #[.int .i64 5, .int .i64 (s.length : Nat)]] from rfl] at HYx
      clear hseq e HLx HF
      gi_wp2
      refine ⟨trivial, rfl, (callsIn_wide.2 hN.out).mono ?_⟩
      rintro e w3 ⟨rfl, ⟨m3, hm3, hC3⟩, hG3⟩
      have hJ3 := HJ.out.alloc (HJ.out.alloc (HJ.out.own hJp hG3 (Nat.le_refl _) hC) (.cells #[.int .i64 0, .string ⟨#[]⟩, .int .i64 0] 31)) (.cells #[.int .i64 5, .int .i64 (s.length : Nat)] 26)
      have hF4 := Blk.newAt (w3.alloc (.cells #[.int .i64 0, .string ⟨#[]⟩, .int .i64 0] 31)) 26 #[.int .i64 5, .int .i64 (s.length : Nat)] (g := w3.heap.size + 1) (by simp)
      obtain ⟨fn, tmps, assign, body, hy, hR⟩ := HYx.out _ hJ3
      have HR := Lib.hid hR
      have HF4 := Lib.hid hF4
      clear hR hJ3 hF4 hJp hC hG3 hC3 HYx hN
      gi_wp2
      refine ⟨rfl, HR.out.mono ?_⟩
      rintro e W5 (⟨rfl, hJ5, hk5, hk6⟩ | ⟨rfl, hJx5⟩)
      · have hF5 := hk6 _ _ HF4.out
        obtain ⟨p0, p1, r0, r1⟩ := cells2 hF5
        clear HF4 hF5 hk5 hk6 HR
        gi_wp2
        refine bodyPost_ret (results_none rfl _ _ _) rfl ?_
        exact ⟨⟨_, rfl⟩, .inl ⟨_, hsq.out, hJ5⟩⟩
      · clear HF4 HR
        gi_wp2
        refine bodyPost_ret (results_none rfl _ _ _) rfl ?_
        exact ⟨⟨_, rfl⟩, .inr ⟨_, ⟨[], by rw [List.append_nil]; exact hsq.out⟩, hJx5⟩⟩
    · have hN := Lib.hid (HF.out o W.heap.size wr hC ho 3 b e)
      have hsq := Lib.hid ((congrArg (pre ++ ·) (seqR_succ s f o _ _ e)).symm.trans hseq)
      have HYx := Lib.hid (fun V (h : J pre V) => HY.out pre (.fault 3 b) V h (by omega))
      rw [show nxEnc s (.fault 3 b) = #[.agg #[.int .i64 0, .string ⟨#[]⟩, .int .i64 0], .agg #[.int .i64 3, .int .i64 (b : Nat)]] from rfl] at HYx
      clear hseq e HLx HF
      gi_wp2
      refine ⟨trivial, rfl, (callsIn_wide.2 hN.out).mono ?_⟩
      rintro e w3 ⟨rfl, ⟨m3, hm3, hC3⟩, hG3⟩
      have hJ3 := HJ.out.alloc (HJ.out.alloc (HJ.out.own hJp hG3 (Nat.le_refl _) hC) (.cells #[.int .i64 0, .string ⟨#[]⟩, .int .i64 0] 31)) (.cells #[.int .i64 3, .int .i64 (b : Nat)] 26)
      have hF4 := Blk.newAt (w3.alloc (.cells #[.int .i64 0, .string ⟨#[]⟩, .int .i64 0] 31)) 26 #[.int .i64 3, .int .i64 (b : Nat)] (g := w3.heap.size + 1) (by simp)
      obtain ⟨fn, tmps, assign, body, hy, hR⟩ := HYx.out _ hJ3
      have HR := Lib.hid hR
      have HF4 := Lib.hid hF4
      clear hR hJ3 hF4 hJp hC hG3 hC3 HYx hN
      gi_wp2
      refine ⟨rfl, HR.out.mono ?_⟩
      rintro e W5 (⟨rfl, hJ5, hk5, hk6⟩ | ⟨rfl, hJx5⟩)
      · have hF5 := hk6 _ _ HF4.out
        obtain ⟨p0, p1, r0, r1⟩ := cells2 hF5
        clear HF4 hF5 hk5 hk6 HR
        gi_wp2
        refine bodyPost_ret (results_none rfl _ _ _) rfl ?_
        exact ⟨⟨_, rfl⟩, .inl ⟨_, hsq.out, hJ5⟩⟩
      · clear HF4 HR
        gi_wp2
        refine bodyPost_ret (results_none rfl _ _ _) rfl ?_
        exact ⟨⟨_, rfl⟩, .inr ⟨_, ⟨[], by rw [List.append_nil]; exact hsq.out⟩, hJx5⟩⟩
    · have hN := Lib.hid (HLx.out o W.heap.size wr hC ho kd n g e)
      have hsq := Lib.hid ((congrArg (pre ++ ·) (seqR_lex s f o kd n g e)).symm.trans hseq)
      have hx : nxEnc s (.lex kd n g) = #[.agg #[.int .i64 kd, .string ⟨((s.drop g).take n).toArray⟩, .int .i64 g], .agg #[.int .i64 0, .int .i64 0]] := rfl
      have HYx := Lib.hid (fun V (h : J pre V) => HY.out pre (.lex kd n g) V h (by omega))
      rw [hx] at HYx
      generalize (s.drop g).take n = tx at *
      clear hseq e hx HLx HF hrest
      gi_wp2
      refine ⟨trivial, rfl, (callsIn_wide.2 hN.out).mono ?_⟩
      rintro e w3 ⟨rfl, hC3, hG3⟩
      have hJ3 := HJ.out.alloc (HJ.out.alloc (HJ.out.own hJp hG3 (Nat.le_refl _) hC) (.cells #[.int .i64 kd, .string ⟨tx.toArray⟩, .int .i64 g] 31)) (.cells #[.int .i64 0, .int .i64 0] 26)
      have hC4 : Cu ((w3.alloc (.cells #[.int .i64 kd, .string ⟨tx.toArray⟩, .int .i64 g] 31)).alloc (.cells #[.int .i64 0, .int .i64 0] 26)) W.heap.size s (g + n) := Blk.alloc (Blk.alloc hC3 _) _
      have hF4 := Blk.newAt (w3.alloc (.cells #[.int .i64 kd, .string ⟨tx.toArray⟩, .int .i64 g] 31)) 26 #[.int .i64 0, .int .i64 0] (g := w3.heap.size + 1) (by simp)
      obtain ⟨fn, tmps, assign, body, hy, hR⟩ := HYx.out _ hJ3
      have HR := Lib.hid hR
      have HC4 := Lib.hid hC4
      have HF4 := Lib.hid hF4
      clear hR hJ3 hC4 hF4 hJp hC hG3 hC3 HYx hN
      gi_wp2
      refine ⟨rfl, HR.out.mono ?_⟩
      rintro e W5 (⟨rfl, hJ5, hk5, hk6⟩ | ⟨rfl, hJx5⟩)
      · have hC5 := hk5 _ _ HC4.out
        have hF5 := hk6 _ _ HF4.out
        obtain ⟨p0, p1, r0, r1⟩ := cells2 hF5
        have HC5 := Lib.hid hC5
        clear HC4 HF4 hF5 hC5 hk5 hk6 HR
        gi_wp2
        go_roundw
        case rel =>
          refine ⟨pre ++ [.lex kd n g], g + n, f, h3, by omega, by rw [List.length_append, List.length_singleton]; omega, ?_, hJ5, HC5.out⟩
          rw [List.append_assoc]
          exact hsq.out
        case measure =>
          have q1 := Cu.curAt (show Cu W5 W.heap.size s (g + n) from HC5.out)
          have q2 := hcur.out
          rw [q1, q2]
          omega
      · clear HC4 HF4 HR
        gi_wp2
        refine bodyPost_ret (results_none rfl _ _ _) rfl ?_
        exact ⟨⟨_, rfl⟩, .inr ⟨_, ⟨_, by rw [List.append_assoc]; exact hsq.out⟩, hJx5⟩⟩
end Go.Proofs.Ytklfaccjbdkfhaa
