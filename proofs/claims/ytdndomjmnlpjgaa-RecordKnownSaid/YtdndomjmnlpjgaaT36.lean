/- The walk of record.Frames where its numbers are in range. -/
import Derived.Test.YtdndomjmnlpjgaaT26
import Derived.Test.YtdndomjmnlpjgaaF1
import Derived.Test.YtdndomjmnlpjgaaRange
namespace Go.Proofs.Ytdndomjmnlpjgaa
open Go.RowKit Go.Shelf
attribute [local go_sem] Oper.semAt_some
/-- The frames of some bytes: their tokens, how many bytes were used, the fault. -/
def framesT (m : Nat) : Nat → List UInt8 → Int → List Tok × Nat × Fault
  | 0, _, _ => ([], 0, ⟨0, 0⟩)
  | n + 1, l, a => if l = [] then ([], 0, ⟨0, 0⟩) else if (readF l m a).err ≠ 0 then ([], 0, readF l m a) else
    (readT l m a :: (framesT m n (l.drop (readU l m a)) (a + readU l m a)).1, readU l m a + (framesT m n (l.drop (readU l m a)) (a + readU l m a)).2.1, (framesT m n (l.drop (readU l m a)) (a + readU l m a)).2.2)
theorem framesT_nil (m n : Nat) (a : Int) : framesT m n [] a = ([], 0, ⟨0, 0⟩) := by
  cases n <;> rfl
set_option maxRecDepth 100000 in
theorem frames_any (l : List UInt8) (n a : Int) (g : Nat) (w : World) :
    Calls Try.prog 53 #[.string ⟨l.toArray⟩, .int .i64 n, .int .i64 a, .pointer (some ⟨g, 0, none⟩)] w fun e w' => e = .returned (.func (.func 76) #[] #[.pointer (some ⟨w.heap.size, 0, none⟩), .pointer (some ⟨w.heap.size + 1, 0, none⟩), .pointer (some ⟨w.heap.size + 2, 0, none⟩), .pointer (some ⟨w.heap.size + 3, 0, none⟩)]) ∧
      w' = (((w.alloc (.cells #[.string ⟨l.toArray⟩] 9)).alloc (.cells #[.int .i64 n] 3)).alloc (.cells #[.int .i64 a] 3)).alloc (.cells #[.pointer (some ⟨g, 0, none⟩)] 76) := by
  go_enter Try.func53, Try.ntmps53
  go_wp2
  go_ret
  exact ⟨rfl, rfl⟩
/-- What holds while the frames come: k bytes are used, the tokens ts have come; they lie at A. -/
def FrItA (l : List UInt8) (m : Nat) (a : Int) (w : World) (rec : Loop) (k : Nat) (ts : List Tok) (A : Option Addr) (cap : Nat) (W : World) : Prop :=
    W.heap[w.heap.size + 8]? = some (.loop rec) ∧ W.heap[w.heap.size + 7]? = some (.deferred (some [])) ∧
    Blk W w.heap.size 24 #[.slice A ts.length cap] ∧ Blk W (w.heap.size + 1) 3 #[.int .i64 k] ∧ Blk W (w.heap.size + 2) 27 #[.int .i64 0, .int .i64 0] ∧
    Blk W (w.heap.size + 3) 9 #[.string ⟨l.toArray⟩] ∧ Blk W (w.heap.size + 4) 3 #[.int .i64 m] ∧ Blk W (w.heap.size + 5) 3 #[.int .i64 a] ∧ Blk W (w.heap.size + 6) 76 #[.pointer (some ⟨w.heap.size + 2, 0, none⟩)] ∧
    Own W (w.heap.size + 9) 41 3 A ts.length cap (tokC ts) ∧ Below w.heap.size w W ∧ w.heap.size + 9 ≤ W.heap.size
section
variable {l : List UInt8} {m : Nat} {a : Int} {w : World} {rec : Loop} {k : Nat} {ts : List Tok} {A : Option Addr} {cap : Nat} {W W' : World}
theorem FrItA.on (h : FrItA l m a w rec k ts A cap W) (hb : Below W.heap.size W W') : FrItA l m a w rec k ts A cap W' := by
  obtain ⟨hl, hD, b0, b1, b2, b3, b4, b5, b6, hown, hB, hs⟩ := h
  exact ⟨(hb.block _ (Array.getElem?_eq_some_iff.1 hl).1).trans hl, (hb.block _ (Array.getElem?_eq_some_iff.1 hD).1).trans hD, Blk.on b0 hb, Blk.on b1 hb, Blk.on b2 hb, Blk.on b3 hb, Blk.on b4 hb, Blk.on b5 hb, Blk.on b6 hb, hown.below hb (Nat.le_refl _), below_on hB hb (Nat.le_refl _), Nat.le_trans hs hb.size⟩
theorem FrItA.alloc (h : FrItA l m a w rec k ts A cap W) (o : Obj) : FrItA l m a w rec k ts A cap (W.alloc o) := h.on ((Below.refl _ W).alloc (Nat.le_refl _) o)
theorem FrItA.drew (h : FrItA l m a w rec k ts A cap W) : FrItA l m a w rec k ts A cap W.drew := h.on ((Below.refl _ W).drew)
theorem FrItA.far (h : FrItA l m a w rec k ts A cap W) {p : Addr} (hp : w.heap.size + 9 ≤ p.block) (hne : blockOf A cap ≠ some p.block) (u : Value) : FrItA l m a w rec k ts A cap (W.setCell p u) := by
  obtain ⟨hl, hD, b0, b1, b2, b3, b4, b5, b6, hown, hB, hs⟩ := h
  exact ⟨setCell_obj hl (by omega), setCell_obj hD (by omega), b0.far (by omega) u, b1.far (by omega) u, b2.far (by omega) u, b3.far (by omega) u, b4.far (by omega) u, b5.far (by omega) u, b6.far (by omega) u, hown.farNe hne u, hB.setCell (by omega) u, by simpa using hs⟩
theorem FrItA.size (h : FrItA l m a w rec k ts A cap W) : w.heap.size + 9 ≤ W.heap.size := h.2.2.2.2.2.2.2.2.2.2.2
theorem FrItA.put (h : FrItA l m a w rec k ts A cap W) (rec' : Loop) : FrItA l m a w rec' k ts A cap (W.putObj (w.heap.size + 8) (.loop rec')) := by
  obtain ⟨hl, hD, b0, b1, b2, b3, b4, b5, b6, hown, hB, hs⟩ := h
  exact ⟨put_self hl _, put_other hl hD (fun _ => by simp), b0.put hl _, b1.put hl _, b2.put hl _, b3.put hl _, b4.put hl _, b5.put hl _, b6.put hl _, hown.put hl _, below_put hB (by omega) (by omega) _, by simpa using hs⟩
end
/-- What holds behind the loop: the tokens ts lie at A, k bytes are used, the fault is f. -/
def FrEnd (w : World) (rec : Loop) (k : Nat) (ts : List Tok) (f : Fault) (A : Option Addr) (cap : Nat) (W : World) : Prop :=
    W.heap[w.heap.size + 8]? = some (.loop rec) ∧ W.heap[w.heap.size + 7]? = some (.deferred (some [])) ∧
    Blk W w.heap.size 24 #[.slice A ts.length cap] ∧ Blk W (w.heap.size + 1) 3 #[.int .i64 k] ∧ Blk W (w.heap.size + 2) 27 #[.int .i64 f.err, .int .i64 f.at_] ∧
    Own W (w.heap.size + 9) 41 3 A ts.length cap (tokC ts) ∧ Below w.heap.size w W ∧ w.heap.size + 9 ≤ W.heap.size
theorem FrItA.end {l : List UInt8} {m : Nat} {a : Int} {w : World} {rec : Loop} {k : Nat} {ts : List Tok} {A : Option Addr} {cap : Nat} {W : World} (h : FrItA l m a w rec k ts A cap W) : FrEnd w rec k ts ⟨0, 0⟩ A cap W := by
  obtain ⟨hl, hD, b0, b1, b2, b3, b4, b5, b6, hown, hB, hs⟩ := h
  exact ⟨hl, hD, b0, b1, b2, hown, hB, hs⟩
theorem FrItA.endF {l : List UInt8} {m : Nat} {a : Int} {w : World} {rec : Loop} {k : Nat} {ts : List Tok} {A : Option Addr} {cap : Nat} {W : World} (h : FrItA l m a w rec k ts A cap W) (fe fa : Int) :
    FrEnd w rec k ts ⟨fe, fa⟩ A cap ((W.setCell ⟨w.heap.size + 2, 0, none⟩ (.int .i64 fe)).setCell ⟨w.heap.size + 2, 1, none⟩ (.int .i64 fa)) := by
  obtain ⟨hl, hD, b0, b1, b2, b3, b4, b5, b6, hown, hB, hs⟩ := h
  refine ⟨setCell_obj (setCell_obj hl (by simp)) (by simp), setCell_obj (setCell_obj hD (by simp)) (by simp), (b0.far (by simp) _).far (by simp) _, (b1.far (by simp) _).far (by simp) _, (b2.set 0 _).set 1 _, (hown.far (by simp) _).far (by simp) _, (hB.setCell (by simp) _).setCell (by simp) _, by simpa using hs⟩
theorem FrEnd.put {w : World} {rec : Loop} {k : Nat} {ts : List Tok} {f : Fault} {A : Option Addr} {cap : Nat} {W : World} (h : FrEnd w rec k ts f A cap W) (rec' : Loop) : FrEnd w rec' k ts f A cap (W.putObj (w.heap.size + 8) (.loop rec')) := by
  obtain ⟨hl, hD, b0, b1, b2, hown, hB, hs⟩ := h
  exact ⟨put_self hl _, put_other hl hD (fun _ => by simp), b0.put hl _, b1.put hl _, b2.put hl _, hown.put hl _, below_put hB (by omega) (by omega) _, by simpa using hs⟩
/-- What the body of the range leaves: a token more. -/
theorem frIt_body {l : List UInt8} {m : Nat} {a : Int} {w : World} {rec : Loop} {k k' : Nat} {ts : List Tok} {t : Tok} {W W4 : World} {A A4 : Option Addr} {cap cap4 : Nat} (h : FrItA l m a w rec k ts A cap W)
    (hown4 : Own W4 (w.heap.size + 9) 41 3 A4 (ts.length + 1) cap4 (tokC ts ++ [.int .i64 t.sym, .string ⟨t.text.toArray⟩, .int .i64 t.at_])) (hg : W.grownBy W4 (blockOf A cap)) :
    FrItA l m a w rec k' (ts ++ [t]) A4 cap4 ((W4.setCell ⟨w.heap.size, 0, none⟩ (.slice A4 (ts.length + 1) cap4)).setCell ⟨w.heap.size + 1, 0, none⟩ (.int .i64 k')) := by
  obtain ⟨hl, hD, b0, b1, b2, b3, b4, b5, b6, hown, hB, hs⟩ := h
  have c0 := b0.grown hg (hown.ne (by omega))
  have c1 := b1.grown hg (hown.ne (by omega))
  have c2 := b2.grown hg (hown.ne (by omega))
  have c3 := b3.grown hg (hown.ne (by omega))
  have c4 := b4.grown hg (hown.ne (by omega))
  have c5 := b5.grown hg (hown.ne (by omega))
  have c6 := b6.grown hg (hown.ne (by omega))
  have dl := hown.growObj hg hl (fun _ _ _ => by simp)
  have dD := hown.growObj hg hD (fun _ _ _ => by simp)
  have hB4 := grown_below hB (hown.base (B' := w.heap.size) (by omega)) hg (by omega)
  have hs4 := hg.size
  refine ⟨setCell_obj (setCell_obj dl (by simp)) (by simp), setCell_obj (setCell_obj dD (by simp)) (by simp), ?_, ?_, ?_, ?_, ?_, ?_, ?_, ?_, ?_, ?_⟩
  · rw [List.length_append]
    exact (c0.set 0 _).far (p := ⟨w.heap.size + 1, 0, none⟩) (by simp) _
  · exact (c1.far (p := ⟨w.heap.size, 0, none⟩) (by simp) _).set 0 _
  · exact (c2.far (p := ⟨w.heap.size, 0, none⟩) (by simp) _).far (p := ⟨w.heap.size + 1, 0, none⟩) (by simp) _
  · exact (c3.far (p := ⟨w.heap.size, 0, none⟩) (by simp) _).far (p := ⟨w.heap.size + 1, 0, none⟩) (by simp) _
  · exact (c4.far (p := ⟨w.heap.size, 0, none⟩) (by simp) _).far (p := ⟨w.heap.size + 1, 0, none⟩) (by simp) _
  · exact (c5.far (p := ⟨w.heap.size, 0, none⟩) (by simp) _).far (p := ⟨w.heap.size + 1, 0, none⟩) (by simp) _
  · exact (c6.far (p := ⟨w.heap.size, 0, none⟩) (by simp) _).far (p := ⟨w.heap.size + 1, 0, none⟩) (by simp) _
  · rw [List.length_append, tokC_append]
    exact (hown4.far (p := ⟨w.heap.size, 0, none⟩) (by simp) _).far (p := ⟨w.heap.size + 1, 0, none⟩) (by simp) _
  · exact (hB4.setCell (p := ⟨w.heap.size, 0, none⟩) (Nat.le_refl _) _).setCell (p := ⟨w.heap.size + 1, 0, none⟩) (by simp) _
  · simp only [World.size_setCell]; omega
theorem foldl2 (t : Array Value) (p q : Nat) (u v : Value) : Array.foldl (fun (tmps : Array Value) (x : Nat × Value) => tmps.setIfInBounds x.fst x.snd) t #[(p, u), (q, v)] 0 2 = (t.setIfInBounds p u).setIfInBounds q v := rfl
theorem foldz2 (t : Array Value) (p q : Tmp) (u v : Value) (n : Nat) (h : n = 2) : Array.foldl (fun (tmps : Array Value) (x : Tmp × Value) => tmps.setIfInBounds x.fst x.snd) t ((#[p, q] : Array Tmp).zip #[u, v]) 0 n = (t.setIfInBounds p u).setIfInBounds q v := by
  subst h
  have e : (#[p, q] : Array Tmp).zip #[u, v] = #[(p, u), (q, v)] := by simp
  rw [e]
  rfl
theorem infoSlT : (Try.prog.info? 24).map (fun i => (i.zero, i.size, i.bytes)) = some (some (.slice none 0 0), 1, 24) := by kernel_rfl
theorem infoInt : (Try.prog.info? 3).map (fun i => (i.zero, i.size, i.bytes)) = some (some (.int .i64 0), 1, 8) := by kernel_rfl
set_option maxRecDepth 100000 in
set_option maxHeartbeats 100000000 in
theorem Frames_in (l : List UInt8) (m : Nat) (a : Int) (w : World) (h1 : 1 ≤ m) (h8 : m ≤ 8) (ha : 0 ≤ a) (hal : a + l.length ≤ 1099511627776) (hl : l.length ≤ 20000) :
    Calls Try.prog 18 #[.string ⟨l.toArray⟩, .int .i64 m, .int .i64 a] w fun e w' => ∃ A cap, e = .returned (.tuple #[.slice A (framesT m l.length l a).1.length cap, .int .i64 (framesT m l.length l a).2.1, (framesT m l.length l a).2.2.v]) ∧
      Sl w' w'.heap.size 3 A (framesT m l.length l a).1.length cap (tokC (framesT m l.length l a).1) ∧ Below w.heap.size w w' := by
  obtain ⟨tz, kz, fz, hX⟩ : ∃ ts k f, framesT m l.length l a = (ts, k, f) := ⟨_, _, _, rfl⟩
  rw [hX]
  have HX := Lib.hid hX; clear hX
  have HF := Lib.hid (fun W => frames_any l m a (w.heap.size + 2) W)
  refine calls_of_wpM Try.func18 rfl ?_
  simp only [Try.ntmps18, List.size_toArray, List.length_cons, List.length_nil, Nat.reduceAdd, Nat.reduceSub, Array.replicate_succ, Array.replicate_zero, List.push_toArray, List.append_toArray, List.nil_append, List.cons_append]
  have ha2 : a ≤ 1099511627776 := by omega
  have hz : (l.length : Int) ≤ 20000 := by omega
  go_wp2_with (go_at_call 53; refine (HF.out _).mono ?_; rintro e w3 ⟨rfl, rfl⟩)
  have d1 : decide ((m : Int) < 1) = false := decide_eq_false (by omega)
  have d2 : decide (8 < (m : Int)) = false := decide_eq_false (by omega)
  have d3 : decide (a < 0) = false := decide_eq_false (by omega)
  have d4 : decide (1099511627776 < a) = false := decide_eq_false (by omega)
  have d5 : decide (1099511627776 < a + (l.length : Int)) = false := decide_eq_false (by omega)
  have d6 : decide (20000 < (l.length : Int)) = false := decide_eq_false (by omega)
  simp only [d1, d2, d3, d4, d5, d6, Bool.or_false, Nat.add_assoc, Nat.reduceAdd]
  clear d1 d2 d3 d4 d5 d6
  have b0 := ((((((Blk.new w 24 #[.slice none 0 0]).alloc (.cells #[.int .i64 0] 3)).alloc (.cells #[.int .i64 0, .int .i64 0] 27)).alloc (.cells #[.string ⟨l.toArray⟩] 9)).alloc (.cells #[.int .i64 m] 3)).alloc (.cells #[.int .i64 a] 3)).alloc (.cells #[.pointer (some ⟨w.heap.size + 2, 0, none⟩)] 76)
  obtain ⟨w1, hw1⟩ : ∃ w1, w.alloc (.cells #[.slice none 0 0] 24) = w1 := ⟨_, rfl⟩
  have hs1 : w1.heap.size = w.heap.size + 1 := by rw [← hw1]; simp
  have hB1 := (Below.refl w.heap.size w).alloc (Nat.le_refl _) (.cells #[.slice none 0 0] 24)
  rw [hw1] at b0 hB1 ⊢
  have b1 := (((((Blk.newAt w1 3 #[.int .i64 0] (g := w.heap.size + 1) hs1.symm).alloc (.cells #[.int .i64 0, .int .i64 0] 27)).alloc (.cells #[.string ⟨l.toArray⟩] 9)).alloc (.cells #[.int .i64 m] 3)).alloc (.cells #[.int .i64 a] 3)).alloc (.cells #[.pointer (some ⟨w.heap.size + 2, 0, none⟩)] 76)
  have hB2 := hB1.alloc (by omega) (.cells #[.int .i64 0] 3)
  obtain ⟨w2, hw2⟩ : ∃ w2, w1.alloc (.cells #[.int .i64 0] 3) = w2 := ⟨_, rfl⟩
  have hs2 : w2.heap.size = w.heap.size + 2 := by rw [← hw2]; simp; omega
  rw [hw2] at b0 b1 hB2 ⊢
  have b2 := ((((Blk.newAt w2 27 #[.int .i64 0, .int .i64 0] (g := w.heap.size + 2) hs2.symm).alloc (.cells #[.string ⟨l.toArray⟩] 9)).alloc (.cells #[.int .i64 m] 3)).alloc (.cells #[.int .i64 a] 3)).alloc (.cells #[.pointer (some ⟨w.heap.size + 2, 0, none⟩)] 76)
  have hB3 := hB2.alloc (by omega) (.cells #[.int .i64 0, .int .i64 0] 27)
  obtain ⟨w3, hw3⟩ : ∃ w3, w2.alloc (.cells #[.int .i64 0, .int .i64 0] 27) = w3 := ⟨_, rfl⟩
  have hs3 : w3.heap.size = w.heap.size + 3 := by rw [← hw3]; simp; omega
  rw [hw3] at b0 b1 b2 hB3 ⊢
  have b3 := (((Blk.newAt w3 9 #[.string ⟨l.toArray⟩] (g := w.heap.size + 3) hs3.symm).alloc (.cells #[.int .i64 m] 3)).alloc (.cells #[.int .i64 a] 3)).alloc (.cells #[.pointer (some ⟨w.heap.size + 2, 0, none⟩)] 76)
  have hB4 := hB3.alloc (by omega) (.cells #[.string ⟨l.toArray⟩] 9)
  obtain ⟨w4, hw4⟩ : ∃ w4, w3.alloc (.cells #[.string ⟨l.toArray⟩] 9) = w4 := ⟨_, rfl⟩
  have hs4 : w4.heap.size = w.heap.size + 4 := by rw [← hw4]; simp; omega
  rw [hw4] at b0 b1 b2 b3 hB4 ⊢
  have b4 := ((Blk.newAt w4 3 #[.int .i64 m] (g := w.heap.size + 4) hs4.symm).alloc (.cells #[.int .i64 a] 3)).alloc (.cells #[.pointer (some ⟨w.heap.size + 2, 0, none⟩)] 76)
  have hB5 := hB4.alloc (by omega) (.cells #[.int .i64 m] 3)
  obtain ⟨w5, hw5⟩ : ∃ w5, w4.alloc (.cells #[.int .i64 m] 3) = w5 := ⟨_, rfl⟩
  have hs5 : w5.heap.size = w.heap.size + 5 := by rw [← hw5]; simp; omega
  rw [hw5] at b0 b1 b2 b3 b4 hB5 ⊢
  have b5 := (Blk.newAt w5 3 #[.int .i64 a] (g := w.heap.size + 5) hs5.symm).alloc (.cells #[.pointer (some ⟨w.heap.size + 2, 0, none⟩)] 76)
  have hB6 := hB5.alloc (by omega) (.cells #[.int .i64 a] 3)
  obtain ⟨w6, hw6⟩ : ∃ w6, w5.alloc (.cells #[.int .i64 a] 3) = w6 := ⟨_, rfl⟩
  have hs6 : w6.heap.size = w.heap.size + 6 := by rw [← hw6]; simp; omega
  rw [hw6] at b0 b1 b2 b3 b4 b5 hB6 ⊢
  have b6 := Blk.newAt w6 76 #[.pointer (some ⟨w.heap.size + 2, 0, none⟩)] (g := w.heap.size + 6) hs6.symm
  have hB7 := hB6.alloc (by omega) (.cells #[.pointer (some ⟨w.heap.size + 2, 0, none⟩)] 76)
  obtain ⟨w7, hw7⟩ : ∃ w7, w6.alloc (.cells #[.pointer (some ⟨w.heap.size + 2, 0, none⟩)] 76) = w7 := ⟨_, rfl⟩
  have hs7 : w7.heap.size = w.heap.size + 7 := by rw [← hw7]; simp; omega
  rw [hw7] at b0 b1 b2 b3 b4 b5 b6 hB7 ⊢
  clear hw1 hw2 hw3 hw4 hw5 hw6 hw7 hs1 hs2 hs3 hs4 hs5 hs6 hB1 hB2 hB3 hB4 hB5 hB6
  try simp only [Nat.add_assoc, Nat.reduceAdd]
  refine wp_range rfl (enters_of Try.func76 (by kernel_rfl) rfl) fun fn => ?_
  rw [hs7]
  simp only [Nat.add_assoc, Nat.reduceAdd]
  have hl1 : ∀ rc : Loop, ((w7.alloc (.deferred (some []))).alloc (.loop rc)).heap[w.heap.size + 8]? = some (.loop rc) := fun rc => by
    have := heap_alloc2_new w7 (.deferred (some [])) (.loop rc); rw [hs7] at this; exact this
  have hD1 : ∀ rc : Loop, ((w7.alloc (.deferred (some []))).alloc (.loop rc)).heap[w.heap.size + 7]? = some (.deferred (some [])) := fun rc => by
    have := heap_alloc2_old w7 (.deferred (some [])) (.loop rc); rw [hs7] at this; exact this
  generalize hrc : recOf fn _ #[43, 44] _ _ (w.heap.size + 7) = rc
  have hit0 : FrItA l m a w (rc .ready none) 0 [] none 0 ((w7.alloc (.deferred (some []))).alloc (.loop (rc .ready none))) :=
    ⟨hl1 _, hD1 _, (b0.alloc _).alloc _, (b1.alloc _).alloc _, (b2.alloc _).alloc _, (b3.alloc _).alloc _, (b4.alloc _).alloc _, (b5.alloc _).alloc _, (b6.alloc _).alloc _, Own.nil _ _ _ _,
      (hB7.alloc (by omega) _).alloc (by simp; omega) _, by simp; omega⟩
  clear hl1 hD1 b0 b1 b2 b3 b4 b5 b6 hB7
  generalize (w7.alloc (.deferred (some []))).alloc (.loop (rc .ready none)) = W1 at *
  refine CallsIn.mono (R := fun e W => ∃ v A cap, e = .returned v ∧ FrEnd w (rc .ready none) kz tz fz A cap W) ?main ?endd
  case endd =>
    clear HX
    obtain ⟨ts, hts⟩ : ∃ ts, ts = tz := ⟨_, rfl⟩
    obtain ⟨k, hkz⟩ : ∃ k, k = kz := ⟨_, rfl⟩
    obtain ⟨f, hfz⟩ : ∃ f, f = fz := ⟨_, rfl⟩
    subst hts hkz hfz
    rintro e W ⟨v, A, cap, rfl, hE⟩
    have hpd : (rc .ready none).pending = none := by rw [← hrc]; rfl
    have hend := run_endLoop (P := Try.prog) hE.1 (by rw [← hrc]; simp [recOf])
    refine ⟨_, _, hend, ?_⟩
    have h2 := hE.put { rc .ready none with state := .exhausted }
    clear hend hE
    generalize W.putObj (w.heap.size + 8) (.loop { rc .ready none with state := .exhausted }) = W9 at *
    rw [hpd]
    simp only []
    clear hpd hrc HF hit0
    go_wp2
    obtain ⟨hl, hD, b0, b1, b2, hown, hB, hs⟩ := h2
    have c0 := b0.cell 0
    have c0' := b0.frozen (i := 0) (by simp)
    have c1 := b1.cell 0
    have c1' := b1.frozen (i := 0) (by simp)
    obtain ⟨c2, c3, c2', c3'⟩ := cells2 b2
    have d1 := (b1.far (p := ⟨w.heap.size, 0, none⟩) (by simp) (.slice A ts.length cap)).cell 0
    have d1' := (b1.far (p := ⟨w.heap.size, 0, none⟩) (by simp) (.slice A ts.length cap)).frozen (i := 0) (by simp)
    obtain ⟨d2, d3, d2', d3'⟩ := cells2 (b2.far (p := ⟨w.heap.size, 0, none⟩) (by simp) (.slice A ts.length cap))
    obtain ⟨e2, e3, e2', e3'⟩ := cells2 ((b2.far (p := ⟨w.heap.size, 0, none⟩) (by simp) (.slice A ts.length cap)).far (p := ⟨w.heap.size + 1, 0, none⟩) (by simp) (.int .i64 k))
    obtain ⟨f2, f3, f2', f3'⟩ := cells2 (((b2.far (p := ⟨w.heap.size, 0, none⟩) (by simp) (.slice A ts.length cap)).far (p := ⟨w.heap.size + 1, 0, none⟩) (by simp) (.int .i64 k)).set 0 (.int .i64 f.err))
    have HH := Lib.hid (And.intro hown (And.intro hB (And.intro hs (And.intro b0 (And.intro b1 (And.intro b2 hD))))))
    clear hl hD b0 b1 b2 hown hB hs
    go_region
    obtain ⟨hown, hB, hs, b0, b1, b2, hD⟩ := HH.out
    clear HH c0 c0' c1 c1' c2 c2' c3 c3' d1 d1' d2 d2' d3 d3' e2 e2' e3 e3' f2 f2' f3 f3'
    have x0 := ((((b0.set 0 (.slice A ts.length cap)).far (p := ⟨w.heap.size + 1, 0, none⟩) (by simp) (.int .i64 k)).far (p := ⟨w.heap.size + 2, 0, none⟩) (by simp) (.int .i64 f.err)).far (p := ⟨w.heap.size + 2, 1, none⟩) (by simp) (.int .i64 f.at_)).drew
    have x1 := ((((b1.far (p := ⟨w.heap.size, 0, none⟩) (by simp) (.slice A ts.length cap)).set 0 (.int .i64 k)).far (p := ⟨w.heap.size + 2, 0, none⟩) (by simp) (.int .i64 f.err)).far (p := ⟨w.heap.size + 2, 1, none⟩) (by simp) (.int .i64 f.at_)).drew
    have x2 := ((((b2.far (p := ⟨w.heap.size, 0, none⟩) (by simp) (.slice A ts.length cap)).far (p := ⟨w.heap.size + 1, 0, none⟩) (by simp) (.int .i64 k)).set 0 (.int .i64 f.err)).set 1 (.int .i64 f.at_)).drew
    have xB := ((((hB.setCell (p := ⟨w.heap.size, 0, none⟩) (Nat.le_refl _) (.slice A ts.length cap)).setCell (p := ⟨w.heap.size + 1, 0, none⟩) (by simp) (.int .i64 k)).setCell (p := ⟨w.heap.size + 2, 0, none⟩) (by simp) (.int .i64 f.err)).setCell (p := ⟨w.heap.size + 2, 1, none⟩) (by simp) (.int .i64 f.at_)).drew
    have xo := ((((hown.far (p := ⟨w.heap.size, 0, none⟩) (by simp) (.slice A ts.length cap)).far (p := ⟨w.heap.size + 1, 0, none⟩) (by simp) (.int .i64 k)).far (p := ⟨w.heap.size + 2, 0, none⟩) (by simp) (.int .i64 f.err)).far (p := ⟨w.heap.size + 2, 1, none⟩) (by simp) (.int .i64 f.at_)).drew
    have xD := setCell_obj (p := ⟨w.heap.size + 2, 1, none⟩) (v := .int .i64 f.at_) (setCell_obj (p := ⟨w.heap.size + 2, 0, none⟩) (v := .int .i64 f.err) (setCell_obj (p := ⟨w.heap.size + 1, 0, none⟩) (v := .int .i64 k) (setCell_obj (p := ⟨w.heap.size, 0, none⟩) (v := .slice A ts.length cap) hD (by simp)) (by simp)) (by simp)) (by simp)
    have xD' : ((((W9.setCell ⟨w.heap.size, 0, none⟩ (.slice A ts.length cap)).setCell ⟨w.heap.size + 1, 0, none⟩ (.int .i64 k)).setCell ⟨w.heap.size + 2, 0, none⟩ (.int .i64 f.err)).setCell ⟨w.heap.size + 2, 1, none⟩ (.int .i64 f.at_)).drew.heap[w.heap.size + 7]? = some (.deferred (some [])) := xD
    generalize ((((W9.setCell ⟨w.heap.size, 0, none⟩ (.slice A ts.length cap)).setCell ⟨w.heap.size + 1, 0, none⟩ (.int .i64 k)).setCell ⟨w.heap.size + 2, 0, none⟩ (.int .i64 f.err)).setCell ⟨w.heap.size + 2, 1, none⟩ (.int .i64 f.at_)).drew = W10 at *
    clear hown hB hs b0 b1 b2 hD xD
    go_wp2
    have hmk : Marks W10 w.heap.size [w.heap.size + 7] := (Marks.nil W10 _).cons (by omega) xD' (by simp)
    have hsl := xo.sl
    refine leaves_marks (B := w.heap.size) (v := .tuple #[.slice A ts.length cap, .int .i64 k, .agg #[.int .i64 f.err, .int .i64 f.at_]]) [w.heap.size + 7] W10 hmk fun W' hs => ⟨results_ccc (fn := Try.f18) rfl _ W' _ _ _ _ _ _ _ _ _ _ _ _ rfl (hs.blk x0) rfl rfl rfl (hs.blk x1) rfl rfl rfl (hs.blk x2) rfl rfl rfl, ⟨A, cap, rfl, by rw [hs.size]; exact hs.sl hsl, hs.below xB⟩⟩
  case main =>
    refine callsIn_of_wp Try.func76 rfl trivial ?_ rfl
    simp only [Try.ntmps76, List.size_toArray, List.length_cons, List.length_nil, Nat.reduceAdd, Nat.reduceSub, Array.replicate_succ, Array.replicate_zero, List.push_toArray, List.append_toArray, List.nil_append, List.cons_append]
    refine wpIn_wide.2 ?_
    go_step3
    refine (wpIn_wide (n := 0)).1 ?_
    gi_wp2
    refine wpIn_label ?_
    gi_wp2
    gi_loopw [6] (fun u W => ∃ (k n : Nat) (ts : List Tok), k ≤ l.length ∧ u = .int .i64 k ∧ l.length ≤ k + n ∧ ts.length ≤ k ∧ (tz, kz, fz) = (ts ++ (framesT m n (l.drop k) (a + k)).1, k + (framesT m n (l.drop k) (a + k)).2.1, (framesT m n (l.drop k) (a + k)).2.2) ∧ ∃ A cap, FrItA l m a w (rc .ready none) k ts A cap W) (fun u _ => l.length - (intOf u).toNat)
    case atStart => exact ⟨0, l.length, [], Nat.zero_le _, rfl, by omega, Nat.zero_le _, by rw [← HX.out]; simp, none, 0, hit0⟩
    case round =>
      obtain ⟨k, n, ts, hk, rfl, hkn, htk, heq, A, cap, hit⟩ := hrel
      clear hit0
      by_cases hlt : k < l.length
      · have hit0' := hit
        have hbA : ∀ g, blockOf A cap = some g → g < wr.heap.size := fun g hg => (hit.2.2.2.2.2.2.2.2.2.1.lt hg).2
        obtain ⟨hl6, hD6, b0, b1, b2, b3, b4, b5, b6, hown, hB, hsz⟩ := hit
        have c3 := b3.cell 0
        have c4 := b4.cell 0
        have c5 := b5.cell 0
        clear hl6 hD6 b0 b1 b2 b3 b4 b5 b6 hown hB hsz
        have HRC := Lib.hid hrc; clear hrc
        have hRl : (l.drop k).length = l.length - k := by rw [List.length_drop]
        have hR : l.drop k ≠ [] := fun h => by rw [h] at hRl; simp at hRl; omega
        obtain ⟨n, rfl⟩ : ∃ n', n = n' + 1 := ⟨n - 1, by omega⟩
        have HR := fun W => Read_any (l.drop k) m (a + k) W (by omega)
        have hfr := frame_read (l.drop k) m h1 h8 (a + k) (by omega) (by omega)
        have hst : framesT m (n + 1) (l.drop k) (a + k) = if (readF (l.drop k) m (a + k)).err ≠ 0 then ([], 0, readF (l.drop k) m (a + k)) else
            (readT (l.drop k) m (a + k) :: (framesT m n ((l.drop k).drop (readU (l.drop k) m (a + k))) (a + k + readU (l.drop k) m (a + k))).1, readU (l.drop k) m (a + k) + (framesT m n ((l.drop k).drop (readU (l.drop k) m (a + k))) (a + k + readU (l.drop k) m (a + k))).2.1, (framesT m n ((l.drop k).drop (readU (l.drop k) m (a + k))) (a + k + readU (l.drop k) m (a + k))).2.2) := if_neg hR
        rw [hst] at heq
        generalize readT (l.drop k) m (a + k) = t at *
        generalize readU (l.drop k) m (a + k) = u at *
        generalize readF (l.drop k) m (a + k) = f at *
        obtain ⟨sy, x, at_⟩ := t
        obtain ⟨fe, fa⟩ := f
        unfold Tok.v Fault.v at HR
        simp only at HR hfr heq
        have HR' := Lib.hid HR
        have HEq := Lib.hid heq
        have HFr := Lib.hid hfr
        clear HR heq hfr hst hR hRl
        gi_wp2
        refine wpIn_wide.2 ?_
        have hI0 := Lib.hid hit0'
        clear hit0'
        refine Code.wp_mono (Q := fun e a' w' => e = .normal ∧ ∃ g7 g9, a' = { tmps := #[.func (Fn.yield (w.heap.size + 8)) #[] #[], .pointer (some ⟨w.heap.size + 3, 0, none⟩), .pointer (some ⟨w.heap.size + 4, 0, none⟩), .pointer (some ⟨w.heap.size + 5, 0, none⟩), .pointer (some ⟨w.heap.size + 6, 0, none⟩), undef, .int .i64 k, .pointer (some ⟨g7, 0, none⟩), .int .i64 u, .pointer (some ⟨g9, 0, none⟩), .int .i64 k, .string ⟨l.toArray⟩, .int .i64 l.length, .bool true, .tuple #[.agg #[.int .i64 sy, .string ⟨x.toArray⟩, .int .i64 at_], .int .i64 u, .agg #[.int .i64 fe, .int .i64 fa]], .string ⟨l.toArray⟩, .int .i64 k, .string ⟨(l.drop k).toArray⟩, .int .i64 m, .int .i64 a, .int .i64 k, .int .i64 (a + k), .tuple #[.agg #[.int .i64 sy, .string ⟨x.toArray⟩, .int .i64 at_], .int .i64 u, .agg #[.int .i64 fe, .int .i64 fa]], .agg #[.int .i64 sy, .string ⟨x.toArray⟩, .int .i64 at_], .int .i64 u, .agg #[.int .i64 fe, .int .i64 fa], u26, u27, u28, u29, u30, u31, u32, u33, u34, u35, u36, u37, u38, u39], defers := [] } ∧ g7 ≠ g9 ∧ w.heap.size + 9 ≤ g7 ∧ w.heap.size + 9 ≤ g9 ∧ Blk w' g7 41 #[.int .i64 sy, .string ⟨x.toArray⟩, .int .i64 at_] ∧ Blk w' g9 27 #[.int .i64 fe, .int .i64 fa] ∧ FrItA l m a w (rc .ready none) k ts A cap w') ?_ ?_
        · rintro e a' w8 ⟨rfl, g7, g9, rfl, hne, hg7, hg9, hT, hF, hI⟩
          obtain ⟨x0, x1, x2, _, _, _⟩ := cells3 hT
          obtain ⟨y0, y1, z0, z1⟩ := cells2 hF
          by_cases hfe : fe = 0
          · subst hfe
            obtain ⟨hck, hu2, hul, _, _, _⟩ := HFr.out rfl
            rw [List.length_drop] at hul
            have hEq2 := HEq.out
            rw [if_neg (by simp)] at hEq2
            have HE2 := Lib.hid hEq2
            have hku : (k : Int) + u = ((k + u : Nat) : Int) := by omega
            have hY : ∃ f1 t1 a1 b1, (Instr.yield (w.heap.size + 8) #[.agg #[.int .i64 sy, .string ⟨x.toArray⟩, .int .i64 at_], .int .i64 ((k : Int) + u)]).run Try.prog w8 = .ok (.round (w.heap.size + 8) f1 t1 a1 b1) w8 ∧
                RoundIn Fence.wide 0 Try.prog (w.heap.size + 8) f1 t1 a1 b1 w8 (fun e W' => e = .returned (.bool true) ∧ ∃ A cap, FrItA l m a w (rc .ready none) (k + u) (ts ++ [⟨sy, x, at_⟩]) A cap W') := by
              have hrc := HRC.out
              have hl6 := hI.1
              refine ⟨_, _, _, _, run_yield hl6 (by rw [← hrc]; rfl), ?_⟩
              have hst : (rc .ready none).state = .ready := by rw [← hrc]; rfl
              have hpd : ∀ rb : Loop, rb = ({ rc .ready none with state := .busy } : Loop) → ({ rb with state := if (none : Option Code).isNone then .ready else .done, pending := none } : Loop) = rc .ready none := by
                rintro rb rfl
                rw [← hrc]; rfl
              rw [← hrc]
              refine roundIn_of_wpIn trivial ?_
              simp only [recOf, List.zip_toArray, List.zip_cons_cons, List.zip_nil_left, List.size_toArray, List.length_cons, List.length_nil, Nat.reduceAdd]
              rw [foldz2 _ _ _ _ _ _ (by first | rfl | simp)]
              simp only [List.setIfInBounds_toArray, List.set_cons_succ, List.set_cons_zero]
              gi_wp2
              have hI9 := hI.alloc (.cells #[.int .i64 sy, .string ⟨x.toArray⟩, .int .i64 at_] 41)
              have hbx := Blk.new w8 41 #[.int .i64 sy, .string ⟨x.toArray⟩, .int .i64 at_]
              have hbr := run_beginRound (P := Try.prog) hI9.1 hst
              have hbx3 := fun o => hbx.put hI9.1 o
              obtain ⟨rb, hrb2⟩ : ∃ rb, rb = ({ rc .ready none with state := .busy } : Loop) := ⟨_, rfl⟩
              have hend := hpd rb hrb2
              rw [← hrb2] at hbr
              have h3 := hI9.put rb
              have hx3 := hbx3 (.loop rb)
              refine ⟨_, hbr, ?_⟩
              clear hbr hbx3 hbx hI9 hpd hst hl6 hI hT hF x0 x1 x2 y0 y1 z0 z1
              generalize (w8.alloc (.cells #[.int .i64 sy, .string ⟨x.toArray⟩, .int .i64 at_] 41)).putObj (w.heap.size + 8) (.loop rb) = W3 at *
              have HR1 := Lib.hid hrc; clear hrc
              have HR2 := Lib.hid hrb2; clear hrb2
              have HEnd := Lib.hid hend; clear hend
              obtain ⟨i0, hi0, hz0, hz1, hz2⟩ := info_parts infoT
              obtain ⟨i1, hi1, _, hz11, _⟩ := info_parts infoSlT
              obtain ⟨i2, hi2, _, hz21, _⟩ := info_parts infoInt
              have hown3 := h3.2.2.2.2.2.2.2.2.2.1
              have q0 := h3.2.2.1.cell 0
              have q1 := h3.2.2.1.frozen (i := 0) (by simp)
              obtain ⟨x0, x1, x2, _, _, _⟩ := cells3 hx3
              have hsz3 := h3.size
              have hm1 : ts.length + 1 ≤ maxLen := by simp only [maxLen]; omega
              have hm2 : (ts.length + 1) * 32 ≤ 140737488355328 := by omega
              have H3 := Lib.hid h3; clear h3
              gi_wp2_with (gi_at_builtin; refine wpListIn_append_new rfl _ _ _ rfl (w.heap.size + 9) 41 i0 _ 3 32 Try.underlying24 hi0 hz0 hz1 hz2 rfl (by decide) rfl hown3 #[.int .i64 sy, .string ⟨x.toArray⟩, .int .i64 at_] rfl rfl (by simp [Value.oneCell']) hm1 hm2 hsz3 ?_; intro A5 cap5 W5 hown5 hg5 hat5; have g0 := (H3.out.2.2.1.grown hg5 (hown3.ne (by omega))); have g1 := (H3.out.2.2.2.1.grown hg5 (hown3.ne (by omega))); have p0 := g0.cell 0; have p1 := g0.frozen (i := 0) (by simp); have p2 := g1.cell 0; have p3 := g1.frozen (i := 0) (by simp); have hfin := frIt_body (k' := k + u) (t := ⟨sy, x, at_⟩) H3.out hown5 hg5; rw [show ((k + u : Nat) : Int) = (k : Int) + u by omega] at hfin; have p4 := (g1.far (p := ⟨w.heap.size, 0, none⟩) (by simp) (.slice A5 (ts.length + 1) cap5)).cell 0; have p5 := (g1.far (p := ⟨w.heap.size, 0, none⟩) (by simp) (.slice A5 (ts.length + 1) cap5)).frozen (i := 0) (by simp); have HF2 := Lib.hid hfin; clear hfin g0 g1 q0 q1 hat5 hown5 hg5 hown3 x0 x1 x2 hx3; refine wpListIn_move rfl _ rfl ?_; refine wpListIn_store1 rfl _ _ _ rfl ⟨w.heap.size, 0, none⟩ (.slice A5 (ts.length + 1) cap5) _ rfl rfl p0 p1 rfl rfl i1 hi1 hz11 rfl rfl ?_; refine wpListIn_store1 rfl _ _ _ rfl ⟨w.heap.size + 1, 0, none⟩ (.int .i64 (k + u)) _ rfl rfl p4 p5 rfl rfl i2 hi2 hz21 rfl rfl ?_; clear p0 p1 p2 p3 p4 p5; generalize (W5.setCell ⟨w.heap.size, 0, none⟩ (.slice A5 (ts.length + 1) cap5)).setCell ⟨w.heap.size + 1, 0, none⟩ (.int .i64 (k + u)) = W6 at *)
              refine ⟨_, _, run_endRound none HF2.out.1, rfl, A5, cap5, ?_⟩
              rw [HEnd.out]
              exact (congrArg (fun r => FrItA l m a w r (k + u) (ts ++ [⟨sy, x, at_⟩]) A5 cap5 (W6.putObj (w.heap.size + 8) (.loop (rc .ready none)))) (by rw [← HR1.out])).mp (HF2.out.put (rc .ready none))
            clear HRC HEq HFr hEq2 hku
            have hwu : IntKind.i64.wrap ((k : Int) + u) = (k : Int) + u := Go.IntWalk.i64_in _ (by omega)
            clear c3 c4 c5 y1 z0 z1 hlt hbA
            obtain ⟨f1, t1, a1, b1, hy, hR⟩ := hY
            have HR := Lib.hid hR; clear hR hI hT hF
            gi_wp2
            refine ⟨rfl, HR.out.mono ?_⟩
            rintro e W2 ⟨rfl, A2, cap2, hit2⟩
            have HI2 := Lib.hid hit2
            clear hit2 HR hy x0 x1 x2 y0
            gi_wp2
            go_roundw
            case rel =>
              refine ⟨k + u, n, ts ++ [⟨sy, x, at_⟩], by omega, by go_num, by omega, by simp; omega, ?_, A2, cap2, HI2.out⟩
              rw [HE2.out, List.drop_drop]
              simp [Nat.add_assoc, Int.add_assoc]
            case measure => simp [intOf]; omega
          · have hEq2 := HEq.out
            rw [if_pos (by simpa using hfe)] at hEq2
            have HE2 := Lib.hid hEq2
            clear HRC HEq hkn HFr hEq2
            have hI2 := hI
            obtain ⟨hl6, hD6, b0, b1, b2, b3, b4, b5, b6, hown, hB, hsz⟩ := hI2
            have c6 := b6.cell 0
            obtain ⟨d0, d1, d2, d3⟩ := cells2 b2
            have d1' := fun v => ((b2.set 0 v)).cell 1
            have d3' := fun v => ((b2.set 0 v)).frozen (i := 1) (by simp)
            clear hl6 hD6 b0 b1 b2 b3 b4 b5 b6 hown hB hsz c3 c4 c5
            gi_wp2
            injection HE2.out with e1 e2
            injection e2 with e2 e3
            obtain rfl : tz = ts := by simpa using e1
            obtain rfl : kz = k := by simpa using e2
            subst e3
            exact ⟨rfl, _, results_none rfl _ _ _, ⟨_, rfl⟩, A, cap, hI.endF fe fa⟩
        · have hwk : IntKind.i64.wrap (a + (k : Int)) = a + (k : Int) := Go.IntWalk.i64_in _ (by omega)
          have hl3 : w.heap.size + 3 < wr.heap.size := block_lt_of_cell c3
          have hl4 : w.heap.size + 4 < wr.heap.size := block_lt_of_cell c4
          have hl5 : w.heap.size + 5 < wr.heap.size := block_lt_of_cell c5
          have hbT := (below_on (Below.refl wr.heap.size wr) ((Below.refl wr.heap.size wr).alloc (Nat.le_refl _) (.cells #[.int .i64 0, .string ⟨#[]⟩, .int .i64 0] 41)) (Nat.le_refl _)).drew
          have hbF := (below_on (Below.refl wr.heap.size wr) ((Below.refl wr.heap.size wr).alloc (Nat.le_refl _) (.cells #[.int .i64 0, .int .i64 0] 27)) (Nat.le_refl _)).drew
          have hbTF := (((Below.refl wr.heap.size wr).alloc (Nat.le_refl _) (.cells #[.int .i64 0, .string ⟨#[]⟩, .int .i64 0] 41)).alloc (by simp) (.cells #[.int .i64 0, .int .i64 0] 27)).drew
          have hbFT := (((Below.refl wr.heap.size wr).alloc (Nat.le_refl _) (.cells #[.int .i64 0, .int .i64 0] 27)).alloc (by simp) (.cells #[.int .i64 0, .string ⟨#[]⟩, .int .i64 0] 41)).drew
          have hb0 := (Below.refl wr.heap.size wr).drew
          have r3 := World.new_ne wr _ c3
          have r4 := World.new_ne wr _ c4
          have r5 := World.new_ne wr _ c5
          have s3 : wr.heap.size + 1 ≠ w.heap.size + 3 := by omega
          have s4 : wr.heap.size + 1 ≠ w.heap.size + 4 := by omega
          have s5 : wr.heap.size + 1 ≠ w.heap.size + 5 := by omega
          have t2 : ¬ wr.heap.size = w.heap.size + 2 := by omega
          have t3 : ¬ wr.heap.size = w.heap.size + 3 := by omega
          have t4 : ¬ wr.heap.size = w.heap.size + 4 := by omega
          have HbA := Lib.hid hbA
          have hk0 : (0 : Int) ≤ (k : Int) := by omega
          have hk1 : (k : Int) ≤ (l.length : Int) := by omega
          clear HF hbA hk hkn htk HX
          go_region_held3 (fun W => W.cell? ⟨w.heap.size + 3, 0, none⟩ = some (.string ⟨l.toArray⟩) ∧ W.cell? ⟨w.heap.size + 4, 0, none⟩ = some (.int .i64 m) ∧ W.cell? ⟨w.heap.size + 5, 0, none⟩ = some (.int .i64 a))
            (go_keep)
            (first
              | (go_at_call 33; refine (HR'.out _).mono ?_; rintro e w8 ⟨rfl, hb8⟩; (first
                  | (have hb8' := below_on hb0 hb8 (Nat.le_refl _))
                  | (have hb8' := below_on hbT hb8 (Nat.le_refl _); have hT8 := Blk.on (Blk.new wr 41 #[.int .i64 0, .string ⟨#[]⟩, .int .i64 0]).drew hb8; obtain ⟨e0, e1, e2, y0, y1, y2⟩ := cells3 hT8; have hT8l := hT8.lt; have hT8n := Nat.ne_of_lt hT8.lt; have e0' := fun o => (hT8.alloc o).cell 0; have e1' := fun o => (hT8.alloc o).cell 1; have e2' := fun o => (hT8.alloc o).cell 2; have y0' := fun o => (hT8.alloc o).frozen (i := 0) (by simp); have y1' := fun o => (hT8.alloc o).frozen (i := 1) (by simp); have y2' := fun o => (hT8.alloc o).frozen (i := 2) (by simp))
                  | (have hb8' := below_on hbF hb8 (Nat.le_refl _); have hF8 := Blk.on (Blk.new wr 27 #[.int .i64 0, .int .i64 0]).drew hb8; obtain ⟨f0, f1, z0, z1⟩ := cells2 hF8; have hF8l := hF8.lt; have hF8n := Nat.ne_of_lt hF8.lt; have f0' := fun o => (hF8.alloc o).cell 0; have f1' := fun o => (hF8.alloc o).cell 1; have z0' := fun o => (hF8.alloc o).frozen (i := 0) (by simp); have z1' := fun o => (hF8.alloc o).frozen (i := 1) (by simp))
                  | (have hb8' := below_on hbTF hb8 (Nat.le_refl _); have hT8 := Blk.on ((Blk.new wr 41 #[.int .i64 0, .string ⟨#[]⟩, .int .i64 0]).alloc (.cells #[.int .i64 0, .int .i64 0] 27)).drew hb8; have hF8 := Blk.on (Blk.newAt (wr.alloc (.cells #[.int .i64 0, .string ⟨#[]⟩, .int .i64 0] 41)) 27 #[.int .i64 0, .int .i64 0] (g := wr.heap.size + 1) (by simp)).drew hb8; obtain ⟨e0, e1, e2, y0, y1, y2⟩ := cells3 hT8; have hT8l := hT8.lt; have hT8n := Nat.ne_of_lt hT8.lt; have e0' := fun o => (hT8.alloc o).cell 0; have e1' := fun o => (hT8.alloc o).cell 1; have e2' := fun o => (hT8.alloc o).cell 2; have y0' := fun o => (hT8.alloc o).frozen (i := 0) (by simp); have y1' := fun o => (hT8.alloc o).frozen (i := 1) (by simp); have y2' := fun o => (hT8.alloc o).frozen (i := 2) (by simp); obtain ⟨f0, f1, z0, z1⟩ := cells2 hF8; have hF8l := hF8.lt; have hF8n := Nat.ne_of_lt hF8.lt; have f0' := fun o => (hF8.alloc o).cell 0; have f1' := fun o => (hF8.alloc o).cell 1; have z0' := fun o => (hF8.alloc o).frozen (i := 0) (by simp); have z1' := fun o => (hF8.alloc o).frozen (i := 1) (by simp))
                  | (have hb8' := below_on hbFT hb8 (Nat.le_refl _); have hF8 := Blk.on ((Blk.new wr 27 #[.int .i64 0, .int .i64 0]).alloc (.cells #[.int .i64 0, .string ⟨#[]⟩, .int .i64 0] 41)).drew hb8; have hT8 := Blk.on (Blk.newAt (wr.alloc (.cells #[.int .i64 0, .int .i64 0] 27)) 41 #[.int .i64 0, .string ⟨#[]⟩, .int .i64 0] (g := wr.heap.size + 1) (by simp)).drew hb8; obtain ⟨e0, e1, e2, y0, y1, y2⟩ := cells3 hT8; have hT8l := hT8.lt; have hT8n := Nat.ne_of_lt hT8.lt; have e0' := fun o => (hT8.alloc o).cell 0; have e1' := fun o => (hT8.alloc o).cell 1; have e2' := fun o => (hT8.alloc o).cell 2; have y0' := fun o => (hT8.alloc o).frozen (i := 0) (by simp); have y1' := fun o => (hT8.alloc o).frozen (i := 1) (by simp); have y2' := fun o => (hT8.alloc o).frozen (i := 2) (by simp); obtain ⟨f0, f1, z0, z1⟩ := cells2 hF8; have hF8l := hF8.lt; have hF8n := Nat.ne_of_lt hF8.lt; have f0' := fun o => (hF8.alloc o).cell 0; have f1' := fun o => (hF8.alloc o).cell 1; have z0' := fun o => (hF8.alloc o).frozen (i := 0) (by simp); have z1' := fun o => (hF8.alloc o).frozen (i := 1) (by simp))); have g3 := (hb8'.cell (p := ⟨w.heap.size + 3, 0, none⟩) hl3).trans c3; have g4 := (hb8'.cell (p := ⟨w.heap.size + 4, 0, none⟩) hl4).trans c4; have g5 := (hb8'.cell (p := ⟨w.heap.size + 5, 0, none⟩) hl5).trans c5; have n3 := World.new_ne w8 _ g3; have n4 := World.new_ne w8 _ g4; have n5 := World.new_ne w8 _ g5))
          all_goals have hI8 := hI0.out.on hb8'
          all_goals have hz8 := hI8.size
          all_goals have hzr := hI0.out.size
          all_goals have nA : blockOf A cap ≠ some wr.heap.size := fun e => Nat.lt_irrefl _ (HbA.out _ e)
          all_goals have nB : blockOf A cap ≠ some (wr.heap.size + 1) := fun e => by have := HbA.out _ e; omega
          all_goals have hz1 : w.heap.size + 9 ≤ wr.heap.size + 1 := by omega
          · exact ⟨rfl, w8.heap.size, w8.heap.size + 1, rfl, by omega, hz8, by omega, (Blk.new w8 41 #[.int .i64 sy, .string ⟨x.toArray⟩, .int .i64 at_]).alloc (.cells #[.int .i64 fe, .int .i64 fa] 27), Blk.newAt (w8.alloc (.cells #[.int .i64 sy, .string ⟨x.toArray⟩, .int .i64 at_] 41)) 27 #[.int .i64 fe, .int .i64 fa] (by simp), (hI8.alloc (.cells #[.int .i64 sy, .string ⟨x.toArray⟩, .int .i64 at_] 41)).alloc (.cells #[.int .i64 fe, .int .i64 fa] 27)⟩
          · exact ⟨rfl, w8.heap.size + 1, w8.heap.size, rfl, by omega, by omega, hz8, Blk.newAt (w8.alloc (.cells #[.int .i64 fe, .int .i64 fa] 27)) 41 #[.int .i64 sy, .string ⟨x.toArray⟩, .int .i64 at_] (by simp), (Blk.new w8 27 #[.int .i64 fe, .int .i64 fa]).alloc (.cells #[.int .i64 sy, .string ⟨x.toArray⟩, .int .i64 at_] 41), (hI8.alloc (.cells #[.int .i64 fe, .int .i64 fa] 27)).alloc (.cells #[.int .i64 sy, .string ⟨x.toArray⟩, .int .i64 at_] 41)⟩
          · exact ⟨rfl, wr.heap.size, w8.heap.size, rfl, by omega, hzr, hz8, (((hT8.set 0 (.int .i64 sy)).set 1 (.string ⟨x.toArray⟩)).set 2 (.int .i64 at_)).alloc (.cells #[.int .i64 fe, .int .i64 fa] 27), Blk.newAt (((w8.setCell ⟨wr.heap.size, 0, none⟩ (.int .i64 sy)).setCell ⟨wr.heap.size, 1, none⟩ (.string ⟨x.toArray⟩)).setCell ⟨wr.heap.size, 2, none⟩ (.int .i64 at_)) 27 #[.int .i64 fe, .int .i64 fa] (by simp), (((hI8.far (p := ⟨wr.heap.size, 0, none⟩) hzr nA (.int .i64 sy)).far (p := ⟨wr.heap.size, 1, none⟩) hzr nA (.string ⟨x.toArray⟩)).far (p := ⟨wr.heap.size, 2, none⟩) hzr nA (.int .i64 at_)).alloc (.cells #[.int .i64 fe, .int .i64 fa] 27)⟩
          · exact ⟨rfl, wr.heap.size, wr.heap.size + 1, rfl, by omega, hzr, by omega, (((((hT8.set 0 (.int .i64 sy)).set 1 (.string ⟨x.toArray⟩)).set 2 (.int .i64 at_)).far (p := ⟨wr.heap.size + 1, 0, none⟩) (by simp) (.int .i64 fe)).far (p := ⟨wr.heap.size + 1, 1, none⟩) (by simp) (.int .i64 fa)), (((((hF8.far (p := ⟨wr.heap.size, 0, none⟩) (by simp) (.int .i64 sy)).far (p := ⟨wr.heap.size, 1, none⟩) (by simp) (.string ⟨x.toArray⟩)).far (p := ⟨wr.heap.size, 2, none⟩) (by simp) (.int .i64 at_)).set 0 (.int .i64 fe)).set 1 (.int .i64 fa)), (((((hI8.far (p := ⟨wr.heap.size, 0, none⟩) hzr nA (.int .i64 sy)).far (p := ⟨wr.heap.size, 1, none⟩) hzr nA (.string ⟨x.toArray⟩)).far (p := ⟨wr.heap.size, 2, none⟩) hzr nA (.int .i64 at_)).far (p := ⟨wr.heap.size + 1, 0, none⟩) hz1 nB (.int .i64 fe)).far (p := ⟨wr.heap.size + 1, 1, none⟩) hz1 nB (.int .i64 fa))⟩
          · exact ⟨rfl, w8.heap.size, wr.heap.size, rfl, by omega, hz8, hzr, Blk.newAt ((w8.setCell ⟨wr.heap.size, 0, none⟩ (.int .i64 fe)).setCell ⟨wr.heap.size, 1, none⟩ (.int .i64 fa)) 41 #[.int .i64 sy, .string ⟨x.toArray⟩, .int .i64 at_] (by simp), ((hF8.set 0 (.int .i64 fe)).set 1 (.int .i64 fa)).alloc (.cells #[.int .i64 sy, .string ⟨x.toArray⟩, .int .i64 at_] 41), ((hI8.far (p := ⟨wr.heap.size, 0, none⟩) hzr nA (.int .i64 fe)).far (p := ⟨wr.heap.size, 1, none⟩) hzr nA (.int .i64 fa)).alloc (.cells #[.int .i64 sy, .string ⟨x.toArray⟩, .int .i64 at_] 41)⟩
          · exact ⟨rfl, wr.heap.size + 1, wr.heap.size, rfl, by omega, by omega, hzr, (((((hT8.set 0 (.int .i64 sy)).set 1 (.string ⟨x.toArray⟩)).set 2 (.int .i64 at_)).far (p := ⟨wr.heap.size, 0, none⟩) (by simp) (.int .i64 fe)).far (p := ⟨wr.heap.size, 1, none⟩) (by simp) (.int .i64 fa)), (((((hF8.far (p := ⟨wr.heap.size + 1, 0, none⟩) (by simp) (.int .i64 sy)).far (p := ⟨wr.heap.size + 1, 1, none⟩) (by simp) (.string ⟨x.toArray⟩)).far (p := ⟨wr.heap.size + 1, 2, none⟩) (by simp) (.int .i64 at_)).set 0 (.int .i64 fe)).set 1 (.int .i64 fa)), (((((hI8.far (p := ⟨wr.heap.size + 1, 0, none⟩) hz1 nB (.int .i64 sy)).far (p := ⟨wr.heap.size + 1, 1, none⟩) hz1 nB (.string ⟨x.toArray⟩)).far (p := ⟨wr.heap.size + 1, 2, none⟩) hz1 nB (.int .i64 at_)).far (p := ⟨wr.heap.size, 0, none⟩) hzr nA (.int .i64 fe)).far (p := ⟨wr.heap.size, 1, none⟩) hzr nA (.int .i64 fa))⟩
      · obtain rfl : k = l.length := by omega
        rw [List.drop_length, framesT_nil] at heq
        injection heq with e1 e2
        injection e2 with e2 e3
        obtain rfl : tz = ts := by simpa using e1
        obtain rfl : kz = l.length := by simpa using e2
        subst e3
        have hfin := hit.end
        obtain ⟨hl6, hD6, b0, b1, b2, b3, b4, b5, b6, hown, hB, hsz⟩ := hit
        have c3 := b3.cell 0
        have HFin := Lib.hid hfin
        clear hl6 hD6 b0 b1 b2 b3 b4 b5 b6 hown hB hsz HF hrc hfin hk hkn htk hlt HX e1 e2
        gi_wp2
        exact ⟨rfl, _, results_none rfl _ _ _, ⟨_, rfl⟩, A, cap, HFin.out⟩
end Go.Proofs.Ytdndomjmnlpjgaa
