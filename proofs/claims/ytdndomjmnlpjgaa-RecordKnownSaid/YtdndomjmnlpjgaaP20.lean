/- The walk of RecordKnown. -/
import Derived.Test.YtdndomjmnlpjgaaP16
namespace Go.Proofs.Ytdndomjmnlpjgaa
open Go.RowKit
theorem fr_ex1 : framesT 2 5 [0, 2, 104, 105, 1] 0 = ([⟨0, [104, 105], 0⟩], 4, ⟨5, 4⟩) := by decide
theorem fr_ex2 : framesT 2 5 [0, 2, 104, 105, 3] 0 = ([⟨0, [104, 105], 0⟩], 4, ⟨14, 4⟩) := by decide
theorem fr_ex3 : framesT 2 0 [] 0 = ([], 0, ⟨0, 0⟩) := by decide
theorem of_ex1 : ofA [0, 0, 1, 0, 2, 0, 2, 0, 1, 0] 2 0 = ([⟨[⟨0, [], 0⟩, ⟨1, [], 2⟩], 1, 4⟩, ⟨[], 1, 6⟩, ⟨[⟨1, [], 8⟩], 2, 10⟩], ⟨0, 0⟩) := by decide
theorem of_ex2 : ofA [0, 0, 2, 0] 2 0 = ([⟨[⟨0, [], 0⟩], 1, 2⟩], ⟨0, 0⟩) := by decide
theorem of_ex3 : ofA [] 2 5 = ([], ⟨0, 0⟩) := by decide
theorem sp_ex : splitA [⟨0, [], 0⟩, ⟨2, [], 2⟩, ⟨1, [], 4⟩] 2 = ([⟨[⟨0, [], 0⟩], 1, 2⟩], [⟨1, [], 4⟩], 0) := by decide
theorem Of_at (l : List UInt8) (n a : Int) (R : List Rc) (f : Fault) (h : ofA l n a = (R, f)) (W : World) (hl : l.length ≤ 30000) :
    Calls Try.prog 21 #[.string ⟨l.toArray⟩, .int .i64 n, .int .i64 a] W fun e w' => (∃ L A cap, L.map (·.r) = R ∧ L.length = R.length ∧ e = .returned (.tuple #[.slice A R.length cap, f.v]) ∧
      Own w' 0 43 3 A L.length cap (rcC L) ∧ rcO w' w'.heap.size L) ∧ Below W.heap.size W w' := by
  refine (Of_any l n a W hl).mono ?_
  rintro e w' ⟨⟨L, A, cap, h1, h2, h3, h4⟩, hb⟩
  rw [h] at h1 h2
  have hlen : L.length = R.length := by simpa using congrArg List.length h1
  exact ⟨⟨L, A, cap, h1, hlen, by rw [h2, hlen], h3, h4⟩, hb⟩
theorem Split_at (l : List Tok) (n : Int) (R : List Rc) (rest : List Tok) (er : Int) (h : splitA l n = (R, rest, er)) (A : Option Addr) (cap D : Nat) (W : World) (hS : Sl W D 3 A l.length cap (tokC l)) (hD : D ≤ W.heap.size) (hn : l.length ≤ 20000) (hl : ∀ t ∈ l, t.text.length ≤ maxLen) :
    Calls Try.prog 27 #[.slice A l.length cap, .int .i64 n] W fun e w' => (∃ Ao Ar co cr, e = .returned (.tuple #[.slice Ao R.length co, .slice Ar rest.length cr, .int .i64 er]) ∧
      Own w' 0 41 3 Ar rest.length cr (tokC rest)) ∧ Below W.heap.size W w' := by
  refine (Split_any A cap D l n W hS hD hn hl).mono ?_
  rintro e w' ⟨⟨L, rest', Ao, Ar, co, cr, er', h1, h2, h3, h4, h5⟩, hb⟩
  rw [h] at h1
  injection h1 with e1 h1
  injection h1 with e2 e3
  subst e2 e3
  exact ⟨⟨Ao, Ar, co, cr, by rw [h2, e1, List.length_map], h5⟩, hb⟩
theorem sl_newN (w : World) (cs : Array Value) (e : TypeId) (n : Nat) (h : cs.size = n * 3) (hn : n ≤ maxLen) : Sl (w.alloc (.cells cs e)) (w.heap.size + 1) 3 (some ⟨w.heap.size, 0, none⟩) n n cs.toList :=
  ⟨by simp [h], Nat.le_refl _, hn, fun _ => ⟨w.heap.size, 0, rfl, by omega, fun j u hu => by
    rw [Nat.zero_add, (Blk.new w e cs).cell j]; simpa using hu⟩⟩
def recK (X : Nat) : List RcM := [⟨some ⟨X, 0, none⟩, 2, ⟨[⟨0, [], 0⟩, ⟨1, [], 2⟩], 1, 4⟩⟩, ⟨none, 0, ⟨[], 1, 6⟩⟩, ⟨some ⟨X + 1, 0, none⟩, 1, ⟨[⟨1, [], 8⟩], 2, 10⟩⟩]
theorem SameRecs_K (W : World) (L : List RcM) (A : Option Addr) (cap : Nat) (hl : L.length = 3) (hL : L.map (·.r) = [⟨[⟨0, [], 0⟩, ⟨1, [], 2⟩], 1, 4⟩, ⟨[], 1, 6⟩, ⟨[⟨1, [], 8⟩], 2, 10⟩])
    (hO : Own W 0 43 3 A 3 cap (rcC L)) (hR : rcO W W.heap.size L) :
    Calls Try.prog 26 #[.slice A 3 cap, .slice (some ⟨W.heap.size + 1 + 1, 0, none⟩) 3 3]
      (((W.alloc (.cells #[.int .i64 0, .string ⟨#[]⟩, .int .i64 0, .int .i64 1, .string ⟨#[]⟩, .int .i64 2] 41)).alloc (.cells #[.int .i64 1, .string ⟨#[]⟩, .int .i64 8] 41)).alloc
        (.cells #[.slice (some ⟨W.heap.size, 0, none⟩) 2 2, .int .i64 1, .int .i64 4, .slice none 0 0, .int .i64 1, .int .i64 6, .slice (some ⟨W.heap.size + 1, 0, none⟩) 1 1, .int .i64 2, .int .i64 10] 43))
      fun e w' => e = .returned (.bool true) ∧ Below (W.heap.size + 1 + 1 + 1) (((W.alloc (.cells #[.int .i64 0, .string ⟨#[]⟩, .int .i64 0, .int .i64 1, .string ⟨#[]⟩, .int .i64 2] 41)).alloc (.cells #[.int .i64 1, .string ⟨#[]⟩, .int .i64 8] 41)).alloc
        (.cells #[.slice (some ⟨W.heap.size, 0, none⟩) 2 2, .int .i64 1, .int .i64 4, .slice none 0 0, .int .i64 1, .int .i64 6, .slice (some ⟨W.heap.size + 1, 0, none⟩) 1 1, .int .i64 2, .int .i64 10] 43)) w' := by
  have s1 := (sl_newN W #[.int .i64 0, .string ⟨#[]⟩, .int .i64 0, .int .i64 1, .string ⟨#[]⟩, .int .i64 2] 41 2 rfl (by decide))
  have s2 := (sl_newN (W.alloc (.cells #[.int .i64 0, .string ⟨#[]⟩, .int .i64 0, .int .i64 1, .string ⟨#[]⟩, .int .i64 2] 41)) #[.int .i64 1, .string ⟨#[]⟩, .int .i64 8] 41 1 rfl (by decide))
  have s3 := sl_newN ((W.alloc (.cells #[.int .i64 0, .string ⟨#[]⟩, .int .i64 0, .int .i64 1, .string ⟨#[]⟩, .int .i64 2] 41)).alloc (.cells #[.int .i64 1, .string ⟨#[]⟩, .int .i64 8] 41))
    #[.slice (some ⟨W.heap.size, 0, none⟩) 2 2, .int .i64 1, .int .i64 4, .slice none 0 0, .int .i64 1, .int .i64 6, .slice (some ⟨W.heap.size + 1, 0, none⟩) 1 1, .int .i64 2, .int .i64 10] 43 3 rfl (by decide)
  have s1 := s1.alloc (by simp) (.cells #[.int .i64 1, .string ⟨#[]⟩, .int .i64 8] 41)
  have s1 := s1.alloc (by simp) (.cells #[.slice (some ⟨W.heap.size, 0, none⟩) 2 2, .int .i64 1, .int .i64 4, .slice none 0 0, .int .i64 1, .int .i64 6, .slice (some ⟨W.heap.size + 1, 0, none⟩) 1 1, .int .i64 2, .int .i64 10] 43)
  have s2 := s2.alloc (by simp) (.cells #[.slice (some ⟨W.heap.size, 0, none⟩) 2 2, .int .i64 1, .int .i64 4, .slice none 0 0, .int .i64 1, .int .i64 6, .slice (some ⟨W.heap.size + 1, 0, none⟩) 1 1, .int .i64 2, .int .i64 10] 43)
  have o1 := ((hO.alloc (.cells #[.int .i64 0, .string ⟨#[]⟩, .int .i64 0, .int .i64 1, .string ⟨#[]⟩, .int .i64 2] 41)).alloc (.cells #[.int .i64 1, .string ⟨#[]⟩, .int .i64 8] 41)).alloc (.cells #[.slice (some ⟨W.heap.size, 0, none⟩) 2 2, .int .i64 1, .int .i64 4, .slice none 0 0, .int .i64 1, .int .i64 6, .slice (some ⟨W.heap.size + 1, 0, none⟩) 1 1, .int .i64 2, .int .i64 10] 43)
  have o2 := ((hR.alloc (.cells #[.int .i64 0, .string ⟨#[]⟩, .int .i64 0, .int .i64 1, .string ⟨#[]⟩, .int .i64 2] 41)).alloc (.cells #[.int .i64 1, .string ⟨#[]⟩, .int .i64 8] 41)).alloc (.cells #[.slice (some ⟨W.heap.size, 0, none⟩) 2 2, .int .i64 1, .int .i64 4, .slice none 0 0, .int .i64 1, .int .i64 6, .slice (some ⟨W.heap.size + 1, 0, none⟩) 1 1, .int .i64 2, .int .i64 10] 43)
  have hz : (((W.alloc (.cells #[.int .i64 0, .string ⟨#[]⟩, .int .i64 0, .int .i64 1, .string ⟨#[]⟩, .int .i64 2] 41)).alloc (.cells #[.int .i64 1, .string ⟨#[]⟩, .int .i64 8] 41)).alloc (.cells #[.slice (some ⟨W.heap.size, 0, none⟩) 2 2, .int .i64 1, .int .i64 4, .slice none 0 0, .int .i64 1, .int .i64 6, .slice (some ⟨W.heap.size + 1, 0, none⟩) 1 1, .int .i64 2, .int .i64 10] 43)).heap.size = W.heap.size + 1 + 1 + 1 := by simp
  have hz1 : ((W.alloc (.cells #[.int .i64 0, .string ⟨#[]⟩, .int .i64 0, .int .i64 1, .string ⟨#[]⟩, .int .i64 2] 41)).alloc (.cells #[.int .i64 1, .string ⟨#[]⟩, .int .i64 8] 41)).heap.size = W.heap.size + 1 + 1 := by simp
  have hz2 : (W.alloc (.cells #[.int .i64 0, .string ⟨#[]⟩, .int .i64 0, .int .i64 1, .string ⟨#[]⟩, .int .i64 2] 41)).heap.size = W.heap.size + 1 := by simp
  rw [hz1] at s3
  rw [hz2] at s2
  generalize ((W.alloc (.cells #[.int .i64 0, .string ⟨#[]⟩, .int .i64 0, .int .i64 1, .string ⟨#[]⟩, .int .i64 2] 41)).alloc (.cells #[.int .i64 1, .string ⟨#[]⟩, .int .i64 8] 41)).alloc (.cells #[.slice (some ⟨W.heap.size, 0, none⟩) 2 2, .int .i64 1, .int .i64 4, .slice none 0 0, .int .i64 1, .int .i64 6, .slice (some ⟨W.heap.size + 1, 0, none⟩) 1 1, .int .i64 2, .int .i64 10] 43) = V at *
  have h := SameRecs_any A (some ⟨W.heap.size + 1 + 1, 0, none⟩) cap 3 L (recK W.heap.size) V (by rw [hl]; exact o1.sl) (by rw [hz]; exact s3) o2.sl
    (fun x hx => by
      rw [hz]
      simp only [recK, List.mem_cons, List.not_mem_nil, or_false] at hx
      rcases hx with rfl | rfl | rfl
      · exact s1.more (by omega)
      · exact Sl.nil _ _ _
      · exact s2.more (by omega))
    (by omega) (fun x hx => by
      have : x.r ∈ L.map (·.r) := List.mem_map_of_mem hx
      rw [hL] at this
      simp only [List.mem_cons, List.not_mem_nil, or_false] at this
      rcases this with h | h | h <;> rw [h] <;> simp) (fun x hx => by
      simp only [recK, List.mem_cons, List.not_mem_nil, or_false] at hx
      rcases hx with rfl | rfl | rfl <;> simp)
  rw [hL, hl, show (recK W.heap.size).map (·.r) = [⟨[⟨0, [], 0⟩, ⟨1, [], 2⟩], 1, 4⟩, ⟨[], 1, 6⟩, ⟨[⟨1, [], 8⟩], 2, 10⟩] from rfl, decide_eq_true rfl, hz] at h
  exact h
def recK2 (X : Nat) : List RcM := [⟨none, 0, ⟨[], 1, 0⟩⟩, ⟨some ⟨X, 0, none⟩, 1, ⟨[⟨1, [], 0⟩], 2, 2⟩⟩]
theorem goodK1 : goodR 2 ⟨[], 1, 0⟩ := ⟨by decide, by decide, by simp, rfl, by decide, by decide, .inl rfl, by simp⟩
theorem goodK2 : goodR 2 ⟨[⟨1, [], 0⟩], 2, 2⟩ := ⟨by decide, by decide, by simp, rfl, by decide, by decide, .inr ⟨rfl, by simp⟩, by simp [endR]⟩
theorem neK : ∀ j, (hj : j + 1 = ([⟨0, [], 0⟩] : List Tok).length) → (3 : Int) ≠ (([⟨0, [], 0⟩] : List Tok)[j]).at_ + (2 + ((([⟨0, [], 0⟩] : List Tok)[j]).text.length : Int)) := fun j hj => by
  have h0 : j = 0 := by simpa using hj
  subst h0
  simp
theorem Bytes_K (W : World) :
    Calls Try.prog 22 #[.slice (some ⟨W.heap.size + 1, 0, none⟩) 2 2, .int .i64 2]
      ((W.alloc (.cells #[.int .i64 1, .string ⟨#[]⟩, .int .i64 0] 41)).alloc (.cells #[.slice none 0 0, .int .i64 1, .int .i64 0, .slice (some ⟨W.heap.size, 0, none⟩) 1 1, .int .i64 2, .int .i64 2] 43))
      fun e w' => e = .returned (.tuple #[.string ⟨#[2, 0, 1, 0]⟩, .int .i64 0]) ∧ Below W.heap.size W w' := by
  have s1 := (sl_newN W #[.int .i64 1, .string ⟨#[]⟩, .int .i64 0] 41 1 rfl (by decide))
  have s3 := sl_newN (W.alloc (.cells #[.int .i64 1, .string ⟨#[]⟩, .int .i64 0] 41)) #[.slice none 0 0, .int .i64 1, .int .i64 0, .slice (some ⟨W.heap.size, 0, none⟩) 1 1, .int .i64 2, .int .i64 2] 43 2 rfl (by decide)
  have s1 := s1.alloc (by simp) (.cells #[.slice none 0 0, .int .i64 1, .int .i64 0, .slice (some ⟨W.heap.size, 0, none⟩) 1 1, .int .i64 2, .int .i64 2] 43)
  have hz2 : (W.alloc (.cells #[.int .i64 1, .string ⟨#[]⟩, .int .i64 0] 41)).heap.size = W.heap.size + 1 := by simp
  have hz : ((W.alloc (.cells #[.int .i64 1, .string ⟨#[]⟩, .int .i64 0] 41)).alloc (.cells #[.slice none 0 0, .int .i64 1, .int .i64 0, .slice (some ⟨W.heap.size, 0, none⟩) 1 1, .int .i64 2, .int .i64 2] 43)).heap.size = W.heap.size + 1 + 1 := by simp
  have hb : Below W.heap.size W ((W.alloc (.cells #[.int .i64 1, .string ⟨#[]⟩, .int .i64 0] 41)).alloc (.cells #[.slice none 0 0, .int .i64 1, .int .i64 0, .slice (some ⟨W.heap.size, 0, none⟩) 1 1, .int .i64 2, .int .i64 2] 43)) := ((Below.refl W.heap.size W).alloc (Nat.le_refl _) _).alloc (by simp) _
  rw [hz2] at s3
  generalize (W.alloc (.cells #[.int .i64 1, .string ⟨#[]⟩, .int .i64 0] 41)).alloc (.cells #[.slice none 0 0, .int .i64 1, .int .i64 0, .slice (some ⟨W.heap.size, 0, none⟩) 1 1, .int .i64 2, .int .i64 2] 43) = V at *
  have h := Bytes_recs (some ⟨W.heap.size + 1, 0, none⟩) 2 V.heap.size 2 (recK2 W.heap.size) V (by rw [hz]; exact s3) (Nat.le_refl _)
    (fun x hx => by
      rw [hz]
      simp only [recK2, List.mem_cons, List.not_mem_nil, or_false] at hx
      rcases hx with rfl | rfl
      · exact Sl.nil _ _ _
      · exact s1.more (by omega))
    (by decide) (by decide) (by show 2 ≤ 20; decide)
    (fun x hx => by
      simp only [recK2, List.mem_cons, List.not_mem_nil, or_false] at hx
      rcases hx with rfl | rfl
      · exact goodK1
      · exact goodK2)
    (fun i hi => by
      have hi0 : i = 0 := by have : (recK2 W.heap.size).length = 2 := rfl; omega
      subst hi0
      rfl)
  have e : recsB 2 (recK2 W.heap.size) = [2, 0, 1, 0] := by
    show ([recB 2 ⟨[], 1, 0⟩, recB 2 ⟨[⟨1, [], 0⟩], 2, 2⟩] : List (List UInt8)).flatten = _
    decide
  rw [e] at h
  exact h.mono fun e w' h => ⟨h.1, hb.trans (h.2.mono hb.size)⟩
/-- A fault stored into its block. -/
theorem storeF {w W : World} {g : Nat} {a b : Value} (F : Blk W g 27 #[a, b]) (hB : Below w.heap.size w W) (hg : w.heap.size ≤ g) (x y : Value) :
    Blk ((W.setCell ⟨g, 0, none⟩ x).setCell ⟨g, 1, none⟩ y) g 27 #[x, y] ∧ Below w.heap.size w ((W.setCell ⟨g, 0, none⟩ x).setCell ⟨g, 1, none⟩ y) ∧
      (∀ g2 T cs, g2 ≠ g → Blk W g2 T cs → Blk ((W.setCell ⟨g, 0, none⟩ x).setCell ⟨g, 1, none⟩ y) g2 T cs) ∧
      (∀ B e s A n cap xs, e ≠ 27 → Own W B e s A n cap xs → Own ((W.setCell ⟨g, 0, none⟩ x).setCell ⟨g, 1, none⟩ y) B e s A n cap xs) ∧
      (∀ L, rcO W W.heap.size L → rcO ((W.setCell ⟨g, 0, none⟩ x).setCell ⟨g, 1, none⟩ y) ((W.setCell ⟨g, 0, none⟩ x).setCell ⟨g, 1, none⟩ y).heap.size L) ∧ ((W.setCell ⟨g, 0, none⟩ x).setCell ⟨g, 1, none⟩ y).heap.size = W.heap.size := by
  have F1 : Blk (W.setCell ⟨g, 0, none⟩ x) g 27 #[x, b] := F.set 0 x
  have F2 : Blk ((W.setCell ⟨g, 0, none⟩ x).setCell ⟨g, 1, none⟩ y) g 27 #[x, y] := F1.set 1 y
  refine ⟨F2, (hB.setCell (p := ⟨g, 0, none⟩) hg x).setCell (p := ⟨g, 1, none⟩) hg y, fun g2 T cs hne h => (h.far (p := ⟨g, 0, none⟩) hne x).far (p := ⟨g, 1, none⟩) hne y, fun B e s A n cap xs he h => ?_, fun L h => ?_, by simp⟩
  · have h1 := h.grown (setG W g 0 x) (h.ne_blk he F)
    exact h1.grown (setG _ g 1 y) (h1.ne_blk he F1)
  · exact ((h.grownG (by decide) F (setG W g 0 x)).grownG (by decide) F1 (setG _ g 1 y)).more (by simp)
set_option maxRecDepth 100000 in
set_option maxHeartbeats 12800000 in
theorem RecordKnown_any (w : World) :
    Calls Try.prog 6 #[] w fun e w' => e = .returned (.bool true) ∧ Below w.heap.size w w' := by
  have HA := Lib.hid (fun W => awake23_any W)
  have HF1 := Lib.hid (fun W => Frames_at [0, 2, 104, 105, 1] 2 0 _ _ _ _ W (by decide) (by decide) (by decide) (by decide) (by decide) fr_ex1)
  have HF2 := Lib.hid (fun W => Frames_at [0, 2, 104, 105, 3] 2 0 _ _ _ _ W (by decide) (by decide) (by decide) (by decide) (by decide) fr_ex2)
  have HF3 := Lib.hid (fun W => Frames_at [] 2 0 _ _ _ _ W (by decide) (by decide) (by decide) (by decide) (by decide) fr_ex3)
  have HO1 := Lib.hid (fun W => Of_at _ _ _ _ _ of_ex1 W (by decide))
  have HO2 := Lib.hid (fun W => Of_at _ _ _ _ _ of_ex2 W (by decide))
  have HO3 := Lib.hid (fun W => Of_at _ _ _ _ _ of_ex3 W (by decide))
  unfold Fault.v at HO1 HO2 HO3
  simp only [List.length_cons, List.length_nil, Nat.zero_add, Nat.reduceAdd] at HF1 HF2 HF3 HO1 HO2 HO3
  go_enter Try.func6, Try.ntmps6
  go_wp2_with fail
  refine (HF1.out _).mono ?_
  rintro e w1 ⟨A1, c1, rfl, _, hb1⟩
  have F3 := Blk.new w1 27 #[.int .i64 5, .int .i64 4]
  have hB1 := hb1.alloc hb1.size (.cells #[.int .i64 5, .int .i64 4] 27)
  have hz1 : (w1.alloc (.cells #[.int .i64 5, .int .i64 4] 27)).heap.size = w1.heap.size + 1 := by simp
  have hw1 := hb1.size
  have H1 := Lib.hid (And.intro F3 (And.intro hB1 hz1))
  clear F3 hB1 hb1 HF1 hz1
  go_wp2_with fail
  obtain ⟨F3, hB1, hz1⟩ := H1.out
  clear H1
  generalize w1.alloc (.cells #[.int .i64 5, .int .i64 4] 27) = v1 at *
  refine (HF2.out _).mono ?_
  rintro e w2 ⟨A2, c2, rfl, _, hb2⟩
  have hs2 := hb2.size
  have F6 := Blk.new w2 27 #[.int .i64 14, .int .i64 4]
  have F3 := (Blk.on F3 hb2).alloc (.cells #[.int .i64 14, .int .i64 4] 27)
  have hB2 := (below_on hB1 hb2 (Nat.le_refl _)).alloc (Nat.le_trans hB1.size hs2) (.cells #[.int .i64 14, .int .i64 4] 27)
  have hz2 : (w2.alloc (.cells #[.int .i64 14, .int .i64 4] 27)).heap.size = w2.heap.size + 1 := by simp
  have H2 := Lib.hid (And.intro F3 (And.intro F6 (And.intro hB2 hz2)))
  clear F3 F6 hB2 hB1 hb2 HF2 hz2
  go_wp2_with fail
  obtain ⟨F3, F6, hB2, hz2⟩ := H2.out
  clear H2
  generalize w2.alloc (.cells #[.int .i64 14, .int .i64 4] 27) = v2 at *
  refine (HF3.out _).mono ?_
  rintro e w3 ⟨A3, c3, rfl, _, hb3⟩
  have hs3 := hb3.size
  have F9 := Blk.new w3 27 #[.int .i64 0, .int .i64 0]
  have F3 := (Blk.on F3 hb3).alloc (.cells #[.int .i64 0, .int .i64 0] 27)
  have F6 := (Blk.on F6 hb3).alloc (.cells #[.int .i64 0, .int .i64 0] 27)
  have hB3 := (below_on hB2 hb3 (Nat.le_refl _)).alloc (Nat.le_trans hB2.size hs3) (.cells #[.int .i64 0, .int .i64 0] 27)
  have n36 : w1.heap.size ≠ w2.heap.size := by omega
  have hw2 : w.heap.size ≤ w2.heap.size := by omega
  obtain ⟨p0, p1, _, _⟩ := cells2 F3
  obtain ⟨q0, q1, _, _⟩ := cells2 F6
  obtain ⟨r0, r1, _, _⟩ := cells2 F9
  have H3 := Lib.hid (And.intro F3 (And.intro F6 hB3))
  clear F3 F6 F9 hB3 hB2 hb3 HF3
  go_wp2_with fail
  obtain ⟨F3, F6, hB3⟩ := H3.out
  clear H3 p0 p1 q0 q1 r0 r1
  generalize w3.alloc (.cells #[.int .i64 0, .int .i64 0] 27) = v3 at *
  refine (HO1.out _).mono ?_
  rintro e w4 ⟨⟨L, A4, c4, hL, hLl, rfl, hO4, hR4⟩, hb4⟩
  have hs4 := hb4.size
  have F3 := Blk.on F3 hb4
  have F6 := Blk.on F6 hb4
  have hB4 := below_on hB3 hb4 (Nat.le_refl _)
  obtain ⟨p0, p1, k0, k1⟩ := cells2 F3
  obtain ⟨F3', hB5, kB, kO, kR, hz5⟩ := storeF F3 hB4 hw1 (.int .i64 0) (.int .i64 0)
  have F6' := kB _ _ _ n36.symm F6
  have hO5 := kO _ _ _ _ _ _ _ (by decide) hO4
  have hR5 := kR _ hR4
  have H4 := Lib.hid (And.intro F3' (And.intro F6' (And.intro hB5 (And.intro hO5 (And.intro hR5 hz5)))))
  clear F3 F6 hB3 hB4 hb4 F3' F6' hB5 kB kO kR hz5 hO4 hO5 hR4 hR5 HO1
  have HLL := Lib.hid (And.intro hL hLl)
  clear hL hLl
  go_wp2_with fail
  obtain ⟨F3, F6, hB5, hO5, hR5, hz5⟩ := H4.out
  obtain ⟨hL, hLl⟩ := HLL.out
  clear H4 HLL p0 p1 k0 k1
  generalize (w4.setCell ⟨w1.heap.size, 0, none⟩ (.int .i64 0)).setCell ⟨w1.heap.size, 1, none⟩ (.int .i64 0) = v5 at *
  rw [hLl] at hO5
  have KR := SameRecs_K v5 L A4 c4 hLl hL hO5 hR5
  rw [hz5] at KR
  refine KR.mono ?_
  rintro e w6 ⟨rfl, hb7⟩
  have hb6 : Below v5.heap.size v5 w6 := ((((Below.refl v5.heap.size v5).alloc (Nat.le_refl _) _).alloc (by simp) _).alloc (by simp; omega) _).trans (hb7.mono (by omega))
  have F3 := Blk.on F3 hb6
  have F6 := Blk.on F6 hb6
  have hB6 := below_on hB5 hb6 (Nat.le_refl _)
  obtain ⟨p0, p1, k0, k1⟩ := cells2 F3
  have hB7 := hB6.alloc hB6.size (.cells #[.int .i64 0, .string ⟨#[]⟩, .int .i64 0, .int .i64 2, .string ⟨#[]⟩, .int .i64 2, .int .i64 1, .string ⟨#[]⟩, .int .i64 4] 41)
  have F3 := F3.alloc (.cells #[.int .i64 0, .string ⟨#[]⟩, .int .i64 0, .int .i64 2, .string ⟨#[]⟩, .int .i64 2, .int .i64 1, .string ⟨#[]⟩, .int .i64 4] 41)
  have F6 := F6.alloc (.cells #[.int .i64 0, .string ⟨#[]⟩, .int .i64 0, .int .i64 2, .string ⟨#[]⟩, .int .i64 2, .int .i64 1, .string ⟨#[]⟩, .int .i64 4] 41)
  have HSp := Split_at _ _ _ _ _ sp_ex (some ⟨w6.heap.size, 0, none⟩) 3 (w6.heap.size + 1) _ (sl_newN w6 #[.int .i64 0, .string ⟨#[]⟩, .int .i64 0, .int .i64 2, .string ⟨#[]⟩, .int .i64 2, .int .i64 1, .string ⟨#[]⟩, .int .i64 4] 41 3 rfl (by decide)) (by simp) (by decide) (by simp)
  simp only [List.length_cons, List.length_nil, Nat.zero_add, Nat.reduceAdd] at HSp
  have H7 := Lib.hid (And.intro hB7 (And.intro F3 (And.intro F6 HSp)))
  clear hb6 hb7 F3 F6 hB6 hB7 HSp hB5 KR hO5 hR5 hL hLl
  go_wp2_with fail
  obtain ⟨hB7, F3, F6, HSp⟩ := H7.out
  clear H7 p0 p1 k0 k1
  generalize w6.alloc (.cells #[.int .i64 0, .string ⟨#[]⟩, .int .i64 0, .int .i64 2, .string ⟨#[]⟩, .int .i64 2, .int .i64 1, .string ⟨#[]⟩, .int .i64 4] 41) = v7 at *
  refine HSp.mono ?_
  rintro e w8 ⟨⟨Ao, Ar, co, cr, rfl, hOr⟩, hb8⟩
  have F3 := Blk.on F3 hb8
  have F6 := Blk.on F6 hb8
  have hB8 := below_on hB7 hb8 (Nat.le_refl _)
  have H8 := Lib.hid (And.intro hB8 (And.intro F3 (And.intro F6 hOr)))
  clear F3 F6 hB8 hOr hb8 hB7 HSp
  go_wp2_with fail
  obtain ⟨hB8, F3, F6, hOr⟩ := H8.out
  clear H8
  refine (HO2.out _).mono ?_
  rintro e w9 ⟨⟨L2, A9, c9, _, _, rfl, _, _⟩, hb9⟩
  have F3 := Blk.on F3 hb9
  have F6 := Blk.on F6 hb9
  have hB9 := below_on hB8 hb9 (Nat.le_refl _)
  have hOr := hOr.below hb9 (Nat.le_refl _)
  obtain ⟨p0, p1, k0, k1⟩ := cells2 F3
  obtain ⟨F3', hB10, kB, kO, _, hz10⟩ := storeF F3 hB9 hw1 (.int .i64 0) (.int .i64 0)
  have F6' := kB _ _ _ n36.symm F6
  have hOr' := kO _ _ _ _ _ _ _ (by decide) hOr
  have H9 := Lib.hid (And.intro F3' (And.intro F6' (And.intro hB10 (And.intro hOr' hz10))))
  clear F3 F6 hB8 hB9 hb9 F3' F6' hB10 kB kO hz10 hOr hOr' HO2
  go_wp2_with fail
  obtain ⟨F3, F6, hB10, hOr, hz10⟩ := H9.out
  clear H9 p0 p1 k0 k1
  generalize (w9.setCell ⟨w1.heap.size, 0, none⟩ (.int .i64 0)).setCell ⟨w1.heap.size, 1, none⟩ (.int .i64 0) = v10 at *
  refine (HO3.out _).mono ?_
  rintro e w11 ⟨⟨L3, A11, c11, _, _, rfl, _, _⟩, hb11⟩
  have F3 := Blk.on F3 hb11
  have F6 := Blk.on F6 hb11
  have hB11 := below_on hB10 hb11 (Nat.le_refl _)
  have hOr := hOr.below hb11 (Nat.le_refl _)
  obtain ⟨p0, p1, k0, k1⟩ := cells2 F6
  obtain ⟨F6', hB12, kB, kO, _, hz12⟩ := storeF F6 hB11 hw2 (.int .i64 0) (.int .i64 0)
  have F3' := kB _ _ _ n36 F3
  have hOr' := kO _ _ _ _ _ _ _ (by decide) hOr
  have H11 := Lib.hid (And.intro F3' (And.intro F6' (And.intro hB12 (And.intro hOr' hz12))))
  clear F3 F6 hB10 hB11 hb11 F3' F6' hB12 kB kO hz12 hOr hOr' HO3 hz10
  go_wp2_with fail
  obtain ⟨F3, F6, hB12, hOr, hz12⟩ := H11.out
  clear H11 p0 p1 k0 k1
  generalize (w11.setCell ⟨w2.heap.size, 0, none⟩ (.int .i64 0)).setCell ⟨w2.heap.size, 1, none⟩ (.int .i64 0) = v12 at *
  have HBy := Bytes_K v12
  rw [hz12] at HBy
  refine HBy.mono ?_
  rintro e w13 ⟨rfl, hb13⟩
  rw [← hz12] at hb13
  have F3 := Blk.on F3 hb13
  have F6 := Blk.on F6 hb13
  have hB13 := below_on hB12 hb13 (Nat.le_refl _)
  have hOr := hOr.below hb13 (Nat.le_refl _)
  obtain ⟨p0, p1, _, _⟩ := cells2 F3
  obtain ⟨q0, q1, _, _⟩ := cells2 F6
  obtain ⟨b, o, rfl, hb, d0, d1, d2⟩ := sl_tok (l := [⟨1, [], 4⟩]) (k := 0) hOr.sl (by decide)
  have HC1 := Lib.hid (fun W => Check_e2 none 0 0 2 [] 2 0 W (Sl.nil _ _ _) (Nat.zero_le _) (by decide) (by decide) (by decide) (by simp) rfl (by simp) rfl (by decide) (by decide) rfl rfl)
  have HC2 := Lib.hid (fun W => Check_e0 none 0 0 2 [] 0 0 W (Sl.nil _ _ _) (Nat.zero_le _) (by decide) (by decide) (by decide) (by simp) rfl (by simp) rfl (by decide) (by decide) rfl rfl)
  have HC3 := Lib.hid (fun W : World => Check_nb (some ⟨W.heap.size, 0, none⟩) 1 (W.heap.size + 1) 2 [⟨0, [], 0⟩] 1 3 _ (sl_newN W #[.int .i64 0, .string ⟨#[]⟩, .int .i64 0] 41 1 rfl (by decide)) (by simp) (by decide) (by decide) (by decide) (by simp) (by decide) (by simp) rfl (by decide) (by decide) (by decide) neK rfl)
  simp only [List.length_cons, List.length_nil, Nat.zero_add, Nat.zero_mul, Nat.add_zero, List.getElem_cons_zero] at HC1 HC2 HC3 d0
  have H13 := Lib.hid hB13
  clear F3 F6 hB13 hB12 hb13 hOr HBy
  go_wp2_with fail
  refine (HC1.out _).mono ?_
  rintro e w14 ⟨rfl, hb14⟩
  have H14 := Lib.hid (below_on H13.out hb14 (Nat.le_refl _))
  clear hb14 H13
  go_wp2_with fail
  refine (HC2.out _).mono ?_
  rintro e w15 ⟨rfl, hb15⟩
  have H15 := Lib.hid (below_on H14.out hb15 (Nat.le_refl _))
  have H16 := Lib.hid (H15.out.alloc H15.out.size (.cells #[.int .i64 0, .string ⟨#[]⟩, .int .i64 0] 41))
  have HC4 := Lib.hid (HC3.out w15)
  clear hb15 H14
  go_wp2_with fail
  refine HC4.out.mono ?_
  rintro e w17 ⟨rfl, hb17⟩
  have H17 := Lib.hid (below_on H16.out hb17 (Nat.le_refl _))
  clear hb17
  go_wp2_with fail
  refine (HA.out _).mono ?_
  rintro e w18 ⟨rfl, hb18⟩
  have H18 := Lib.hid (below_on H17.out hb18 (Nat.le_refl _))
  clear hb18
  go_wp2_with fail
  go_ret
  exact ⟨rfl, H18.out⟩
end Go.Proofs.Ytdndomjmnlpjgaa
