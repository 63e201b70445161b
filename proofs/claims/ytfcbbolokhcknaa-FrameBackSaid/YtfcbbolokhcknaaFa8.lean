/- Take. -/
import Derived.Test.YtfcbbolokhcknaaFa7
namespace Go.Proofs.Ytfcbbolokhcknaa
open Go.RowKit
def tok0 : Tok := ⟨0, [], 0⟩
/-- The error of a byte behind a part. -/
def takeE (n : Int) (l : List UInt8) (b : Nat) : Int := if partE n l ≠ 0 then partE n l else badN n.toNat l.length b
/-- The part behind a byte, the token, whether it is whole. -/
def takeS (n : Int) (l : List UInt8) (b : Nat) : List UInt8 := if takeE n l b = 0 ∧ wholeP (l ++ [UInt8.ofNat b]) = false then l ++ [UInt8.ofNat b] else []
def takeT (n : Int) (l : List UInt8) (b : Nat) : Tok := if takeE n l b = 0 ∧ wholeP (l ++ [UInt8.ofNat b]) = true then ⟨b0 (l ++ [UInt8.ofNat b]), (l ++ [UInt8.ofNat b]).drop 2, 0⟩ else tok0
def takeW (n : Int) (l : List UInt8) (b : Nat) : Bool := decide (takeE n l b = 0) && wholeP (l ++ [UInt8.ofNat b])
theorem take_cases (n : Int) (l : List UInt8) (b : Nat) : (partE n l ≠ 0 ∧ takeE n l b = partE n l ∧ takeS n l b = [] ∧ takeT n l b = tok0 ∧ takeW n l b = false) ∨
    (∃ m : Nat, n = m ∧ 1 ≤ m ∧ m ≤ 8 ∧ okG m l ∧ partE n l = 0 ∧ partL n l = l ∧ badN m l.length b ≠ 0 ∧ takeE n l b = badN m l.length b ∧ takeS n l b = [] ∧ takeT n l b = tok0 ∧ takeW n l b = false) ∨
    (∃ m : Nat, n = m ∧ 1 ≤ m ∧ m ≤ 8 ∧ okG m l ∧ partE n l = 0 ∧ partL n l = l ∧ badN m l.length b = 0 ∧ wholeP (l ++ [UInt8.ofNat b]) = false ∧ takeE n l b = 0 ∧ takeS n l b = l ++ [UInt8.ofNat b] ∧ takeT n l b = tok0 ∧ takeW n l b = false) ∨
    (∃ m : Nat, n = m ∧ 1 ≤ m ∧ m ≤ 8 ∧ okG m l ∧ partE n l = 0 ∧ partL n l = l ∧ badN m l.length b = 0 ∧ wholeP (l ++ [UInt8.ofNat b]) = true ∧ takeE n l b = 0 ∧ takeS n l b = [] ∧ takeT n l b = ⟨b0 (l ++ [UInt8.ofNat b]), (l ++ [UInt8.ofNat b]).drop 2, 0⟩ ∧ takeW n l b = true) := by
  by_cases h : partE n l = 0
  · have hm : ∃ m : Nat, n = m ∧ 1 ≤ m ∧ m ≤ 8 ∧ okG m l ∧ partL n l = l := by
      rcases partE_cases n l with ⟨_, h0, _⟩ | ⟨_, _, h0, _⟩ | ⟨m, h1, h2, h3, h4, _, h5⟩ | ⟨m, _, _, _, _, h0, _⟩
      · omega
      · omega
      · exact ⟨m, h1, h2, h3, h4, h5⟩
      · omega
    obtain ⟨m, rfl, h1, h8, hg, hp⟩ := hm
    right
    have hE : takeE (m : Int) l b = badN m l.length b := by unfold takeE; rw [if_neg (by simpa using h)]; rfl
    unfold takeS takeT takeW
    rw [hE]
    by_cases hb : badN m l.length b = 0
    · right
      cases hw : wholeP (l ++ [UInt8.ofNat b])
      · left; exact ⟨m, rfl, h1, h8, hg, h, hp, hb, rfl, hb, by rw [if_pos ⟨hb, rfl⟩], by rw [if_neg (by simp)], by simp⟩
      · right; exact ⟨m, rfl, h1, h8, hg, h, hp, hb, rfl, hb, by rw [if_neg (by simp)], by rw [if_pos ⟨hb, rfl⟩], by simp [hb]⟩
    · left
      exact ⟨m, rfl, h1, h8, hg, h, hp, hb, rfl, by rw [if_neg (fun h => hb h.1)], by rw [if_neg (fun h => hb h.1)], by simp [hb]⟩
  · left
    have hE : takeE n l b = partE n l := if_pos h
    unfold takeS takeT takeW
    rw [hE]
    exact ⟨h, rfl, by rw [if_neg (fun h' => h h'.1)], by rw [if_neg (fun h' => h h'.1)], by simp [h]⟩
theorem results_tctt {P : Program} {fn : Func} {p u v x : Tmp} {tp : TypeId} (h : fn.results = #[.tmp u, .cell p tp, .tmp v, .tmp x]) (tmps : Array Value) (w : World) (g : Nat) (t : TypeId) (cs : Array Value) (d : TypeDesc)
    (hp : tmps.getD p undef = .pointer (some ⟨g, 0, none⟩)) (hg : Blk w g t cs)
    (hu : P.underlying tp = some d) (hd : (match d with | .struct _ | .array _ _ => true | _ => false) = true) (hi : (P.info? tp).map (·.size) = some cs.size) :
    (results fn tmps).run P w = .ok (.tuple #[tmps.getD u undef, .agg cs, tmps.getD v undef, tmps.getD x undef]) w := by
  obtain ⟨fr, hg, _⟩ := hg
  have hp' : tmps[p]?.getD undef = .pointer (some ⟨g, 0, none⟩) := by simpa using hp
  simp [results, h, hp', asAddr, run_loadVar_row w g t tp cs fr d hg hu hd hi]
set_option maxRecDepth 100000 in
set_option maxHeartbeats 6400000 in
theorem Take_any (n : Int) (l : List UInt8) (b : Nat) (w : World) (hl : l.length ≤ 1000) (hb8 : b < 256) :
    Calls Try.prog 13 #[.int .i64 n, .string ⟨l.toArray⟩, .int .u8 b] w fun e w' => e = .returned (.tuple #[.string ⟨(takeS n l b).toArray⟩, (takeT n l b).v, .bool (takeW n l b), .int .i64 (takeE n l b)]) ∧ Below w.heap.size w w' := by
  have HR := Lib.hid (fun W => begun_any n l W hl)
  have hL := partL_len n l
  have hc := take_cases n l b
  generalize takeE n l b = TE at *
  generalize takeS n l b = TS at *
  generalize takeT n l b = TT at *
  generalize takeW n l b = TW at *
  have hT := Blk.new w 29 #[.int .i64 0, .string ⟨#[]⟩, .int .i64 0]
  have hB := (Below.refl w.heap.size w).alloc (Nat.le_refl _) (.cells #[.int .i64 0, .string ⟨#[]⟩, .int .i64 0] 29)
  rcases hc with ⟨h0, rfl, rfl, rfl, rfl⟩ | ⟨m, rfl, h1, h8, hg, hpe, hpl, hb, rfl, rfl, rfl, rfl⟩ | ⟨m, rfl, h1, h8, hg, hpe, hpl, hb, hw, rfl, rfl, rfl, rfl⟩ | ⟨m, rfl, h1, h8, hg, hpe, hpl, hb, hw, rfl, rfl, rfl, rfl⟩
  · generalize partE n l = PE at *
    generalize partL n l = PL at *
    have hL26 : PL.length ≤ 26 := by omega
    have h0' : (PE == 0) = false := by simpa using h0
    clear h0
    go_enter Try.func13, Try.ntmps13
    go_wp2_with fail
    refine (HR.out _).mono ?_
    rintro e w1 ⟨rfl, hb1⟩
    have hZ1 := Pt.zz w1 (g := w1.heap.size) rfl
    have hle : w.heap.size + 1 ≤ w1.heap.size := by have := hb1.size; simpa using this
    have hB2 := below_setRow ((below_on hB hb1 (Nat.le_refl _)).alloc (by omega) (.cells #[.int .u8 0, .int .u8 0, .int .u8 0, .int .u8 0, .int .u8 0, .int .u8 0, .int .u8 0, .int .u8 0, .int .u8 0, .int .u8 0, .int .u8 0, .int .u8 0, .int .u8 0, .int .u8 0, .int .u8 0, .int .u8 0, .int .u8 0, .int .u8 0, .int .u8 0, .int .u8 0, .int .u8 0, .int .u8 0, .int .u8 0, .int .u8 0, .int .u8 0, .int .u8 0, .int .i64 0] 53)) (show w.heap.size ≤ w1.heap.size by omega) (partC PL).toArray
    have hT2 := ((Blk.on hT hb1).alloc (.cells #[.int .u8 0, .int .u8 0, .int .u8 0, .int .u8 0, .int .u8 0, .int .u8 0, .int .u8 0, .int .u8 0, .int .u8 0, .int .u8 0, .int .u8 0, .int .u8 0, .int .u8 0, .int .u8 0, .int .u8 0, .int .u8 0, .int .u8 0, .int .u8 0, .int .u8 0, .int .u8 0, .int .u8 0, .int .u8 0, .int .u8 0, .int .u8 0, .int .u8 0, .int .u8 0, .int .i64 0] 53)).rowFar (k := w1.heap.size) (by omega) (partC PL).toArray
    clear hb1 hT hB HR
    go_wp2_with (first
      | (refine wpList_store_part rfl _ _ rfl w1.heap.size rfl PL hL26 rfl [] hZ1 ?_))
    generalize (w1.alloc (.cells #[.int .u8 0, .int .u8 0, .int .u8 0, .int .u8 0, .int .u8 0, .int .u8 0, .int .u8 0, .int .u8 0, .int .u8 0, .int .u8 0, .int .u8 0, .int .u8 0, .int .u8 0, .int .u8 0, .int .u8 0, .int .u8 0, .int .u8 0, .int .u8 0, .int .u8 0, .int .u8 0, .int .u8 0, .int .u8 0, .int .u8 0, .int .u8 0, .int .u8 0, .int .u8 0, .int .i64 0] 53)).setRow w1.heap.size (partC PL).toArray = W2 at *
    obtain ⟨c0, c1, c2, f0, f1, f2⟩ := cells3 hT2
    go_region
    have hT3 := ((hT2.set 0 (.int .i64 0)).set 1 (.string ⟨#[]⟩)).set 2 (.int .i64 0) |>.drew
    have hB3 := (((hB2.setCell (p := ⟨w.heap.size, 0, none⟩) (Nat.le_refl _) (.int .i64 0)).setCell (p := ⟨w.heap.size, 1, none⟩) (Nat.le_refl _) (.string ⟨#[]⟩)).setCell (p := ⟨w.heap.size, 2, none⟩) (Nat.le_refl _) (.int .i64 0)).drew
    go_wp2
    exact bodyPost_ret (results_tctt rfl _ _ w.heap.size _ _ _ rfl hT3 Try.underlying29 rfl tok_size) rfl ⟨rfl, hB3⟩
  · have hpl' := hpl.symm
    rw [hpe, hpl] at HR
    have hL26 : l.length ≤ 26 := by have := (okG_len m l hg).1; omega
    have HBd := Lib.hid (fun W => bad_any l m b W hL26 hb8)
    clear hpl hpl' hL
    have h0' : (badN m l.length b == 0) = false := by simpa using hb
    generalize badN m l.length b = PE at *
    clear hb hpe
    go_enter Try.func13, Try.ntmps13
    go_wp2_with fail
    refine (HR.out _).mono ?_
    rintro e w1 ⟨rfl, hb1⟩
    have hZ1 := Pt.zz w1 (g := w1.heap.size) rfl
    have hle : w.heap.size + 1 ≤ w1.heap.size := by have := hb1.size; simpa using this
    have hB2 := below_setRow ((below_on hB hb1 (Nat.le_refl _)).alloc (by omega) (.cells #[.int .u8 0, .int .u8 0, .int .u8 0, .int .u8 0, .int .u8 0, .int .u8 0, .int .u8 0, .int .u8 0, .int .u8 0, .int .u8 0, .int .u8 0, .int .u8 0, .int .u8 0, .int .u8 0, .int .u8 0, .int .u8 0, .int .u8 0, .int .u8 0, .int .u8 0, .int .u8 0, .int .u8 0, .int .u8 0, .int .u8 0, .int .u8 0, .int .u8 0, .int .u8 0, .int .i64 0] 53)) (show w.heap.size ≤ w1.heap.size by omega) (partC l).toArray
    have hT2 := ((Blk.on hT hb1).alloc (.cells #[.int .u8 0, .int .u8 0, .int .u8 0, .int .u8 0, .int .u8 0, .int .u8 0, .int .u8 0, .int .u8 0, .int .u8 0, .int .u8 0, .int .u8 0, .int .u8 0, .int .u8 0, .int .u8 0, .int .u8 0, .int .u8 0, .int .u8 0, .int .u8 0, .int .u8 0, .int .u8 0, .int .u8 0, .int .u8 0, .int .u8 0, .int .u8 0, .int .u8 0, .int .u8 0, .int .i64 0] 53)).rowFar (k := w1.heap.size) (by omega) (partC l).toArray
    have hZ2 := hZ1.row (k := l) hL26
    clear hb1 hT hB HR
    go_wp2_with (first
      | (refine wpList_store_part rfl _ _ rfl w1.heap.size rfl l hL26 rfl [] hZ1 ?_)
      | (refine wpList_load_part rfl _ rfl w1.heap.size rfl l hZ2 ?_))
    generalize (w1.alloc (.cells #[.int .u8 0, .int .u8 0, .int .u8 0, .int .u8 0, .int .u8 0, .int .u8 0, .int .u8 0, .int .u8 0, .int .u8 0, .int .u8 0, .int .u8 0, .int .u8 0, .int .u8 0, .int .u8 0, .int .u8 0, .int .u8 0, .int .u8 0, .int .u8 0, .int .u8 0, .int .u8 0, .int .u8 0, .int .u8 0, .int .u8 0, .int .u8 0, .int .u8 0, .int .u8 0, .int .i64 0] 53)).setRow w1.heap.size (partC l).toArray = W2 at *
    refine (HBd.out _).mono ?_
    rintro e w2 ⟨rfl, hb2⟩
    have hT4 := Blk.on hT2 hb2
    have hZ4 := hZ2.on hb2
    have hB4 := below_on hB2 hb2 (Nat.le_refl _)
    clear hT2 hB2 hb2 hZ1 hZ2 HBd
    obtain ⟨c0, c1, c2, f0, f1, f2⟩ := cells3 hT4
    go_wp2_with fail
    go_region
    have hT3 := ((hT4.set 0 (.int .i64 0)).set 1 (.string ⟨#[]⟩)).set 2 (.int .i64 0) |>.drew
    have hB3 := (((hB4.setCell (p := ⟨w.heap.size, 0, none⟩) (Nat.le_refl _) (.int .i64 0)).setCell (p := ⟨w.heap.size, 1, none⟩) (Nat.le_refl _) (.string ⟨#[]⟩)).setCell (p := ⟨w.heap.size, 2, none⟩) (Nat.le_refl _) (.int .i64 0)).drew
    go_wp2
    exact bodyPost_ret (results_tctt rfl _ _ w.heap.size _ _ _ rfl hT3 Try.underlying29 rfl tok_size) rfl ⟨rfl, hB3⟩
  · have hpl' := hpl.symm
    rw [hpe, hpl] at HR
    have hL26 : l.length ≤ 26 := by have := (okG_len m l hg).1; omega
    have hL25 : l.length < 26 := by have := (okG_len m l hg).1; omega
    have HBd := Lib.hid (fun W => bad_any l m b W hL26 hb8)
    clear hpl hpl' hL
    have HTk := Lib.hid (fun W => take_any l b W hL25 hb8)
    rw [hw] at HTk
    rw [hb] at HBd
    clear hpe hb hw
    have hkl : (l ++ [UInt8.ofNat b]).length ≤ 26 := by simp; omega
    generalize l ++ [UInt8.ofNat b] = k at *
    have hK26 : k.length ≤ 26 := hkl
    clear hkl
    simp only [if_neg (show ¬ (false = true) by decide)] at HTk
    go_enter Try.func13, Try.ntmps13
    go_wp2_with fail
    refine (HR.out _).mono ?_
    rintro e w1 ⟨rfl, hb1⟩
    have hZ1 := Pt.zz w1 (g := w1.heap.size) rfl
    have hle : w.heap.size + 1 ≤ w1.heap.size := by have := hb1.size; simpa using this
    have hB2 := below_setRow ((below_on hB hb1 (Nat.le_refl _)).alloc (by omega) (.cells #[.int .u8 0, .int .u8 0, .int .u8 0, .int .u8 0, .int .u8 0, .int .u8 0, .int .u8 0, .int .u8 0, .int .u8 0, .int .u8 0, .int .u8 0, .int .u8 0, .int .u8 0, .int .u8 0, .int .u8 0, .int .u8 0, .int .u8 0, .int .u8 0, .int .u8 0, .int .u8 0, .int .u8 0, .int .u8 0, .int .u8 0, .int .u8 0, .int .u8 0, .int .u8 0, .int .i64 0] 53)) (show w.heap.size ≤ w1.heap.size by omega) (partC l).toArray
    have hT2 := ((Blk.on hT hb1).alloc (.cells #[.int .u8 0, .int .u8 0, .int .u8 0, .int .u8 0, .int .u8 0, .int .u8 0, .int .u8 0, .int .u8 0, .int .u8 0, .int .u8 0, .int .u8 0, .int .u8 0, .int .u8 0, .int .u8 0, .int .u8 0, .int .u8 0, .int .u8 0, .int .u8 0, .int .u8 0, .int .u8 0, .int .u8 0, .int .u8 0, .int .u8 0, .int .u8 0, .int .u8 0, .int .u8 0, .int .i64 0] 53)).rowFar (k := w1.heap.size) (by omega) (partC l).toArray
    have hZ2 := hZ1.row (k := l) hL26
    clear hb1 hT hB HR
    go_wp2_with (first
      | (refine wpList_store_part rfl _ _ rfl w1.heap.size rfl l hL26 rfl [] hZ1 ?_)
      | (refine wpList_load_part rfl _ rfl w1.heap.size rfl l hZ2 ?_))
    generalize (w1.alloc (.cells #[.int .u8 0, .int .u8 0, .int .u8 0, .int .u8 0, .int .u8 0, .int .u8 0, .int .u8 0, .int .u8 0, .int .u8 0, .int .u8 0, .int .u8 0, .int .u8 0, .int .u8 0, .int .u8 0, .int .u8 0, .int .u8 0, .int .u8 0, .int .u8 0, .int .u8 0, .int .u8 0, .int .u8 0, .int .u8 0, .int .u8 0, .int .u8 0, .int .u8 0, .int .u8 0, .int .i64 0] 53)).setRow w1.heap.size (partC l).toArray = W2 at *
    refine (HBd.out _).mono ?_
    rintro e w2 ⟨rfl, hb2⟩
    have hT4 := Blk.on hT2 hb2
    have hZ4 := hZ2.on hb2
    have hB4 := below_on hB2 hb2 (Nat.le_refl _)
    clear hT2 hB2 hb2 hZ1 hZ2 HBd
    go_wp2_with (first
      | (refine wpList_load_part rfl _ rfl w1.heap.size rfl l hZ4 ?_))
    refine (HTk.out _).mono ?_
    rintro e w3 ⟨rfl, hb3⟩
    have hT5 := (Blk.on hT4 hb3).rowFar (k := w1.heap.size) (by omega) (partC k).toArray
    have hZ5 := hZ4.on hb3
    have hZ6 := hZ5.row (k := k) hK26
    have hB5 := below_setRow (below_on hB4 hb3 (Nat.le_refl _)) (show w.heap.size ≤ w1.heap.size by omega) (partC k).toArray
    have hT6 := hT5.row #[.int .i64 0, .string ⟨#[]⟩, .int .i64 0] rfl
    have hZ7 := hZ6.rowFar (j := w.heap.size) (by omega) #[.int .i64 0, .string ⟨#[]⟩, .int .i64 0]
    have hB6 := below_setRow hB5 (Nat.le_refl _) #[.int .i64 0, .string ⟨#[]⟩, .int .i64 0]
    have HTx := Lib.hid (fun W => text_any k W hK26)
    clear hT4 hB4 hb3 hZ4 HTk
    go_wp2_with (first
      | (refine wpList_store_part rfl _ _ rfl w1.heap.size rfl k hK26 rfl l hZ5 ?_)
      | (refine wpList_store_tok rfl _ _ rfl w.heap.size rfl 0 0 ⟨#[]⟩ rfl _ _ _ hT5 ?_))
    generalize (w3.setRow w1.heap.size (partC k).toArray).setRow w.heap.size #[.int .i64 0, .string ⟨#[]⟩, .int .i64 0] = W4 at *
    clear hT5 hB5 hZ5 hZ6
    have KS : (fun W => Pt W w1.heap.size k ∧ Blk W w.heap.size 29 #[.int .i64 0, .string ⟨#[]⟩, .int .i64 0] ∧ Below w.heap.size w W) W4.drew := ⟨hZ7.drew, hT6.drew, hB6.drew⟩
    refine wp_region_noPanic ?_
    refine wp_region_held_drew (S := fun W => Pt W w1.heap.size k ∧ Blk W w.heap.size 29 #[.int .i64 0, .string ⟨#[]⟩, .int .i64 0] ∧ Below w.heap.size w W) (by kernel_rfl) KS (fun _ => ?_)
    refine reg_take 0 _ 34 (partV k) rfl rfl (by kernel_rfl) (by kernel_rfl) (by kernel_rfl) (fun _ _ _ h => h) (by rfl) (fun W' hS => exec_load_blk 53 _ rfl w1.heap.size rfl 53 _ _ hS.1.1 Try.underlying53 rfl (part_in k hK26)) KS ?_
    refine reg_take 2 _ 36 (.agg #[.int .i64 0, .string ⟨#[]⟩, .int .i64 0]) rfl rfl (by kernel_rfl) (by kernel_rfl) (by kernel_rfl) (fun _ _ _ h => h) (by rfl) (fun W' hS => exec_load_blk 29 _ rfl w.heap.size rfl 29 _ _ hS.2.1 Try.underlying29 rfl tok_size) KS ?_
    refine reg_take 3 _ 37 (.bool false) rfl rfl (by kernel_rfl) (by kernel_rfl) (by kernel_rfl) (fun _ _ _ h => h) (by rfl) (fun W' _ => by rfl) KS ?_
    simp only [List.setIfInBounds_toArray, List.set_cons_zero, List.set_cons_succ]
    refine reg_call 1 _ 35 (.string ⟨k.toArray⟩) (fun W => Below W4.drew.heap.size W4.drew W) rfl rfl (by kernel_rfl) (by rfl) (fun K Q h => wp_callFn 34 _ _ rfl #[partV k] (by simp only [List.map_toArray, List.map_cons, List.map_nil]; rfl) (enters_of Try.func34 (by kernel_rfl) rfl) (HTx.out _) (fun e w' ⟨he, hb⟩ => ⟨_, he, h w' hb⟩)) (fun W' hb => ⟨KS.1.on hb, Blk.on KS.2.1 hb, below_on KS.2.2 hb (Nat.le_refl _)⟩) ?_
    intro W5 hb5
    have hZ8 := KS.1.on hb5
    have hT8 := Blk.on KS.2.1 hb5
    have hB8 := below_on KS.2.2 hb5 (Nat.le_refl _)
    have hT9 := hT8.row #[.int .i64 0, .string ⟨#[]⟩, .int .i64 0] rfl
    have hZ9 := hZ8.rowFar (j := w.heap.size) (by omega) #[.int .i64 0, .string ⟨#[]⟩, .int .i64 0]
    have hB9 := below_setRow hB8 (Nat.le_refl _) #[.int .i64 0, .string ⟨#[]⟩, .int .i64 0]
    simp only [List.setIfInBounds_toArray, List.set_cons_zero, List.set_cons_succ]
    refine reg_step 4 _ (.string ⟨k.toArray⟩) _ rfl (by kernel_rfl) (by rfl) (fun K Q h => wp_assign _ rfl h) ⟨hZ8, hT8, hB8⟩ _ rfl ?_
    refine reg_step 5 _ undef _ rfl (by kernel_rfl) (by rfl) (fun K Q h => wp_store_tok _ _ rfl w.heap.size rfl 0 0 ⟨#[]⟩ rfl _ _ _ hT8 h) ⟨hZ9, hT9, hB9⟩ _ rfl ?_
    refine reg_step 6 _ (.bool false) _ rfl (by kernel_rfl) (by rfl) (fun K Q h => wp_assign _ rfl h) ⟨hZ9, hT9, hB9⟩ _ rfl ?_
    refine reg_step 7 _ (.int .i64 0) _ rfl (by kernel_rfl) (by rfl) (fun K Q h => wp_assign _ rfl h) ⟨hZ9, hT9, hB9⟩ _ rfl ?_
    refine wpAnyH_done (by kernel_rfl) ?_ _
    refine NoPanic.normal ?_
    go_wp2_with fail
    exact bodyPost_ret (results_tctt rfl _ _ w.heap.size _ _ _ rfl hT9 Try.underlying29 rfl tok_size) rfl ⟨rfl, hB9⟩
  · have hpl' := hpl.symm
    rw [hpe, hpl] at HR
    have hL26 : l.length ≤ 26 := by have := (okG_len m l hg).1; omega
    have hL25 : l.length < 26 := by have := (okG_len m l hg).1; omega
    have HBd := Lib.hid (fun W => bad_any l m b W hL26 hb8)
    clear hpl hpl' hL
    have HTk := Lib.hid (fun W => take_any l b W hL25 hb8)
    rw [hw] at HTk
    rw [hb] at HBd
    clear hpe hb hw
    generalize l ++ [UInt8.ofNat b] = k at *
    have hK26 : ([] : List UInt8).length ≤ 26 := by decide
    simp only [if_true] at HTk
    generalize b0 k = s0 at *
    generalize k.drop 2 = tx at *
    go_enter Try.func13, Try.ntmps13
    go_wp2_with fail
    refine (HR.out _).mono ?_
    rintro e w1 ⟨rfl, hb1⟩
    have hZ1 := Pt.zz w1 (g := w1.heap.size) rfl
    have hle : w.heap.size + 1 ≤ w1.heap.size := by have := hb1.size; simpa using this
    have hB2 := below_setRow ((below_on hB hb1 (Nat.le_refl _)).alloc (by omega) (.cells #[.int .u8 0, .int .u8 0, .int .u8 0, .int .u8 0, .int .u8 0, .int .u8 0, .int .u8 0, .int .u8 0, .int .u8 0, .int .u8 0, .int .u8 0, .int .u8 0, .int .u8 0, .int .u8 0, .int .u8 0, .int .u8 0, .int .u8 0, .int .u8 0, .int .u8 0, .int .u8 0, .int .u8 0, .int .u8 0, .int .u8 0, .int .u8 0, .int .u8 0, .int .u8 0, .int .i64 0] 53)) (show w.heap.size ≤ w1.heap.size by omega) (partC l).toArray
    have hT2 := ((Blk.on hT hb1).alloc (.cells #[.int .u8 0, .int .u8 0, .int .u8 0, .int .u8 0, .int .u8 0, .int .u8 0, .int .u8 0, .int .u8 0, .int .u8 0, .int .u8 0, .int .u8 0, .int .u8 0, .int .u8 0, .int .u8 0, .int .u8 0, .int .u8 0, .int .u8 0, .int .u8 0, .int .u8 0, .int .u8 0, .int .u8 0, .int .u8 0, .int .u8 0, .int .u8 0, .int .u8 0, .int .u8 0, .int .i64 0] 53)).rowFar (k := w1.heap.size) (by omega) (partC l).toArray
    have hZ2 := hZ1.row (k := l) hL26
    clear hb1 hT hB HR
    go_wp2_with (first
      | (refine wpList_store_part rfl _ _ rfl w1.heap.size rfl l hL26 rfl [] hZ1 ?_)
      | (refine wpList_load_part rfl _ rfl w1.heap.size rfl l hZ2 ?_))
    generalize (w1.alloc (.cells #[.int .u8 0, .int .u8 0, .int .u8 0, .int .u8 0, .int .u8 0, .int .u8 0, .int .u8 0, .int .u8 0, .int .u8 0, .int .u8 0, .int .u8 0, .int .u8 0, .int .u8 0, .int .u8 0, .int .u8 0, .int .u8 0, .int .u8 0, .int .u8 0, .int .u8 0, .int .u8 0, .int .u8 0, .int .u8 0, .int .u8 0, .int .u8 0, .int .u8 0, .int .u8 0, .int .i64 0] 53)).setRow w1.heap.size (partC l).toArray = W2 at *
    refine (HBd.out _).mono ?_
    rintro e w2 ⟨rfl, hb2⟩
    have hT4 := Blk.on hT2 hb2
    have hZ4 := hZ2.on hb2
    have hB4 := below_on hB2 hb2 (Nat.le_refl _)
    clear hT2 hB2 hb2 hZ1 hZ2 HBd
    go_wp2_with (first
      | (refine wpList_load_part rfl _ rfl w1.heap.size rfl l hZ4 ?_))
    refine (HTk.out _).mono ?_
    rintro e w3 ⟨rfl, hb3⟩
    have hT5 := (Blk.on hT4 hb3).rowFar (k := w1.heap.size) (by omega) (partC ([] : List UInt8)).toArray
    have hZ5 := hZ4.on hb3
    have hZ6 := hZ5.row (k := ([] : List UInt8)) hK26
    have hB5 := below_setRow (below_on hB4 hb3 (Nat.le_refl _)) (show w.heap.size ≤ w1.heap.size by omega) (partC ([] : List UInt8)).toArray
    have hT6 := hT5.row #[.int .i64 s0, .string ⟨tx.toArray⟩, .int .i64 0] rfl
    have hZ7 := hZ6.rowFar (j := w.heap.size) (by omega) #[.int .i64 s0, .string ⟨tx.toArray⟩, .int .i64 0]
    have hB6 := below_setRow hB5 (Nat.le_refl _) #[.int .i64 s0, .string ⟨tx.toArray⟩, .int .i64 0]
    have HTx := Lib.hid (fun W => text_any ([] : List UInt8) W hK26)
    clear hT4 hB4 hb3 hZ4 HTk
    go_wp2_with (first
      | (refine wpList_store_part rfl _ _ rfl w1.heap.size rfl ([] : List UInt8) hK26 rfl l hZ5 ?_)
      | (refine wpList_store_tok rfl _ _ rfl w.heap.size rfl s0 0 ⟨tx.toArray⟩ rfl _ _ _ hT5 ?_))
    generalize (w3.setRow w1.heap.size (partC ([] : List UInt8)).toArray).setRow w.heap.size #[.int .i64 s0, .string ⟨tx.toArray⟩, .int .i64 0] = W4 at *
    clear hT5 hB5 hZ5 hZ6
    have KS : (fun W => Pt W w1.heap.size ([] : List UInt8) ∧ Blk W w.heap.size 29 #[.int .i64 s0, .string ⟨tx.toArray⟩, .int .i64 0] ∧ Below w.heap.size w W) W4.drew := ⟨hZ7.drew, hT6.drew, hB6.drew⟩
    refine wp_region_noPanic ?_
    refine wp_region_held_drew (S := fun W => Pt W w1.heap.size ([] : List UInt8) ∧ Blk W w.heap.size 29 #[.int .i64 s0, .string ⟨tx.toArray⟩, .int .i64 0] ∧ Below w.heap.size w W) (by kernel_rfl) KS (fun _ => ?_)
    refine reg_take 0 _ 34 (partV ([] : List UInt8)) rfl rfl (by kernel_rfl) (by kernel_rfl) (by kernel_rfl) (fun _ _ _ h => h) (by rfl) (fun W' hS => exec_load_blk 53 _ rfl w1.heap.size rfl 53 _ _ hS.1.1 Try.underlying53 rfl (part_in ([] : List UInt8) hK26)) KS ?_
    refine reg_take 2 _ 36 (.agg #[.int .i64 s0, .string ⟨tx.toArray⟩, .int .i64 0]) rfl rfl (by kernel_rfl) (by kernel_rfl) (by kernel_rfl) (fun _ _ _ h => h) (by rfl) (fun W' hS => exec_load_blk 29 _ rfl w.heap.size rfl 29 _ _ hS.2.1 Try.underlying29 rfl tok_size) KS ?_
    refine reg_take 3 _ 37 (.bool true) rfl rfl (by kernel_rfl) (by kernel_rfl) (by kernel_rfl) (fun _ _ _ h => h) (by rfl) (fun W' _ => by rfl) KS ?_
    simp only [List.setIfInBounds_toArray, List.set_cons_zero, List.set_cons_succ]
    refine reg_call 1 _ 35 (.string ⟨([] : List UInt8).toArray⟩) (fun W => Below W4.drew.heap.size W4.drew W) rfl rfl (by kernel_rfl) (by rfl) (fun K Q h => wp_callFn 34 _ _ rfl #[partV ([] : List UInt8)] (by simp only [List.map_toArray, List.map_cons, List.map_nil]; rfl) (enters_of Try.func34 (by kernel_rfl) rfl) (HTx.out _) (fun e w' ⟨he, hb⟩ => ⟨_, he, h w' hb⟩)) (fun W' hb => ⟨KS.1.on hb, Blk.on KS.2.1 hb, below_on KS.2.2 hb (Nat.le_refl _)⟩) ?_
    intro W5 hb5
    have hZ8 := KS.1.on hb5
    have hT8 := Blk.on KS.2.1 hb5
    have hB8 := below_on KS.2.2 hb5 (Nat.le_refl _)
    have hT9 := hT8.row #[.int .i64 s0, .string ⟨tx.toArray⟩, .int .i64 0] rfl
    have hZ9 := hZ8.rowFar (j := w.heap.size) (by omega) #[.int .i64 s0, .string ⟨tx.toArray⟩, .int .i64 0]
    have hB9 := below_setRow hB8 (Nat.le_refl _) #[.int .i64 s0, .string ⟨tx.toArray⟩, .int .i64 0]
    simp only [List.setIfInBounds_toArray, List.set_cons_zero, List.set_cons_succ]
    refine reg_step 4 _ (.string ⟨([] : List UInt8).toArray⟩) _ rfl (by kernel_rfl) (by rfl) (fun K Q h => wp_assign _ rfl h) ⟨hZ8, hT8, hB8⟩ _ rfl ?_
    refine reg_step 5 _ undef _ rfl (by kernel_rfl) (by rfl) (fun K Q h => wp_store_tok _ _ rfl w.heap.size rfl s0 0 ⟨tx.toArray⟩ rfl _ _ _ hT8 h) ⟨hZ9, hT9, hB9⟩ _ rfl ?_
    refine reg_step 6 _ (.bool true) _ rfl (by kernel_rfl) (by rfl) (fun K Q h => wp_assign _ rfl h) ⟨hZ9, hT9, hB9⟩ _ rfl ?_
    refine reg_step 7 _ (.int .i64 0) _ rfl (by kernel_rfl) (by rfl) (fun K Q h => wp_assign _ rfl h) ⟨hZ9, hT9, hB9⟩ _ rfl ?_
    refine wpAnyH_done (by kernel_rfl) ?_ _
    refine NoPanic.normal ?_
    go_wp2_with fail
    exact bodyPost_ret (results_tctt rfl _ _ w.heap.size _ _ _ rfl hT9 Try.underlying29 rfl tok_size) rfl ⟨rfl, hB9⟩
end Go.Proofs.Ytfcbbolokhcknaa
