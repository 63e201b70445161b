/- TextBack. No condition. -/
import Derived.Test.YtklfaccjbdkfhaaX28
namespace Go.Proofs.Ytklfaccjbdkfhaa
open Go.RowKit
theorem madeL_good (ns : List Int) : (madeL ns).length ≤ 40 ∧ ∀ x ∈ madeL ns, goodL x ∧ x.text.length ≤ 9 ∧ checkL x = 0 := by
  unfold madeL
  refine ⟨by rw [List.length_map, List.length_take]; omega, ?_⟩
  intro x hx
  obtain ⟨n, _, rfl⟩ := List.mem_map.1 hx
  exact madeX_good n
theorem textE_zero : ∀ l : List Lx, (∀ x ∈ l, checkL x = 0) → textE l = 0
  | [], _ => rfl
  | x :: l, h => by
    show (if checkL x ≠ 0 then checkL x else textE l) = 0
    rw [if_neg (fun h2 => h2 (h x (by simp)))]
    exact textE_zero l (fun y hy => h y (List.mem_cons_of_mem _ hy))
theorem textT_zero {l : List Lx} (h : textE l = 0) : textT l = joinT (l.map (·.text)) := if_pos h
theorem lexT_S {s : List UInt8} (h : (lexT s 0).2 = (0, 0)) : lexS s = ((lexT s 0).1, 0, 0) := by
  unfold lexS
  rw [if_pos (by rw [h])]
theorem lxC_drop (l : List Lx) (n : Nat) (h : n ≤ l.length) : (lxC l).drop (n * 3) = lxC (l.drop n) := by
  have e : lxC l = lxC (l.take n) ++ lxC (l.drop n) := by rw [← lxC_append, List.take_append_drop]
  have hl : (lxC (l.take n)).length = n * 3 := by rw [lxC_len, List.length_take]; congr 1; omega
  rw [e, ← hl, List.drop_left]
theorem lxC_take2 (l : List Lx) (n : Nat) (h : n ≤ l.length) : (lxC l).take (n * 3) = lxC (l.take n) := by
  have e : lxC l = lxC (l.take n) ++ lxC (l.drop n) := by rw [← lxC_append, List.take_append_drop]
  have hl : (lxC (l.take n)).length = n * 3 := by rw [lxC_len, List.length_take]; congr 1; omega
  rw [e, ← hl, List.take_left]
theorem cell_put_same {w : World} {p : Addr} {v : Value} (h : w.cell? p = some v) (q : Addr) : (w.setCell p v).cell? q = w.cell? q := by
  by_cases hq : q = p
  · subst hq
    rw [World.cell?_setCell_same w q v h, h]
  · exact World.cell?_setCell_other w p q v (Ne.symm hq)
set_option maxRecDepth 100000 in
set_option maxHeartbeats 6400000 in
theorem TextBack_any (A : Option Addr) (cap D : Nat) (ns : List Int) (a : Int) (w : World) (hS : Sl w D 1 A ns.length cap (ns.map intV)) (hD : D ≤ w.heap.size) :
    Calls Try.prog 6 #[.slice A ns.length cap, .int .i64 a] w fun e w' => e = .returned (.bool true) ∧ Below w.heap.size w w' := by
  have HA := Lib.hid awake04_any
  have HM := Lib.hid (Made_any A cap D ns w hS hD)
  obtain ⟨hl40, hgd⟩ := madeL_good ns
  generalize madeL ns = l at *
  have hn0 : 0 ≤ a % ((l.length : Int) + 1) := Int.emod_nonneg _ (by omega)
  have hn1 : a % ((l.length : Int) + 1) < (l.length : Int) + 1 := Int.emod_lt_of_pos _ (by omega)
  have HMod := Lib.hid (fun W => Mod_any a ((l.length : Int) + 1) W (by omega) (by omega))
  obtain ⟨n, hn⟩ := Int.eq_ofNat_of_zero_le hn0
  rw [hn] at HMod hn1
  have hnl : n ≤ l.length := by omega
  clear hn hn0 hn1 hS
  have ht : ∀ k : List Lx, (∀ x ∈ k, x ∈ l) → textE k = 0 ∧ textT k = joinT (k.map (·.text)) := fun k hk => by
    have h := textE_zero k (fun x hx => (hgd x (hk x hx)).2.2)
    exact ⟨h, textT_zero h⟩
  have hlen : ∀ k : List Lx, (∀ x ∈ k, x ∈ l) → k.length ≤ 40 → (joinT (k.map (·.text))).length ≤ 400 := fun k hk hk40 => by
    have h := joinT_len 9 (k.map (·.text)) (fun y hy => by
      obtain ⟨x, hx1, rfl⟩ := List.mem_map.1 hy
      exact (hgd x (hk x hx1)).2.1)
    rw [List.length_map] at h
    omega
  obtain ⟨e1, t1⟩ := ht l (fun x hx => hx)
  obtain ⟨e2, t2⟩ := ht (l.take n) (fun x hx => List.mem_of_mem_take hx)
  obtain ⟨e3, t3⟩ := ht (l.drop n) (fun x hx => List.mem_of_mem_drop hx)
  have z1 := hlen l (fun x hx => hx) hl40
  have z2 := hlen (l.take n) (fun x hx => List.mem_of_mem_take hx) (by rw [List.length_take]; omega)
  have z3 := hlen (l.drop n) (fun x hx => List.mem_of_mem_drop hx) (by rw [List.length_drop]; omega)
  have hx30 : ∀ x ∈ l, x.text.length ≤ 30000 := fun x hx => by have := (hgd x hx).2.1; omega
  have j1 := join_plain l (fun x hx => (hgd x hx).1)
  have j2 := back_plain (l.take n) (l.drop n) (fun x hx => (hgd x (List.mem_of_mem_take hx)).1) (fun x hx => (hgd x (List.mem_of_mem_drop hx)).1)
  rw [List.take_append_drop] at j2
  have HT1 := Lib.hid (fun A cap D W h hD => Text_any A cap D l W h hD (by omega) hx30)
  have HT2 := Lib.hid (fun A cap D W h hD => Text_any A cap D (l.take n) W h hD (by rw [List.length_take]; omega) (fun x hx => hx30 x (List.mem_of_mem_take hx)))
  have HT3 := Lib.hid (fun A cap D W h hD => Text_any A cap D (l.drop n) W h hD (by rw [List.length_drop]; omega) (fun x hx => hx30 x (List.mem_of_mem_drop hx)))
  rw [e1, t1] at HT1
  rw [e2, t2] at HT2
  rw [e3, t3] at HT3
  rw [List.length_take, Nat.min_eq_left hnl] at HT2
  rw [List.length_drop] at HT3
  have HTk := Lib.hid (lxC_take2 l n hnl)
  have HDr := Lib.hid (lxC_drop l n hnl)
  generalize joinT (l.map (·.text)) = s1 at *
  generalize joinT ((l.take n).map (·.text)) = s2 at *
  generalize joinT ((l.drop n).map (·.text)) = s3 at *
  have q1 := lexT_S j1.2
  have q2 := lexT_S j2.2
  generalize (lexT s1 0).1 = L1 at *
  obtain ⟨S2, hS2⟩ : ∃ S2, ((((([32, 35, 32, 120, 32, 61, 32, 55, 10, 9] ++ s2) ++ [35, 97, 13, 10, 10]) ++ s3) ++ [32, 35, 32, 101, 110, 100])) = S2 := ⟨_, rfl⟩
  have hS2l : S2.length ≤ 2000 := by
    rw [← hS2]
    simp only [List.length_append, List.length_cons, List.length_nil]
    omega
  rw [hS2] at q2 j2
  generalize (lexT S2 0).1 = L2 at *
  have k1 : L1.length ≤ 40 := by have := congrArg List.length j1.1; rw [List.length_map, List.length_map] at this; omega
  have k2 : L2.length ≤ 40 := by have := congrArg List.length j2.1; rw [List.length_map, List.length_map] at this; omega
  have HL1 := Lib.hid (fun W => Lexemes_at s1 L1 0 0 W (by omega) q1)
  have HL2 := Lib.hid (fun W => Lexemes_at S2 L2 0 0 W hS2l q2)
  have HS1 := Lib.hid (fun A A' cap cap' D W h h' hD => Same_any A A' cap cap' D l L1 W h h' hD (by omega))
  have HS2 := Lib.hid (fun A A' cap cap' D W h h' hD => Same_any A A' cap cap' D L2 l W h h' hD (by omega))
  rw [decide_eq_true j1.1.symm] at HS1
  rw [decide_eq_true j2.1] at HS2
  rw [← hS2] at HL2
  simp only [List.append_assoc, List.cons_append, List.nil_append] at HL2
  clear hgd ht hlen e1 t1 e2 t2 e3 t3 hx30 j1 j2 q1 q2 k1 k2 hS2 hS2l
  have hlz : IntKind.i64.wrap ((l.length : Int) + 1) = (l.length : Int) + 1 := Go.IntWalk.i64_in _ (by omega)
  have hnz : (n : Int) ≤ l.length := by omega
  go_enter Try.func6, Try.ntmps6
  go_wp2_with fail
  refine HM.out.mono ?_
  rintro e w1 ⟨⟨A1, cap1, rfl, S1⟩, hb1⟩
  go_wp2_with fail
  refine (HT1.out _ _ _ _ S1 (Nat.le_refl _)).mono ?_
  rintro e w2 ⟨rfl, hb2⟩
  have hB2 := below_on hb1 hb2 (Nat.le_refl _)
  have S1 := (S1.below hb2 (Nat.le_refl _)).more hb2.size
  clear hb1 hb2 HM HT1
  go_wp2_with fail
  refine (HL1.out _).mono ?_
  rintro e w3 ⟨⟨A3, cap3, rfl, S3⟩, hb3⟩
  have F1 := Blk.new w3 26 #[.int .i64 0, .int .i64 0]
  have G1 := (Below.refl w3.heap.size w3).alloc (Nat.le_refl _) (.cells #[.int .i64 0, .int .i64 0] 26)
  have hB3 := below_on (below_on hB2 hb3 (Nat.le_refl _)) G1 (Nat.le_refl _)
  have S1 := (((S1.below hb3 (Nat.le_refl _)).more hb3.size).below G1 (Nat.le_refl _)).more G1.size
  have S3 := (S3.below G1 (Nat.le_refl _)).more G1.size
  have hF1 := hB3.size
  have hwF : w.heap.size ≤ w3.heap.size := Nat.le_trans hB2.size hb3.size
  obtain ⟨p0, p1, r0, r1⟩ := cells2 F1
  have HG := Lib.hid (And.intro F1 (And.intro hB3 (And.intro S1 S3)))
  clear F1 hB3 S1 S3 hb3 G1 hB2 HL1
  go_wp2_with fail
  obtain ⟨F1, hB3, S1, S3⟩ := HG.out
  clear HG p0 p1 r0 r1
  generalize w3.alloc (.cells #[.int .i64 0, .int .i64 0] 26) = v3 at *
  refine (HS1.out _ _ _ _ _ _ S1 S3 (Nat.le_refl _)).mono ?_
  rintro e w4 ⟨rfl, hb4⟩
  have F1 := Blk.on F1 hb4
  have hB4 := below_on hB3 hb4 (Nat.le_refl _)
  have S1 := (S1.below hb4 (Nat.le_refl _)).more hb4.size
  clear hB3 hb4 S3 HS1
  go_wp2_with fail
  refine (HMod.out _).mono ?_
  rintro e w5 ⟨rfl, rfl⟩
  have hcn := S1.2.1
  have hcnz : (n : Int) ≤ cap1 := by omega
  go_wp2_with fail
  have S2t := S1.take hnl
  rw [HTk.out] at S2t
  refine (HT2.out _ _ _ _ S2t (Nat.le_refl _)).mono ?_
  rintro e w6 ⟨rfl, hb6⟩
  have F1 := Blk.on F1 hb6
  have hB6 := below_on hB4 hb6 (Nat.le_refl _)
  have S1 := (S1.below hb6 (Nat.le_refl _)).more hb6.size
  clear hB4 hb6 S2t HT2 HMod
  have S3c := S1.cut hnl
  rw [HDr.out] at S3c
  by_cases hc : cap1 = n
  · rw [if_pos hc] at S3c
    subst hc
    rw [Nat.sub_self, show l.length - cap1 = 0 by omega] at S3c
    rw [show l.length - cap1 = 0 by omega] at HT3
    go_wp2_with fail
    refine (HT3.out _ _ _ _ S3c (Nat.le_refl _)).mono ?_
    rintro e w7 ⟨rfl, hb7⟩
    have F1 := Blk.on F1 hb7
    have hB7 := below_on hB6 hb7 (Nat.le_refl _)
    have S1 := (S1.below hb7 (Nat.le_refl _)).more hb7.size
    clear hB6 hb7 S3c HT3
    go_wp2_with fail
    refine (HL2.out _).mono ?_
    rintro e w8 ⟨⟨A8, cap8, rfl, S8⟩, hb8⟩
    have F1 := Blk.on F1 hb8
    have hB8 := below_on hB7 hb8 (Nat.le_refl _)
    have S1 := (S1.below hb8 (Nat.le_refl _)).more hb8.size
    obtain ⟨q1, q2⟩ := put2 F1 hB8 hwF (.int .i64 0) (.int .i64 0)
    obtain ⟨p0, p1, r0, r1⟩ := cells2 F1
    have hkp : ∀ pa, ((w8.setCell ⟨w3.heap.size, 0, none⟩ (.int .i64 0)).setCell ⟨w3.heap.size, 1, none⟩ (.int .i64 0)).cell? pa = w8.cell? pa := fun pa => by
      rw [cell_put_same (by rw [cell_put_same p0]; exact p1), cell_put_same p0]
    have S8 := S8.keep (fun pa _ => hkp pa)
    have S1 := S1.keep (fun pa _ => hkp pa)
    have hsz8 : ((w8.setCell ⟨w3.heap.size, 0, none⟩ (.int .i64 0)).setCell ⟨w3.heap.size, 1, none⟩ (.int .i64 0)).heap.size = w8.heap.size := by simp
    obtain ⟨m0, m1, _, _⟩ := cells2 q1
    have HQ := Lib.hid (And.intro q2 (And.intro S8 (And.intro S1 hsz8)))
    clear q1 q2 S8 S1 hsz8 hkp F1 hB8 hb8 hB7 HL2
    go_wp2_with fail
    clear p0 p1 r0 r1 m0 m1
    obtain ⟨hB9, S8, S1, hsz8⟩ := HQ.out
    clear HQ
    generalize ((w8.setCell ⟨w3.heap.size, 0, none⟩ (.int .i64 0)).setCell ⟨w3.heap.size, 1, none⟩ (.int .i64 0)) = w9 at *
    rw [← hsz8] at S8 S1
    refine (HS2.out _ _ _ _ _ _ S8 S1 (Nat.le_refl _)).mono ?_
    rintro e w10 ⟨rfl, hb10⟩
    have hB10 := below_on hB9 hb10 (Nat.le_refl _)
    clear hB9 S8 S1 hb10 HS2
    go_wp2_with fail
    refine (HA.out _).mono ?_
    rintro e w11 ⟨rfl, hb11⟩
    have hB11 := below_on hB10 hb11 (Nat.le_refl _)
    clear hB10 hb11
    go_wp2_with fail
    go_ret
    exact ⟨rfl, hB11⟩
  · rw [if_neg hc] at S3c
    go_wp2_with fail
    refine (HT3.out _ _ _ _ S3c (Nat.le_refl _)).mono ?_
    rintro e w7 ⟨rfl, hb7⟩
    have F1 := Blk.on F1 hb7
    have hB7 := below_on hB6 hb7 (Nat.le_refl _)
    have S1 := (S1.below hb7 (Nat.le_refl _)).more hb7.size
    clear hB6 hb7 S3c HT3
    go_wp2_with fail
    refine (HL2.out _).mono ?_
    rintro e w8 ⟨⟨A8, cap8, rfl, S8⟩, hb8⟩
    have F1 := Blk.on F1 hb8
    have hB8 := below_on hB7 hb8 (Nat.le_refl _)
    have S1 := (S1.below hb8 (Nat.le_refl _)).more hb8.size
    obtain ⟨q1, q2⟩ := put2 F1 hB8 hwF (.int .i64 0) (.int .i64 0)
    obtain ⟨p0, p1, r0, r1⟩ := cells2 F1
    have hkp : ∀ pa, ((w8.setCell ⟨w3.heap.size, 0, none⟩ (.int .i64 0)).setCell ⟨w3.heap.size, 1, none⟩ (.int .i64 0)).cell? pa = w8.cell? pa := fun pa => by
      rw [cell_put_same (by rw [cell_put_same p0]; exact p1), cell_put_same p0]
    have S8 := S8.keep (fun pa _ => hkp pa)
    have S1 := S1.keep (fun pa _ => hkp pa)
    have hsz8 : ((w8.setCell ⟨w3.heap.size, 0, none⟩ (.int .i64 0)).setCell ⟨w3.heap.size, 1, none⟩ (.int .i64 0)).heap.size = w8.heap.size := by simp
    obtain ⟨m0, m1, _, _⟩ := cells2 q1
    have HQ := Lib.hid (And.intro q2 (And.intro S8 (And.intro S1 hsz8)))
    clear q1 q2 S8 S1 hsz8 hkp F1 hB8 hb8 hB7 HL2
    go_wp2_with fail
    clear p0 p1 r0 r1 m0 m1
    obtain ⟨hB9, S8, S1, hsz8⟩ := HQ.out
    clear HQ
    generalize ((w8.setCell ⟨w3.heap.size, 0, none⟩ (.int .i64 0)).setCell ⟨w3.heap.size, 1, none⟩ (.int .i64 0)) = w9 at *
    rw [← hsz8] at S8 S1
    refine (HS2.out _ _ _ _ _ _ S8 S1 (Nat.le_refl _)).mono ?_
    rintro e w10 ⟨rfl, hb10⟩
    have hB10 := below_on hB9 hb10 (Nat.le_refl _)
    clear hB9 S8 S1 hb10 HS2
    go_wp2_with fail
    refine (HA.out _).mono ?_
    rintro e w11 ⟨rfl, hb11⟩
    have hB11 := below_on hB10 hb11 (Nat.le_refl _)
    clear hB10 hb11
    go_wp2_with fail
    go_ret
    exact ⟨rfl, hB11⟩
end Go.Proofs.Ytklfaccjbdkfhaa
