/- Frames, one behind the other, are taken as their tokens. -/
import Derived.Test.YtfcbbolokhcknaaFa21
namespace Go.Proofs.Ytfcbbolokhcknaa
open Go.RowKit
theorem badN_two (m n b : Nat) (h : 2 ≤ n) : badN m n b = 0 := by unfold badN; rw [if_neg (by omega), if_neg (by omega)]
theorem ibs_cons (n : Nat) (b : UInt8) (l : List UInt8) (h : n < 1000) : ibs n (b :: l) = ⟨(n, b), h⟩ :: ibs (n + 1) l := by
  show (if h : n < 1000 then _ else _) = _
  rw [dif_pos h]
theorem fr_tail (m : Nat) (s8 n8 : UInt8) (L : List Tok) (a : Nat) : ∀ (y x : List UInt8) (i : Nat), y ≠ [] → n8.toNat = x.length + y.length → i + y.length ≤ 1000 →
    (ibs i y).foldl (stepC m) ⟨s8 :: n8 :: x, L, a, i, 0⟩ = ⟨[], L ++ [⟨s8.toNat, x ++ y, a⟩], i + y.length, i + y.length, 0⟩
  | [], _, _, h, _, _ => absurd rfl h
  | b :: y, x, i, _, hn, hi => by
    simp only [List.length_cons] at hn hi
    rw [ibs_cons i b y (by omega), List.foldl_cons]
    have hb : badN m (s8 :: n8 :: x).length b.toNat = 0 := badN_two _ _ _ (by simp)
    have hb1 : b1 (s8 :: n8 :: x ++ [b]) = n8.toNat := rfl
    have hstep : stepC m ⟨s8 :: n8 :: x, L, a, i, 0⟩ ⟨(i, b), by omega⟩ = if wholeP (s8 :: n8 :: x ++ [b]) then ⟨[], L ++ [⟨s8.toNat, x ++ [b], a⟩], i + 1, i + 1, 0⟩ else ⟨s8 :: n8 :: x ++ [b], L, a, i + 1, 0⟩ := by
      unfold stepC
      rw [if_neg (by simp), if_neg (by simpa using hb)]
      rfl
    rw [hstep]
    match y, hn, hi with
    | [], hn, hi =>
      have hw : wholeP (s8 :: n8 :: x ++ [b]) = true := by
        unfold wholeP
        rw [hb1]
        simp at hn ⊢
        omega
      rw [if_pos hw]
      rfl
    | c :: y, hn, hi =>
      have hw : wholeP (s8 :: n8 :: x ++ [b]) = false := by
        unfold wholeP
        rw [hb1]
        simp at hn ⊢
        omega
      rw [if_neg (by rw [hw]; decide)]
      have ih := fr_tail m s8 n8 L a (c :: y) (x ++ [b]) (i + 1) (by simp) (by simp at hn ⊢; omega) (by simp at hi ⊢; omega)
      rw [List.append_assoc, List.singleton_append] at ih
      rw [List.cons_append, List.cons_append, ih]
      have e : i + 1 + (c :: y).length = i + (b :: c :: y).length := by simp; omega
      rw [e]
/-- One frame. -/
theorem fr_step (m s : Nat) (x : List UInt8) (z : Int) (hs : s ≤ m) (h8 : m ≤ 8) (h24 : x.length ≤ 24) (L : List Tok) (a u : Nat) (ha : a + (2 + x.length) ≤ 1000) :
    (ibs a (frB ⟨s, x, z⟩)).foldl (stepC m) ⟨[], L, a, u, 0⟩ = ⟨[], L ++ [⟨s, x, a⟩], a + (2 + x.length), a + (2 + x.length), 0⟩ := by
  have e1 : (UInt8.ofNat s).toNat = s := Nat.mod_eq_of_lt (by omega)
  have e2 : (UInt8.ofNat x.length).toNat = x.length := Nat.mod_eq_of_lt (by omega)
  have ef : frB ⟨s, x, z⟩ = UInt8.ofNat s :: UInt8.ofNat x.length :: x := rfl
  rw [ef, ibs_cons a _ _ (by omega), ibs_cons (a + 1) _ _ (by omega), List.foldl_cons, List.foldl_cons]
  have b1' : badN m 0 s = 0 := by unfold badN; rw [if_pos rfl, if_neg (by omega), if_neg (by omega)]
  have b2' : badN m 1 x.length = 0 := by unfold badN; rw [if_neg (by decide), if_pos rfl, if_neg (by omega), if_neg (by omega)]
  have s1 : stepC m ⟨[], L, a, u, 0⟩ ⟨(a, UInt8.ofNat s), by omega⟩ = ⟨[UInt8.ofNat s], L, a, a + 1, 0⟩ := by
    unfold stepC
    rw [if_neg (by simp), if_neg (by simp only [e1]; simpa using b1')]
    rfl
  rw [s1]
  have s2 : stepC m ⟨[UInt8.ofNat s], L, a, a + 1, 0⟩ ⟨(a + 1, UInt8.ofNat x.length), by omega⟩ = if wholeP [UInt8.ofNat s, UInt8.ofNat x.length] then ⟨[], L ++ [⟨(UInt8.ofNat s).toNat, [], a⟩], a + 1 + 1, a + 1 + 1, 0⟩ else ⟨[UInt8.ofNat s, UInt8.ofNat x.length], L, a, a + 1 + 1, 0⟩ := by
    unfold stepC
    rw [if_neg (by simp), if_neg (by simp only [e2]; simpa using b2')]
    rfl
  rw [s2]
  have hb1 : b1 [UInt8.ofNat s, UInt8.ofNat x.length] = x.length := e2
  by_cases h0 : x = []
  · subst h0
    have hw : wholeP [UInt8.ofNat s, UInt8.ofNat ([] : List UInt8).length] = true := by unfold wholeP; rw [hb1]; rfl
    rw [if_pos hw, e1]
    rfl
  · have hpos : 0 < x.length := Nat.pos_of_ne_zero (fun h => h0 (List.eq_nil_of_length_eq_zero h))
    have hw : wholeP [UInt8.ofNat s, UInt8.ofNat x.length] = false := by
      unfold wholeP
      rw [hb1]
      simp
      omega
    rw [if_neg (by rw [hw]; decide)]
    have h := fr_tail m (UInt8.ofNat s) (UInt8.ofNat x.length) L a x [] (a + 1 + 1) h0 (by rw [e2]; simp) (by omega)
    rw [e1] at h
    rw [h]
    have e : a + 1 + 1 + x.length = a + (2 + x.length) := by omega
    rw [e]
    rfl
end Go.Proofs.Ytfcbbolokhcknaa
