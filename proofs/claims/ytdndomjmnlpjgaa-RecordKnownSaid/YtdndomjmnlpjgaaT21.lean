/- Slices of tokens: what their cells hold; list. -/
import Derived.Test.YtdndomjmnlpjgaaT20
namespace Go.Proofs.Ytdndomjmnlpjgaa
open Go.RowKit
def tokC (l : List Tok) : List Value := l.flatMap (fun t => [.int .i64 t.sym, .string ⟨t.text.toArray⟩, .int .i64 t.at_])
theorem tokC_cons (t : Tok) (l : List Tok) : tokC (t :: l) = [.int .i64 t.sym, .string ⟨t.text.toArray⟩, .int .i64 t.at_] ++ tokC l := by unfold tokC; rw [List.flatMap_cons]
theorem tokC_append (l k : List Tok) : tokC (l ++ k) = tokC l ++ tokC k := by unfold tokC; rw [List.flatMap_append]
theorem tokC_len (l : List Tok) : (tokC l).length = l.length * 3 := by
  induction l with
  | nil => rfl
  | cons t l ih => rw [tokC_cons, List.length_append, ih]; simp; omega
theorem tokC_get : ∀ (l : List Tok) (k : Nat) (hk : k < l.length), (tokC l)[k * 3]? = some (.int .i64 l[k].sym) ∧ (tokC l)[k * 3 + 1]? = some (.string ⟨l[k].text.toArray⟩) ∧ (tokC l)[k * 3 + 2]? = some (.int .i64 l[k].at_)
  | t :: l, 0, _ => by rw [tokC_cons]; exact ⟨rfl, rfl, rfl⟩
  | t :: l, k + 1, hk => by
    have ih := tokC_get l k (by simpa using hk)
    rw [tokC_cons, List.getElem_cons_succ]
    have e0 : (k + 1) * 3 = k * 3 + 3 := by omega
    rw [e0]
    refine ⟨?_, ?_, ?_⟩
    · rw [List.getElem?_append_right (by simp)]; exact ih.1
    · rw [show k * 3 + 3 + 1 = (k * 3 + 1) + 3 by omega, List.getElem?_append_right (by simp)]; exact ih.2.1
    · rw [show k * 3 + 3 + 2 = (k * 3 + 2) + 3 by omega, List.getElem?_append_right (by simp)]; exact ih.2.2
theorem sl_tok {w : World} {D : Nat} {A : Option Addr} {cap : Nat} {l : List Tok} (h : Sl w D 3 A l.length cap (tokC l)) {k : Nat} (hk : k < l.length) :
    ∃ b o, A = some ⟨b, o, none⟩ ∧ b < D ∧ w.cell? ⟨b, o + k * 3, none⟩ = some (.int .i64 l[k].sym) ∧ w.cell? ⟨b, o + k * 3 + 1, none⟩ = some (.string ⟨l[k].text.toArray⟩) ∧ w.cell? ⟨b, o + k * 3 + 2, none⟩ = some (.int .i64 l[k].at_) := by
  obtain ⟨b, o, e, hb, hc⟩ := h.2.2.2 (by omega)
  obtain ⟨h0, h1, h2⟩ := tokC_get l k hk
  exact ⟨b, o, e, hb, hc _ _ h0, hc _ _ h1, hc _ _ h2⟩
/-- The error of a list of tokens. -/
def listE1 : List Tok → Int → Int
  | [], _ => 0
  | t :: l, n => if checkE t n = 0 then listE1 l n else checkE t n
def listE (l : List Tok) (n : Int) : Int := if 1000 < l.length then 6 else listE1 l n
theorem listE1_drop (l : List Tok) (n : Int) (k : Nat) (hk : k < l.length) : listE1 (l.drop k) n = if checkE l[k] n = 0 then listE1 (l.drop (k + 1)) n else checkE l[k] n := by
  rw [List.drop_eq_getElem_cons hk]; rfl
set_option maxRecDepth 100000 in
set_option maxHeartbeats 3200000 in
theorem list_any (A : Option Addr) (cap D : Nat) (l : List Tok) (n : Int) (w : World) (hS : Sl w D 3 A l.length cap (tokC l)) (hD : D ≤ w.heap.size) (hn : l.length ≤ 100000) (hl : ∀ t ∈ l, t.text.length ≤ 10000) :
    Calls Try.prog 74 #[.slice A l.length cap, .int .i64 n] w fun e w' => e = .returned (.int .i64 (listE l n)) ∧ Below w.heap.size w w' := by
  by_cases hlong : 1000 < l.length
  · rw [show listE l n = 6 from if_pos hlong]
    go_enter Try.func74, Try.ntmps74
    go_wp2
    go_ret
    exact ⟨rfl, Below.refl _ _⟩
  · rw [show listE l n = listE1 l n from if_neg hlong]
    go_enter Try.func74, Try.ntmps74
    go_wp2_with fail
    go_loopw [13] (fun i W => ∃ k : Nat, k ≤ l.length ∧ i = .int .i64 k ∧ listE1 l n = listE1 (l.drop k) n ∧ Below w.heap.size w W) (fun i _ => l.length - (intOf i).toNat)
    case atStart => exact ⟨0, Nat.zero_le _, rfl, rfl, Below.refl _ _⟩
    case round =>
      obtain ⟨k, hk, rfl, heq, hB⟩ := hrel
      by_cases hlt : k < l.length
      · obtain ⟨b, o, rfl, hb, c0, c1, c2⟩ := sl_tok (hS.below hB hD) hlt
        rw [listE1_drop l n k hlt] at heq
        have htl := hl l[k] (List.getElem_mem hlt)
        have HC := fun W => check_any l[k] n W (by unfold maxLen; omega)
        generalize l[k] = t at *
        obtain ⟨sy, x, a⟩ := t
        unfold Tok.v at HC
        simp only at *
        generalize checkE ⟨sy, x, a⟩ n = ce at *
        have HC' := Lib.hid HC; clear HC
        have HB := Lib.hid (hB.alloc hB.size (.cells #[.int .i64 sy, .string ⟨x.toArray⟩, .int .i64 a] 41))
        clear hB hl
        by_cases hce : ce = 0
        · rw [if_pos hce] at heq
          subst hce
          have HE := Lib.hid heq
          clear heq
          go_wp2_with fail
          refine (HC'.out _).mono ?_
          rintro e w3 ⟨rfl, hb3⟩
          go_wp2_with fail
          go_roundw
          case rel => exact ⟨k + 1, by omega, by go_num, HE.out, below_on HB.out hb3 (Nat.le_refl _)⟩
          case measure => simp [intOf]; omega
        · rw [if_neg hce] at heq
          have HE := Lib.hid heq
          clear heq
          go_wp2_with fail
          refine (HC'.out _).mono ?_
          rintro e w3 ⟨rfl, hb3⟩
          go_wp2_with fail
          go_ret
          exact ⟨ret_int HE.out.symm, below_on HB.out hb3 (Nat.le_refl _)⟩
      · obtain rfl : k = l.length := by omega
        rw [List.drop_length] at heq
        have HE := Lib.hid heq
        clear heq
        go_wp2_with fail
        go_ret
        exact ⟨ret_int HE.out.symm, hB⟩
end Go.Proofs.Ytdndomjmnlpjgaa
