/- Plain laws of keeping names. No condition. -/
import Derived.Test.YtbobpgjgknkogaaI25
namespace Go.Proofs.Ytbobpgjgknkogaa
open Go.RowKit
def ints (ws : List Nat) : List Int := ws.map (fun k : Nat => (k : Int))
theorem ints_len (ws : List Nat) : (ints ws).length = ws.length := by simp [ints]
/-- The names at these numbers. -/
def pickL (l : List (List UInt8)) (ws : List Nat) : List (List UInt8) := ws.map fun k => l.getD k []
theorem pickL_len (l : List (List UInt8)) (ws : List Nat) : (pickL l ws).length = ws.length := by simp [pickL]
theorem dupF_no : ∀ (r s : List Int), (s ++ r).Nodup → dupF s r = false
  | [], _, _ => rfl
  | x :: r, s, h => by
    have h1 : s.contains x = false := by
      have := (List.nodup_append.1 h).2.2
      rw [List.contains_eq_mem]
      exact decide_eq_false fun hm => this x hm x (by simp) rfl
    have h2 := dupF_no r (s ++ [x]) (by rw [List.append_assoc]; exact h)
    show (s.contains x || dupF (s ++ [x]) r) = false
    rw [h1, h2]
    rfl
theorem nodup_map_inj {α β : Type} {f : α → β} : ∀ {l : List α}, (∀ a ∈ l, ∀ b ∈ l, f a = f b → a = b) → l.Nodup → (l.map f).Nodup
  | [], _, _ => List.nodup_nil
  | x :: l, hf, h => by
    have hn := List.nodup_cons.1 h
    rw [List.map_cons, List.nodup_cons]
    refine ⟨fun hm => ?_, nodup_map_inj (fun a ha b hb => hf a (by simp [ha]) b (by simp [hb])) hn.2⟩
    obtain ⟨y, hy, e⟩ := List.mem_map.1 hm
    have := hf y (by simp [hy]) x (by simp) e
    rw [this] at hy
    exact hn.1 hy
theorem getD_at {l : List (List UInt8)} {k : Nat} (h : k < l.length) : l.getD k [] = l[k] := by rw [List.getD_eq_getElem?_getD, List.getElem?_eq_getElem h]; rfl
theorem nodup_get {α : Type} {l : List α} (h : l.Nodup) {i j : Nat} (hi : i < l.length) (hj : j < l.length) (e : l[i] = l[j]) : i = j := by
  refine (List.getElem?_inj hi h).1 ?_
  rw [List.getElem?_eq_getElem hi, List.getElem?_eq_getElem hj, e]
theorem pick_ML {l : List (List UInt8)} {ws : List Nat} (hl : ML l) (hw : ∀ k ∈ ws, k < l.length) (hn : ws.Nodup) : ML (pickL l ws) := by
  have hmem : ∀ s ∈ pickL l ws, s ∈ NM := fun s hs => by
    obtain ⟨k, hk, rfl⟩ := List.mem_map.1 hs
    rw [getD_at (hw k hk)]
    exact hl.2 _ (List.getElem_mem _)
  have hnd : (pickL l ws).Nodup := nodup_map_inj (fun a ha b hb e => by
    rw [getD_at (hw a ha), getD_at (hw b hb)] at e
    exact nodup_get hl.1.nodup _ _ e) hn
  have hlen : (pickL l ws).length ≤ 20 := by
    have := len_le hnd hmem
    simpa [NM] using this
  refine ⟨⟨by omega, fun k hk => ⟨nm_good _ (hmem _ (List.getElem_mem hk)), fun hm => ?_⟩⟩, hmem⟩
  obtain ⟨i, hi, e⟩ := List.mem_take_iff_getElem.1 hm
  have := nodup_get hnd (by omega) hk e
  omega
theorem keep_ok {l : List (List UInt8)} {ws : List Nat} (hl : ML l) (hw : ∀ k ∈ ws, k < l.length) (hn : ws.Nodup) : keepR l (ints ws) = (pickL l ws, 0) := by
  have hc := (chk_good l).1.2 hl.1
  have h1 : (ints ws).any (badK l.length) = false := by
    rw [List.any_eq_false]
    intro x hx
    obtain ⟨k, hk, rfl⟩ := List.mem_map.1 hx
    have := hw k hk
    rw [badK_ok (by omega) (by omega)]
    decide
  have h2 : dupF [] (ints ws) = false := dupF_no _ _ (by
    rw [List.nil_append]
    exact nodup_map_inj (fun a _ b _ e => by omega) hn)
  unfold keepR
  rw [if_neg (by simpa using hc), if_neg (by rw [h1]; decide), if_neg (by rw [h2]; decide)]
  congr 1
  unfold keepL pickL ints
  rw [List.map_map]
  rfl
/-- All numbers; turned at p. -/
def turn (n p : Nat) : List Nat := (List.range n).drop p ++ (List.range n).take p
theorem turn_len (n p : Nat) : (turn n p).length = n := by unfold turn; simp; omega
theorem turn_lt (n p : Nat) : ∀ k ∈ turn n p, k < n := fun k hk => by
  rcases List.mem_append.1 hk with h | h
  · exact List.mem_range.1 (List.mem_of_mem_drop h)
  · exact List.mem_range.1 (List.mem_of_mem_take h)
theorem turn_nodup (n p : Nat) : (turn n p).Nodup := by
  have h : (List.range n).Nodup := List.nodup_range
  rw [← List.take_append_drop p (List.range n)] at h
  exact (List.perm_append_comm.nodup_iff).1 h
theorem pick_range (l : List (List UInt8)) : pickL l (List.range l.length) = l := by
  refine List.ext_getElem (by simp [pickL]) fun i h1 h2 => ?_
  simp [pickL, h2]
theorem pick_turn (l : List (List UInt8)) (p : Nat) : pickL l (turn l.length p) = l.drop p ++ l.take p := by
  have h := pick_range l
  unfold pickL at h ⊢
  unfold turn
  rw [List.map_append, List.map_drop, List.map_take, h]
theorem turn_same {l : List (List UInt8)} (hl : ML l) {p : Nat} (hp : p ≤ l.length) : (pickL l (turn l.length p) = l) ↔ (p = 0 ∨ p = l.length) := by
  rw [pick_turn]
  constructor
  · intro h
    by_cases h0 : p = 0
    · exact .inl h0
    by_cases h1 : p = l.length
    · exact .inr h1
    exfalso
    have hlt : p < l.length := by omega
    have e : (l.drop p ++ l.take p)[0]? = l[0]? := by rw [h]
    rw [List.getElem?_append_left (by simp; omega), List.getElem?_drop] at e
    have := (List.getElem?_inj (by omega) hl.1.nodup).1 e
    omega
  · rintro (rfl | rfl)
    · simp
    · simp
/-- Every second number. -/
def evens (k : Nat) : List Nat := (List.range k).map (fun j => 2 * j)
theorem evens_nodup (k : Nat) : (evens k).Nodup := nodup_map_inj (fun a _ b _ e => by omega) List.nodup_range
theorem evens_succ (k : Nat) : evens (k + 1) = evens k ++ [2 * k] := by simp [evens, List.range_succ]
theorem evens_lt {n k : Nat} (h : 2 * k ≤ n + 1) : ∀ i ∈ evens k, i < n := fun i hi => by
  obtain ⟨j, hj, rfl⟩ := List.mem_map.1 hi
  have := List.mem_range.1 hj
  omega
/-- The turned numbers at every second place. -/
def both (tn : List Nat) (k : Nat) : List Nat := (evens k).map (fun i => tn.getD i 0)
theorem both_succ (tn : List Nat) (k : Nat) : both tn (k + 1) = both tn k ++ [tn.getD (2 * k) 0] := by unfold both; rw [evens_succ, List.map_append]; rfl
theorem getDN {tn : List Nat} {k : Nat} (h : k < tn.length) : tn.getD k 0 = tn[k] := by rw [List.getD_eq_getElem?_getD, List.getElem?_eq_getElem h]; rfl
theorem both_lt {tn : List Nat} {n k : Nat} (hn : ∀ x ∈ tn, x < n) (h : 2 * k ≤ tn.length + 1) : ∀ i ∈ both tn k, i < n := fun i hi => by
  obtain ⟨j, hj, rfl⟩ := List.mem_map.1 hi
  have := evens_lt h j hj
  rw [getDN this]
  exact hn _ (List.getElem_mem _)
theorem both_nodup {tn : List Nat} {k : Nat} (hn : tn.Nodup) (h : 2 * k ≤ tn.length + 1) : (both tn k).Nodup := nodup_map_inj (fun a ha b hb e => by
  have h1 := evens_lt h a ha
  have h2 := evens_lt h b hb
  rw [getDN h1, getDN h2] at e
  exact nodup_get hn _ _ e) (evens_nodup k)
theorem pick_both {l : List (List UInt8)} {tn : List Nat} {k : Nat} (h : 2 * k ≤ tn.length + 1) : pickL (pickL l tn) (evens k) = pickL l (both tn k) := by
  unfold both
  show (evens k).map _ = ((evens k).map _).map _
  rw [List.map_map]
  refine List.map_congr_left fun i hi => ?_
  have h1 := evens_lt h i hi
  show (pickL l tn).getD i [] = l.getD (tn.getD i 0) []
  rw [getD_at (by rw [pickL_len]; exact h1), getDN h1]
  simp [pickL]
end Go.Proofs.Ytbobpgjgknkogaa
