/- Plain laws of merging tables made of numbers. No condition. -/
import Derived.Test.YtbobpgjgknkogaaI24
namespace Go.Proofs.Ytbobpgjgknkogaa
open Go.RowKit
/-- Two tables together. -/
def cat (l b : List (List UInt8)) : List (List UInt8) := l ++ b.filter (fun s => !l.contains s)
theorem cat_self (l : List (List UInt8)) : cat l l = l := by
  unfold cat
  have : l.filter (fun s => !l.contains s) = [] := List.filter_eq_nil_iff.2 fun s hs => by simp [hs]
  rw [this, List.append_nil]
theorem cat_assoc (x y z : List (List UInt8)) : cat (cat x y) z = cat x (cat y z) := by
  unfold cat
  rw [List.filter_append, List.append_assoc, List.filter_filter]
  congr 2
  refine List.filter_congr fun s _ => ?_
  by_cases h1 : s ∈ x
  · simp [h1]
  · by_cases h2 : s ∈ y
    · simp [h1, h2]
    · simp [h1, h2]
theorem idxF_at : ∀ {l : List (List UInt8)} {s : List UInt8} {i : Nat}, idxF l s = some i → l[i]? = some s
  | [], _, _, h => by cases h
  | x :: l, s, i, h => by
    unfold idxF at h
    by_cases hx : x = s
    · rw [if_pos hx] at h
      injection h with h
      subst h
      simp [hx]
    · rw [if_neg hx] at h
      cases hq : idxF l s with
      | none => rw [hq] at h; cases h
      | some j =>
        rw [hq] at h
        injection h with h
        have h' : j + 1 = i := h
        subst h'
        simpa using idxF_at hq
theorem mrg_facts : ∀ (b l : List (List UInt8)), ML l → (∀ s ∈ b, s ∈ NM) → b.Nodup →
    (mrg l 0 b).1 = cat l b ∧ (mrg l 0 b).2.2 = 0 ∧ ML (mrg l 0 b).1 ∧ (mrg l 0 b).2.1.length = b.length ∧ ∀ (k : Nat) (s : List UInt8), b[k]? = some s → ∃ j : Nat, (mrg l 0 b).2.1[k]? = some (j : Int) ∧ (mrg l 0 b).1[j]? = some s
  | [], l, hl, _, _ => ⟨by simp [mrg, cat], rfl, hl, rfl, fun k s h => by simp at h⟩
  | s :: b, l, hl, hb, hn => by
    have hsn := hb s (by simp)
    have hb' : ∀ x ∈ b, x ∈ NM := fun x hx => hb x (by simp [hx])
    have hn' := List.nodup_cons.1 hn
    have hle := hl.len
    show (mrg (putL l s) (putEr l 0 s) b).1 = _ ∧ (mrg (putL l s) (putEr l 0 s) b).2.2 = 0 ∧ ML (mrg (putL l s) (putEr l 0 s) b).1 ∧ (putN l s :: (mrg (putL l s) (putEr l 0 s) b).2.1).length = _ ∧
      ∀ (k : Nat) (x : List UInt8), (s :: b)[k]? = some x → ∃ j : Nat, (putN l s :: (mrg (putL l s) (putEr l 0 s) b).2.1)[k]? = some (j : Int) ∧ (mrg (putL l s) (putEr l 0 s) b).1[j]? = some x
    by_cases hin : s ∈ l
    · obtain ⟨q1, q2, q3⟩ := put_in 0 hin
      rw [q1, q2, q3]
      obtain ⟨i1, i2, i3, i4, i5⟩ := mrg_facts b l hl hb' hn'.2
      refine ⟨?_, i2, i3, by simp [i4], fun k x hx => ?_⟩
      · rw [i1]; unfold cat; simp [hin]
      · cases k with
        | zero =>
          simp at hx
          subst hx
          obtain ⟨i, hi⟩ : ∃ i, idxF l s = some i := by
            cases hq : idxF l s with
            | none => exact absurd hin (idxF_none.1 hq)
            | some i => exact ⟨i, rfl⟩
          refine ⟨i, by simp [hi], ?_⟩
          have hj := idxF_at hi
          rw [i1]
          unfold cat
          rw [List.getElem?_append_left (List.getElem?_eq_some_iff.1 hj).1]
          exact hj
        | succ k => simpa using i5 k x (by simpa using hx)
    · obtain ⟨q1, q2, q3⟩ := put_free 0 hin (by omega)
      rw [q1, q2, q3]
      have hl2 : ML (l ++ [s]) := ⟨good_snoc hl.1 (by omega) (nm_good s hsn) hin, fun x hx => by
        rcases List.mem_append.1 hx with h1 | h1
        · exact hl.2 x h1
        · simp at h1; rw [h1]; exact hsn⟩
      obtain ⟨i1, i2, i3, i4, i5⟩ := mrg_facts b (l ++ [s]) hl2 hb' hn'.2
      have hc : cat (l ++ [s]) b = cat l (s :: b) := by
        unfold cat
        have h1 : (s :: b).filter (fun x => !l.contains x) = s :: b.filter (fun x => !l.contains x) := by simp [hin]
        rw [h1, List.append_assoc]
        congr 1
        show s :: _ = _
        congr 1
        refine List.filter_congr fun x hx => ?_
        have : x ≠ s := fun e => hn'.1 (by rw [← e]; exact hx)
        by_cases h2 : x ∈ l
        · simp [h2]
        · simp [h2, this]
      refine ⟨by rw [i1, hc], i2, i3, by simp [i4], fun k x hx => ?_⟩
      cases k with
      | zero =>
        simp at hx
        subst hx
        refine ⟨l.length, by simp, ?_⟩
        rw [i1]
        unfold cat
        simp
      | succ k => simpa using i5 k x (by simpa using hx)
theorem merge_facts {x y : List (List UInt8)} (hx : ML x) (hy : ML y) : ∃ ns : List Int, mergeR x y = (cat x y, ns, 0) ∧ ns.length = y.length ∧ (∀ (k : Nat) (s : List UInt8), y[k]? = some s → ∃ j : Nat, ns[k]? = some (j : Int) ∧ (cat x y)[j]? = some s) ∧ ML (cat x y) := by
  have h1 := (chk_good x).1.2 hx.1
  have h2 := (chk_good y).1.2 hy.1
  obtain ⟨i1, i2, i3, i4, i5⟩ := mrg_facts y x hx hy.2 hy.1.nodup
  refine ⟨(mrg x 0 y).2.1, ?_, i4, by rw [← i1]; exact i5, by rw [← i1]; exact i3⟩
  unfold mergeR
  rw [if_neg (by simpa using h1), if_neg (by simpa using h2), if_neg (by simpa using i2), ← i1]
  exact Prod.ext rfl (Prod.ext rfl i2)
/-- A table with itself: the numbers are in order. -/
theorem self_facts {x : List (List UInt8)} {ns : List Int} (hx : ML x) (h : ∀ (k : Nat) (s : List UInt8), x[k]? = some s → ∃ j : Nat, ns[k]? = some (j : Int) ∧ (cat x x)[j]? = some s) (hl : ns.length = x.length) : ∀ k (hk : k < ns.length), ns[k] = (k : Int) := by
  intro k hk
  have hk2 : k < x.length := by omega
  obtain ⟨j, h1, h2⟩ := h k x[k] (List.getElem?_eq_getElem hk2)
  rw [cat_self] at h2
  have h3 : x[j]? = x[k]? := by rw [h2, List.getElem?_eq_getElem hk2]
  have hj : j = k := by
    have hjl : j < x.length := (List.getElem?_eq_some_iff.1 h2).1
    have hnd := hx.1.nodup
    exact (List.getElem?_inj hjl hnd).1 h3
  rw [List.getElem?_eq_getElem hk] at h1
  injection h1 with h1
  rw [h1, hj]
end Go.Proofs.Ytbobpgjgknkogaa
