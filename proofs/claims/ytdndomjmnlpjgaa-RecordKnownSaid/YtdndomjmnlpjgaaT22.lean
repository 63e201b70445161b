/- Slices of tokens: placed. -/
import Derived.Test.YtdndomjmnlpjgaaT21
namespace Go.Proofs.Ytdndomjmnlpjgaa
open Go.RowKit
theorem infoT : (Try.prog.info? 41).map (fun i => (i.zero, i.size, i.bytes)) = some (some (.agg #[.int .i64 0, .string ⟨#[]⟩, .int .i64 0]), 3, 32) := by kernel_rfl
/-- Tokens one behind the other from an offset on; where the last one ends. -/
def placeL : List Tok → Int → List Tok
  | [], _ => []
  | t :: l, a => ⟨t.sym, t.text, a⟩ :: placeL l (a + (2 + t.text.length))
def endL : List Tok → Int → Int
  | [], a => a
  | t :: l, a => endL l (a + (2 + t.text.length))
theorem placeL_append : ∀ (l k : List Tok) (a : Int), placeL (l ++ k) a = placeL l a ++ placeL k (endL l a)
  | [], _, _ => rfl
  | t :: l, k, a => by rw [List.cons_append]; show _ :: placeL (l ++ k) _ = _; rw [placeL_append l k]; rfl
theorem endL_append : ∀ (l k : List Tok) (a : Int), endL (l ++ k) a = endL k (endL l a)
  | [], _, _ => rfl
  | _ :: l, k, _ => endL_append l k _
theorem placeL_len : ∀ (l : List Tok) (a : Int), (placeL l a).length = l.length
  | [], _ => rfl
  | t :: l, a => by show (placeL l _).length + 1 = _; rw [placeL_len l]; rfl
theorem endL_bound : ∀ (l : List Tok) (a : Int) (N : Nat), (∀ t ∈ l, t.text.length ≤ N) → a ≤ endL l a ∧ endL l a ≤ a + l.length * (2 + N)
  | [], a, N, _ => ⟨Int.le_refl _, by simp [endL]⟩
  | t :: l, a, N, h => by
    have h1 := endL_bound l (a + (2 + t.text.length)) N (fun x hx => h x (List.mem_cons_of_mem _ hx))
    have h2 := h t (by simp)
    show a ≤ endL l _ ∧ endL l _ ≤ _
    rw [List.length_cons]
    have e : ((l.length + 1 : Nat) : Int) * (2 + N) = l.length * (2 + N) + (2 + N) := by rw [Int.natCast_add, Int.add_mul]; simp
    rw [e]
    omega
theorem placeL_snoc (l : List Tok) (k : Nat) (hk : k < l.length) (a : Int) : placeL (l.take (k + 1)) a = placeL (l.take k) a ++ [⟨l[k].sym, l[k].text, endL (l.take k) a⟩] ∧ endL (l.take (k + 1)) a = endL (l.take k) a + (2 + l[k].text.length) := by
  rw [take_snoc l k hk, placeL_append, endL_append]
  exact ⟨rfl, rfl⟩
set_option maxRecDepth 100000 in
set_option maxHeartbeats 3200000 in
theorem placed_any (A : Option Addr) (cap D : Nat) (l : List Tok) (a0 : Int) (w : World) (hS : Sl w D 3 A l.length cap (tokC l)) (hD : D ≤ w.heap.size) (hn : l.length ≤ 2000) (hl : ∀ t ∈ l, t.text.length ≤ 10000) (ha0 : 0 ≤ a0) (ha1 : a0 ≤ 1099511627776) :
    Calls Try.prog 75 #[.slice A l.length cap, .int .i64 a0] w fun e w' => ∃ A2 cap2, e = .returned (.tuple #[.slice A2 l.length cap2, .int .i64 (endL l a0)]) ∧ Own w' w.heap.size 41 3 A2 l.length cap2 (tokC (placeL l a0)) ∧ Below w.heap.size w w' := by
  obtain ⟨i0, hi0, hz0, hz1, hz2⟩ := info_parts infoT
  go_enter Try.func75, Try.ntmps75
  go_wp2_with fail
  go_loopw [1, 6, 11] (fun v out i W => ∃ (k : Nat) (A2 : Option Addr) (cap2 : Nat), k ≤ l.length ∧ i = .int .i64 k ∧ v = .int .i64 (endL (l.take k) a0) ∧ out = .slice A2 k cap2 ∧ Own W w.heap.size 41 3 A2 k cap2 (tokC (placeL (l.take k) a0)) ∧ Below w.heap.size w W) (fun _ _ i _ => l.length - (intOf i).toNat)
  case atStart => exact ⟨0, none, 0, Nat.zero_le _, rfl, rfl, rfl, Own.nil _ _ _ _, Below.refl _ _⟩
  case round =>
    obtain ⟨k, A2, cap2, hk, rfl, rfl, rfl, hown, hB⟩ := hrel
    by_cases hlt : k < l.length
    · obtain ⟨b, o, rfl, hb, c0, c1, c2⟩ := sl_tok (hS.below hB hD) hlt
      obtain ⟨hp1, hp2⟩ := placeL_snoc l k hlt a0
      have htl := hl l[k] (List.getElem_mem hlt)
      have hbd := endL_bound (l.take k) a0 10000 (fun t ht => hl t (List.mem_of_mem_take ht))
      rw [List.length_take] at hbd
      have hbd2 : 0 ≤ endL (l.take k) a0 ∧ endL (l.take k) a0 ≤ 1099611627776 := by
        have : ((min k l.length : Nat) : Int) * (2 + (10000 : Nat)) ≤ 2000 * 10002 := by
          have : min k l.length ≤ 2000 := by omega
          omega
        omega
      have hlen : (placeL (l.take k) a0).length = k := by rw [placeL_len, List.length_take]; omega
      generalize placeL (l.take k) a0 = P0 at *
      generalize endL (l.take k) a0 = E0 at *
      generalize l[k] = t at *
      obtain ⟨sy, x, a⟩ := t
      simp only at *
      have HSz := Lib.hid (fun W => size_any ⟨sy, x, E0⟩ W (by simp only; omega))
      unfold Tok.v at HSz
      simp only at HSz
      have hT := Blk.new wr 41 #[.int .i64 sy, .string ⟨x.toArray⟩, .int .i64 E0]
      have hB1 := hB.alloc hB.size (.cells #[.int .i64 sy, .string ⟨x.toArray⟩, .int .i64 E0] 41)
      have hown1 := hown.alloc (.cells #[.int .i64 sy, .string ⟨x.toArray⟩, .int .i64 E0] 41)
      have HP := Lib.hid hp1
      have HE := Lib.hid hp2
      have HK := Lib.hid hlen
      have HS' := Lib.hid hS
      obtain ⟨hbd3, hbd4⟩ := hbd2
      clear hp1 hp2 hlen hown hB hl hbd hS
      go_wp2_with fail
      refine (HSz.out _).mono ?_
      rintro e w3 ⟨rfl, hb3⟩
      have hT3 := Blk.on hT hb3
      have hB3 := below_on hB1 hb3 (Nat.le_refl _)
      have hown3 := hown1.below hb3 (Nat.le_refl _)
      clear hT hB1 hown1 hb3 HSz c0 c1 c2
      obtain ⟨c0, c1, c2, f0, f1, f2⟩ := cells3 hT3
      have hsz3 := hB3.size
      go_wp2_with (at_builtin; refine wpList_append_new rfl _ _ _ rfl w.heap.size 41 i0 _ 3 32 Try.underlying24 hi0 hz0 hz1 hz2 rfl (by decide) rfl hown3 #[.int .i64 sy, .string ⟨x.toArray⟩, .int .i64 E0] rfl rfl (by simp [Value.oneCell']) (by simp only [maxLen]; omega) (by omega) hsz3 ?_; intro A4 cap4 W4 hown4 hg4 hat4)
      go_roundw
      case rel =>
        refine ⟨k + 1, A4, cap4, by omega, by go_num, by rw [HE.out], rfl, ?_, grown_below hB3 hown3 hg4 hsz3⟩
        rw [HP.out, tokC_append]
        exact hown4
      case measure => simp [intOf]; omega
    · obtain rfl : k = l.length := by omega
      rw [List.take_length] at hown ⊢
      go_wp2_with fail
      go_ret2
      exact ⟨A2, cap2, rfl, hown, hB⟩
end Go.Proofs.Ytdndomjmnlpjgaa
