/- Slices of tokens: List. -/
import Derived.Test.YtdndomjmnlpjgaaT22
namespace Go.Proofs.Ytdndomjmnlpjgaa
open Go.RowKit
theorem infoStr : (Try.prog.info? 9).map (fun i => (i.zero, i.size, i.bytes)) = some (some (.string ⟨#[]⟩), 1, 16) := by kernel_rfl
def strV (l : List UInt8) : Value := .string ⟨l.toArray⟩
set_option maxRecDepth 100000 in
theorem joined_sl (A : Option Addr) (cap : Nat) (ls : List (List UInt8)) (w : World) (hS : Sl w w.heap.size 1 A ls.length cap (ls.map strV)) (hN : ls.length ≤ 100000) (hlen : ls.flatten.length ≤ 1000000000) :
    Calls Try.prog 66 #[.slice A ls.length cap] w fun e w' => e = .returned (.string ⟨ls.flatten.toArray⟩) ∧ Below w.heap.size w w' := by
  rcases Nat.eq_zero_or_pos ls.length with h0 | h0
  · obtain rfl : ls = [] := List.eq_nil_of_length_eq_zero h0
    have H := Lib.hid (Try.strings_Join_none A cap ⟨#[]⟩ w)
    go_enter Try.func66, Try.ntmps66
    go_wp2_with (go_at_call 80; refine (H.out).mono ?_; rintro e w1 ⟨rfl, rfl⟩)
    go_ret
    exact ⟨rfl, Below.refl _ _⟩
  · obtain ⟨b, o, rfl, hb, hc⟩ := hS.2.2.2 h0
    exact joined_any b o cap ls w (fun j x hx => hc j _ (by rw [List.getElem?_map, hx]; rfl)) hb hN hS.2.1 hlen
def listL (l : List Tok) (n : Int) : List UInt8 := if listE l n = 0 then (l.map (fun t => bytesL t n)).flatten else []
theorem listE1_all : ∀ (l : List Tok) (n : Int), listE1 l n = 0 → ∀ t ∈ l, checkE t n = 0
  | [], _, _ => by simp
  | t :: l, n, h => by
    by_cases hc : checkE t n = 0
    · have h2 : listE1 l n = 0 := by rw [← h]; show _ = if _ then _ else _; rw [if_pos hc]
      intro x hx
      rcases List.mem_cons.1 hx with rfl | hx
      · exact hc
      · exact listE1_all l n h2 x hx
    · have h2 : checkE t n = 0 := by rw [← h]; show _ = if _ then _ else _; rw [if_neg hc]
      exact absurd h2 hc
theorem flat_len {N : Nat} : ∀ (ls : List (List UInt8)), (∀ x ∈ ls, x.length ≤ N) → ls.flatten.length ≤ ls.length * N
  | [], _ => by simp
  | x :: l, h => by
    rw [List.flatten_cons, List.length_append, List.length_cons, Nat.add_mul]
    have := flat_len l (fun y hy => h y (List.mem_cons_of_mem _ hy))
    have := h x (by simp)
    omega
theorem bytesL_len (t : Tok) (n : Int) (N : Nat) (h : t.text.length ≤ N) : (bytesL t n).length ≤ 2 + N := by
  unfold bytesL
  split
  · simp; omega
  · simp
set_option maxRecDepth 100000 in
set_option maxHeartbeats 3200000 in
theorem List_any (A : Option Addr) (cap D : Nat) (l : List Tok) (n : Int) (w : World) (hS : Sl w D 3 A l.length cap (tokC l)) (hD : D ≤ w.heap.size) (hn : l.length ≤ 2000) (hl : ∀ t ∈ l, t.text.length ≤ 10000) :
    Calls Try.prog 44 #[.slice A l.length cap, .int .i64 n] w fun e w' => e = .returned (.tuple #[.string ⟨(listL l n).toArray⟩, .int .i64 (listE l n)]) ∧ Below w.heap.size w w' := by
  obtain ⟨i0, hi0, hz0, hz1, hz2⟩ := info_parts infoStr
  have HL := Lib.hid (list_any A cap D l n w hS hD (by omega) hl)
  by_cases he : listE l n = 0
  · have hall : ∀ t ∈ l, checkE t n = 0 := by
      have h2 := he
      unfold listE at h2
      split at h2
      · cases h2
      · exact listE1_all l n h2
    rw [show listL l n = (l.map (fun t => bytesL t n)).flatten from if_pos he, he]
    rw [he] at HL
    have hfl : (l.map (fun t => bytesL t n)).flatten.length ≤ 1000000000 := by
      have := flat_len (N := 10002) (l.map (fun t => bytesL t n)) (fun x hx => by
        obtain ⟨t, ht, rfl⟩ := List.mem_map.1 hx
        exact bytesL_len t n 10000 (hl t ht))
      rw [List.length_map] at this
      omega
    clear he
    go_enter Try.func44, Try.ntmps44
    go_wp2_with fail
    refine HL.out.mono ?_
    rintro e w1 ⟨rfl, hb1⟩
    clear HL
    have hS1 := hS.below hb1 hD
    have hD1 := Nat.le_trans hD hb1.size
    go_wp2_with fail
    go_loopw [7, 20] (fun out i W => ∃ (k : Nat) (A2 : Option Addr) (cap2 : Nat), k ≤ l.length ∧ i = .int .i64 k ∧ out = .slice A2 k cap2 ∧ Own W w.heap.size 9 1 A2 k cap2 (((l.map (fun t => bytesL t n)).take k).map strV) ∧ Below w.heap.size w W) (fun _ i _ => l.length - (intOf i).toNat)
    case atStart => exact ⟨0, none, 0, Nat.zero_le _, rfl, rfl, Own.nil _ _ _ _, hb1⟩
    case round =>
      obtain ⟨k, A2, cap2, hk, rfl, rfl, hown, hB⟩ := hrel
      clear hb1 hS1 hD1
      by_cases hlt : k < l.length
      · obtain ⟨b, o, rfl, hb, c0, c1, c2⟩ := sl_tok (hS.below hB hD) hlt
        have htl := hl l[k] (List.getElem_mem hlt)
        have hck := hall l[k] (List.getElem_mem hlt)
        have hsn : (l.map (fun t => bytesL t n)).take (k + 1) = (l.map (fun t => bytesL t n)).take k ++ [bytesL l[k] n] := by
          rw [take_snoc _ k (by simpa using hlt)]
          simp
        have HBy := fun W => Bytes_any l[k] n W htl
        rw [hck] at HBy
        generalize bytesL l[k] n = L at *
        generalize l[k] = t at *
        obtain ⟨sy, x, a⟩ := t
        unfold Tok.v at HBy
        simp only at *
        have HBy' := Lib.hid HBy; clear HBy
        have hB1 := hB.alloc hB.size (.cells #[.int .i64 sy, .string ⟨x.toArray⟩, .int .i64 a] 41)
        have hown1 := hown.alloc (.cells #[.int .i64 sy, .string ⟨x.toArray⟩, .int .i64 a] 41)
        have HN := Lib.hid hsn
        have HS' := Lib.hid hS
        have HF := Lib.hid hfl
        clear hsn hown hB hl hS hfl hall hck
        go_wp2_with fail
        refine (HBy'.out _).mono ?_
        rintro e w3 ⟨rfl, hb3⟩
        have hB3 := below_on hB1 hb3 (Nat.le_refl _)
        have hown3 := hown1.below hb3 (Nat.le_refl _)
        have hsz3 := hB3.size
        clear hB1 hown1 hb3 HBy' c0 c1 c2
        go_wp2_with (at_builtin; refine wpList_append_new rfl _ _ _ rfl w.heap.size 9 i0 _ 1 16 Try.underlying87 hi0 hz0 hz1 hz2 rfl (by decide) rfl hown3 #[.string ⟨L.toArray⟩] rfl rfl (by simp [Value.oneCell']) (by simp only [maxLen]; omega) (by omega) hsz3 ?_; intro A4 cap4 W4 hown4 hg4 hat4)
        go_roundw
        case rel =>
          refine ⟨k + 1, A4, cap4, by omega, by go_num, rfl, ?_, grown_below hB3 hown3 hg4 hsz3⟩
          rw [HN.out, List.map_append]
          exact hown4
        case measure => simp [intOf]; omega
      · obtain rfl : k = l.length := by omega
        rw [List.take_of_length_le (by simp)] at hown
        have HJ := joined_sl A2 cap2 (l.map (fun t => bytesL t n)) wr (by rw [List.length_map]; exact hown.sl) (by rw [List.length_map]; omega) hfl
        rw [List.length_map] at HJ
        obtain ⟨L, hL⟩ : ∃ L, (l.map (fun t => bytesL t n)).flatten = L := ⟨_, rfl⟩
        rw [hL] at HJ
        have HJ' := Lib.hid HJ
        have HE := Lib.hid hL
        clear HJ hown hS hl hall hL
        go_wp2_with (go_at_call 66; refine HJ'.out.mono ?_; rintro e w3 ⟨rfl, hb3⟩)
        go_ret2
        exact ⟨by rw [HE.out]; rfl, below_on hB hb3 (Nat.le_refl _)⟩
  · rw [show listL l n = [] from if_neg he]
    generalize listE l n = le at *
    go_enter Try.func44, Try.ntmps44
    go_wp2_with fail
    refine HL.out.mono ?_
    rintro e w1 ⟨rfl, hb1⟩
    go_wp2_with fail
    go_ret2
    exact ⟨rfl, hb1⟩
end Go.Proofs.Ytdndomjmnlpjgaa
