/- record.Check of good tokens; mapped; the builder's writes. No condition. -/
import Derived.Test.YtdndomjmnlpjgaaP12
namespace Go.Proofs.Ytdndomjmnlpjgaa
open Go.RowKit
theorem write_k (B b : Nat) (bs s : List UInt8) (w : World) (h : Lib.IsBuilderF 86 5 B b (Lib.byteCells bs) w) (hlen : bs.length + s.length ≤ 1000000) (hBw : B ≤ w.heap.size) :
    Calls Try.prog 60 #[.pointer (some ⟨b, 0, none⟩), .string ⟨s.toArray⟩] w fun e w' => e = .returned (.tuple #[.int .i64 s.length, .nilIface]) ∧
      Lib.IsBuilderF 86 5 B b (Lib.byteCells (bs ++ s)) w' ∧ Below B w w' ∧ Lib.OthersKept 5 (some b) w w' := by
  have hs : (ByteArray.mk s.toArray).size = s.length := by simp [ByteArray.size]
  refine Calls.mono (Any.Builder_WriteString_k { Try.lays156 with } Try.Builder_Extra_156 B b (Lib.byteCells bs) ⟨s.toArray⟩ w h (by rw [Lib.byteCells_length, hs]; omega) hBw) ?_
  rintro e w' ⟨rfl, h1, h2, h3⟩
  refine ⟨by rw [hs], .inr ?_, h2, h3⟩
  have e1 : Lib.byteCells (bs ++ s) = Lib.byteCells bs ++ Lib.strCells ⟨s.toArray⟩ := by rw [Lib.strCells_eq]; simp [Lib.byteCells]
  rw [e1]
  exact h1
theorem string_k (B b : Nat) (l : List UInt8) (w : World) (h : Lib.IsBuilderF 86 5 B b (Lib.byteCells l) w) (hBw : B ≤ w.heap.size) :
    Calls Try.prog 61 #[.pointer (some ⟨b, 0, none⟩)] w fun e w' => e = .returned (.string ⟨l.toArray⟩) ∧ Below B w w' :=
  (Try.Builder_String_any_k B b l w h hBw).mono fun _ _ ⟨h1, _, h2, _⟩ => ⟨h1, h2⟩
set_option maxRecDepth 100000 in
theorem isSep_any (t : Tok) (n : Int) (p : Nat) (w : World) (hp : w.cell? ⟨p, 0, none⟩ = some (.int .i64 n)) :
    Calls Try.prog 63 #[t.v, .pointer (some ⟨p, 0, none⟩)] w fun e w' => e = .returned (.bool (t.sym == n)) ∧ Below w.heap.size w w' := by
  obtain ⟨sy, x, a⟩ := t
  have hB := (Below.refl w.heap.size w).alloc (Nat.le_refl _) (.cells #[.int .i64 sy, .string ⟨x.toArray⟩, .int .i64 a] 41)
  have hp1 := (hB.cell (p := ⟨p, 0, none⟩) (World.block_lt_of_cell? w _ hp)).trans hp
  unfold Tok.v
  simp only
  go_enter Try.func63, Try.ntmps63
  go_wp2_with fail
  go_ret
  exact ⟨rfl, hB⟩
set_option maxRecDepth 100000 in
set_option maxHeartbeats 3200000 in
theorem idx_none (A : Option Addr) (cap D : Nat) (l : List Tok) (n : Int) (p : Nat) (w : World) (hS : Sl w D 3 A l.length cap (tokC l)) (hD : D ≤ w.heap.size) (hn : l.length ≤ 20000) (hp : w.cell? ⟨p, 0, none⟩ = some (.int .i64 n)) (hno : ∀ t ∈ l, t.sym ≠ n) :
    Calls Try.prog 79 #[.slice A l.length cap, .func (.func 63) #[] #[.pointer (some ⟨p, 0, none⟩)]] w fun e w' => e = .returned (.int .i64 (-1)) ∧ Below w.heap.size w w' := by
  have hpw := World.block_lt_of_cell? w _ hp
  go_enter Try.func79, Try.ntmps79
  go_wp2_with fail
  go_loopw [8] (fun v W => ∃ k : Nat, k ≤ l.length ∧ v = .int .i64 k ∧ Below w.heap.size w W) (fun v _ => l.length - (intOf v).toNat)
  case atStart => exact ⟨0, Nat.zero_le _, rfl, Below.refl _ _⟩
  case round =>
    obtain ⟨k, hk, rfl, hB⟩ := hrel
    by_cases hlt : k < l.length
    · obtain ⟨b, o, rfl, hb, c0, c1, c2⟩ := sl_tok (hS.below hB hD) hlt
      have hne := hno l[k] (List.getElem_mem hlt)
      have HC := Lib.hid (isSep_any l[k] n p wr ((hB.cell (p := ⟨p, 0, none⟩) hpw).trans hp))
      generalize l[k] = t at *
      obtain ⟨sy, x, a⟩ := t
      unfold Tok.v at HC
      simp only at *
      have hnb : (sy == n) = false := by simpa using hne
      rw [hnb] at HC
      have HB := Lib.hid hB
      have HS := Lib.hid hS
      clear hB hS hno hnb hne
      go_wp2_with fail
      refine HC.out.mono ?_
      rintro e w3 ⟨rfl, hb3⟩
      go_wp2_with fail
      go_roundw
      case rel => exact ⟨k + 1, by omega, by go_num, below_on HB.out hb3 (Nat.le_refl _)⟩
      case measure => simp [intOf]; omega
    · obtain rfl : k = l.length := by omega
      go_wp2_with fail
      go_ret
      exact ⟨rfl, hB⟩
set_option maxRecDepth 100000 in
theorem has_none (A : Option Addr) (cap D : Nat) (l : List Tok) (n : Int) (p : Nat) (w : World) (hS : Sl w D 3 A l.length cap (tokC l)) (hD : D ≤ w.heap.size) (hn : l.length ≤ 20000) (hp : w.cell? ⟨p, 0, none⟩ = some (.int .i64 n)) (hno : ∀ t ∈ l, t.sym ≠ n) :
    Calls Try.prog 62 #[.slice A l.length cap, .func (.func 63) #[] #[.pointer (some ⟨p, 0, none⟩)]] w fun e w' => e = .returned (.bool false) ∧ Below w.heap.size w w' := by
  have HI := Lib.hid (idx_none A cap D l n p w hS hD hn hp hno)
  clear hS hno hp
  go_enter Try.func62, Try.ntmps62
  go_wp2_with fail
  refine HI.out.mono ?_
  rintro e w1 ⟨rfl, hb⟩
  go_wp2_with fail
  go_ret
  exact ⟨rfl, hb⟩
set_option maxRecDepth 100000 in
set_option maxHeartbeats 3200000 in
theorem byt_any (t : Tok) (n : Int) (p : Nat) (w : World) (hp : w.cell? ⟨p, 0, none⟩ = some (.int .i64 n)) (hl : t.text.length ≤ 10000) :
    Calls Try.prog 59 #[t.v, .pointer (some ⟨p, 0, none⟩)] w fun e w' => e = .returned (.string ⟨(bytesL t n).toArray⟩) ∧ Below w.heap.size w w' := by
  have HBy := Lib.hid (fun W => Bytes_any t n W hl)
  obtain ⟨L, hL⟩ : ∃ L, bytesL t n = L := ⟨_, rfl⟩
  obtain ⟨c, hc⟩ : ∃ c, checkE t n = c := ⟨_, rfl⟩
  rw [hL, hc] at HBy
  rw [hL]
  clear hL hc
  obtain ⟨sy, x, a⟩ := t
  have hB := (Below.refl w.heap.size w).alloc (Nat.le_refl _) (.cells #[.int .i64 sy, .string ⟨x.toArray⟩, .int .i64 a] 41)
  have hp1 := (hB.cell (p := ⟨p, 0, none⟩) (World.block_lt_of_cell? w _ hp)).trans hp
  unfold Tok.v at HBy ⊢
  simp only at HBy ⊢
  have HB := Lib.hid hB
  clear hB hl
  go_enter Try.func59, Try.ntmps59
  go_wp2_with fail
  refine (HBy.out _).mono ?_
  rintro e w1 ⟨rfl, hb⟩
  go_wp2_with fail
  go_ret
  exact ⟨rfl, below_on HB.out hb (Nat.le_refl _)⟩
set_option maxRecDepth 100000 in
set_option maxHeartbeats 3200000 in
theorem mapped_any (A : Option Addr) (cap D : Nat) (l : List Tok) (n : Int) (p : Nat) (w : World) (hS : Sl w D 3 A l.length cap (tokC l)) (hD : D ≤ w.heap.size) (hn : l.length ≤ 20000) (hp : w.cell? ⟨p, 0, none⟩ = some (.int .i64 n)) (hl : ∀ t ∈ l, t.text.length ≤ 10000) :
    Calls Try.prog 58 #[.slice A l.length cap, .func (.func 59) #[] #[.pointer (some ⟨p, 0, none⟩)]] w fun e w' => (∃ A2 cap2, e = .returned (.slice A2 l.length cap2) ∧
      Own w' w.heap.size 9 1 A2 l.length cap2 ((l.map (fun t => bytesL t n)).map strV)) ∧ Below w.heap.size w w' := by
  obtain ⟨i0, hi0, hz0, hz1, hz2⟩ := info_parts infoStr
  have hpw := World.block_lt_of_cell? w _ hp
  go_enter Try.func58, Try.ntmps58
  go_wp2_with fail
  go_loopw [5, 10] (fun out v W => ∃ (k : Nat) (A2 : Option Addr) (cap2 : Nat), k ≤ l.length ∧ v = .int .i64 k ∧ out = .slice A2 k cap2 ∧ Own W w.heap.size 9 1 A2 k cap2 (((l.map (fun t => bytesL t n)).take k).map strV) ∧ Below w.heap.size w W) (fun _ v _ => l.length - (intOf v).toNat)
  case atStart => exact ⟨0, none, 0, Nat.zero_le _, rfl, rfl, Own.nil _ _ _ _, Below.refl _ _⟩
  case round =>
    obtain ⟨k, A2, cap2, hk, rfl, rfl, hown, hB⟩ := hrel
    by_cases hlt : k < l.length
    · obtain ⟨b, o, rfl, hb, c0, c1, c2⟩ := sl_tok (hS.below hB hD) hlt
      have htl := hl l[k] (List.getElem_mem hlt)
      have hsn : (l.map (fun t => bytesL t n)).take (k + 1) = (l.map (fun t => bytesL t n)).take k ++ [bytesL l[k] n] := by
        rw [take_snoc _ k (by simpa using hlt)]
        simp
      have HBy := Lib.hid (fun W hp => byt_any l[k] n p W hp htl)
      generalize bytesL l[k] n = L at *
      generalize l[k] = t at *
      obtain ⟨sy, x, a⟩ := t
      unfold Tok.v at HBy
      simp only at *
      have hB1 := hB.alloc hB.size (.cells #[.int .i64 sy, .string ⟨x.toArray⟩, .int .i64 a] 41)
      have hown1 := hown.alloc (.cells #[.int .i64 sy, .string ⟨x.toArray⟩, .int .i64 a] 41)
      have HBy1 := Lib.hid (HBy.out _ ((hB1.cell (p := ⟨p, 0, none⟩) hpw).trans hp))
      have HN := Lib.hid hsn
      have HS' := Lib.hid hS
      clear hsn hown hB hl hS htl HBy
      go_wp2_with fail
      refine HBy1.out.mono ?_
      rintro e w3 ⟨rfl, hb3⟩
      have hB3 := below_on hB1 hb3 (Nat.le_refl _)
      have hown3 := hown1.below hb3 (Nat.le_refl _)
      have hsz3 := hB3.size
      clear hB1 hown1 hb3 HBy1 c0 c1 c2
      go_wp2_with (at_builtin; refine wpList_append_new rfl _ _ _ rfl w.heap.size 9 i0 _ 1 16 Try.underlying87 hi0 hz0 hz1 hz2 rfl (by decide) rfl hown3 #[.string ⟨L.toArray⟩] rfl rfl (by simp [Value.oneCell']) (by simp only [maxLen]; omega) (by omega) hsz3 ?_; intro A4 cap4 W4 hown4 hg4 hat4)
      go_roundw
      case rel =>
        refine ⟨k + 1, A4, cap4, by omega, by go_num, rfl, ?_, grown_below hB3 hown3 hg4 hsz3⟩
        rw [HN.out, List.map_append]
        exact hown4
      case measure => simp [intOf]; omega
    · obtain rfl : k = l.length := by omega
      rw [List.take_of_length_le (by simp)] at hown
      go_wp2_with fail
      go_ret
      exact ⟨⟨A2, cap2, rfl, hown⟩, hB⟩
end Go.Proofs.Ytdndomjmnlpjgaa
