/- record.Bytes of good records. No condition. -/
import Derived.Test.YtdndomjmnlpjgaaP15
namespace Go.Proofs.Ytdndomjmnlpjgaa
open Go.RowKit
def endR (l : List Tok) : Int := match l.getLast? with | none => 0 | some t => t.at_ + (2 + (t.text.length : Int))
/-- A record that is right: few tokens, none of them a separator, placed, and an end that fits. -/
def goodR (m : Nat) (r : Rc) : Prop := r.toks.length ≤ 20 ∧ listE1 r.toks m = 0 ∧ (∀ t ∈ r.toks, t.sym ≠ m) ∧ plE r.toks = 0 ∧ 0 ≤ r.at_ ∧ r.at_ ≤ 1099511627776 ∧ (r.fin = 1 ∨ (r.fin = 2 ∧ r.toks ≠ [])) ∧ (r.toks ≠ [] → r.at_ = endR r.toks)
theorem endR_last {l : List Tok} {j : Nat} (hj : j + 1 = l.length) : endR l = (l[j]'(by omega)).at_ + (2 + ((l[j]'(by omega)).text.length : Int)) := by
  unfold endR
  have : l.getLast? = some (l[j]'(by omega)) := by
    rw [List.getLast?_eq_getElem?, List.getElem?_eq_getElem (by omega)]
    congr 2
    omega
  rw [this]
theorem Check_ok (A : Option Addr) (cap D m : Nat) (r : Rc) (w : World) (hS : Sl w D 3 A r.toks.length cap (tokC r.toks)) (hD : D ≤ w.heap.size) (h1 : 1 ≤ m) (h8 : m ≤ 8) (hg : goodR m r) :
    Calls Try.prog 23 #[.agg #[.slice A r.toks.length cap, .int .i64 r.fin, .int .i64 r.at_], .int .i64 m] w fun e w' => e = .returned (.int .i64 0) ∧ Below w.heap.size w w' := by
  obtain ⟨g1, g2, g3, g4, g5, g6, g7, g8⟩ := hg
  have hl : ∀ t ∈ r.toks, t.text.length ≤ maxLen := fun t ht => by have := (chk_bounds g2 t ht).1; unfold maxLen; omega
  by_cases hn : r.toks = []
  · rcases g7 with g7 | ⟨_, g7⟩
    · exact Check_e1 A cap D m r.toks r.fin r.at_ w hS hD h1 h8 (by omega) hl g2 g3 g4 g5 g6 hn g7
    · exact absurd hn g7
  · have hp : 0 < r.toks.length := List.length_pos_iff.2 hn
    have he : ∀ j, (hj : j + 1 = r.toks.length) → r.at_ = r.toks[j].at_ + (2 + (r.toks[j].text.length : Int)) := fun j hj => by rw [g8 hn, endR_last hj]
    rcases g7 with g7 | ⟨g7, _⟩
    · exact Check_n1 A cap D m r.toks r.fin r.at_ w hS hD h1 h8 (by omega) hl g2 g3 g4 g5 g6 hp he g7
    · exact Check_n2 A cap D m r.toks r.fin r.at_ w hS hD h1 h8 (by omega) hl g2 g3 g4 g5 g6 hp he g7
theorem isB_below {T e : TypeId} {B b : Nat} {bs : List Value} {W W' : World} (h : Lib.IsBuilderF T e B b bs W) (hb : Below W.heap.size W W') : Lib.IsBuilderF T e B b bs W' := by
  have key : ∀ p, Lib.BuilderAtF T e B b p bs W → Lib.BuilderAtF T e B b p bs W' := fun p h => by
    have hlt := h.lt
    obtain ⟨hB, v, hv, hown, hne⟩ := h
    exact ⟨hB, v, (hb.block b hlt).trans hv, hown.kept (row := none) ⟨hb.os, hb.tape, hb.output, hb.size, fun k hk _ => hb.block k hk⟩ (Classical.em _), hne⟩
  rcases h with h | h
  · exact .inl (key _ h)
  · exact .inr (key _ h)
theorem Blk.others {w w' : World} {g b : Nat} {T e : TypeId} {cs : Array Value} (h : Blk w g T cs) (ho : Lib.OthersKept e (some b) w w') (hg : g ≠ b) (hT : T ≠ e) : Blk w' g T cs := by
  obtain ⟨fr, hk, hf⟩ := h
  exact ⟨fr, ho g _ hk (by simpa using hg) (fun c fz h => by injection h with _ h; exact hT h), hf⟩
theorem Own.others {w w' : World} {B s n cap b : Nat} {T e : TypeId} {A : Option Addr} {xs : List Value} (h : Own w B T s A n cap xs) (ho : Lib.OthersKept e (some b) w w') (hb : b < B) (hT : T ≠ e) : Own w' B T s A n cap xs :=
  h.keep fun g cur hg hk => hk.others ho (by have := (h.lt hg).1; omega) hT
def recB (m : Nat) (r : Rc) : List UInt8 := (r.toks.map (fun t => bytesL t m)).flatten ++ (if r.fin = 1 then bytesL ⟨m, [], 0⟩ m else [])
def recsB (m : Nat) (l : List RcM) : List UInt8 := (l.map (fun x => recB m x.r)).flatten
theorem bytesL_24 {t : Tok} {m : Int} (h : t.text.length ≤ 24) : (bytesL t m).length ≤ 26 := by have := bytesL_len t m 24 h; omega
theorem flat_26 (m : Int) : ∀ (l : List Tok), (∀ t ∈ l, t.text.length ≤ 24) → ((l.map (fun t => bytesL t m)).flatten).length ≤ l.length * 26
  | [], _ => by simp
  | t :: l, h => by
    have h1 := bytesL_24 (m := m) (h t (by simp))
    have h2 := flat_26 m l (fun x hx => h x (List.mem_cons_of_mem _ hx))
    simp only [List.map_cons, List.flatten_cons, List.length_append, List.length_cons]
    omega
theorem recsB_snoc (m : Nat) (l : List RcM) (k : Nat) (hk : k < l.length) : recsB m (l.take (k + 1)) = recsB m (l.take k) ++ recB m l[k].r := by
  unfold recsB
  rw [take_snoc l k hk, List.map_append, List.flatten_append]
  simp
theorem isB_new (w : World) : Lib.IsBuilderF 86 5 w.heap.size w.heap.size (Lib.byteCells []) (w.alloc (.cells #[.pointer none, .slice none 0 0] 86)) :=
  .inl ⟨Nat.le_refl _, .slice none 0 0, heap_alloc_new w _, ⟨by simp [Lib.byteCells], .inl ⟨rfl, by simp [Lib.byteCells]⟩⟩, by simp [Value.ownBlock]⟩
theorem isB_lt {T e : TypeId} {B b : Nat} {bs : List Value} {w : World} (h : Lib.IsBuilderF T e B b bs w) : b < w.heap.size := h.elim (·.lt) (·.lt)
theorem flat_snoc (m : Int) (l : List Tok) (j : Nat) (hj : j < l.length) : (((l.map (fun t => bytesL t m)).take (j + 1)).flatten) = ((l.map (fun t => bytesL t m)).take j).flatten ++ bytesL l[j] m := by
  rw [take_snoc _ j (by simpa using hj), List.flatten_append]
  simp
set_option maxRecDepth 100000 in
set_option maxHeartbeats 12800000 in
theorem Bytes_recs (A : Option Addr) (cap D m : Nat) (l : List RcM) (w : World) (hS : Sl w D 3 A l.length cap (rcC l)) (hD : D ≤ w.heap.size) (hT : ∀ x ∈ l, Sl w D 3 x.A x.r.toks.length x.cap (tokC x.r.toks)) (h1 : 1 ≤ m) (h8 : m ≤ 8) (hn : l.length ≤ 20)
    (hg : ∀ x ∈ l, goodR m x.r) (hlast : ∀ i, (h : i + 1 < l.length) → l[i].r.fin = 1) :
    Calls Try.prog 22 #[.slice A l.length cap, .int .i64 m] w fun e w' => e = .returned (.tuple #[.string ⟨(recsB m l).toArray⟩, .int .i64 0]) ∧ Below w.heap.size w w' := by
  have nz : (l.length : Int) ≤ 20 := by omega
  have b1 := Blk.new w 3 #[.int .i64 m]
  have hB1 := (Below.refl w.heap.size w).alloc (Nat.le_refl _) (.cells #[.int .i64 m] 3)
  have HH := Lib.hid (And.intro b1 hB1)
  have HCk := Lib.hid (fun (x : RcM) (hx : x ∈ l) W hS hD => Check_ok x.A x.cap D m x.r W hS hD h1 h8 (hg x hx))
  have HBd := Lib.hid (fun (x : RcM) (hx : x ∈ l) => (And.intro (hg x hx).1 (And.intro (fun t ht => (chk_bounds (hg x hx).2.1 t ht).1) (hg x hx).2.2.2.2.2.2.1) : x.r.toks.length ≤ 20 ∧ (∀ t ∈ x.r.toks, t.text.length ≤ 24) ∧ (x.r.fin = 1 ∨ (x.r.fin = 2 ∧ x.r.toks ≠ []))))
  have HLa := Lib.hid hlast
  have HTo := Lib.hid hT
  clear b1 hB1 hg hlast hT
  go_enter Try.func22, Try.ntmps22
  go_wp2_with fail
  obtain ⟨b1, hB1⟩ := HH.out
  clear HH
  generalize w.alloc (.cells #[.int .i64 m] 3) = W1 at *
  go_loopw [26] (fun v W => ∃ k : Nat, k ≤ l.length ∧ v = .int .i64 k ∧ Blk W w.heap.size 3 #[.int .i64 m] ∧ Below w.heap.size w W) (fun v _ => l.length - (intOf v).toNat)
  case atStart => exact ⟨0, Nat.zero_le _, rfl, b1, hB1⟩
  case round =>
    clear b1 hB1
    obtain ⟨k, hk, rfl, b1, hB⟩ := hrel
    have y0 : wr.cell? ⟨w.heap.size, 0, none⟩ = some (.int .i64 m) := b1.cell 0
    have hz1 := b1.lt
    by_cases hlt : k < l.length
    · obtain ⟨b, o, rfl, hb, c0, c1, c2⟩ := sl_rc (hS.below hB hD) hlt
      have HC := Lib.hid (fun W (hW : Below w.heap.size w W) => HCk.out l[k] (List.getElem_mem hlt) W ((HTo.out l[k] (List.getElem_mem hlt)).below hW hD) (Nat.le_trans hD hW.size))
      generalize l[k] = t at *
      obtain ⟨tA, tc, ⟨tt, tf, ta⟩⟩ := t
      simp only at *
      have y1 := (b1.alloc (.cells #[.slice tA tt.length tc, .int .i64 tf, .int .i64 ta] 43)).cell 0
      have HB := Lib.hid (And.intro (hB.alloc hB.size (.cells #[.slice tA tt.length tc, .int .i64 tf, .int .i64 ta] 43)) (b1.alloc (.cells #[.slice tA tt.length tc, .int .i64 tf, .int .i64 ta] 43)))
      have HC1 := Lib.hid (HC.out _ HB.out.1)
      clear hB b1 hS HC
      go_wp2_with fail
      refine HC1.out.mono ?_
      rintro e w3 ⟨rfl, hb3⟩
      have HR := Lib.hid (And.intro (Blk.on HB.out.2 hb3) (below_on HB.out.1 hb3 (Nat.le_refl _)))
      clear hb3
      go_wp2_with fail
      go_roundw
      case rel => exact ⟨k + 1, by omega, by go_num, HR.out⟩
      case measure => simp [intOf]; omega
    · obtain rfl : k = l.length := by omega
      clear hk hlt y0 hz1
      go_wp2_with fail
      go_loopw [9, 39] (fun v9 v W => ∃ k sz : Nat, k ≤ l.length ∧ v9 = .int .i64 sz ∧ v = .int .i64 k ∧ sz ≤ k * 600 ∧ Blk W w.heap.size 3 #[.int .i64 m] ∧ Below w.heap.size w W) (fun _ v _ => l.length - (intOf v).toNat)
      case atStart => exact ⟨0, 0, Nat.zero_le _, rfl, rfl, Nat.le_refl _, b1, hB⟩
      case round =>
        clear b1 hB
        obtain ⟨k, sz, hk, rfl, rfl, hsz, b1, hB⟩ := hrel
        have y0 : wr.cell? ⟨w.heap.size, 0, none⟩ = some (.int .i64 m) := b1.cell 0
        have hz1 := b1.lt
        by_cases hlt : k < l.length
        · obtain ⟨b, o, rfl, hb, c0, c1, c2⟩ := sl_rc (hS.below hB hD) hlt
          have hfin : l[k].r.fin = 1 ∨ (l[k].r.fin = 2 ∧ k + 1 = l.length) := by
            rcases (HBd.out l[k] (List.getElem_mem hlt)).2.2 with h | ⟨h, _⟩
            · exact .inl h
            · refine .inr ⟨h, ?_⟩
              by_cases hq : k + 1 < l.length
              · have := HLa.out k hq; omega
              · omega
          obtain ⟨hq1, hq2, _⟩ := HBd.out l[k] (List.getElem_mem hlt)
          have hts := (HTo.out l[k] (List.getElem_mem hlt))
          generalize l[k] = t at *
          obtain ⟨tA, tc, ⟨tt, tf, ta⟩⟩ := t
          simp only at *
          have hrb := (Blk.new wr 43 #[.slice tA tt.length tc, .int .i64 tf, .int .i64 ta])
          have hB2 := hB.alloc hB.size (.cells #[.slice tA tt.length tc, .int .i64 tf, .int .i64 ta] 43)
          have b2 := b1.alloc (.cells #[.slice tA tt.length tc, .int .i64 tf, .int .i64 ta] 43)
          have HB := Lib.hid (And.intro hB2 (And.intro b2 hrb))
          clear hB b1 hB2 b2 hrb
          rcases hfin with hf | ⟨hf, hk1⟩
          · subst hf
            go_wp2_with fail
            obtain ⟨hB2, b2, hrb⟩ := HB.out
            clear HB c0 c1 c2 y0
            have hr0 : w.heap.size ≤ wr.heap.size := by omega
            have hr1 : w.heap.size ≠ wr.heap.size := by omega
            generalize wr.alloc (.cells #[.slice tA tt.length tc, .int .i64 1, .int .i64 ta] 43) = W3 at *
            generalize wr.heap.size = R0 at *
            go_loopw [9, 57] (fun v9 v W => ∃ j sz2 : Nat, j ≤ tt.length ∧ v9 = .int .i64 sz2 ∧ v = .int .i64 j ∧ sz2 ≤ k * 600 + j * 26 ∧ Blk W R0 43 #[.slice tA tt.length tc, .int .i64 1, .int .i64 ta] ∧ Blk W w.heap.size 3 #[.int .i64 m] ∧ Below w.heap.size w W) (fun _ v _ => tt.length - (intOf v).toNat)
            case atStart => exact ⟨0, sz, Nat.zero_le _, rfl, rfl, by omega, hrb, b2, hB2⟩
            case round =>
              clear hrb b2 hB2
              obtain ⟨j, sz2, hj, rfl, rfl, hsz2, hrb, b2, hB⟩ := hrel
              by_cases hjt : j < tt.length
              · obtain ⟨b', o', rfl, hb', d0, d1, d2⟩ := sl_tok (hts.below hB hD) hjt
                have hx := hq2 tt[j] (List.getElem_mem hjt)
                have HSz := Lib.hid (fun W => size_any tt[j] W (by omega))
                generalize tt[j] = t at *
                obtain ⟨sy, x, a⟩ := t
                unfold Tok.v at HSz
                simp only at *
                have HB := Lib.hid (And.intro (hB.alloc hB.size (.cells #[.int .i64 sy, .string ⟨x.toArray⟩, .int .i64 a] 41)) (And.intro (hrb.alloc (.cells #[.int .i64 sy, .string ⟨x.toArray⟩, .int .i64 a] 41)) (b2.alloc (.cells #[.int .i64 sy, .string ⟨x.toArray⟩, .int .i64 a] 41))))
                clear hB hrb b2
                go_wp2_with fail
                refine (HSz.out _).mono ?_
                rintro e w3 ⟨rfl, hb3⟩
                have HR := Lib.hid (And.intro (Blk.on HB.out.2.1 hb3) (And.intro (Blk.on HB.out.2.2 hb3) (below_on HB.out.1 hb3 (Nat.le_refl _))))
                clear hb3
                go_wp2_with fail
                go_roundw
                case rel => exact ⟨j + 1, sz2 + (2 + x.length), by omega, by go_num, by go_num, by omega, HR.out⟩
                case measure => simp [intOf]; omega
              · obtain rfl : j = tt.length := by omega
                obtain ⟨x0, x1, x2, f0, f1, f2⟩ := cells3 hrb
                have HR := Lib.hid (And.intro b2 hB)
                clear hrb b2 hB hjt hj
                go_wp2_with fail
                go_roundw
                case rel => exact ⟨k + 1, sz2 + 2, by omega, by go_num, by go_num, by omega, HR.out⟩
                case measure => simp [intOf]; omega
          · subst hf
            have hkz : ¬ (k : Int) < (l.length : Int) - 1 := by omega
            have HK1 := Lib.hid hk1
            clear hk1
            go_wp2_with fail
            obtain ⟨hB2, b2, hrb⟩ := HB.out
            clear HB c0 c1 c2 y0
            have hr0 : w.heap.size ≤ wr.heap.size := by omega
            have hr1 : w.heap.size ≠ wr.heap.size := by omega
            generalize wr.alloc (.cells #[.slice tA tt.length tc, .int .i64 2, .int .i64 ta] 43) = W3 at *
            generalize wr.heap.size = R0 at *
            go_loopw [9, 57] (fun v9 v W => ∃ j sz2 : Nat, j ≤ tt.length ∧ v9 = .int .i64 sz2 ∧ v = .int .i64 j ∧ sz2 ≤ k * 600 + j * 26 ∧ Blk W R0 43 #[.slice tA tt.length tc, .int .i64 2, .int .i64 ta] ∧ Blk W w.heap.size 3 #[.int .i64 m] ∧ Below w.heap.size w W) (fun _ v _ => tt.length - (intOf v).toNat)
            case atStart => exact ⟨0, sz, Nat.zero_le _, rfl, rfl, by omega, hrb, b2, hB2⟩
            case round =>
              clear hrb b2 hB2
              obtain ⟨j, sz2, hj, rfl, rfl, hsz2, hrb, b2, hB⟩ := hrel
              by_cases hjt : j < tt.length
              · obtain ⟨b', o', rfl, hb', d0, d1, d2⟩ := sl_tok (hts.below hB hD) hjt
                have hx := hq2 tt[j] (List.getElem_mem hjt)
                have HSz := Lib.hid (fun W => size_any tt[j] W (by omega))
                generalize tt[j] = t at *
                obtain ⟨sy, x, a⟩ := t
                unfold Tok.v at HSz
                simp only at *
                have HB := Lib.hid (And.intro (hB.alloc hB.size (.cells #[.int .i64 sy, .string ⟨x.toArray⟩, .int .i64 a] 41)) (And.intro (hrb.alloc (.cells #[.int .i64 sy, .string ⟨x.toArray⟩, .int .i64 a] 41)) (b2.alloc (.cells #[.int .i64 sy, .string ⟨x.toArray⟩, .int .i64 a] 41))))
                clear hB hrb b2
                go_wp2_with fail
                refine (HSz.out _).mono ?_
                rintro e w3 ⟨rfl, hb3⟩
                have HR := Lib.hid (And.intro (Blk.on HB.out.2.1 hb3) (And.intro (Blk.on HB.out.2.2 hb3) (below_on HB.out.1 hb3 (Nat.le_refl _))))
                clear hb3
                go_wp2_with fail
                go_roundw
                case rel => exact ⟨j + 1, sz2 + (2 + x.length), by omega, by go_num, by go_num, by omega, HR.out⟩
                case measure => simp [intOf]; omega
              · obtain rfl : j = tt.length := by omega
                obtain ⟨x0, x1, x2, f0, f1, f2⟩ := cells3 hrb
                have HR := Lib.hid (And.intro b2 hB)
                clear hrb b2 hB hjt hj
                go_wp2_with fail
                go_roundw
                case rel => exact ⟨k + 1, sz2, by omega, by go_num, by go_num, by omega, HR.out⟩
                case measure => simp [intOf]; omega
        · obtain rfl : k = l.length := by omega
          have hsz2 : ¬ (20000 : Int) < sz := by omega
          have hsz3 : ¬ 20000 < sz := by omega
          have hG := isB_new wr
          have b2 := b1.alloc (.cells #[.pointer none, .slice none 0 0] 86)
          have hB2 := hB.alloc hB.size (.cells #[.pointer none, .slice none 0 0] 86)
          have HH := Lib.hid (And.intro hG (And.intro b2 hB2))
          have hGw : w.heap.size < wr.heap.size := b1.lt
          clear hG b2 hB2 b1 hB hk hlt y0 hz1
          go_wp2_with fail
          obtain ⟨hG, b2, hB2⟩ := HH.out
          clear HH
          generalize wr.alloc (.cells #[.pointer none, .slice none 0 0] 86) = W2 at *
          generalize hGe : wr.heap.size = G at *
          clear hGe
          go_loopw [76] (fun v W => ∃ k : Nat, k ≤ l.length ∧ v = .int .i64 k ∧ (recsB m (l.take k)).length ≤ k * 600 ∧ Lib.IsBuilderF 86 5 G G (Lib.byteCells (recsB m (l.take k))) W ∧ Blk W w.heap.size 3 #[.int .i64 m] ∧ Below w.heap.size w W) (fun v _ => l.length - (intOf v).toNat)
          case atStart => exact ⟨0, Nat.zero_le _, rfl, by simp [recsB], hG, b2, hB2⟩
          case round =>
            clear hG b2 hB2
            obtain ⟨k, hk, rfl, hlen, hG, b1, hB⟩ := hrel
            by_cases hlt : k < l.length
            · obtain ⟨b, o, rfl, hb, c0, c1, c2⟩ := sl_rc (hS.below hB hD) hlt
              obtain ⟨hq1, hq2, hq3⟩ := HBd.out l[k] (List.getElem_mem hlt)
              have hfin : l[k].r.fin = 1 ∨ l[k].r.fin = 2 := hq3.imp id (·.1)
              have hts := HTo.out l[k] (List.getElem_mem hlt)
              have hsn := recsB_snoc m l k hlt
              unfold recB at hsn
              have HN := Lib.hid hsn
              clear hsn hq3
              generalize hbn : recsB m (l.take (k + 1)) = Bn at *
              generalize hbo : recsB m (l.take k) = bs at *
              generalize l[k] = t at *
              obtain ⟨tA, tc, ⟨tt, tf, ta⟩⟩ := t
              simp only at *
              have HBN := Lib.hid hbn
              clear hbn hbo
              have hGG := isB_lt hG
              have hrb := (Blk.new wr 43 #[.slice tA tt.length tc, .int .i64 tf, .int .i64 ta])
              have hB2 := hB.alloc hB.size (.cells #[.slice tA tt.length tc, .int .i64 tf, .int .i64 ta] 43)
              have b2 := b1.alloc (.cells #[.slice tA tt.length tc, .int .i64 tf, .int .i64 ta] 43)
              have hG2 := Lib.IsBuilderF.alloc hG (.cells #[.slice tA tt.length tc, .int .i64 tf, .int .i64 ta] 43)
              have hz2 : (wr.alloc (.cells #[.slice tA tt.length tc, .int .i64 tf, .int .i64 ta] 43)).heap.size = wr.heap.size + 1 := by simp
              have HM := Lib.hid (mapped_any tA tc D tt m w.heap.size _ (hts.below hB2 hD) (Nat.le_trans hD hB2.size) (by omega) (b2.cell 0) (fun t ht => by have := hq2 t ht; omega))
              have HB := Lib.hid (And.intro hB2 (And.intro b2 (And.intro hrb (And.intro hG2 hz2))))
              have hl26 := flat_26 (m : Int) tt hq2
              have HS := Lib.hid hS
              clear hB b1 hG hB2 b2 hrb hG2 hz2 hts hS
              go_wp2_with fail
              refine HM.out.mono ?_
              rintro e w3 ⟨⟨A2, cap2, rfl, hO⟩, hb3⟩
              obtain ⟨hB2, b2, hrb, hG2, hz2⟩ := HB.out
              rw [hz2] at hO
              have hB3 := below_on hB2 hb3 (Nat.le_refl _)
              have b3 := Blk.on b2 hb3
              have hrb3 := Blk.on hrb hb3
              have hG3 := isB_below hG2 hb3
              have HR := Lib.hid (And.intro hB3 (And.intro b3 (And.intro hrb3 (And.intro hG3 hO))))
              clear hB2 b2 hrb hG2 hb3 hB3 b3 hrb3 hG3 hO HM HB c0 c1 c2 hz2
              go_wp2_with fail
              obtain ⟨hB3, b3, hrb3, hG3, hO3⟩ := HR.out
              clear HR
              generalize hR0e : wr.heap.size = R0 at *
              clear hR0e
              go_loopw [85] (fun v W => ∃ j : Nat, j ≤ tt.length ∧ v = .int .i64 j ∧ Lib.IsBuilderF 86 5 G G (Lib.byteCells (bs ++ ((tt.map (fun t => bytesL t m)).take j).flatten)) W ∧ (bs ++ ((tt.map (fun t => bytesL t m)).take j).flatten).length ≤ k * 600 + j * 26 ∧
                Blk W R0 43 #[.slice tA tt.length tc, .int .i64 tf, .int .i64 ta] ∧ Own W (R0 + 1) 9 1 A2 tt.length cap2 ((tt.map (fun t => bytesL t m)).map strV) ∧ Blk W w.heap.size 3 #[.int .i64 m] ∧ Below w.heap.size w W) (fun v _ => tt.length - (intOf v).toNat)
              case atStart => exact ⟨0, Nat.zero_le _, rfl, by simpa using hG3, by simpa using hlen, hrb3, hO3, b3, hB3⟩
              case round =>
                clear hG3 hrb3 hO3 b3 hB3
                obtain ⟨j, hj, rfl, hG, hlj, hrb, hO, b1, hB⟩ := hrel
                by_cases hjt : j < tt.length
                · obtain ⟨b', o', u, rfl, hb', hu, hc⟩ := hO.sl.at_ hjt
                  have hu' : u = .string ⟨(bytesL tt[j] m).toArray⟩ := by
                    have : ((tt.map (fun t => bytesL t m)).map strV)[j]? = some (strV (bytesL tt[j] m)) := by simp [hjt]
                    rw [this] at hu
                    injection hu with hu
                    exact hu.symm
                  subst hu'
                  have hfs := flat_snoc (m : Int) tt j hjt
                  have hx := bytesL_24 (m := (m : Int)) (hq2 tt[j] (List.getElem_mem hjt))
                  have HN2 := Lib.hid hfs
                  clear hfs hu
                  generalize bytesL tt[j] m = y at *
                  have HW := Lib.hid (write_k G G _ y wr hG (by omega) (Nat.le_of_lt (isB_lt hG)))
                  have HB := Lib.hid (And.intro hrb (And.intro hO (And.intro b1 hB)))
                  clear hG hrb hO b1 hB
                  go_wp2_with fail
                  refine HW.out.mono ?_
                  rintro e w5 ⟨rfl, hG5, hb5, ho5⟩
                  obtain ⟨hrb, hO, b1, hB⟩ := HB.out
                  have HR := Lib.hid (And.intro hG5 (And.intro (hrb.others ho5 (by omega) (by decide)) (And.intro (hO.others ho5 (by omega) (by decide)) (And.intro (b1.below hb5 hGw) (hB.trans (hb5.mono (Nat.le_of_lt hGw)))))))
                  clear hG5 hb5 ho5 hrb hO b1 hB HW HB
                  go_wp2_with fail
                  go_roundw
                  case rel =>
                    refine ⟨j + 1, by omega, by go_num, ?_, ?_, HR.out.2⟩
                    · rw [HN2.out, ← List.append_assoc]; exact HR.out.1
                    · rw [HN2.out, ← List.append_assoc, List.length_append]; omega
                  case measure => simp [intOf]; omega
                · obtain rfl : j = tt.length := by omega
                  rw [List.take_of_length_le (by simp)] at hG hlj
                  obtain ⟨x0, x1, x2, f0, f1, f2⟩ := cells3 hrb
                  have y0 : wr.cell? ⟨w.heap.size, 0, none⟩ = some (.int .i64 m) := b1.cell 0
                  rcases hfin with hf | hf
                  · subst hf
                    obtain ⟨sp, hsp⟩ : ∃ sp, bytesL ⟨m, [], 0⟩ m = sp := ⟨_, rfl⟩
                    obtain ⟨cs, hcs⟩ : ∃ cs, checkE ⟨m, [], 0⟩ m = cs := ⟨_, rfl⟩
                    have hspl : sp.length ≤ 26 := by rw [← hsp]; exact bytesL_24 (by simp)
                    have HSe : ∀ W, Calls Try.prog 32 #[.agg #[.int .i64 m, .string ⟨#[]⟩, .int .i64 0], .int .i64 m] W fun e w' => e = .returned (.tuple #[.string ⟨sp.toArray⟩, .int .i64 cs]) ∧ Below W.heap.size W w' := fun W => by rw [← hsp, ← hcs]; exact Bytes_any ⟨m, [], 0⟩ m W (by simp)
                    have HSe' := Lib.hid HSe
                    have HSp := Lib.hid hsp
                    have HB := Lib.hid (And.intro hG (And.intro b1 hB))
                    clear HSe hsp hcs hG hrb hO b1 hB
                    go_wp2_with fail
                    refine (HSe'.out _).mono ?_
                    rintro e w5 ⟨rfl, hb5⟩
                    obtain ⟨hG, b1, hB⟩ := HB.out
                    have hG5 := isB_below hG hb5
                    have HW := Lib.hid (write_k G G _ sp w5 hG5 (by omega) (Nat.le_of_lt (isB_lt hG5)))
                    have HB2 := Lib.hid (And.intro (Blk.on b1 hb5) (below_on hB hb5 (Nat.le_refl _)))
                    clear hG b1 hB hG5 hb5 HB x0 x1 x2 f0 f1 f2 y0
                    go_wp2_with fail
                    refine HW.out.mono ?_
                    rintro e w6 ⟨rfl, hG6, hb6, _⟩
                    have HR := Lib.hid (And.intro hG6 (And.intro (HB2.out.1.below hb6 hGw) (HB2.out.2.trans (hb6.mono (Nat.le_of_lt hGw)))))
                    clear hG6 hb6 HW HB2
                    go_wp2_with fail
                    go_roundw
                    case rel =>
                      have e := HN.out
                      rw [if_pos trivial, HSp.out, ← List.append_assoc] at e
                      refine ⟨k + 1, by omega, by go_num, ?_, ?_, HR.out.2⟩
                      · rw [HBN.out, e, List.length_append]; omega
                      · rw [HBN.out, e]; exact HR.out.1
                    case measure => simp [intOf]; omega
                  · subst hf
                    have HR := Lib.hid (And.intro hG (And.intro b1 hB))
                    clear hG hrb hO b1 hB
                    go_wp2_with fail
                    go_roundw
                    case rel =>
                      have e := HN.out
                      rw [if_neg (by decide), List.append_nil] at e
                      refine ⟨k + 1, by omega, by go_num, ?_, ?_, HR.out.2⟩
                      · rw [HBN.out, e]; omega
                      · rw [HBN.out, e]; exact HR.out.1
                    case measure => simp [intOf]; omega
            · obtain rfl : k = l.length := by omega
              rw [List.take_length] at hG
              have HSt := Lib.hid (string_k G G (recsB m l) wr hG (Nat.le_of_lt (isB_lt hG)))
              have HB := Lib.hid hB
              clear hG b1 hB hlen hk hlt hS
              go_wp2_with fail
              refine HSt.out.mono ?_
              rintro e w5 ⟨rfl, hb5⟩
              have HR := Lib.hid (HB.out.trans (hb5.mono (Nat.le_of_lt hGw)))
              clear hb5
              go_wp2_with fail
              go_ret2
              exact ⟨rfl, HR.out⟩
end Go.Proofs.Ytdndomjmnlpjgaa
