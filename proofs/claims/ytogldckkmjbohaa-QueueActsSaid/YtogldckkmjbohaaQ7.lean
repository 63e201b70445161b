/- queue: the closure of PutAll. No condition. -/
import Derived.Test.YtogldckkmjbohaaQ6
namespace Go.Proofs.Ytogldckkmjbohaa
open Go.RowKit
theorem cells1 {w : World} {g : Nat} {T : TypeId} {a : Value} (h : Blk w g T #[a]) : w.cell? ⟨g, 0, none⟩ = some a ∧ w.frozen? ⟨g, 0, none⟩ = false := ⟨h.cell 0, h.frozen (by simp)⟩
theorem grown_cell {X W : World} {g : Nat} (h : X.grownBy W (some g)) {p : Addr} (hlt : p.block < X.heap.size) (hne : p.block ≠ g) : W.cell? p = X.cell? p := by
  unfold World.cell?
  rw [h.block _ hlt (by simpa using hne)]
theorem Gb2 {B g : Nat} {w X w' : World} {g2 : Nat} {T : TypeId} {cs : Array Value} (h : Blk w g2 T cs) (hb : Below B w X) (hg : X.grownBy w' (some g)) (h2 : g2 < B) (hne : g2 ≠ g) : Blk w' g2 T cs :=
  (h.below hb h2).grown hg (by simpa using hne)
set_option maxRecDepth 100000 in
set_option maxHeartbeats 3200000 in
theorem next_any (q : Int) (g B bn bm bw n cap cm : Nat) (A Am : Option Addr) (l more : List Ev) (w : World) (hN : Blk w bn 3 #[.int .i64 n]) (hM : Blk w bm 22 #[.slice Am more.length cm]) (hW : Blk w bw 53 #[.pointer (some ⟨g, 0, none⟩)])
    (hb : Blk w g 57 #[.int .i64 q, .slice A l.length cap]) (hq : QL w B A l.length cap (evC l)) (hS : Sl w g 7 Am more.length cm (evC more)) (h1 : 1 ≤ q) (h2 : q ≤ 100) (hn : l.length ≤ 1000)
    (hgB : g < B) (hnB : bn < B) (hmB : bm < B) (hwB : bw < B) (hng : bn ≠ g) (hmg : bm ≠ g) (hwg : bw ≠ g) (hBw : B ≤ w.heap.size) :
    Calls Try.prog 32 #[.pointer (some ⟨bn, 0, none⟩), .pointer (some ⟨bm, 0, none⟩), .pointer (some ⟨bw, 0, none⟩)] w fun e w' =>
      ((more.length ≤ n ∨ q - l.length ≤ 0) ∧ e = .returned (.bool false) ∧ Below w.heap.size w w') ∨
      (∃ (hlt : n < more.length), 0 < q - l.length ∧ e = .returned (.bool true) ∧ ∃ A2 cap2 X, Blk w' g 57 #[.int .i64 q, .slice A2 (l.length + 1) cap2] ∧ Own w' B 34 7 A2 (l.length + 1) cap2 (evC (l ++ [more[n]])) ∧ Below B w X ∧ X.grownBy w' (some g)) := by
  obtain ⟨n0, _⟩ := cells1 hN
  obtain ⟨m0, _⟩ := cells1 hM
  obtain ⟨w0, _⟩ := cells1 hW
  by_cases hlt : n < more.length
  · have hltz : (n : Int) < more.length := by omega
    obtain ⟨b, o, rfl, hbB, e0, e1, e2, e3, e4, e5, e6⟩ := sl_ev hS hlt
    have hkeep : ∀ W' : World, (∀ p : Addr, p.block < B → p.block ≠ g → W'.cell? p = w.cell? p) → W'.cell? ⟨bn, 0, none⟩ = some (.int .i64 n) ∧ W'.cell? ⟨bm, 0, none⟩ = some (.slice (some ⟨b, o, none⟩) more.length cm) ∧ W'.cell? ⟨bw, 0, none⟩ = some (.pointer (some ⟨g, 0, none⟩)) ∧ W'.cell? ⟨b, o + n * 7, none⟩ = some (.int .i64 more[n].kind) ∧ W'.cell? ⟨b, o + n * 7 + 1, none⟩ = some (.int .i64 more[n].sym) ∧ W'.cell? ⟨b, o + n * 7 + 2, none⟩ = some (.int .i64 more[n].prod) ∧ W'.cell? ⟨b, o + n * 7 + 3, none⟩ = some (.int .i64 more[n].rec_) ∧ W'.cell? ⟨b, o + n * 7 + 4, none⟩ = some (.int .i64 more[n].at_) ∧ W'.cell? ⟨b, o + n * 7 + 5, none⟩ = some (.string ⟨more[n].text.toArray⟩) ∧ W'.cell? ⟨b, o + n * 7 + 6, none⟩ = some (.int .i64 more[n].err) := fun W' h =>
      ⟨(h _ hnB hng).trans n0, (h _ hmB hmg).trans m0, (h _ hwB hwg).trans w0, (h ⟨b, _, none⟩ (by show b < B; omega) (by show b ≠ g; omega)).trans e0, (h ⟨b, _, none⟩ (by show b < B; omega) (by show b ≠ g; omega)).trans e1, (h ⟨b, _, none⟩ (by show b < B; omega) (by show b ≠ g; omega)).trans e2, (h ⟨b, _, none⟩ (by show b < B; omega) (by show b ≠ g; omega)).trans e3, (h ⟨b, _, none⟩ (by show b < B; omega) (by show b ≠ g; omega)).trans e4, (h ⟨b, _, none⟩ (by show b < B; omega) (by show b ≠ g; omega)).trans e5, (h ⟨b, _, none⟩ (by show b < B; omega) (by show b ≠ g; omega)).trans e6⟩
    have HKe := Lib.hid hkeep
    clear hkeep
    by_cases hr : q - (l.length : Int) ≤ 0
    · have HP := Lib.hid (fun W (hd : Below w.heap.size w W) => (put_any q g B cap A l more[n] W (Blk.on hb hd) h1 h2 hn (hq.below hd) hgB (Nat.le_trans hBw hd.size)).mono fun e w' h => (show e = .returned (.bool false) ∧ Below w.heap.size w w' from h.elim (fun h => ⟨h.2.1, hd.trans (h.2.2.mono hd.size)⟩) (fun h => by have := h.1; omega)))
      generalize more[n] = t at *
      obtain ⟨kk, sy, pr, rc, a, x, er⟩ := t
      unfold Ev.v at HP
      unfold Ev.cs at HP
      simp only at *
      clear hN hM hW hb hq hS
      have hd0 := (Below.refl w.heap.size w).drew
      go_enter Try.func32, Try.ntmps32
      go_wp2_with fail
      go_region_held3 (fun W => W.cell? ⟨bn, 0, none⟩ = some (.int .i64 n) ∧ W.cell? ⟨bm, 0, none⟩ = some (.slice (some ⟨b, o, none⟩) more.length cm) ∧ W.cell? ⟨bw, 0, none⟩ = some (.pointer (some ⟨g, 0, none⟩)) ∧ W.cell? ⟨b, o + n * 7, none⟩ = some (.int .i64 kk) ∧ W.cell? ⟨b, o + n * 7 + 1, none⟩ = some (.int .i64 sy) ∧ W.cell? ⟨b, o + n * 7 + 2, none⟩ = some (.int .i64 pr) ∧ W.cell? ⟨b, o + n * 7 + 3, none⟩ = some (.int .i64 rc) ∧ W.cell? ⟨b, o + n * 7 + 4, none⟩ = some (.int .i64 a) ∧ W.cell? ⟨b, o + n * 7 + 5, none⟩ = some (.string ⟨x.toArray⟩) ∧ W.cell? ⟨b, o + n * 7 + 6, none⟩ = some (.int .i64 er))
      (first
        | exact ⟨n0, m0, w0, e0, e1, e2, e3, e4, e5, e6⟩
        | exact hk3)
      (first
        | (go_at_call 33; refine (HP.out _ hd0).mono ?_; rintro r w3 ⟨rfl, hb3⟩; have hk3 := HKe.out w3 (fun p hp _ => hb3.cell (Nat.lt_of_lt_of_le hp hBw))))
      go_wp2_with fail
      go_ret
      exact .inl ⟨.inr hr, rfl, hb3⟩
    · have HP := Lib.hid (fun W (hd : Below w.heap.size w W) => (put_any q g B cap A l more[n] W (Blk.on hb hd) h1 h2 hn (hq.below hd) hgB (Nat.le_trans hBw hd.size)).mono fun e w' h => (show e = .returned (.bool true) ∧ ∃ A2 cap2 X, Blk w' g 57 #[.int .i64 q, .slice A2 (l.length + 1) cap2] ∧ Own w' B 34 7 A2 (l.length + 1) cap2 (evC (l ++ [more[n]])) ∧ Below B w X ∧ X.grownBy w' (some g) from
        h.elim (fun h => absurd h.1 hr) (fun ⟨_, h2, A2, cap2, X, h3, h4, h5, h6⟩ => ⟨h2, A2, cap2, X, h3, h4, (hd.mono hBw).trans h5, h6⟩)))
      generalize hte : more[n] = t at *
      have HTE := Lib.hid hte
      clear hte
      obtain ⟨kk, sy, pr, rc, a, x, er⟩ := t
      unfold Ev.v at HP
      unfold Ev.cs at HP
      simp only at *
      clear hN hM hW hb hq hS
      have hd0 := (Below.refl w.heap.size w).drew
      go_enter Try.func32, Try.ntmps32
      go_wp2_with fail
      go_region_held3 (fun W => W.cell? ⟨bn, 0, none⟩ = some (.int .i64 n) ∧ W.cell? ⟨bm, 0, none⟩ = some (.slice (some ⟨b, o, none⟩) more.length cm) ∧ W.cell? ⟨bw, 0, none⟩ = some (.pointer (some ⟨g, 0, none⟩)) ∧ W.cell? ⟨b, o + n * 7, none⟩ = some (.int .i64 kk) ∧ W.cell? ⟨b, o + n * 7 + 1, none⟩ = some (.int .i64 sy) ∧ W.cell? ⟨b, o + n * 7 + 2, none⟩ = some (.int .i64 pr) ∧ W.cell? ⟨b, o + n * 7 + 3, none⟩ = some (.int .i64 rc) ∧ W.cell? ⟨b, o + n * 7 + 4, none⟩ = some (.int .i64 a) ∧ W.cell? ⟨b, o + n * 7 + 5, none⟩ = some (.string ⟨x.toArray⟩) ∧ W.cell? ⟨b, o + n * 7 + 6, none⟩ = some (.int .i64 er))
      (first
        | exact ⟨n0, m0, w0, e0, e1, e2, e3, e4, e5, e6⟩
        | exact hk3)
      (first
        | (go_at_call 33; refine (HP.out _ hd0).mono ?_; rintro r w3 ⟨rfl, A2, cap2, X, hw3, ho3, hx3, hg3⟩; have hk3 := HKe.out w3 (fun p hp hne => (grown_cell hg3 (Nat.lt_of_lt_of_le hp (Nat.le_trans hBw hx3.size)) hne).trans (hx3.cell hp))))
      go_wp2_with fail
      go_ret
      exact .inr ⟨hlt, by omega, rfl, A2, cap2, X, hw3, by rw [HTE.out]; exact ho3, hx3, hg3⟩
  · have hltz : ¬ (n : Int) < more.length := by omega
    go_enter Try.func32, Try.ntmps32
    go_wp2_with fail
    go_quiet (fail)
    go_wp2_with fail
    go_ret
    exact .inl ⟨.inl (by omega), rfl, (Below.refl _ _).trans ⟨rfl, rfl, rfl, Nat.le_refl _, fun _ _ => rfl⟩⟩
end Go.Proofs.Ytogldckkmjbohaa
