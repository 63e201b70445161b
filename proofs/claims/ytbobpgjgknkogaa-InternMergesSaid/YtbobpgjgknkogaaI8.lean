/- intern: Intern, Add, Find, Name. No condition. -/
import Derived.Test.YtbobpgjgknkogaaI7
namespace Go.Proofs.Ytbobpgjgknkogaa
open Go.RowKit Go.Maps
theorem results_ctt {P : Program} {fn : Func} {p u v : Tmp} {tp : TypeId} (h : fn.results = #[.cell p tp, .tmp u, .tmp v]) (tmps : Array Value) (w : World) (g : Nat) (t : TypeId) (cs : Array Value) (d : TypeDesc)
    (hp : tmps.getD p undef = .pointer (some ⟨g, 0, none⟩)) (hg : Blk w g t cs)
    (hu : P.underlying tp = some d) (hd : (match d with | .struct _ | .array _ _ => true | _ => false) = true) (hi : (P.info? tp).map (·.size) = some cs.size) :
    (results fn tmps).run P w = .ok (.tuple #[.agg cs, tmps.getD u undef, tmps.getD v undef]) w := by
  obtain ⟨fr, hg, _⟩ := hg
  have hp' : tmps[p]?.getD undef = .pointer (some ⟨g, 0, none⟩) := by simpa using hp
  simp [results, h, hp', asAddr, run_loadVar_row w g t tp cs fr d hg hu hd hi]
theorem two (w : World) (v : Value) : Blk ((w.alloc (.cells #[v] 24)).alloc (.cells #[.slice none 0 0] 24)) w.heap.size 24 #[v] ∧
    Blk ((w.alloc (.cells #[v] 24)).alloc (.cells #[.slice none 0 0] 24)) (w.heap.size + 1) 24 #[.slice none 0 0] ∧
    Below w.heap.size w ((w.alloc (.cells #[v] 24)).alloc (.cells #[.slice none 0 0] 24)) :=
  ⟨(Blk.new w _ _).alloc _, Blk.newAt _ _ _ (by simp), ((Below.refl w.heap.size w).alloc (Nat.le_refl _) _).alloc (by simp) _⟩
/-- A store into a block that holds no string keeps a slice of strings. -/
theorem Sl.farT {w : World} {D n cap g : Nat} {A : Option Addr} {l : List (List UInt8)} {T : TypeId} {cs : Array Value} (h : Sl w D 1 A n cap (l.map strV)) (hb : Blk w g T cs) (hc : ∀ (i : Nat) (b : ByteArray), cs[i]? ≠ some (.string b)) (i : Nat) (u : Value) : Sl (w.setCell ⟨g, i, none⟩ u) D 1 A n cap (l.map strV) := by
  refine ⟨h.1, h.2.1, h.2.2.1, fun hn => ?_⟩
  obtain ⟨b, o, rfl, hbD, hcell⟩ := h.2.2.2 hn
  have hne : b ≠ g := by
    rintro rfl
    have hl := h.1
    obtain ⟨x, hx⟩ : ∃ x, (l.map strV)[0]? = some x := ⟨(l.map strV)[0]'(by rw [hl]; omega), List.getElem?_eq_getElem _⟩
    have h0 := hcell 0 x hx
    rw [hb.cell] at h0
    obtain ⟨y, _, rfl⟩ := List.mem_map.1 (List.mem_of_getElem? hx)
    exact hc _ _ h0
  refine ⟨b, o, rfl, hbD, fun j v hv => ?_⟩
  rw [← hcell j v hv]
  unfold World.cell?
  rw [Below.heap_setCell w ⟨g, i, none⟩ u b hne]
set_option maxRecDepth 100000 in
set_option maxHeartbeats 1600000 in
theorem Intern_any (A : Option Addr) (cap D : Nat) (l : List (List UInt8)) (s : List UInt8) (w : World) (hS : Sl w D 1 A l.length cap (l.map strV)) (hD : D ≤ w.heap.size) (hn : l.length ≤ 1000) (hl : ∀ s ∈ l, s.length ≤ maxLen) (hs : s.length ≤ maxLen) :
    Calls Try.prog 17 #[.agg #[.slice A l.length cap], .string ⟨s.toArray⟩] w fun e w' => tabPost (internR l s false) e w' ∧ Below w.heap.size w w' := by
  obtain ⟨b0, b1, hB0⟩ := two w (.slice A l.length cap)
  have HC := Lib.hid (interned_any A cap D l s false _ (hS.below hB0 hD) (Nat.le_trans hD hB0.size) hn hl hs)
  generalize internR l s false = R at *
  have HB := Lib.hid (And.intro b1 hB0)
  unfold tabPost at *
  clear hS hl b0 b1 hB0
  go_enter Try.func17, Try.ntmps17
  go_wp2_with fail
  refine HC.out.mono ?_
  rintro e w1 ⟨⟨A2, c2, rfl, s2⟩, hb1⟩
  have b1 := Blk.on HB.out.1 hb1
  have hB1 := below_on HB.out.2 hb1 (Nat.le_refl _)
  obtain ⟨q1, f1⟩ := cells1 b1
  have HS := Lib.hid s2
  go_wp2_with fail
  refine bodyPost_ret (results_ctt rfl _ _ _ _ _ _ rfl (b1.set 0 (.slice A2 R.1.length c2)) Try.underlying24 rfl (by kernel_rfl)) rfl ⟨⟨A2, c2, rfl, ?_⟩, hB1.setCell (p := ⟨w.heap.size + 1, 0, none⟩) (by show w.heap.size ≤ w.heap.size + 1; omega) _⟩
  have h := HS.out.farT b1 (fun i b e => by cases i <;> simp at e) 0 (.slice A2 R.1.length c2)
  rw [World.size_setCell]
  exact h
set_option maxRecDepth 100000 in
set_option maxHeartbeats 1600000 in
theorem Add_any (A : Option Addr) (cap D : Nat) (l : List (List UInt8)) (s : List UInt8) (w : World) (hS : Sl w D 1 A l.length cap (l.map strV)) (hD : D ≤ w.heap.size) (hn : l.length ≤ 1000) (hl : ∀ s ∈ l, s.length ≤ maxLen) (hs : s.length ≤ maxLen) :
    Calls Try.prog 19 #[.agg #[.slice A l.length cap], .string ⟨s.toArray⟩] w fun e w' => tabPost (internR l s true) e w' ∧ Below w.heap.size w w' := by
  obtain ⟨b0, b1, hB0⟩ := two w (.slice A l.length cap)
  have HC := Lib.hid (interned_any A cap D l s true _ (hS.below hB0 hD) (Nat.le_trans hD hB0.size) hn hl hs)
  generalize internR l s true = R at *
  have HB := Lib.hid (And.intro b1 hB0)
  unfold tabPost at *
  clear hS hl b0 b1 hB0
  go_enter Try.func19, Try.ntmps19
  go_wp2_with fail
  refine HC.out.mono ?_
  rintro e w1 ⟨⟨A2, c2, rfl, s2⟩, hb1⟩
  have b1 := Blk.on HB.out.1 hb1
  have hB1 := below_on HB.out.2 hb1 (Nat.le_refl _)
  obtain ⟨q1, f1⟩ := cells1 b1
  have HS := Lib.hid s2
  go_wp2_with fail
  refine bodyPost_ret (results_ctt rfl _ _ _ _ _ _ rfl (b1.set 0 (.slice A2 R.1.length c2)) Try.underlying24 rfl (by kernel_rfl)) rfl ⟨⟨A2, c2, rfl, ?_⟩, hB1.setCell (p := ⟨w.heap.size + 1, 0, none⟩) (by show w.heap.size ≤ w.heap.size + 1; omega) _⟩
  have h := HS.out.farT b1 (fun i b e => by cases i <;> simp at e) 0 (.slice A2 R.1.length c2)
  rw [World.size_setCell]
  exact h
end Go.Proofs.Ytbobpgjgknkogaa
