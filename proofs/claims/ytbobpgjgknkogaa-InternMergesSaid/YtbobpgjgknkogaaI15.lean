/- intern.Of. No condition. -/
import Derived.Test.YtbobpgjgknkogaaI14
namespace Go.Proofs.Ytbobpgjgknkogaa
open Go.RowKit Go.Maps
theorem results_ct {P : Program} {fn : Func} {p u : Tmp} {tp : TypeId} (h : fn.results = #[.cell p tp, .tmp u]) (tmps : Array Value) (w : World) (g : Nat) (t : TypeId) (cs : Array Value) (d : TypeDesc)
    (hp : tmps.getD p undef = .pointer (some ⟨g, 0, none⟩)) (hg : Blk w g t cs)
    (hu : P.underlying tp = some d) (hd : (match d with | .struct _ | .array _ _ => true | _ => false) = true) (hi : (P.info? tp).map (·.size) = some cs.size) :
    (results fn tmps).run P w = .ok (.tuple #[.agg cs, tmps.getD u undef]) w := by
  obtain ⟨fr, hg, _⟩ := hg
  have hp' : tmps[p]?.getD undef = .pointer (some ⟨g, 0, none⟩) := by simpa using hp
  simp [results, h, hp', asAddr, run_loadVar_row w g t tp cs fr d hg hu hd hi]
def ofR (l : List (List UInt8)) : List (List UInt8) × Int := if (chkT l).1 ≠ 0 then ([], (chkT l).1) else (l, 0)
def tab2Post (R : List (List UInt8) × Int) (e : Ending) (w' : World) : Prop :=
  ∃ A2 c2, e = .returned (.tuple #[.agg #[.slice A2 R.1.length c2], .int .i64 R.2]) ∧ Sl w' w'.heap.size 1 A2 R.1.length c2 (R.1.map strV)
set_option maxRecDepth 100000 in
set_option maxHeartbeats 3200000 in
theorem Of_any (A : Option Addr) (cap D : Nat) (l : List (List UInt8)) (w : World) (hS : Sl w D 1 A l.length cap (l.map strV)) (hD : D ≤ w.heap.size) (hn : l.length ≤ 1000) (hl : ∀ s ∈ l, s.length ≤ maxLen) :
    Calls Try.prog 14 #[.slice A l.length cap] w fun e w' => tab2Post (ofR l) e w' ∧ Below w.heap.size w w' := by
  have hB0 := (Below.refl w.heap.size w).alloc (Nat.le_refl _) (.cells #[.slice none 0 0] 24)
  have b0 := Blk.new w 24 #[.slice none 0 0]
  have HB := Lib.hid (begun_any A cap D l _ (hS.below hB0 hD) (Nat.le_trans hD hB0.size) hn hl)
  have hR : ofR l = if (chkT l).1 ≠ 0 then ([], (chkT l).1) else (l, 0) := rfl
  generalize ofR l = R at *
  generalize hc0 : (chkT l).1 = c0 at *
  have HB0 := Lib.hid (And.intro b0 hB0)
  clear hS hl hB0 b0
  by_cases hc : c0 = 0
  · rw [if_neg (by simpa using hc)] at hR
    subst hc
    subst hR
    go_enter Try.func14, Try.ntmps14
    go_wp2_with fail
    refine HB.out.mono ?_
    rintro e w1 ⟨⟨hbad, _⟩ | ⟨hg, g, bm, A2, c2, rfl, hWK⟩, hb1⟩
    · exact absurd rfl hbad
    have b1 := Blk.on HB0.out.1 hb1
    have hB1 := below_on HB0.out.2 hb1 (Nat.le_refl _)
    obtain ⟨q0, f0⟩ := cells1 b1
    obtain ⟨p0, p1, p2, _⟩ := cells3 hWK.1
    have HS := Lib.hid (hWK.2.2.1.sl.farT b1 (fun i b e => by cases i <;> simp at e) 0 (.slice A2 l.length c2))
    go_wp2_with fail
    refine bodyPost_ret (results_ct rfl _ _ _ _ _ _ rfl (b1.set 0 (.slice A2 l.length c2)) Try.underlying24 rfl (by kernel_rfl)) rfl ⟨⟨A2, c2, rfl, ?_⟩, hB1.setCell (p := ⟨w.heap.size, 0, none⟩) (Nat.le_refl _) _⟩
    rw [World.size_setCell]
    exact HS.out
  · rw [if_pos hc] at hR
    subst hR
    have hcb : (c0 != 0) = true := bne_iff_ne.2 hc
    go_enter Try.func14, Try.ntmps14
    go_wp2_with fail
    refine HB.out.mono ?_
    rintro e w1 ⟨⟨_, rfl⟩ | ⟨hg, _⟩, hb1⟩
    · have b1 := Blk.on HB0.out.1 hb1
      have hB1 := below_on HB0.out.2 hb1 (Nat.le_refl _)
      obtain ⟨q0, f0⟩ := cells1 b1
      go_wp2_with fail
      exact bodyPost_ret (results_ct rfl _ _ _ _ _ _ rfl (b1.set 0 (.slice none 0 0)) Try.underlying24 rfl (by kernel_rfl)) rfl ⟨⟨none, 0, rfl, Sl.nil _ _ _⟩, hB1.setCell (p := ⟨w.heap.size, 0, none⟩) (Nat.le_refl _) _⟩
    · exact absurd (hc0.symm.trans ((chk_good l).1.2 hg)) hc
end Go.Proofs.Ytbobpgjgknkogaa
