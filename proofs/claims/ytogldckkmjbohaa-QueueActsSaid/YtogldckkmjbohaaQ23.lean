/- The reference's queue: PutAll, Put, Take. No condition. -/
import Derived.Test.YtogldckkmjbohaaQ22
namespace Go.Proofs.Ytogldckkmjbohaa
open Go.RowKit
section
variable {P : Program} (w : World)
/-- append onto a new slice without cells. -/
theorem step_append_bare {ops : Array Oper} {o : Oper} {a : Act} {K : Act → World → Prop} {Q : Exit → Act → World → Prop} {E : Prop} (hgd : o.guard = none) (s x : Operand) (t : TypeId)
    (ho : o.op = .call { callee := .builtin .append, args := #[s, x], argTypes := #[t, t] })
    (B : Nat) (e : TypeId) (i : TypeInfo) (z : Value) (size bytes : Nat) (ht : P.underlying t = some (.slice e)) (hi : P.info? e = some i) (hz : i.zero = some z)
    (hsize : i.size = size) (hby : i.bytes = bytes) (hzs : z.cells.size = size) (hsz : 0 < size)
    {A : Option Addr} (hs : a.eval s = .slice A 0 0)
    {D : Nat} {A' : Option Addr} {m c : Nat} {news : List Value} (hx : a.eval x = .slice A' m c) (hr : Sl w D size A' m c news) (h1 : ∀ u ∈ news, u.oneCell' = true)
    (h63 : m ≤ maxLen) (hbytes : m * bytes ≤ 140737488355328) (hbase : B ≤ w.heap.size)
    (h : ∀ A2 cap2 w', Own w' B e size A2 m cap2 news → w.grownBy w' none → Below B w w' → K (a.put o.dst (.slice A2 m cap2)) w') :
    if Region.wanted o (yielded ops a.tmps) = true then Oper.wp P o a w K Q else E := by
  have hO : Own w B e size A 0 0 [] := Own.bare _ _ _ _ _
  refine step_append_o w hgd s x t ho B e i z size bytes ht hi hz hsize hby hzs hsz hs hO hx hr h1 (by rw [Nat.zero_add]; exact h63) (by rw [Nat.zero_add]; exact hbytes) hbase ?_
  intro A2 cap2 w' h2 h3 h4
  rw [Nat.zero_add, List.nil_append] at h2
  rw [Nat.zero_add]
  exact h A2 cap2 w' h2 h3 (grown_below (Below.refl B w) hO h3 hbase)
end
set_option maxRecDepth 100000 in
set_option maxHeartbeats 3200000 in
theorem rqPutAll_any (q : Int) (A Am : Option Addr) (cap cm D : Nat) (l more : List Ev) (w : World) (hS : Sl w D 7 A l.length cap (evC l)) (hM : Sl w D 7 Am more.length cm (evC more)) (hD : D ≤ w.heap.size) (hn : l.length ≤ 100) (hm : more.length ≤ 100) (hl : ∀ t ∈ l, t.text.length ≤ maxLen) (hl2 : ∀ t ∈ more, t.text.length ≤ maxLen) :
    Calls Try.prog 13 #[.int .i64 q, .slice A l.length cap, .slice Am more.length cm] w fun e w' => (∃ A2 c2, e = .returned (.tuple #[.slice A2 (putR q l more).1.length c2, .int .i64 (putR q l more).2.1, .int .i64 (putR q l more).2.2]) ∧
      Sl w' w'.heap.size 7 A2 (putR q l more).1.length c2 (evC (putR q l more).1)) ∧ Below w.heap.size w w' := by
  obtain ⟨i0, hi0, hz0, hz1, hz2⟩ := info_parts infoE
  have hR : putR q l more = if putE q l more = 0 then (l ++ more.take (putN q l more), putN q l more, 0) else ([], 0, putE q l more) := rfl
  have hE : putE q l more = if chkQ q l = 0 then rightE more else chkQ q l := rfl
  have hok : chkQ q l = 0 → _ := fun h => chkQ_ok h
  have hPN : putN q l more = min more.length (q - l.length).toNat := rfl
  have HC := Lib.hid (rqCheck_any q A cap D l w hS hD (by omega) hl)
  have HRi := Lib.hid (fun W hS hD => rright_any Am cm D more W hS hD (by omega) hl2)
  have HS := Lib.hid (And.intro hS hM)
  generalize putR q l more = R at *
  generalize putE q l more = E at *
  generalize putN q l more = N at *
  generalize chkQ q l = c at *
  generalize rightE more = r at *
  have hone1 := evC_one l
  have hone2 := evC_one (more.take N)
  have hmc := hM.2.1
  have hm1 : l.length ≤ maxLen := by simp only [maxLen]; omega
  have hm2 : l.length * 64 ≤ 140737488355328 := by omega
  clear hS hM hl hl2
  by_cases hc : c = 0
  · rw [if_pos hc] at hE
    obtain ⟨h1, h2, h3, _⟩ := hok hc
    subst hc
    clear hok
    by_cases hr : r = 0
    · subst hr
      rw [if_pos hE] at hR
      have hNm : N ≤ more.length := by omega
      have htl : (more.take N).length = N := by rw [List.length_take]; omega
      obtain ⟨R1, R2, R3⟩ := R
      injection hR with e1 e2
      injection e2 with e2 e3
      have e2' := e2.symm
      have e3' := e3.symm
      clear e2 e3
      subst e2' e3'
      have hRl : R1.length = l.length + N := by rw [e1, List.length_append, htl]
      have HR := Lib.hid (And.intro e1 hRl)
      clear e1 hRl
      simp only
      have hcase : (N = more.length ∧ (more.length : Int) ≤ q - l.length) ∨ (q - l.length = (N : Int) ∧ (N : Int) < more.length) := by omega
      have hm3 : l.length + N ≤ maxLen := by simp only [maxLen]; omega
      have hm4 : (l.length + N) * 64 ≤ 140737488355328 := by omega
      clear hPN
      rcases hcase with ⟨hNe, hle⟩ | ⟨hNe, hlt⟩
      case' inl =>
        have hNz : (more.length : Int) = N := by omega
        have hle' : (N : Int) ≤ q - l.length := by omega
        clear hNe hle
      all_goals
        go_enter Try.func13, Try.ntmps13
        go_wp2_with fail
        refine HC.out.mono ?_
        rintro e w1 ⟨rfl, hb1⟩
        have HR1 := Lib.hid (HRi.out w1 (HS.out.2.below hb1 hD) (Nat.le_trans hD hb1.size))
        go_wp2_with fail
        refine HR1.out.mono ?_
        rintro e w2 ⟨rfl, hb2⟩
        have hB2 := below_on hb1 hb2 (Nat.le_refl _)
        have hD2 : D ≤ w2.heap.size := Nat.le_trans hD hB2.size
        have s1 := HS.out.1.below hB2 hD
        have s2 := (HS.out.2.below hB2 hD).take hNm
        rw [evC_take] at s2
        have HB2 := Lib.hid hB2
        have hcz : (N : Int) ≤ cm := by omega
        clear hb1 hb2 hB2 HC HRi HR1
        go_wp2_with fail
        have hy0 := (Below.refl w2.heap.size w2).drew
        have hy3 := ((Below.refl w2.heap.size w2).alloc (Nat.le_refl _) (.cells #[] 34)).drew
        have s13 := s1.below hy3 hD2
        go_region_held3 (fun W => Below w2.heap.size w2 W)
          (first
            | exact hy7
            | exact hy4
            | exact hy3
            | exact hy0)
          (first
            | (have ou := o4; refine step_append_o _ (by rfl) (.tmp 30) (.tmp 33) 22 (by rfl) w2.heap.size 34 i0 _ 7 64 Try.underlying22 hi0 hz0 hz1 hz2 rfl (by decide) (by rfl) ou (by rfl) s24 hone2 hm3 hm4 hy4.size ?_; intro A7 c7 w7 o7 hg7 hat7; have hy7 := grown_below hy4 o4 hg7 hy4.size; clear o4)
            | (refine step_append_bare _ (by rfl) (.tmp 28) (.tmp 29) 22 (by rfl) w2.heap.size 34 i0 _ 7 64 Try.underlying22 hi0 hz0 hz1 hz2 rfl (by decide) (by rfl) (by rfl) s13 hone1 hm1 hm2 hy3.size ?_; intro A4 c4 w4 o4 hg4 hb4; have hy4 := hy3.trans hb4; have s24 := s2.below hy4 hD2))
        have HY := Lib.hid (And.intro o7.sl hy7)
        clear o7 hy7 hg7 hat7 hy4 hy3 hy0 s24 s13 s1 s2 hg4 hb4
        go_wp2_with fail
        go_ret3
        refine ⟨⟨A7, c7, ?_, ?_⟩, below_on HB2.out HY.out.2 (Nat.le_refl _)⟩
        · rw [HR.out.2]; rfl
        · rw [HR.out.2, HR.out.1, evC_append]; exact HY.out.1
    · have hEr : E ≠ 0 := by rw [hE]; exact hr
      rw [if_neg hEr] at hR
      subst hR
      have hrb : (r != 0) = true := bne_iff_ne.2 hr
      subst hE
      go_enter Try.func13, Try.ntmps13
      go_wp2_with fail
      refine HC.out.mono ?_
      rintro e w1 ⟨rfl, hb1⟩
      have HR1 := Lib.hid (HRi.out w1 (HS.out.2.below hb1 hD) (Nat.le_trans hD hb1.size))
      go_wp2_with fail
      refine HR1.out.mono ?_
      rintro e w2 ⟨rfl, hb2⟩
      have HB2 := Lib.hid (below_on hb1 hb2 (Nat.le_refl _))
      clear hb1 hb2
      go_wp2_with fail
      go_ret3
      exact ⟨⟨none, 0, rfl, Sl.nil _ _ _⟩, HB2.out⟩
  · rw [if_neg hc] at hE
    rw [hE, if_neg hc] at hR
    subst hR
    clear hE hok
    have hcb : (c != 0) = true := bne_iff_ne.2 hc
    have hcb2 : (c == 0) = false := by simpa using hc
    clear hc
    go_enter Try.func13, Try.ntmps13
    go_wp2_with fail
    refine HC.out.mono ?_
    rintro e w1 ⟨rfl, hb1⟩
    have HB1 := Lib.hid hb1
    clear hb1
    go_wp2_with fail
    go_ret3
    exact ⟨⟨none, 0, rfl, Sl.nil _ _ _⟩, HB1.out⟩
end Go.Proofs.Ytogldckkmjbohaa
