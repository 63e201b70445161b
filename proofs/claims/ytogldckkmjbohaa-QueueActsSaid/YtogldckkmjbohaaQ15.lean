/- The law's events; plain laws of putting and taking right events. No condition. -/
import Derived.Test.YtogldckkmjbohaaQ14
namespace Go.Proofs.Ytogldckkmjbohaa
open Go.RowKit
def evs (ls : List Int) : List Ev := (ls.take 40).map (fun n => evOf (n % 1048576))
theorem evs_len (ls : List Int) : (evs ls).length = min 40 ls.length := by simp [evs]
theorem evs_right (ls : List Int) : ∀ t ∈ evs ls, evE t = 0 := by
  intro t ht
  obtain ⟨n, _, rfl⟩ := List.mem_map.1 ht
  exact evE_of _ (Int.emod_nonneg _ (by decide)) (Int.emod_lt_of_pos _ (by decide))
theorem evs_text (ls : List Int) : ∀ t ∈ evs ls, t.text = [] := by
  intro t ht
  obtain ⟨n, _, rfl⟩ := List.mem_map.1 ht
  exact evOf_text _
set_option maxRecDepth 100000 in
set_option maxHeartbeats 3200000 in
theorem events_any (A : Option Addr) (cap : Nat) (ls : List Int) (w : World) (hS : Sl w w.heap.size 1 A ls.length cap (ls.map intV)) :
    Calls Try.prog 28 #[.slice A ls.length cap] w fun e w' => (∃ A2 c2, e = .returned (.slice A2 (evs ls).length c2) ∧ Own w' w.heap.size 34 7 A2 (evs ls).length c2 (evC (evs ls))) ∧ Below w.heap.size w w' := by
  obtain ⟨i0, hi0, hz0, hz1, hz2⟩ := info_parts infoE
  have hSc := hS.2.1
  have hSm := hS.2.2.1
  unfold maxLen at hSm
  have HM := Lib.hid event_any
  have HS := Lib.hid hS
  have HL := Lib.hid (evs_len ls)
  clear hS
  go_enter Try.func28, Try.ntmps28
  go_wp2_with fail
  go_loopw [3, 4] (fun s i W => ∃ (k : Nat) (ts : List Ev) (A2 : Option Addr) (cap2 : Nat), k ≤ ls.length ∧ k ≤ 40 ∧ ts.length = k ∧ ts = (ls.take k).map (fun n => evOf (n % 1048576)) ∧ s = .slice A2 k cap2 ∧ i = .int .i64 k ∧ Own W w.heap.size 34 7 A2 k cap2 (evC ts) ∧ Below w.heap.size w W) (fun _ i _ => ls.length - (intOf i).toNat)
  case atStart => exact ⟨0, [], none, 0, Nat.zero_le _, Nat.zero_le _, rfl, rfl, rfl, rfl, Own.nil _ _ _ _, Below.refl _ _⟩
  case round =>
    obtain ⟨k, ts, A2, cap2, hk, hk40, hts, hte, rfl, rfl, hown, hB⟩ := hrel
    have HT := Lib.hid (And.intro hts hte)
    clear hts hte
    by_cases hlt : k < ls.length ∧ k < 40
    · obtain ⟨hlt1, hlt2⟩ := hlt
      obtain ⟨bb, o, rfl, hbb, c0⟩ := sl_int (HS.out.below hB (Nat.le_refl _)) hlt1
      have hsn : (ls.take (k + 1)).map (fun n => evOf (n % 1048576)) = (ls.take k).map (fun n => evOf (n % 1048576)) ++ [evOf (ls[k] % 1048576)] := by rw [takeSnoc ls k hlt1, List.map_append]; rfl
      generalize ls[k] = y at *
      have HSn := Lib.hid hsn
      have HE := Lib.hid (HM.out y)
      clear hsn
      generalize hev : evOf (y % 1048576) = t at *
      have HB := Lib.hid (And.intro hB hown)
      clear hev hB hown
      obtain ⟨kk, sy, pr, rc, a, x, er⟩ := t
      unfold Ev.v at HE
      unfold Ev.cs at HE
      simp only at HE
      go_wp2_with fail
      refine (HE.out _).mono ?_
      rintro e w3 ⟨rfl, hb3⟩
      obtain ⟨hB, hown⟩ := HB.out
      have hB3 := below_on hB hb3 (Nat.le_refl _)
      have hown3 := hown.below hb3 (Nat.le_refl _)
      have hsz3 := hB3.size
      clear hB hown hb3 HB c0 HE
      go_wp2_with (at_builtin; refine wpList_append_new rfl _ _ _ rfl w.heap.size 34 i0 _ 7 64 Try.underlying22 hi0 hz0 hz1 hz2 rfl (by decide) rfl hown3 #[.int .i64 kk, .int .i64 sy, .int .i64 pr, .int .i64 rc, .int .i64 a, .string ⟨x.toArray⟩, .int .i64 er] (by first | rfl | (simp only [World.size_setCell]; rfl)) rfl (by simp [Value.oneCell']) (by simp only [maxLen]; omega) (by omega) hsz3 ?_; intro A4 cap4 W4 hown6 hg6 hat6)
      go_wp2_with fail
      go_roundw
      case rel =>
        refine ⟨k + 1, ts ++ [⟨kk, sy, pr, rc, a, x, er⟩], A4, cap4, by omega, by omega, by rw [List.length_append, HT.out.1]; rfl, by rw [HSn.out, HT.out.2], rfl, by go_num, ?_, grown_below hB3 hown3 hg6 hsz3⟩
        rw [evC_append]; exact hown6
      case measure => simp [intOf]; omega
    · have hts2 : ts = evs ls := by
        rw [HT.out.2]
        unfold evs
        congr 1
        rcases Nat.lt_or_ge k ls.length with h | h
        · have h4 : k = 40 := by omega
          rw [h4]
        · rw [List.take_of_length_le h, List.take_of_length_le (by omega)]
      have HT2 := Lib.hid (And.intro hts2 HT.out.1)
      have HB := Lib.hid (And.intro hB hown)
      have hcases : ¬ k < ls.length ∨ k < ls.length ∧ ¬ k < 40 := by omega
      clear hlt hts2 hB hown
      rcases hcases with hx | ⟨hx, hy⟩
      all_goals
        go_wp2_with fail
        go_ret
        obtain ⟨h1, h2⟩ := HT2.out
        subst h1
        rw [h2]
        exact ⟨⟨A2, cap2, rfl, HB.out.2⟩, HB.out.1⟩
theorem rightE_all {l : List Ev} (h : ∀ t ∈ l, evE t = 0) : rightE l = 0 := by
  induction l with
  | nil => rfl
  | cons x l ih =>
    show (if evE x = 0 then rightE l else evE x) = 0
    rw [if_pos (h x (by simp)), ih (fun t ht => h t (by simp [ht]))]
theorem chkQ_all {q : Int} {l : List Ev} (h1 : 1 ≤ q) (h2 : q ≤ 64) (h3 : (l.length : Int) ≤ q) (h : ∀ t ∈ l, evE t = 0) : chkQ q l = 0 := by
  unfold chkQ
  rw [if_neg (by omega), if_neg (by omega), rightE_all h]
theorem putR_all {q : Int} {l more : List Ev} (h1 : 1 ≤ q) (h2 : q ≤ 64) (h3 : (l.length : Int) ≤ q) (h : ∀ t ∈ l, evE t = 0) (h' : ∀ t ∈ more, evE t = 0) :
    putR q l more = (l ++ more.take (min more.length (q - l.length).toNat), min more.length (q - l.length).toNat, 0) := by
  unfold putR putE putN
  rw [chkQ_all h1 h2 h3 h, if_pos rfl, rightE_all h', if_pos rfl]
theorem takeR_all {q n : Int} {l : List Ev} (h1 : 1 ≤ q) (h2 : q ≤ 64) (h3 : (l.length : Int) ≤ q) (h : ∀ t ∈ l, evE t = 0) (h4 : 1 ≤ n) (h5 : n ≤ 64) : takeR q l n = (l.drop n.toNat, l.take n.toNat, 0) := by
  have e : takeE q l n = 0 := by
    unfold takeE
    rw [chkQ_all h1 h2 h3 h, if_pos rfl, if_neg (by omega)]
  unfold takeR
  rw [e, if_pos rfl]
theorem take_split (l : List Ev) (b c : Nat) : l.take b ++ (l.drop b).take c = l.take (b + c) := (List.take_add).symm
theorem parts_plain (P : Nat) (l : List Ev) (m : Nat) (h1 : 1 ≤ P) (h2 : P ≤ 20) (hm : m ≤ l.length) (hr : ∀ t ∈ l, evE t = 0) : ∃ whole half wide : List Ev, ∃ c : Nat,
    putR P [] l = (whole, whole.length, 0) ∧ putR P [] (l.take m) = (half, half.length, 0) ∧ putR P half (l.drop half.length) = (whole, c, 0) ∧ putR ((P : Int) + 5) [] l = (wide, wide.length, 0) ∧
    half.length + c = whole.length ∧ whole.length ≤ wide.length ∧ wide.take whole.length = whole ∧ whole.length = min P l.length ∧ half.length ≤ l.length ∧ wide.length ≤ l.length ∧ (∀ t ∈ whole, t ∈ l) ∧ (∀ t ∈ half, t ∈ l) ∧ half.length ≤ P := by
  have e1 : min l.length ((P : Int) - (([] : List Ev).length : Nat)).toNat = min P l.length := by simp only [List.length_nil]; omega
  have e2 : min (l.take m).length ((P : Int) - (([] : List Ev).length : Nat)).toNat = min m P := by simp only [List.length_nil, List.length_take]; omega
  have e4 : min l.length ((P : Int) + 5 - (([] : List Ev).length : Nat)).toNat = min (P + 5) l.length := by simp only [List.length_nil]; omega
  have hl1 : (l.take (min P l.length)).length = min P l.length := by rw [List.length_take]; omega
  have hl2 : (l.take (min m P)).length = min m P := by rw [List.length_take]; omega
  have hl4 : (l.take (min (P + 5) l.length)).length = min (P + 5) l.length := by rw [List.length_take]; omega
  refine ⟨l.take (min P l.length), l.take (min m P), l.take (min (P + 5) l.length), min (l.length - min m P) (P - min m P), ?_, ?_, ?_, ?_, ?_, ?_, ?_, ?_, ?_, ?_, ?_, ?_, ?_⟩
  · rw [putR_all (by omega) (by omega) (by simp) (by simp) hr, e1, hl1]; rfl
  · rw [putR_all (by omega) (by omega) (by simp) (by simp) (fun t ht => hr t (List.mem_of_mem_take ht)), e2, List.take_take, hl2, Nat.min_eq_left (by omega : min m P ≤ m)]; rfl
  · rw [hl2, putR_all (by omega) (by omega) (by rw [hl2]; omega) (fun t ht => hr t (List.mem_of_mem_take ht)) (fun t ht => hr t (List.mem_of_mem_drop ht)), hl2, List.length_drop, show ((P : Int) - (min m P : Nat)).toNat = P - min m P by omega, take_split]
    rw [show min m P + min (l.length - min m P) (P - min m P) = min P l.length by omega]
  · rw [putR_all (by omega) (by omega) (by simp; omega) (by simp) hr, e4, hl4]; rfl
  · rw [hl1, hl2]; omega
  · rw [hl1, hl4]; omega
  · rw [hl1, List.take_take, Nat.min_eq_left (by omega)]
  · exact hl1
  · rw [hl2]; omega
  · rw [hl4]; omega
  · exact fun t ht => List.mem_of_mem_take ht
  · exact fun t ht => List.mem_of_mem_take ht
  · rw [hl2]; omega
end Go.Proofs.Ytogldckkmjbohaa
