/- Plain laws of the frames of tokens and their records; the string of RecordCounts; the walk of RecordCounts, whole. -/
import Derived.Test.YtdndomjmnlpjgaaP16
import Derived.Test.YtdndomjmnlpjgaaP2
namespace Go.Proofs.Ytdndomjmnlpjgaa
open Go.RowKit
def flatB (m : Nat) (l : List Tok) : List UInt8 := (l.map (fun t => bytesL t m)).flatten
theorem flatB_cons (m : Nat) (t : Tok) (l : List Tok) : flatB m (t :: l) = bytesL t m ++ flatB m l := by unfold flatB; rw [List.map_cons, List.flatten_cons]
theorem flatB_append (m : Nat) (l k : List Tok) : flatB m (l ++ k) = flatB m l ++ flatB m k := by unfold flatB; rw [List.map_append, List.flatten_append]
/-- Tokens that stand one behind the other from an offset on. -/
def chn : Int → List Tok → Prop
  | _, [] => True
  | a, t :: l => t.at_ = a ∧ chn (a + (2 + (t.text.length : Int))) l
theorem chn_append : ∀ (l k : List Tok) (a : Int), chn a (l ++ k) ↔ chn a l ∧ chn (endL l a) k
  | [], _, _ => by simp [chn, endL]
  | t :: l, k, a => by
    rw [List.cons_append]
    show (t.at_ = a ∧ chn _ (l ++ k)) ↔ (t.at_ = a ∧ chn _ l) ∧ chn (endL l _) k
    rw [chn_append l k]
    constructor
    · rintro ⟨h1, h2, h3⟩; exact ⟨⟨h1, h2⟩, h3⟩
    · rintro ⟨⟨h1, h2⟩, h3⟩; exact ⟨h1, h2, h3⟩
theorem plE_chn : ∀ (l : List Tok) (a : Int), chn a l → plE l = 0
  | [], _, _ => rfl
  | [_], _, _ => rfl
  | t :: u :: l, a, h => by
    obtain ⟨h1, h2⟩ := h
    have h3 := plE_chn (u :: l) _ h2
    obtain ⟨h4, _⟩ := h2
    show (if _ then _ else _) = _
    rw [if_pos (by rw [h4, h1]), h3]
theorem endR_chn : ∀ (l : List Tok) (a : Int), chn a l → l ≠ [] → endR l = endL l a
  | [], _, _, h => absurd rfl h
  | [t], a, h, _ => by obtain ⟨h1, _⟩ := h; rw [endR_last (l := [t]) (j := 0) rfl]; show t.at_ + _ = a + _; rw [h1]; rfl
  | t :: u :: l, a, h, _ => by
    obtain ⟨h1, h2⟩ := h
    have h3 := endR_chn (u :: l) _ h2 (by simp)
    show endR (t :: u :: l) = endL (u :: l) _
    rw [← h3]
    unfold endR
    rw [List.getLast?_cons_cons]
theorem placeL_chn : ∀ (l : List Tok) (a : Int), chn a (placeL l a)
  | [], _ => trivial
  | _ :: l, _ => ⟨rfl, placeL_chn l _⟩
/-- What may be said of tokens that are to be placed. -/
def goodT (m : Nat) (t : Tok) : Prop := 0 ≤ t.sym ∧ t.sym ≤ m ∧ t.text.length ≤ 4
theorem good_check {m : Nat} (h1 : 1 ≤ m) (h8 : m ≤ 8) {t : Tok} (h : goodT m t) (h0 : 0 ≤ t.at_) (h9 : t.at_ ≤ 1099511627776) : checkE t m = 0 := checkE_ok t m h.1 h.2.1 h1 h8 (by have := h.2.2; omega) h0 h9
theorem placeL_good {m : Nat} : ∀ (l : List Tok) (a : Int), (∀ t ∈ l, goodT m t) → ∀ t ∈ placeL l a, goodT m t
  | [], _, _ => fun _ ht => by cases ht
  | t :: l, a, h => fun u hu => by
    rcases List.mem_cons.1 hu with rfl | hu
    · exact h t (by simp)
    · exact placeL_good l _ (fun x hx => h x (List.mem_cons_of_mem _ hx)) u hu
theorem frames_all (m : Nat) (h1 : 1 ≤ m) (h8 : m ≤ 8) : ∀ (l : List Tok) (n : Nat) (a : Int), (∀ t ∈ l, checkE t m = 0) → chn a l → (flatB m l).length ≤ n → 0 ≤ a → a + (flatB m l).length ≤ 1099511627776 →
    framesT m n (flatB m l) a = (l, (flatB m l).length, ⟨0, 0⟩)
  | [], n, a, _, _, _, _, _ => by show framesT m n [] a = _; rw [framesT_nil]; rfl
  | t :: l, n, a, hc, hch, hn, ha, hal => by
    have ht := hc t (by simp)
    have hbl := bytes_len t m ht
    rw [flatB_cons, List.length_append, hbl] at hn hal
    obtain ⟨k, rfl⟩ : ∃ k, n = k + 1 := ⟨n - 1, by omega⟩
    obtain ⟨hta, hch2⟩ := hch
    obtain ⟨r1, r2, r3, _, _⟩ := read_frame t m ht (flatB m l)
    rw [hta] at r1 r2 r3
    have hne : flatB m (t :: l) ≠ [] := fun h => by
      have := congrArg List.length h
      rw [flatB_cons, List.length_append, hbl] at this
      simp at this
    rw [framesT_step m k _ a hne, flatB_cons]
    rw [r3, if_neg (by simp), r1, r2, List.drop_left, hbl]
    have ih := frames_all m h1 h8 l k (a + (2 + (t.text.length : Int))) (fun x hx => hc x (List.mem_cons_of_mem _ hx)) hch2 (by omega) (by omega) (by omega)
    have ec : a + ((2 + t.text.length : Nat) : Int) = a + (2 + (t.text.length : Int)) := by omega
    rw [ec, ih]
    simp only [List.length_append, hbl]
theorem flatB_place (m : Nat) (h1 : 1 ≤ m) (h8 : m ≤ 8) : ∀ (l : List Tok) (a : Int), (∀ t ∈ l, goodT m t) → (∀ t ∈ l, t.at_ = 0) → 0 ≤ a → a + l.length * 6 ≤ 1099511627776 →
    flatB m (placeL l a) = flatB m l ∧ (∀ t ∈ placeL l a, checkE t m = 0) ∧ endL (placeL l a) a = a + (flatB m l).length ∧ (flatB m l).length ≤ l.length * 6
  | [], a, _, _, _, _ => ⟨rfl, (fun _ ht => by cases ht), by simp [flatB, placeL, endL], by simp [flatB]⟩
  | t :: l, a, hg, hz, ha, hal => by
    have ht := hg t (by simp)
    simp only [List.length_cons] at hal
    have hc1 : checkE ⟨t.sym, t.text, a⟩ m = 0 := good_check h1 h8 (t := ⟨t.sym, t.text, a⟩) ht ha (by simp only; omega)
    have hc2 : checkE t m = 0 := good_check h1 h8 ht (by rw [hz t (by simp)]; omega) (by rw [hz t (by simp)]; omega)
    have hx := ht.2.2
    obtain ⟨i1, i2, i3, i4⟩ := flatB_place m h1 h8 l (a + (2 + (t.text.length : Int))) (fun x hx => hg x (List.mem_cons_of_mem _ hx)) (fun x hx => hz x (List.mem_cons_of_mem _ hx)) (by omega) (by omega)
    have e : placeL (t :: l) a = ⟨t.sym, t.text, a⟩ :: placeL l (a + (2 + (t.text.length : Int))) := rfl
    have eb : bytesL ⟨t.sym, t.text, a⟩ m = bytesL t m := by
      unfold bytesL
      rw [if_pos hc1, if_pos hc2]
    have hl := bytes_len t m hc2
    refine ⟨by rw [e, flatB_cons, flatB_cons, eb, i1], ?_, ?_, by rw [flatB_cons, List.length_append, hl, List.length_cons]; omega⟩
    · intro x hx
      rw [e] at hx
      rcases List.mem_cons.1 hx with rfl | hx
      · exact hc1
      · exact i2 x hx
    · rw [e]
      show endL (placeL l _) (a + (2 + (t.text.length : Int))) = _
      rw [i3, flatB_cons, List.length_append, hl]
      omega
/-- The records of placed tokens are right, and what is left over is placed. -/
theorem divA_good (m : Nat) : ∀ (P rest : List Tok) (a : Int), chn a rest → chn (endL rest a) P → (∀ t ∈ rest, checkE t m = 0 ∧ t.sym ≠ m) → (∀ t ∈ P, checkE t m = 0) → rest.length + P.length ≤ 20 → 
    (∀ x ∈ (divA m P rest).1, goodR m x ∧ x.fin = 1) ∧ (divA m P rest).2.length ≤ 20 ∧ (∀ t ∈ (divA m P rest).2, checkE t m = 0 ∧ t.sym ≠ m) ∧ ∃ a', chn a' (divA m P rest).2 ∧ endL (divA m P rest).2 a' = endL P (endL rest a)
  | [], rest, a, hc, _, hr, _, hn => ⟨(fun x hx => by cases hx), by show rest.length ≤ 20; omega, hr, a, hc, rfl⟩
  | t :: P, rest, a, hc, hp, hr, hP, hn => by
    obtain ⟨p1, p2⟩ := hp
    have htc := hP t (by simp)
    obtain ⟨hb1, hb2, hb3⟩ := frame_bounds t m htc
    simp only [List.length_cons] at hn
    by_cases h : t.sym = m
    · have e : divA m (t :: P) rest = (⟨rest, 1, t.at_⟩ :: (divA m P []).1, (divA m P []).2) := by rw [divA, if_pos h]
      obtain ⟨g1, g2, g3, g4⟩ := divA_good m P [] (endL rest a + (2 + (t.text.length : Int))) trivial p2 (fun x hx => by cases hx) (fun x hx => hP x (List.mem_cons_of_mem _ hx)) (by simp only [List.length_nil]; omega)
      rw [e]
      refine ⟨?_, g2, g3, g4⟩
      intro x hx
      rcases List.mem_cons.1 hx with rfl | hx
      · refine ⟨⟨by simp only; omega, listE1_none m rest (fun x hx => (hr x hx).1), fun x hx => (hr x hx).2, plE_chn rest a hc, hb2, hb3, .inl rfl, fun hne => ?_⟩, rfl⟩
        simp only
        rw [endR_chn rest a hc hne, p1]
      · exact g1 x hx
    · have e : divA m (t :: P) rest = divA m P (rest ++ [t]) := by rw [divA, if_neg h]
      have e2 : endL (rest ++ [t]) a = endL rest a + (2 + (t.text.length : Int)) := by rw [endL_append]; rfl
      have ih := divA_good m P (rest ++ [t]) a ((chn_append rest [t] a).2 ⟨hc, p1, trivial⟩) (by rw [e2]; exact p2) (fun x hx => by
        rcases List.mem_append.1 hx with hx | hx
        · exact hr x hx
        · simp only [List.mem_cons, List.not_mem_nil, or_false] at hx
          subst hx
          exact ⟨htc, h⟩) (fun x hx => hP x (List.mem_cons_of_mem _ hx)) (by simp only [List.length_append, List.length_cons, List.length_nil]; omega)
      rw [e2] at ih
      rw [e]
      exact ih
/-- The bytes of records are those of their tokens and separators, if no separator has a Text. -/
theorem divA_bytes (m : Nat) (h1 : 1 ≤ m) (h8 : m ≤ 8) : ∀ (P rest : List Tok), (∀ t ∈ P, checkE t m = 0) → (∀ t ∈ P, t.sym = m → t.text = []) →
    ((divA m P rest).1.map (recB m)).flatten ++ flatB m (divA m P rest).2 = flatB m rest ++ flatB m P
  | [], rest, _, _ => by simp [divA, flatB]
  | t :: P, rest, hP, hs => by
    by_cases h : t.sym = m
    · have e : divA m (t :: P) rest = (⟨rest, 1, t.at_⟩ :: (divA m P []).1, (divA m P []).2) := by rw [divA, if_pos h]
      have ih := divA_bytes m h1 h8 P [] (fun x hx => hP x (List.mem_cons_of_mem _ hx)) (fun x hx => hs x (List.mem_cons_of_mem _ hx))
      have hx := hs t (by simp) h
      have hc := hP t (by simp)
      have eb : bytesL ⟨m, [], 0⟩ m = bytesL t m := by
        unfold bytesL
        rw [if_pos hc, if_pos (checkE_ok ⟨m, [], 0⟩ m (by simp only; omega) (Int.le_refl _) h1 h8 (by simp) (by simp) (by simp only; omega)), h, hx]
      rw [e, List.map_cons, List.flatten_cons, List.append_assoc, ih, flatB_cons]
      show (flatB m rest ++ if (1 : Int) = 1 then _ else _) ++ (flatB m [] ++ _) = _
      rw [if_pos rfl, eb]
      simp [flatB]
    · have e : divA m (t :: P) rest = divA m P (rest ++ [t]) := by rw [divA, if_neg h]
      rw [e, divA_bytes m h1 h8 P (rest ++ [t]) (fun x hx => hP x (List.mem_cons_of_mem _ hx)) (fun x hx => hs x (List.mem_cons_of_mem _ hx)), flatB_append, flatB_cons]
      simp [flatB]
theorem made_more {m j sy : Nat} {s x : List UInt8} (h1 : 1 ≤ m) (h8 : m ≤ 8) (h : ∃ T : List Tok, T.length = j ∧ (∀ t ∈ T, goodT m t) ∧ (∀ t ∈ T, t.at_ = 0) ∧ flatB m T = s) (hs : sy ≤ m) (hx : x.length ≤ 4) :
    ∃ T : List Tok, T.length = j + 1 ∧ (∀ t ∈ T, goodT m t) ∧ (∀ t ∈ T, t.at_ = 0) ∧ flatB m T = s ++ UInt8.ofNat sy :: UInt8.ofNat x.length :: x := by
  obtain ⟨T, g1, g2, g3, g4⟩ := h
  have hg : goodT m ⟨sy, x, 0⟩ := ⟨by simp only; omega, by simp only; omega, hx⟩
  obtain ⟨s', hs', _, _, _, _, _, _, hb, _⟩ := frame_facts ⟨sy, x, 0⟩ m (good_check h1 h8 hg (by simp) (by simp only; omega)) []
  simp only at hs' hb
  obtain rfl : sy = s' := by omega
  refine ⟨T ++ [⟨sy, x, 0⟩], by simp [g1], ?_, ?_, ?_⟩
  · intro t ht
    rcases List.mem_append.1 ht with ht | ht
    · exact g2 t ht
    · simp only [List.mem_cons, List.not_mem_nil, or_false] at ht
      subst ht
      exact hg
  · intro t ht
    rcases List.mem_append.1 ht with ht | ht
    · exact g3 t ht
    · simp only [List.mem_cons, List.not_mem_nil, or_false] at ht
      subst ht
      rfl
  · rw [flatB_append, g4, ← hb]
    simp [flatB]
set_option maxRecDepth 100000 in
set_option maxHeartbeats 3200000 in
theorem made23_toks (A : Option Addr) (cap D : Nat) (ns : List Int) (m : Nat) (w : World) (hS : Sl w D 1 A ns.length cap (ns.map intV)) (hD : D ≤ w.heap.size) (h1 : 1 ≤ m) (h8 : m ≤ 8) :
    Calls Try.prog 20 #[.slice A ns.length cap, .int .i64 m] w fun e w' => (∃ T : List Tok, T.length ≤ 12 ∧ (∀ t ∈ T, goodT m t) ∧ (∀ t ∈ T, t.at_ = 0) ∧ e = .returned (.string ⟨(flatB m T).toArray⟩)) ∧ Below w.heap.size w w' := by
  have HFi := Lib.hid Fill_any
  have HFr := Lib.hid Frame_any
  have hm0 : ns.length ≤ maxLen := Nat.le_trans hS.2.1 hS.2.2.1
  unfold maxLen at hm0
  go_enter Try.func20, Try.ntmps20
  go_wp2_with fail
  go_loopw [5, 6] (fun v5 v6 W => ∃ (j : Nat) (s : List UInt8), j ≤ ns.length ∧ j ≤ 12 ∧ v6 = .int .i64 j ∧ v5 = .string ⟨s.toArray⟩ ∧ s.length ≤ 5 * j ∧ (∃ T : List Tok, T.length = j ∧ (∀ t ∈ T, goodT m t) ∧ (∀ t ∈ T, t.at_ = 0) ∧ flatB m T = s) ∧ Below w.heap.size w W) (fun _ i _ => ns.length - (intOf i).toNat)
  case atStart => exact ⟨0, [], Nat.zero_le _, by omega, rfl, rfl, Nat.le_refl _, ⟨[], rfl, by simp, by simp, rfl⟩, Below.refl _ _⟩
  case round =>
    obtain ⟨j, s, hj, hj12, rfl, rfl, hs, hTT, hBr⟩ := hrel
    have HTT := Lib.hid hTT
    clear hTT
    have hsr := hBr.size
    by_cases hfin : j = ns.length ∨ j = 12
    · have hcs : ¬ (j : Int) < ns.length ∨ ((j : Int) < ns.length ∧ ¬ (j : Int) < 12) := by omega
      have hs60 : s.length ≤ 60 := by omega
      clear hfin
      rcases hcs with h | ⟨h, h2⟩
      all_goals
        go_wp2_with fail
        go_ret
        obtain ⟨T, g1, g2, g3, g4⟩ := HTT.out
        exact ⟨⟨T, by omega, g2, g3, by rw [g4]; rfl⟩, hBr⟩
    · have hlt : j < ns.length := by omega
      have hlt12 : (j : Int) < 12 := by omega
      have hltz : (j : Int) < ns.length := by omega
      obtain ⟨b, o, rfl, hb, hc⟩ := sl_int (hS.below hBr hD) hlt
      have HM := Lib.hid (fun W => Mod_any ns[j] 1048576 W (by decide) (by decide))
      have h0 : 0 ≤ ns[j] % 1048576 := Int.emod_nonneg _ (by decide)
      have h1' : ns[j] % 1048576 < 1048576 := Int.emod_lt_of_pos _ (by decide)
      generalize ns[j] = y at *
      obtain ⟨K, hK⟩ := Int.eq_ofNat_of_zero_le h0
      rw [hK] at HM h1'
      clear hK h0 hfin
      have t0 : (K : Int).tmod ((m : Int) + 2) = ((K % (m + 2) : Nat) : Int) := rfl
      have t1 : (K : Int).tdiv 9 = ((K / 9 : Nat) : Int) := rfl
      have t2 : ((K / 9 : Nat) : Int).tmod 4 = ((K / 9 % 4 : Nat) : Int) := rfl
      have b2 : K / 9 % 4 ≤ 3 := by omega
      have b0 : K % (m + 2) < m + 2 := Nat.mod_lt _ (by omega)
      have HFi1 := Lib.hid (fun W => HFi.out K (K / 9 % 4) W (by omega) (by omega))
      have hq9 : ((K / 9 : Nat) : Int) ≤ 1048576 := by omega
      generalize K % (m + 2) = sy at *
      generalize K / 9 % 4 = fl at *
      generalize K / 9 = q at *
      have hBH := Lib.hid hBr
      clear hBr HFi
      by_cases hg : m < sy
      · have hgz : (m : Int) < sy := by omega
        go_wp2_with fail
        refine (HM.out _).mono ?_
        rintro e w1 ⟨rfl, rfl⟩
        go_wp2_with fail
        refine (HFi1.out _).mono ?_
        rintro e w2 ⟨⟨x, hx, rfl⟩, hb2⟩
        have HFr1 := Lib.hid (fun W => HFr.out m x W (by omega) (by omega))
        have hB2 := below_on hBH.out hb2 (Nat.le_refl _)
        go_wp2_with fail
        refine (HFr1.out _).mono ?_
        rintro e w3 ⟨rfl, hb3⟩
        have hB3 := below_on hB2 hb3 (Nat.le_refl _)
        clear hb2 hb3 hB2
        have HT2 := Lib.hid (made_more h1 h8 HTT.out (by omega : m ≤ m) (by omega : x.length ≤ 4))
        have hsl : (s ++ UInt8.ofNat m :: UInt8.ofNat x.length :: x).length ≤ 5 * (j + 1) := by simp only [List.length_append, List.length_cons]; omega
        generalize UInt8.ofNat m = c1 at *
        generalize UInt8.ofNat x.length = c2 at *
        go_wp2_with fail
        go_roundw
        case rel => exact ⟨j + 1, _, by omega, by omega, by go_num, rfl, hsl, HT2.out, hB3⟩
        case measure => simp [intOf]; omega
      · have hgz : ¬ (m : Int) < sy := by omega
        go_wp2_with fail
        refine (HM.out _).mono ?_
        rintro e w1 ⟨rfl, rfl⟩
        go_wp2_with fail
        refine (HFi1.out _).mono ?_
        rintro e w2 ⟨⟨x, hx, rfl⟩, hb2⟩
        have HFr1 := Lib.hid (fun W => HFr.out sy x W (by omega) (by omega))
        have hB2 := below_on hBH.out hb2 (Nat.le_refl _)
        go_wp2_with fail
        refine (HFr1.out _).mono ?_
        rintro e w3 ⟨rfl, hb3⟩
        have hB3 := below_on hB2 hb3 (Nat.le_refl _)
        clear hb2 hb3 hB2
        have HT2 := Lib.hid (made_more h1 h8 HTT.out (by omega : sy ≤ m) (by omega : x.length ≤ 4))
        have hsl : (s ++ UInt8.ofNat sy :: UInt8.ofNat x.length :: x).length ≤ 5 * (j + 1) := by simp only [List.length_append, List.length_cons]; omega
        generalize UInt8.ofNat sy = c1 at *
        generalize UInt8.ofNat x.length = c2 at *
        go_wp2_with fail
        go_roundw
        case rel => exact ⟨j + 1, _, by omega, by omega, by go_num, rfl, hsl, HT2.out, hB3⟩
        case measure => simp [intOf]; omega
theorem counts_facts (m : Nat) (h1 : 1 ≤ m) (h8 : m ≤ 8) (T : List Tok) (hl : T.length ≤ 12) (hg : ∀ t ∈ T, goodT m t) (hz : ∀ t ∈ T, t.at_ = 0) :
    ∃ (P : List Tok) (rs R : List Rc) (rr : List Tok), P.length ≤ 12 ∧ (flatB m T).length ≤ 72 ∧ framesT m (flatB m T).length (flatB m T) 0 = (P, (flatB m T).length, ⟨0, 0⟩) ∧ divA m P [] = (rs, rr) ∧ ofA (flatB m T) m 0 = (R, ⟨0, 0⟩) ∧
      R = rs ++ (if rr = [] then [] else [⟨rr, 2, ((flatB m T).length : Int)⟩]) ∧ (∀ x ∈ R, goodR m x) ∧ (∀ x ∈ rs, x.fin = 1) ∧ rs.length ≤ 12 ∧ rr.length ≤ 12 ∧
      ((∀ t ∈ P, t.sym = m → t.text = []) → (R.map (recB m)).flatten = flatB m T) ∧ ∀ t ∈ P, t.text.length ≤ 24 := by
  obtain ⟨f1, f2, f3, f4⟩ := flatB_place m h1 h8 T 0 hg hz (Int.le_refl _) (by omega)
  have hch := placeL_chn T 0
  have hPl : (placeL T 0).length = T.length := placeL_len T 0
  generalize hP : placeL T 0 = P at *
  have hfr := frames_all m h1 h8 P (flatB m P).length 0 f2 hch (Nat.le_refl _) (Int.le_refl _) (by rw [f1]; omega)
  rw [f1] at hfr
  obtain ⟨d1, d2, d3, a', d4, d5⟩ := divA_good m P [] 0 trivial hch (fun x hx => by cases hx) f2 (by simp only [List.length_nil]; omega)
  have hby := divA_bytes m h1 h8 P [] f2
  obtain ⟨n1, n2, _⟩ := divA_len m P []
  simp only [List.length_nil, Nat.add_zero] at n2
  have d6 : endL P (endL [] 0) = (flatB m T).length := by show endL P 0 = _; rw [f3]; omega
  rw [d6] at d5
  obtain ⟨⟨rs, rr⟩, hdv⟩ : ∃ q, divA m P [] = q := ⟨_, rfl⟩
  rw [hdv] at d1 d2 d3 d4 d5 hby n1 n2
  simp only at d1 d2 d3 d4 d5 hby n1 n2
  have hfa : framesA (flatB m T) m 0 = (P, (flatB m T).length, ⟨0, 0⟩) := by
    unfold framesA
    rw [if_neg (by rw [ranged_ok m h1 h8]; simp; omega), if_neg (by omega), Int.toNat_natCast, hfr]
  refine ⟨P, rs, rs ++ (if rr = [] then [] else [⟨rr, 2, ((flatB m T).length : Int)⟩]), rr, by omega, by omega, hfr, hdv, ?_, rfl, ?_, fun x hx => (d1 x hx).2, by omega, by omega, ?_, fun t ht => (frame_bounds t m (f2 t ht)).1⟩
  · unfold ofA
    rw [hfa]
    simp only [if_true, hdv]
    simp
  · intro x hx
    rcases List.mem_append.1 hx with hx | hx
    · exact (d1 x hx).1
    · by_cases hr : rr = []
      · rw [if_pos hr] at hx
        cases hx
      · rw [if_neg hr] at hx
        simp only [List.mem_cons, List.not_mem_nil, or_false] at hx
        subst hx
        exact ⟨d2, listE1_none m rr (fun t ht => (d3 t ht).1), fun t ht => (d3 t ht).2, plE_chn rr a' d4, by simp only; omega, by simp only; omega, .inr ⟨rfl, hr⟩, fun _ => by simp only; rw [endR_chn rr a' d4 hr, d5]⟩
  · intro hs
    have e := hby hs
    rw [f1] at e
    simp only [flatB, List.map_nil, List.flatten_nil, List.nil_append] at e
    rw [← show flatB m T = (T.map (fun t => bytesL t m)).flatten from rfl] at e
    by_cases hr : rr = []
    · rw [if_pos hr, List.append_nil, ← e, hr]
      simp
    · rw [if_neg hr, List.map_append, List.flatten_append, ← e]
      congr 1
      show ([recB m _]).flatten = _
      unfold recB
      simp
theorem recsB_map (m : Nat) (L : List RcM) : recsB m L = ((L.map (·.r)).map (recB m)).flatten := by unfold recsB; rw [List.map_map]; rfl
theorem wrap_small (k : Nat) (h : k ≤ 1000) : wrap64 ((k : Int) + 1) = (k : Int) + 1 ∧ IntKind.i64.wrap ((k : Int) + 1) = (k : Int) + 1 :=
  ⟨by unfold wrap64; omega, Go.IntWalk.i64_in _ (by omega)⟩
theorem drop_eq {α : Type} {l k : List α} {x : α} {i : Nat} (h : l.drop i = x :: k) : ∃ hi : i < l.length, l[i] = x ∧ l.drop (i + 1) = k := by
  have hi : i < l.length := by
    refine Nat.lt_of_not_le fun hle => ?_
    rw [List.drop_of_length_le hle] at h
    cases h
  rw [List.drop_eq_getElem_cons hi] at h
  injection h with h1 h2
  exact ⟨hi, h1, h2⟩
set_option maxRecDepth 100000 in
set_option maxHeartbeats 12800000 in
theorem RecordCounts_any (A : Option Addr) (cap : Nat) (ns : List Int) (n : Int) (w : World) (hS : Sl w w.heap.size 1 A ns.length cap (ns.map intV)) :
    Calls Try.prog 4 #[.slice A ns.length cap, .int .i64 n] w fun e w' => e = .returned (.bool true) ∧ Below w.heap.size w w' := by
  obtain ⟨i0, hi0, hz0, hz1, hz2⟩ := info_parts infoT
  have HA := Lib.hid (fun W => awake23_any W)
  obtain ⟨r, m, hr, hrm, h1, h8⟩ := mod_terms n
  have HM := Lib.hid (fun W => Mod_any n 8 W (by decide) (by decide))
  rw [hr] at HM
  have HMa := Lib.hid (made23_toks A cap w.heap.size ns m w hS (Nat.le_refl _) h1 h8)
  clear hr hS
  go_enter Try.func4, Try.ntmps4
  go_wp2_with fail
  refine (HM.out _).mono ?_
  rintro e w1 ⟨rfl, rfl⟩
  go_wp2_with fail
  refine HMa.out.mono ?_
  rintro e w2 ⟨⟨T, q1, q2, q3, rfl⟩, hb2⟩
  obtain ⟨P, rs, R, rr, g1, g2, g3, g4, g5, g6, g7, g8, g9, g10, g11, g12⟩ := counts_facts m h1 h8 T q1 q2 q3
  generalize flatB m T = s at *
  have HF := Lib.hid (fun W => Frames_at s m 0 P s.length 0 0 W h1 h8 (by decide) (by omega) (by omega) g3)
  have HO := Lib.hid (fun W => Of_any s m 0 W (by omega))
  rw [g5] at HO
  unfold Fault.v at HO
  simp only at HO
  have HB2 := Lib.hid hb2
  have HG6 := Lib.hid g6
  have hRl : R.length ≤ 13 := by
    rw [g6]
    split
    · simp; omega
    · simp; omega
  have HBy := Lib.hid (fun (L : List RcM) (hL : L.map (·.r) = R) A cap W hS hT => Bytes_recs A cap W.heap.size m L W hS (Nat.le_refl _) hT h1 h8 (by have := congrArg List.length hL; rw [List.length_map] at this; omega)
    (fun x hx => g7 x.r (by rw [← hL]; exact List.mem_map_of_mem hx))
    (fun i hi => by
      have hl := congrArg List.length hL
      rw [List.length_map] at hl
      have hix : i < rs.length := by
        rw [g6, List.length_append] at hl
        split at hl
        · simp at hl; omega
        · simp at hl; omega
      have e : (L.map (·.r))[i]? = some (rs[i]) := by rw [hL, g6, List.getElem?_append_left hix, List.getElem?_eq_getElem hix]
      rw [List.getElem?_map, List.getElem?_eq_getElem (by omega)] at e
      simp only [Option.map_some] at e
      injection e with e
      rw [e]
      exact g8 _ (List.getElem_mem hix)))
  have HG7 := Lib.hid g7
  have HG4 := Lib.hid g4
  have HG11 := Lib.hid g11
  clear q1 q2 q3 g3 g5 g6 g7 g4 g8 g11 hb2 HM HMa
  go_wp2_with fail
  refine (HF.out _).mono ?_
  rintro e w3 ⟨A3, c3, rfl, S3, hb3⟩
  have F3 := Blk.new w3 27 #[.int .i64 0, .int .i64 0]
  have G3 := (Below.refl w3.heap.size w3).alloc (Nat.le_refl _) (.cells #[.int .i64 0, .int .i64 0] 27)
  have hB3 := below_on (below_on HB2.out hb3 (Nat.le_refl _)) G3 (Nat.le_refl _)
  have S3 := (S3.below G3 (Nat.le_refl _)).more G3.size
  have H3 := Lib.hid (And.intro F3 (And.intro hB3 S3))
  clear F3 G3 hB3 S3 hb3 HF HB2
  go_wp2_with fail
  obtain ⟨F3, hB3, S3⟩ := H3.out
  clear H3
  generalize w3.alloc (.cells #[.int .i64 0, .int .i64 0] 27) = v3 at *
  refine (HO.out _).mono ?_
  rintro e w4 ⟨⟨L, A4, c4, hL, rfl, hO4, hR4⟩, hb4⟩
  have F4 := Blk.new w4 27 #[.int .i64 0, .int .i64 0]
  have G4 := (Below.refl w4.heap.size w4).alloc (Nat.le_refl _) (.cells #[.int .i64 0, .int .i64 0] 27)
  have F3 := Blk.on (Blk.on F3 hb4) G4
  have hB4 := below_on (below_on hB3 hb4 (Nat.le_refl _)) G4 (Nat.le_refl _)
  have S3 := (((S3.below hb4 (Nat.le_refl _)).more hb4.size).below G4 (Nat.le_refl _)).more G4.size
  have S4 := (hO4.sl.below G4 (Nat.le_refl _)).more G4.size
  have R4 : ∀ x ∈ L, Sl _ _ 3 x.A x.r.toks.length x.cap (tokC x.r.toks) := fun x hx => (((hR4.sl x hx).below G4 (Nat.le_refl _)).more G4.size)
  have H4 := Lib.hid (And.intro F3 (And.intro F4 (And.intro hB4 (And.intro S3 (And.intro S4 R4)))))
  have HL := Lib.hid hL
  clear F3 F4 hB4 S3 S4 R4 G4 hb4 hO4 hR4 hB3 hL HO
  go_wp2_with fail
  obtain ⟨F3, F4, hB4, S3, S4, R4⟩ := H4.out
  clear H4
  generalize w4.alloc (.cells #[.int .i64 0, .int .i64 0] 27) = v4 at *
  have HBy1 := HBy.out L HL.out A4 c4 v4 S4 R4
  rw [recsB_map, HL.out] at HBy1
  refine HBy1.mono ?_
  rintro e w5 ⟨rfl, hb5⟩
  have F3 := Blk.on F3 hb5
  have F4 := Blk.on F4 hb5
  have hB5 := below_on hB4 hb5 (Nat.le_refl _)
  have S3 := (S3.below hb5 (Nat.le_refl _)).more hb5.size
  have S4 := (S4.below hb5 (Nat.le_refl _)).more hb5.size
  have R5 : ∀ x ∈ L, Sl w5 w5.heap.size 3 x.A x.r.toks.length x.cap (tokC x.r.toks) := fun x hx => (((R4 x hx).below hb5 (Nat.le_refl _)).more hb5.size)
  clear hb5 HBy1 R4 hB4 HBy
  obtain ⟨bk, hbk⟩ : ∃ bk, (R.map (recB m)).flatten = bk := ⟨_, rfl⟩
  rw [hbk]
  have HBK := Lib.hid hbk
  clear hbk
  obtain ⟨p0, p1, _, _⟩ := cells2 F3
  obtain ⟨s0, s1, _, _⟩ := cells2 F4
  have H5 := Lib.hid (And.intro hB5 (And.intro S3 (And.intro S4 R5)))
  clear hB5 S3 S4 R5 F3 F4
  go_wp2_with fail
  go_loopw [14, 15, 16, 17] (fun v14 v15 v16 v17 W => ∃ (i seps : Nat) (rest : List Tok) (Ar : Option Addr) (cr : Nat) (pl : Bool), i ≤ P.length ∧ v17 = .int .i64 i ∧ v14 = .int .i64 seps ∧ v15 = .bool pl ∧ v16 = .slice Ar rest.length cr ∧ rest.length ≤ i ∧ seps ≤ rs.length ∧ divA m (P.drop i) rest = (rs.drop seps, rr) ∧
    (pl = true → ∀ t ∈ P.take i, t.sym = m → t.text = []) ∧ Own W w5.heap.size 41 3 Ar rest.length cr (tokC rest) ∧ Below w5.heap.size w5 W) (fun _ _ _ v17 _ => P.length - (intOf v17).toNat)
  case atStart => exact ⟨0, 0, [], none, 0, true, Nat.zero_le _, rfl, rfl, rfl, rfl, Nat.zero_le _, Nat.zero_le _, HG4.out, by simp, Own.nil _ _ _ _, Below.refl _ _⟩
  case round =>
    clear p0 p1 s0 s1
    obtain ⟨i, seps, rest, Ar, cr, pl, hi, rfl, rfl, rfl, rfl, hri, hse, hdv, hpl, hown, hB⟩ := hrel
    obtain ⟨hB5, S3, S4, R5⟩ := H5.out
    have hsz := hB.size
    by_cases hlt : i < P.length
    · obtain ⟨b, o, rfl, hb, c0, c1, c2⟩ := sl_tok (S3.below hB (Nat.le_refl _)) hlt
      rw [divA_at m hlt] at hdv
      have htk := take_snoc P i hlt
      have hx24 := g12 P[i] (List.getElem_mem hlt)
      generalize P[i] = t at *
      obtain ⟨sy, x, a⟩ := t
      simp only at *
      by_cases hsy : sy = m
      · rw [if_pos hsy] at hdv
        injection hdv with hd1 hd2
        obtain ⟨hsl, hrs, hdr⟩ := drop_eq hd1.symm
        subst hsy
        have HTK := Lib.hid htk
        have HPl := Lib.hid hpl
        clear htk hpl
        have hRs : R[seps]? = some ⟨rest, 1, a⟩ := by rw [HG6.out, List.getElem?_append_left hsl, List.getElem?_eq_getElem hsl, hrs]
        have hLs : seps < L.length := by
          have h := congrArg List.length HL.out
          rw [List.length_map] at h
          rw [h]
          exact (List.getElem?_eq_some_iff.1 hRs).1
        have hLr : L[seps].r = ⟨rest, 1, a⟩ := by
          have h := hRs
          rw [← HL.out, List.getElem?_map, List.getElem?_eq_getElem hLs] at h
          simpa using h
        obtain ⟨b2, o2, rfl, hb2, d0, d1, d2⟩ := sl_rc (S4.below hB (Nat.le_refl _)) hLs
        have hRx := (R5 L[seps] (List.getElem_mem hLs)).below hB (Nat.le_refl _)
        have hgd := HG7.out ⟨rest, 1, a⟩ (List.mem_of_getElem? hRs)
        rw [hLr] at d0 d1 d2 hRx
        generalize L[seps].A = xA at *
        generalize L[seps].cap = xc at *
        simp only at d0 d1 d2 hRx
        have hown' := hown.sl
        have HSm := Lib.hid (fun W (hW : Below wr.heap.size wr W) => (SameTokens_any xA Ar xc cr wr.heap.size rest rest W ((hRx.below hW hsz).more hsz) (hown'.below hW (Nat.le_refl _)) (by omega) (by omega)).mono fun e W' h => And.intro h.1 (hW.trans (h.2.mono hW.size)))
        rw [decide_eq_true rfl] at HSm
        have HCk := Lib.hid (fun W (hW : Below wr.heap.size wr W) => (Check_ok xA xc wr.heap.size m ⟨rest, 1, a⟩ W ((hRx.below hW hsz).more hsz) hW.size h1 h8 hgd).mono fun e W' h => And.intro h.1 (hW.trans (h.2.mono hW.size)))
        simp only at HCk
        have hbw : b < wr.heap.size := by omega
        have hbw2 : b2 < wr.heap.size := by omega
        have hlsz : (seps : Int) < L.length := by omega
        have hiz : (i : Int) < P.length := by omega
        have hg1 : decide ((L.length : Int) ≤ (seps : Int)) = false := by simp; omega
        have hg2 : decide (L.length ≤ seps) = false := by simp; omega
        have hb0 := (Below.refl wr.heap.size wr).drew
        have HB := Lib.hid (And.intro hB5 (And.intro hB (And.intro S3 (And.intro S4 R5))))
        have HR := Lib.hid (And.intro hdr.symm (And.intro hd2.symm hsl))
        clear hB5 hB S3 S4 R5 hRs hrs hdr hd1 hd2 hLr hRx hgd hown' hown hb hb2 hsl hse
        go_wp2_with fail
        go_region_held3 (fun W => Below wr.heap.size wr W ∧ W.cell? ⟨b2, o2 + seps * 3, none⟩ = some (.slice xA rest.length xc) ∧ W.cell? ⟨b2, o2 + seps * 3 + 1, none⟩ = some (.int .i64 1) ∧ W.cell? ⟨b2, o2 + seps * 3 + 2, none⟩ = some (.int .i64 a) ∧ W.cell? ⟨b, o + i * 3 + 2, none⟩ = some (.int .i64 a))
          (exact ⟨by assumption, ((by assumption : Below wr.heap.size wr _).cell (p := ⟨b2, o2 + seps * 3, none⟩) hbw2).trans d0, ((by assumption : Below wr.heap.size wr _).cell (p := ⟨b2, o2 + seps * 3 + 1, none⟩) hbw2).trans d1, ((by assumption : Below wr.heap.size wr _).cell (p := ⟨b2, o2 + seps * 3 + 2, none⟩) hbw2).trans d2, ((by assumption : Below wr.heap.size wr _).cell (p := ⟨b, o + i * 3 + 2, none⟩) hbw).trans c2⟩)
          (first
            | (go_at_call 19; refine (HSm.out _ (by assumption)).mono ?_; rintro e w6 ⟨rfl, hb6⟩)
            | (go_at_call 23; refine (HCk.out _ (by assumption)).mono ?_; rintro e w7 ⟨rfl, hb7⟩))
        have hB7 := below_on HB.out.2.1 hb7 (Nat.le_refl _)
        have x1 := (hb7.cell (p := ⟨b, o + i * 3 + 1, none⟩) hbw).trans c1
        have H7 := Lib.hid hB7
        clear hB7 hb7 HSm HCk c0 c1 c2 d0 d1 d2 hb0 hg1 hg2
        have hfin : ∀ (q : Bool), (q = true → pl = true ∧ x = []) → ∀ W, Below w5.heap.size w5 W → ∃ (i' seps' : Nat) (rest' : List Tok) (Ar' : Option Addr) (cr' : Nat) (pl' : Bool), i' ≤ P.length ∧ (Value.int .i64 ((i : Int) + 1)) = .int .i64 i' ∧ (Value.int .i64 ((seps : Int) + 1)) = .int .i64 seps' ∧ Value.bool q = .bool pl' ∧ (Value.slice none 0 0) = .slice Ar' rest'.length cr' ∧ rest'.length ≤ i' ∧ seps' ≤ rs.length ∧ divA m (P.drop i') rest' = (rs.drop seps', rr) ∧
            (pl' = true → ∀ t ∈ P.take i', t.sym = m → t.text = []) ∧ Own W w5.heap.size 41 3 Ar' rest'.length cr' (tokC rest') ∧ Below w5.heap.size w5 W := fun q hq W hW => by
          obtain ⟨r1, r2, r3⟩ := HR.out
          refine ⟨i + 1, seps + 1, [], none, 0, q, by omega, by go_num, by go_num, rfl, rfl, Nat.zero_le _, r3, ?_, ?_, Own.nil _ _ _ _, hW⟩
          · exact Prod.ext r1 r2.symm
          · intro h t ht htm
            obtain ⟨hp, hx⟩ := hq h
            rw [HTK.out] at ht
            rcases List.mem_append.1 ht with ht | ht
            · exact HPl.out hp t ht htm
            · simp only [List.mem_cons, List.not_mem_nil, or_false] at ht
              subst ht
              exact hx
        have HFin := Lib.hid hfin
        clear hfin
        have hsb := HR.out.2.2
        obtain ⟨hw1, hw2⟩ := wrap_small seps (by omega)
        cases pl
        · go_wp2_with fail
          go_quiet (fail)
          go_wp2_with fail
          go_roundw
          case rel => exact HFin.out false (by simp) _ (H7.out.trans ⟨rfl, rfl, rfl, Nat.le_refl _, fun _ _ => rfl⟩)
          case measure => simp [intOf]; omega
        · cases x with
          | nil =>
            go_wp2_with fail
            go_quiet (fail)
            go_wp2_with fail
            go_roundw
            case rel => exact HFin.out true (by simp) _ (H7.out.trans ⟨rfl, rfl, rfl, Nat.le_refl _, fun _ _ => rfl⟩)
            case measure => simp [intOf]; omega
          | cons y x =>
            go_wp2_with fail
            go_quiet (fail)
            go_wp2_with fail
            go_roundw
            case rel => exact HFin.out false (by simp) _ (H7.out.trans ⟨rfl, rfl, rfl, Nat.le_refl _, fun _ _ => rfl⟩)
            case measure => simp [intOf]; omega
      · rw [if_neg hsy] at hdv
        have HTK := Lib.hid htk
        have HPl := Lib.hid hpl
        clear htk hpl
        have hsyb : (sy != (m : Int)) = true := bne_iff_ne.2 hsy
        have hm1 : rest.length + 1 ≤ maxLen := by simp only [maxLen]; omega
        have hm2 : (rest.length + 1) * 32 ≤ 140737488355328 := by omega
        have HD := Lib.hid hdv
        have HB := Lib.hid hB
        have hnew : ∀ t ∈ P.take (i + 1), pl = true → t.sym = m → t.text = [] := fun t ht hp htm => by
          rw [HTK.out] at ht
          rcases List.mem_append.1 ht with ht | ht
          · exact HPl.out hp t ht htm
          · simp only [List.mem_cons, List.not_mem_nil, or_false] at ht
            subst ht
            exact absurd htm hsy
        have HNew := Lib.hid hnew
        have HSy := Lib.hid hsy
        clear hdv hB hB5 S3 S4 R5 hnew hsy
        go_wp2_with (at_builtin; refine wpList_append_new rfl _ _ _ rfl w5.heap.size 41 i0 _ 3 32 Try.underlying24 hi0 hz0 hz1 hz2 rfl (by decide) rfl hown #[.int .i64 sy, .string ⟨x.toArray⟩, .int .i64 a] rfl rfl (by simp [Value.oneCell']) hm1 hm2 hsz ?_; intro A7 cap7 W7 hown7 hg7 hat7)
        have hB7 := grown_below HB.out hown hg7 hsz
        go_roundw
        case rel => exact ⟨i + 1, seps, rest ++ [⟨sy, x, a⟩], A7, cap7, pl, by omega, by go_num, rfl, rfl, by rw [List.length_append]; rfl, by rw [List.length_append]; simp; omega, hse, HD.out, fun hp t ht htm => HNew.out t ht hp htm, by rw [List.length_append, tokC_append]; exact hown7, hB7⟩
        case measure => simp [intOf]; omega
    · obtain rfl : i = P.length := by omega
      rw [List.drop_length] at hdv
      rw [List.take_length] at hpl
      have e1 : rs.drop seps = [] := by injection hdv with h _; exact h.symm
      have e2 : rest = rr := by injection hdv with _ h
      subst e2
      have e3 : seps = rs.length := by have := congrArg List.length e1; rw [List.length_drop] at this; simp at this; omega
      subst e3
      have hbs : pl = true → bk = s := fun h => by rw [← HBK.out]; exact HG11.out (hpl h)
      have HBS := Lib.hid hbs
      have hBw := below_on hB5 hB (Nat.le_refl _)
      clear hdv e1 hpl hbs
      by_cases hre : rest = []
      · subst hre
        have hLl : L.length = rs.length := by
          have h := congrArg List.length HL.out
          rw [List.length_map, HG6.out, if_pos rfl, List.append_nil] at h
          exact h
        have hq : ((L.length : Int) == (rs.length : Int)) = true := by simp [hLl]
        have HB := Lib.hid hBw
        clear hBw hB hB5 S3 S4 R5 hown hLl
        cases pl
        · go_wp2_with fail
          refine (HA.out _).mono ?_
          rintro e w6 ⟨rfl, hb6⟩
          have HR := Lib.hid (below_on HB.out hb6 (Nat.le_refl _))
          clear hb6
          go_wp2_with fail
          go_ret
          exact ⟨rfl, HR.out⟩
        · have e := HBS.out rfl
          subst e
          go_wp2_with fail
          refine (HA.out _).mono ?_
          rintro e w6 ⟨rfl, hb6⟩
          have HR := Lib.hid (below_on HB.out hb6 (Nat.le_refl _))
          clear hb6
          go_wp2_with fail
          go_ret
          exact ⟨rfl, HR.out⟩
      · have hLl : L.length = rs.length + 1 := by
          have h := congrArg List.length HL.out
          rw [List.length_map, HG6.out, if_neg hre, List.length_append] at h
          exact h
        have hls : rs.length < L.length := by omega
        have hLr : L[rs.length].r = ⟨rest, 2, (s.length : Int)⟩ := by
          have h : (L.map (·.r))[rs.length]? = some ⟨rest, 2, (s.length : Int)⟩ := by rw [HL.out, HG6.out, if_neg hre, List.getElem?_append_right (Nat.le_refl _)]; simp
          rw [List.getElem?_map, List.getElem?_eq_getElem hls] at h
          simpa using h
        obtain ⟨b2, o2, rfl, hb2, d0, d1, d2⟩ := sl_rc (S4.below hB (Nat.le_refl _)) hls
        have hRx := (R5 L[rs.length] (List.getElem_mem hls)).below hB (Nat.le_refl _)
        rw [hLr] at d0 d1 d2 hRx
        generalize L[rs.length].A = xA at *
        generalize L[rs.length].cap = xc at *
        simp only at d0 d1 d2 hRx
        have hown' := hown.sl
        have HSm := Lib.hid (fun W (hW : Below wr.heap.size wr W) => SameTokens_any xA Ar xc cr wr.heap.size rest rest W ((hRx.below hW hsz).more hsz) (hown'.below hW (Nat.le_refl _)) (by omega) (by omega))
        rw [decide_eq_true rfl] at HSm
        have hq : ((L.length : Int) == (rs.length : Int) + 1) = true := by simp [hLl]
        have hr0 : 0 < rest.length := List.length_pos_iff.2 hre
        have hrq : ((rest.length : Int) == 0) = false := by simp; omega
        have hlz : (rs.length : Int) < L.length := by omega
        have HB := Lib.hid hBw
        clear hBw hB hB5 S3 S4 R5 hown hown' hLl hLr hRx hb2
        cases pl
        · go_wp2_with fail
          refine (HSm.out _ (Below.refl _ _)).mono ?_
          rintro e w6 ⟨rfl, hb6⟩
          have HB6 := Lib.hid (below_on HB.out hb6 (Nat.le_refl _))
          clear hb6
          go_wp2_with fail
          refine (HA.out _).mono ?_
          rintro e w7 ⟨rfl, hb7⟩
          have HR := Lib.hid (below_on HB6.out hb7 (Nat.le_refl _))
          clear hb7
          go_wp2_with fail
          go_ret
          exact ⟨rfl, HR.out⟩
        · have e := HBS.out rfl
          subst e
          go_wp2_with fail
          refine (HSm.out _ (Below.refl _ _)).mono ?_
          rintro e w6 ⟨rfl, hb6⟩
          have HB6 := Lib.hid (below_on HB.out hb6 (Nat.le_refl _))
          clear hb6
          go_wp2_with fail
          refine (HA.out _).mono ?_
          rintro e w7 ⟨rfl, hb7⟩
          have HR := Lib.hid (below_on HB6.out hb7 (Nat.le_refl _))
          clear hb7
          go_wp2_with fail
          go_ret
          exact ⟨rfl, HR.out⟩
end Go.Proofs.Ytdndomjmnlpjgaa
