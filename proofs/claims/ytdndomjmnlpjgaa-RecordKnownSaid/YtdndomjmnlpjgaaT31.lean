/- Slices of tokens: the reference's List; OwnTokens. -/
import Derived.Test.YtdndomjmnlpjgaaT27
namespace Go.Proofs.Ytdndomjmnlpjgaa
open Go.RowKit
theorem listE_short (l : List Tok) (n : Int) (h : ¬ 1000 < l.length) : listE l n = listE1 l n := if_neg h
theorem listL_short (l : List Tok) (n : Int) (h : ¬ 1000 < l.length) (he : listE1 l n = 0) : listL l n = (l.map (fun t => bytesL t n)).flatten := if_pos (by rw [listE_short l n h]; exact he)
theorem listL_bad (l : List Tok) (n : Int) (h : listE l n ≠ 0) : listL l n = [] := if_neg h
set_option maxRecDepth 100000 in
set_option maxHeartbeats 1600000 in
theorem refList_any (A : Option Addr) (cap D : Nat) (l : List Tok) (n : Int) (w : World) (hS : Sl w D 3 A l.length cap (tokC l)) (hD : D ≤ w.heap.size) (hn : l.length ≤ 2000) (hl : ∀ t ∈ l, t.text.length ≤ 10000) :
    Calls Try.prog 46 #[.slice A l.length cap, .int .i64 n] w fun e w' => e = .returned (.tuple #[.string ⟨(listL l n).toArray⟩, .int .i64 (listE l n)]) ∧ Below w.heap.size w w' := by
  by_cases hlong : 1000 < l.length
  · rw [listL_bad l n (by unfold listE; rw [if_pos hlong]; decide), show listE l n = 6 from if_pos hlong]
    go_enter Try.func46, Try.ntmps46
    go_wp2
    go_ret2
    exact ⟨rfl, Below.refl _ _⟩
  · have hE := listE_short l n hlong
    have hE1 : listE1 l n = 0 → listL l n = (l.map (fun t => bytesL t n)).flatten := listL_short l n hlong
    have hE2 : listE1 l n ≠ 0 → listL l n = [] := fun h => listL_bad l n (by rw [hE]; exact h)
    rw [hE]
    obtain ⟨RL, hRL⟩ : ∃ R, listL l n = R := ⟨_, rfl⟩
    obtain ⟨RE, hRE⟩ : ∃ R, listE1 l n = R := ⟨_, rfl⟩
    rw [hRL, hRE]
    rw [hRL, hRE] at hE1 hE2
    have HE1 := Lib.hid hE1
    have HE2 := Lib.hid hE2
    clear hE hE1 hE2 hRL
    go_enter Try.func46, Try.ntmps46
    go_wp2_with fail
    go_loopw [6, 7] (fun out i W => ∃ k : Nat, k ≤ l.length ∧ i = .int .i64 k ∧ out = .string ⟨(((l.map (fun t => bytesL t n)).take k).flatten).toArray⟩ ∧ RE = listE1 (l.drop k) n ∧ Below w.heap.size w W) (fun _ i _ => l.length - (intOf i).toNat)
    case atStart => exact ⟨0, Nat.zero_le _, rfl, rfl, hRE.symm, Below.refl _ _⟩
    case round =>
      obtain ⟨k, hk, rfl, rfl, heq, hB⟩ := hrel
      clear hRE
      by_cases hlt : k < l.length
      · obtain ⟨b, o, rfl, hb, c0, c1, c2⟩ := sl_tok (hS.below hB hD) hlt
        rw [listE1_drop l n k hlt] at heq
        have htl := hl l[k] (List.getElem_mem hlt)
        have hsn : ((l.map (fun t => bytesL t n)).take (k + 1)).flatten = ((l.map (fun t => bytesL t n)).take k).flatten ++ bytesL l[k] n := by
          rw [take_snoc _ k (by simpa using hlt), List.flatten_append]
          simp
        have hfl := flat_len (N := 10002) ((l.map (fun t => bytesL t n)).take k) (fun x hx => by
          obtain ⟨t, ht, rfl⟩ := List.mem_map.1 (List.mem_of_mem_take hx)
          exact bytesL_len t n 10000 (hl t ht))
        have hfl2 : ((l.map (fun t => bytesL t n)).take k).length ≤ 2000 := by rw [List.length_take, List.length_map]; omega
        have hbl := bytesL_len l[k] n 10000 htl
        have HBy := fun W => refBytes_any l[k] n W htl
        generalize hF0 : ((l.map (fun t => bytesL t n)).take k).flatten = F0 at *
        have hF : F0.length ≤ 30000000 := by
          have : ((l.map (fun t => bytesL t n)).take k).length * 10002 ≤ 2000 * 10002 := Nat.mul_le_mul_right _ hfl2
          omega
        generalize bytesL l[k] n = L at *
        generalize l[k] = t at *
        obtain ⟨sy, x, a⟩ := t
        unfold Tok.v at HBy
        simp only at *
        generalize checkE ⟨sy, x, a⟩ n = ce at *
        have HBy' := Lib.hid HBy
        have HN := Lib.hid hsn
        have HB := Lib.hid hB
        have hlen : F0.length + L.length ≤ 9223372036854775807 := by omega
        clear HBy hsn hB hl hfl hfl2 hbl hF hF0
        by_cases hce : ce = 0
        · rw [if_pos hce] at heq
          subst hce
          have HQ := Lib.hid heq
          clear heq
          go_wp2_with fail
          refine (HBy'.out _).mono ?_
          rintro e w3 ⟨rfl, hb3⟩
          go_wp2_with fail
          go_roundw
          case rel => exact ⟨k + 1, by omega, by go_num, by rw [HN.out], HQ.out, below_on HB.out hb3 (Nat.le_refl _)⟩
          case measure => simp [intOf]; omega
        · rw [if_neg hce] at heq
          subst heq
          have hR := HE2.out hce
          subst hR
          go_wp2_with fail
          refine (HBy'.out _).mono ?_
          rintro e w3 ⟨rfl, hb3⟩
          go_wp2_with fail
          go_ret2
          exact ⟨rfl, below_on HB.out hb3 (Nat.le_refl _)⟩
      · obtain rfl : k = l.length := by omega
        rw [List.drop_length] at heq
        have heq' : RE = 0 := heq
        have hR := HE1.out heq'
        rw [List.take_of_length_le (by simp)]
        obtain ⟨L, hL⟩ : ∃ L, (l.map (fun t => bytesL t n)).flatten = L := ⟨_, rfl⟩
        rw [hL] at hR ⊢
        clear HE1 HE2 heq hL
        subst heq' hR
        go_wp2_with fail
        go_ret2
        exact ⟨rfl, hB⟩
end Go.Proofs.Ytdndomjmnlpjgaa
