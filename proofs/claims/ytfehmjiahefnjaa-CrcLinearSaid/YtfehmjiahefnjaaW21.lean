/- The walk of the law CrcLinear. -/
import Derived.Test.YtfehmjiahefnjaaW20
import Derived.Test.YtfehmjiahefnjaaMath2
namespace Go.Proofs.Ytfehmjiahefnjaa
open Go.RowKit
set_option maxHeartbeats 3200000 in
theorem CrcLinear_far (a b c : List UInt8) (w : World) (ha : a.length ≤ maxLen) (hb : b.length ≤ maxLen) (hc : c.length ≤ maxLen) (h : 100 < a.length ∨ 100 < b.length ∨ 100 < c.length) :
    Calls Try.prog 7 #[.string ⟨a.toArray⟩, .string ⟨b.toArray⟩, .string ⟨c.toArray⟩] w fun e w' => e = .returned (.bool true) ∧ Below w.heap.size w w' := by
  unfold maxLen at ha hb hc
  rcases (by omega : 100 < a.length ∨ (a.length ≤ 100 ∧ 100 < b.length) ∨ (a.length ≤ 100 ∧ b.length ≤ 100 ∧ 100 < c.length)) with h | h | h
  all_goals
    go_enter Try.func7, Try.ntmps7
    go_wp2_with (go_at_call 5; refine (CrcKnown_any _).mono ?_; rintro e w1 ⟨rfl, hb1⟩)
    go_ret
    exact ⟨rfl, hb1⟩
theorem endc_addc3 (a b c : List UInt8) (hb : a.length = b.length) (hc : a.length = c.length) : crcL (xorl (xorl a b) c) = crcL a ^^^ crcL b ^^^ crcL c := by
  unfold crcL
  obtain ⟨k, hk, e⟩ : ∃ k, (∀ c, endc c = k ^^^ c) ∧ k = 4294967295 := ⟨4294967295, fun _ => rfl, rfl⟩
  rw [hk, hk, hk, hk, ← e]
  clear e hk
  have h1 := addc_xor a b hb k k
  have h2 := addc_xor (xorl a b) c (by rw [xorl_len a b hb]; exact hc) (k ^^^ k) k
  rw [h1, Nat.xor_self, Nat.zero_xor] at h2
  rw [h2]
  generalize addc k a = A
  generalize addc k b = B
  generalize addc k c = C
  rw [xor_cancel, ← Nat.xor_assoc (A ^^^ B), Nat.xor_comm (A ^^^ B) k, Nat.xor_assoc k]
theorem crcL_last4 (a b : List UInt8) (m : Nat) (ha : a.length = m + 4) (hb : b.length = m + 4) (h : crcL a = crcL (a.take m ++ b.drop m)) : a = a.take m ++ b.drop m := by
  unfold crcL at h
  obtain ⟨k, hk, e⟩ : ∃ k, (∀ c, endc c = k ^^^ c) ∧ k = 4294967295 := ⟨4294967295, fun _ => rfl, rfl⟩
  rw [hk, hk, ← e] at h
  have h2 : addc k a = addc k (a.take m ++ b.drop m) := by
    have := congrArg (k ^^^ ·) h
    simpa [xor_xor_self] using this
  rw [← List.take_append_drop m a] at h2
  have h3 := addc_last4 k (a.take m) (a.drop m) (b.drop m) (by simp [ha]) (by simp [hb]) (by simpa [ha] using h2)
  rw [← h3, List.take_append_drop]
set_option maxHeartbeats 3200000 in
theorem CrcLinear_near (a b c : List UInt8) (w : World) (ha : a.length ≤ 100) (hb : b.length ≤ 100) (hc : c.length ≤ 100) :
    Calls Try.prog 7 #[.string ⟨a.toArray⟩, .string ⟨b.toArray⟩, .string ⟨c.toArray⟩] w fun e w' => e = .returned (.bool true) ∧ Below w.heap.size w w' := by
  obtain ⟨n, hn⟩ : ∃ n : Nat, n = a.length ∧ n ≤ b.length ∧ n ≤ c.length ∨ n = b.length ∧ n < a.length ∧ n ≤ c.length ∨ n = c.length ∧ n < a.length ∧ n < b.length ∨ n = c.length ∧ n < a.length ∧ n < b.length := by
    rcases Nat.lt_or_ge b.length a.length with h | h <;> rcases Nat.lt_or_ge c.length (min a.length b.length) with h2 | h2
    · exact ⟨c.length, by omega⟩
    · exact ⟨b.length, by omega⟩
    · exact ⟨c.length, by omega⟩
    · exact ⟨a.length, by omega⟩
  have hna : n ≤ a.length := by omega
  have hnb : n ≤ b.length := by omega
  have hnc : n ≤ c.length := by omega
  have hn100 : n ≤ 100 := by omega
  have hla : (List.take n a).length = n := by rw [List.length_take]; omega
  have hlb : (List.take n b).length = n := by rw [List.length_take]; omega
  have hlc : (List.take n c).length = n := by rw [List.length_take]; omega
  have hJ1 := Lib.hid (fun W => joined_any (List.take n a) (List.take n b) W (by omega) (by omega))
  have hlj := xorl_len (List.take n a) (List.take n b) (by omega)
  have hJ2 := Lib.hid (fun W => joined_any (xorl (List.take n a) (List.take n b)) (List.take n c) W (by omega) (by omega))
  have hlj2 := xorl_len (xorl (List.take n a) (List.take n b)) (List.take n c) (by omega)
  have hO := Lib.hid (fun W => of_one (xorl (xorl (List.take n a) (List.take n b)) (List.take n c)) W (by omega))
  have hOa := Lib.hid (fun W => of_one (List.take n a) W (by omega))
  have hOb := Lib.hid (fun W => of_one (List.take n b) W (by omega))
  have hOc := Lib.hid (fun W => of_one (List.take n c) W (by omega))
  have hsum := endc_addc3 (List.take n a) (List.take n b) (List.take n c) (by omega) (by omega)
  have hxa := crcL_lt (List.take n a)
  have hxb := crcL_lt (List.take n b)
  have hxc := crcL_lt (List.take n c)
  have hx1 := u32_xor_nat (crcL (List.take n a)) (crcL (List.take n b)) hxa hxb
  have hx2 := u32_xor_nat (crcL (List.take n a) ^^^ crcL (List.take n b)) (crcL (List.take n c)) (Nat.xor_lt_two_pow hxa hxb) hxc
  rw [← hsum] at hx2
  clear hlj hlj2 hsum
  generalize xorl (xorl (List.take n a) (List.take n b)) (List.take n c) = j2 at *
  generalize xorl (List.take n a) (List.take n b) = j1 at *
  generalize crcL (List.take n a) ^^^ crcL (List.take n b) = x1 at *
  have hTT : List.take n (List.take n b) = List.take n b := by rw [List.take_take, Nat.min_self]
  have hL4 := fun (m : Nat) (hm : n = m + 4) => crcL_last4 (List.take n a) (List.take n b) m (by omega) (by omega)
  have hOd := fun (m : Nat) (hm : n = m + 4) W => of_one (List.take m (List.take n a) ++ List.drop m (List.take n b)) W (by rw [List.length_append, List.length_take, List.length_drop]; omega)
  rw [← hTT] at hL4 hOd
  clear hTT
  by_cases hn4 : n < 4
  · rcases (by omega : ((a.length : Int) = n ∧ n ≤ b.length) ∨ ((b.length : Int) = n ∧ n < a.length) ∨ ((c.length : Int) = n ∧ n < a.length ∧ a.length ≤ b.length) ∨ ((c.length : Int) = n ∧ n < b.length ∧ b.length < a.length)) with ⟨he, ho⟩ | ⟨he, ho⟩ | ⟨he, ho, ho2⟩ | ⟨he, ho, ho2⟩
    all_goals
      clear hL4 hOd hn
      go_enter Try.func7, Try.ntmps7
      go_wp2_with (go_at_call 5; refine (CrcKnown_any _).mono ?_; rintro e w1 ⟨rfl, hb1⟩)
      go_quiet (fail)
      have hbq : Below w.heap.size w (w1.drewN nq) := hb1.trans ⟨rfl, rfl, rfl, Nat.le_refl _, fun _ _ => rfl⟩
      generalize List.take n a = a2 at *
      generalize List.take n b = b2 at *
      generalize List.take n c = c2 at *
      generalize w1.drewN nq = w2 at *
      go_wp2_with fail
      refine (hJ1.out _).mono ?_
      rintro e w3 ⟨rfl, hb3⟩
      have hB3 := hbq.trans (hb3.mono hbq.size)
      go_wp2_with fail
      refine (hJ2.out _).mono ?_
      rintro e w4 ⟨rfl, hb4⟩
      have hB4 := hB3.trans (hb4.mono hB3.size)
      go_wp2_with fail
      refine (hO.out w4).mono ?_
      rintro e w5 ⟨rfl, hb5⟩
      have hB5 := hB4.trans (hb5.mono hB4.size)
      go_wp2_with fail
      refine (hOa.out w5).mono ?_
      rintro e w6 ⟨rfl, hb6⟩
      have hB6 := hB5.trans (hb6.mono hB5.size)
      go_wp2_with fail
      refine (hOb.out w6).mono ?_
      rintro e w7 ⟨rfl, hb7⟩
      have hB7 := hB6.trans (hb7.mono hB6.size)
      go_wp2_with fail
      refine (hOc.out w7).mono ?_
      rintro e w8 ⟨rfl, hb8⟩
      have hB8 := hB7.trans (hb8.mono hB7.size)
      go_wp2_with fail
      go_ret
      exact ⟨rfl, hB8⟩
  · obtain ⟨m, hm⟩ : ∃ m, n = m + 4 := ⟨n - 4, by omega⟩
    have hm1 : (n : Int) - 4 = m := by omega
    have hm4 : 4 ≤ n := by omega
    have HOd := Lib.hid (hOd m hm)
    have HL4 := Lib.hid (hL4 m hm)
    clear hm hn4 hOd hL4
    rcases (by omega : ((a.length : Int) = n ∧ n ≤ b.length) ∨ ((b.length : Int) = n ∧ n < a.length) ∨ ((c.length : Int) = n ∧ n < a.length ∧ a.length ≤ b.length) ∨ ((c.length : Int) = n ∧ n < b.length ∧ b.length < a.length)) with ⟨he, ho⟩ | ⟨he, ho⟩ | ⟨he, ho, ho2⟩ | ⟨he, ho, ho2⟩
    all_goals
      clear hn
      go_enter Try.func7, Try.ntmps7
      go_wp2_with (go_at_call 5; refine (CrcKnown_any _).mono ?_; rintro e w1 ⟨rfl, hb1⟩)
      go_quiet (fail)
      have hbq : Below w.heap.size w (w1.drewN nq) := hb1.trans ⟨rfl, rfl, rfl, Nat.le_refl _, fun _ _ => rfl⟩
      generalize List.take n a = a2 at *
      generalize List.take n b = b2 at *
      generalize List.take n c = c2 at *
      generalize w1.drewN nq = w2 at *
      go_wp2_with fail
      refine (hJ1.out _).mono ?_
      rintro e w3 ⟨rfl, hb3⟩
      have hB3 := hbq.trans (hb3.mono hbq.size)
      go_wp2_with fail
      refine (hJ2.out _).mono ?_
      rintro e w4 ⟨rfl, hb4⟩
      have hB4 := hB3.trans (hb4.mono hB3.size)
      go_wp2_with fail
      refine (hO.out w4).mono ?_
      rintro e w5 ⟨rfl, hb5⟩
      have hB5 := hB4.trans (hb5.mono hB4.size)
      go_wp2_with fail
      refine (hOa.out w5).mono ?_
      rintro e w6 ⟨rfl, hb6⟩
      have hB6 := hB5.trans (hb6.mono hB5.size)
      go_wp2_with fail
      refine (hOb.out w6).mono ?_
      rintro e w7 ⟨rfl, hb7⟩
      have hB7 := hB6.trans (hb7.mono hB6.size)
      go_wp2_with fail
      refine (hOc.out w7).mono ?_
      rintro e w8 ⟨rfl, hb8⟩
      have hB8 := hB7.trans (hb8.mono hB7.size)
      go_wp2_with fail
      go_quiet (fail)
      have hB9 : Below w.heap.size w (w8.drewN nq) := hB8.trans ⟨rfl, rfl, rfl, Nat.le_refl _, fun _ _ => rfl⟩
      generalize List.take m a2 ++ List.drop m (List.take n b2) = d at *
      generalize w8.drewN nq = w9 at *
      by_cases hed : a2 = d
      · subst hed
        go_wp2_with fail
        refine (hOa.out w9).mono ?_
        rintro e w10 ⟨rfl, hb10⟩
        have hB10 := hB9.trans (hb10.mono hB9.size)
        go_wp2_with fail
        refine (hOa.out w10).mono ?_
        rintro e w11 ⟨rfl, hb11⟩
        have hB11 := hB10.trans (hb11.mono hB10.size)
        go_wp2_with fail
        go_ret
        exact ⟨rfl, hB11⟩
      · have hne : crcL a2 ≠ crcL d := fun h => hed (HL4.out h)
        generalize crcL a2 = ca at *
        generalize crcL d = cd at *
        go_wp2_with fail
        refine (hOa.out w9).mono ?_
        rintro e w10 ⟨rfl, hb10⟩
        have hB10 := hB9.trans (hb10.mono hB9.size)
        go_wp2_with fail
        refine (HOd.out w10).mono ?_
        rintro e w11 ⟨rfl, hb11⟩
        have hB11 := hB10.trans (hb11.mono hB10.size)
        go_wp2_with fail
        go_ret
        refine ⟨?_, hB11⟩
        show Ending.returned (.bool (((ca : Int) == (cd : Int)) == (a2 == d))) = _
        rw [beq_eq_false_iff_ne.2 (show (ca : Int) ≠ cd by omega), beq_eq_false_iff_ne.2 hed]
        rfl
theorem CrcLinear_any (a b c : List UInt8) (w : World) (ha : a.length ≤ maxLen) (hb : b.length ≤ maxLen) (hc : c.length ≤ maxLen) :
    Calls Try.prog 7 #[.string ⟨a.toArray⟩, .string ⟨b.toArray⟩, .string ⟨c.toArray⟩] w fun e w' => e = .returned (.bool true) ∧ Below w.heap.size w w' := by
  by_cases h : 100 < a.length ∨ 100 < b.length ∨ 100 < c.length
  · exact CrcLinear_far a b c w ha hb hc h
  · exact CrcLinear_near a b c w (by omega) (by omega) (by omega)
end Go.Proofs.Ytfehmjiahefnjaa
