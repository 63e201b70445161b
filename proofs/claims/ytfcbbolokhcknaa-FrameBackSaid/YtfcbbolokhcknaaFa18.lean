/- The reference's Chunk. -/
import Derived.Test.YtfcbbolokhcknaaFa17
namespace Go.Proofs.Ytfcbbolokhcknaa
open Go.RowKit
theorem results_tmp4 {fn : Func} {t u v x : Tmp} (h : fn.results = #[.tmp t, .tmp u, .tmp v, .tmp x]) (tmps : Array Value) (P : Program) (w : World) :
    (results fn tmps).run P w = .ok (.tuple #[tmps.getD t undef, tmps.getD u undef, tmps.getD v undef, tmps.getD x undef]) w := by
  simp [results, h]
theorem ref_step (m : Nat) (f str : List UInt8) (hg : okG m f) (h1 : 1 ≤ m) (h8 : m ≤ 8) (hl : str.length ≤ 1000) (k : Nat) (hk : k < str.length) (p : List UInt8) (ts : List Tok) (a : Nat) (h : stC m f ((ibs 0 str).take k) = ⟨p, ts, a, k, 0⟩) :
    ts.length ≤ k ∧ a ≤ 1000 ∧
    ((∃ er : Int, er ≠ 0 ∧ stC m f (ibs 0 str) = ⟨[], ts, a, k, er⟩ ∧ ∀ W, Calls Try.prog 14 #[.int .i64 m, .string ⟨p.toArray⟩, .int .u8 str[k].toNat] W fun e w' => e = .returned (.tuple #[.string ⟨#[]⟩, tok0.v, .bool false, .int .i64 er]) ∧ Below W.heap.size W w') ∨
     (∃ (sy : Int) (x : List UInt8), stC m f ((ibs 0 str).take (k + 1)) = ⟨[], ts ++ [⟨sy, x, a⟩], k + 1, k + 1, 0⟩ ∧ ∀ W, Calls Try.prog 14 #[.int .i64 m, .string ⟨p.toArray⟩, .int .u8 str[k].toNat] W fun e w' => e = .returned (.tuple #[.string ⟨#[]⟩, (Tok.mk sy x 0).v, .bool true, .int .i64 0]) ∧ Below W.heap.size W w') ∨
     (∃ p' : List UInt8, stC m f ((ibs 0 str).take (k + 1)) = ⟨p', ts, a, k + 1, 0⟩ ∧ ∀ W, Calls Try.prog 14 #[.int .i64 m, .string ⟨p.toArray⟩, .int .u8 str[k].toNat] W fun e w' => e = .returned (.tuple #[.string ⟨p'.toArray⟩, tok0.v, .bool false, .int .i64 0]) ∧ Below W.heap.size W w')) := by
  have hi := stC_inv m f hg ((ibs 0 str).take k)
  rw [h] at hi
  obtain ⟨g1, g2, g3, _⟩ := hi
  have hlen := (okG_len m p g1).1
  have hib := ibs_len 0 str (by omega)
  rw [List.length_take, hib] at g2
  have hT := fun W => refTake_any (m : Int) p str[k].toNat W (by omega) str[k].toNat_lt
  have hs := ibs_take 0 k str hk (by omega)
  have hst := stC_snoc m f ((ibs 0 str).take k) ⟨(0 + k, str[k]), by omega⟩
  rw [hs, h] at hst
  have hc := take_cases (m : Int) p str[k].toNat
  have eb : UInt8.ofNat str[k].toNat = str[k] := UInt8.ofNat_toNat
  rw [eb] at hc
  have hE : partE (m : Int) p = 0 := by
    unfold partE rangedB
    rw [if_neg (by simp; omega)]
    exact if_pos g1
  refine ⟨by simp only at g2; omega, g3, ?_⟩
  rcases hc with ⟨h0, _⟩ | ⟨m', e, _, _, _, _, _, hb, t1, t2, t3, t4⟩ | ⟨m', e, _, _, _, _, _, hb, hw, t1, t2, t3, t4⟩ | ⟨m', e, _, _, _, _, _, hb, hw, t1, t2, t3, t4⟩
  · exact absurd hE h0
  · obtain rfl : m = m' := by omega
    refine .inl ⟨_, hb, ?_, fun W => by have := hT W; rw [t1, t2, t3, t4] at this; exact this⟩
    have e2 : stepC m ⟨p, ts, a, k, 0⟩ ⟨(0 + k, str[k]), by omega⟩ = ⟨[], ts, a, k, badN m p.length str[k].toNat⟩ := by
      unfold stepC
      rw [if_neg (by simp)]
      exact if_pos hb
    rw [e2] at hst
    have e3 := stC_stop m f ((ibs 0 str).take (k + 1)) ((ibs 0 str).drop (k + 1)) (by rw [hst]; exact hb)
    rw [List.take_append_drop, hst] at e3
    exact e3
  · obtain rfl : m = m' := by omega
    refine .inr (.inr ⟨p ++ [str[k]], ?_, fun W => by have := hT W; rw [t1, t2, t3, t4] at this; exact this⟩)
    rw [hst]
    unfold stepC
    rw [if_neg (by simp)]
    simp only [hb, hw]
    simp
  · obtain rfl : m = m' := by omega
    refine .inr (.inl ⟨_, _, ?_, fun W => by have := hT W; rw [t1, t2, t3, t4] at this; exact this⟩)
    rw [hst]
    unfold stepC
    rw [if_neg (by simp)]
    simp only [hb, hw]
    simp
set_option maxRecDepth 100000 in
set_option maxHeartbeats 6400000 in
theorem refChunk_ok (m : Nat) (f str : List UInt8) (w : World) (h1 : 1 ≤ m) (h8 : m ≤ 8) (hg : okG m f) (hl : str.length ≤ 1000) :
    Calls Try.prog 22 #[.int .i64 m, .string ⟨f.toArray⟩, .string ⟨str.toArray⟩] w fun e w' => (∃ A cap, e = .returned (.tuple #[.string ⟨(stC m f (ibs 0 str)).p.toArray⟩, .slice A (stC m f (ibs 0 str)).l.length cap, .int .i64 (stC m f (ibs 0 str)).used, .int .i64 (stC m f (ibs 0 str)).err]) ∧
      Sl w' w'.heap.size 3 A (stC m f (ibs 0 str)).l.length cap (tokC (stC m f (ibs 0 str)).l)) ∧ Below w.heap.size w w' := by
  obtain ⟨i0, hi0, hz0, hz1, hz2⟩ := info_parts infoT
  have hE : partE (m : Int) f = 0 := by
    unfold partE rangedB
    rw [if_neg (by simp; omega)]
    exact if_pos hg
  have HC := fun W => refcheck_any (m : Int) f W (by have := (okG_len m f hg).1; omega)
  rw [hE] at HC
  have HC' := Lib.hid HC
  have HS := Lib.hid (fun k hk p ts a h => ref_step m f str hg h1 h8 hl k hk p ts a h)
  have hil := ibs_len 0 str (by omega)
  have HL := Lib.hid (show (ibs 0 str).take str.length = ibs 0 str from List.take_of_length_le (by omega))
  obtain ⟨Rp, Rl, Ra, Ru, Re, hR⟩ : ∃ a b c d e, stC m f (ibs 0 str) = ⟨a, b, c, d, e⟩ := ⟨_, _, _, _, _, rfl⟩
  rw [hR]
  have HR := Lib.hid hR
  clear HC hE hil hg hR
  go_enter Try.func22, Try.ntmps22
  go_wp2_with (go_at_call 31; refine (HC'.out _).mono ?_; rintro e w1 ⟨rfl, rfl⟩)
  clear HC'
  go_loopw [1, 11, 12, 13] (fun part ls bg i W => ∃ (k : Nat) (p : List UInt8) (ts : List Tok) (a : Nat) (A2 : Option Addr) (cap2 : Nat), k ≤ str.length ∧ stC m f ((ibs 0 str).take k) = ⟨p, ts, a, k, 0⟩ ∧ part = .string ⟨p.toArray⟩ ∧ ls = .slice A2 ts.length cap2 ∧ bg = .int .i64 a ∧ i = .int .i64 k ∧ Own W w.heap.size 29 3 A2 ts.length cap2 (tokC ts) ∧ Below w.heap.size w W) (fun _ _ _ i _ => str.length - (intOf i).toNat)
  case atStart => exact ⟨0, f, [], 0, none, 0, Nat.zero_le _, rfl, rfl, rfl, rfl, rfl, Own.nil _ _ _ _, Below.refl _ _⟩
  case round =>
    obtain ⟨k, p, ts, a, A2, cap2, hk, hst, rfl, rfl, rfl, rfl, hown, hB⟩ := hrel
    by_cases hlt : k < str.length
    · obtain ⟨hts, ha, hc⟩ := HS.out k hlt p ts a hst
      clear hst
      rcases hc with ⟨er, her, heq, HT⟩ | ⟨sy, x, heq, HT⟩ | ⟨p', heq, HT⟩
      · rw [HR.out] at heq
        obtain ⟨rfl, rfl, rfl, rfl, rfl⟩ := CS.mk.inj heq
        have HT' := Lib.hid HT
        have hz : (Re == 0) = false := by rw [beq_eq_false_iff_ne]; exact her
        clear HT heq HS HL HR her
        go_wp2_with fail
        refine (HT'.out _).mono ?_
        rintro e w3 ⟨rfl, hb3⟩
        unfold tok0 Tok.v
        have hB3 := below_on hB hb3 (Nat.le_refl _)
        have hS3 := (hown.below hb3 (Nat.le_refl _)).alloc (.cells #[.int .i64 0, .string ⟨#[]⟩, .int .i64 0] 29)
        have hBa := hB3.alloc hB3.size (.cells #[.int .i64 0, .string ⟨#[]⟩, .int .i64 0] 29)
        clear hown hB hb3
        go_wp2_with fail
        ((try simp only [Exit.inBlock, Exit.then]); refine bodyPost_ret (results_tmp4 rfl _ _ _) rfl ?_)
        exact ⟨⟨A2, cap2, rfl, hS3.sl⟩, hBa⟩
      · have HT' := Lib.hid HT
        have HE := Lib.hid heq
        clear HT heq HS HL HR
        go_wp2_with fail
        refine (HT'.out _).mono ?_
        rintro e w3 ⟨rfl, hb3⟩
        unfold Tok.v
        have hB3 := below_on hB hb3 (Nat.le_refl _)
        have hown3 := (hown.below hb3 (Nat.le_refl _)).alloc (.cells #[.int .i64 sy, .string ⟨x.toArray⟩, .int .i64 a] 29)
        have hBa := hB3.alloc hB3.size (.cells #[.int .i64 sy, .string ⟨x.toArray⟩, .int .i64 a] 29)
        have hsz3 := hBa.size
        clear hown hB hb3 hB3
        go_wp2_with (at_builtin; refine wpList_append_new rfl _ _ _ rfl w.heap.size 29 i0 _ 3 32 Try.underlying33 hi0 hz0 hz1 hz2 rfl (by decide) rfl hown3 #[.int .i64 sy, .string ⟨x.toArray⟩, .int .i64 a] (by rw [World.size_alloc]; rfl) rfl (by simp [Value.oneCell']) (by simp only [maxLen]; omega) (by omega) hsz3 ?_; intro A4 cap4 W4 hown4 hg4 hat4)
        go_roundw
        case rel =>
          refine ⟨k + 1, [], ts ++ [⟨sy, x, a⟩], k + 1, A4, cap4, by omega, HE.out, rfl, by rw [List.length_append]; rfl, by go_num, by go_num, ?_, grown_below hBa hown3 hg4 hsz3⟩
          rw [List.length_append, tokC_append]
          exact hown4
        case measure => simp [intOf]; omega
      · have HT' := Lib.hid HT
        have HE := Lib.hid heq
        clear HT heq HS HL HR
        go_wp2_with fail
        refine (HT'.out _).mono ?_
        rintro e w3 ⟨rfl, hb3⟩
        unfold tok0 Tok.v
        have hB3 := below_on hB hb3 (Nat.le_refl _)
        have hS3 := (hown.below hb3 (Nat.le_refl _)).alloc (.cells #[.int .i64 0, .string ⟨#[]⟩, .int .i64 0] 29)
        have hBa := hB3.alloc hB3.size (.cells #[.int .i64 0, .string ⟨#[]⟩, .int .i64 0] 29)
        clear hown hB hb3
        go_wp2_with fail
        go_roundw
        case rel => exact ⟨k + 1, p', ts, a, A2, cap2, by omega, HE.out, rfl, rfl, rfl, by go_num, hS3, hBa⟩
        case measure => simp [intOf]; omega
    · obtain rfl : k = str.length := by omega
      rw [HL.out, HR.out] at hst
      obtain ⟨rfl, rfl, rfl, rfl, rfl⟩ := CS.mk.inj hst
      clear hst HS HL HR
      go_wp2_with fail
      ((try simp only [Exit.inBlock, Exit.then]); refine bodyPost_ret (results_tmp4 rfl _ _ _) rfl ?_)
      exact ⟨⟨A2, cap2, rfl, hown.sl⟩, hB⟩
end Go.Proofs.Ytfcbbolokhcknaa
