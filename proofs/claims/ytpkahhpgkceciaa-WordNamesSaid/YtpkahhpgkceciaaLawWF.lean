/- Laws of words: WordShifts. -/
import Derived.Test.YtpkahhpgkceciaaLawWD
namespace Go.Proofs.Ytpkahhpgkceciaa
open Go.RowKit
set_option maxHeartbeats 400000

/-- A power of two, as a word of 64 bits. -/
theorem pow_word (b : Nat) (h : b < 64) : ∃ p : Nat, IntKind.u64.wrap (2 ^ b) = (p : Int) ∧ p ≤ 18446744073709551615 ∧ Hid (p = 2 ^ b) := by
  have hl : 2 ^ b < 18446744073709551616 := by
    have := Nat.pow_lt_pow_right (a := 2) (by decide) h; simpa using this
  refine ⟨2 ^ b, ?_, by omega, rfl⟩
  have e : (2 : Int) ^ b = ((2 ^ b : Nat) : Int) := by simp
  rw [e, wrap_u64_nat, Nat.mod_eq_of_lt hl]
theorem wordShifts_walk (Wi x y : Int) (hW0 : 0 ≤ Wi) (hW1 : Wi ≤ 255) (hx0 : 0 ≤ x) (hx1 : x ≤ 18446744073709551615) (hy0 : 0 ≤ y) (hy1 : y ≤ 18446744073709551615) (w : World) :
    Calls Try.prog 13 #[.int .u8 Wi, .int .u64 x, .int .u64 y] w fun e w' => e = .returned (.bool true) ∧ Below w.heap.size w w' := by
  go_enter Try.func13, Try.ntmps13
  go_wp2_with fail
  refine (with_any _ hW0 hW1 _).mono ?_
  rintro e w0 ⟨rfl, hcs0, -⟩
  obtain ⟨W, hW⟩ : ∃ W, 1 + Wi.toNat % 64 = W := ⟨_, rfl⟩
  rw [hW] at hcs0
  have h1 : 1 ≤ W := by omega
  have h2 : W ≤ 64 := by omega
  clear hW
  obtain ⟨cb, hcb⟩ : ∃ cb, w.heap.size = cb := ⟨_, rfl⟩
  rw [hcb] at hcs0
  go_wp2_with fail
  refine (ctrim_any w cb W h1 h2 _ (by omega) (by omega) _ hcs0).mono ?_
  rintro e w1 ⟨r1, rfl, hr1, er1, hcs1⟩
  go_wp2_with fail
  refine (of2 w cb W h1 h2 _ _ _ (by omega) (by omega) (by omega) (by omega) (by omega) (by omega) _ hcs1).mono ?_
  rintro e w2 ⟨r2, rfl, hr2, er2, hcs2⟩
  have e1 := er1.out
  have e2 := er2.out
  rw [wN2] at e2
  have E1 := Lib.hid e1
  have hs : r2 = b01 (decide (2 ^ (W - 1) ≤ x.toNat % 2 ^ W)) := by rw [e2]; exact m_slt0 W _ h1
  clear e1 e2
  by_cases hc : 2 ^ (W - 1) ≤ x.toNat % 2 ^ W
  · have hr : r2 = 1 := by rw [hs, decide_eq_true hc]; rfl
    subst hr
    have Hc := Lib.hid hc; clear hc hs
    go_wp2_with fail
    refine (ctrim_any w cb W h1 h2 _ (by omega) (by omega) _ hcs2).mono ?_
    rintro e w3 ⟨r3, rfl, hr3, er3, hcs3⟩
    have c3 := hcs3.c0
    have k3 := hcs3.c1
    by_cases hf : W ≤ r1
    · have hfd : decide ((W : Int) ≤ (r1 : Int)) = true := by rw [decide_eq_true_eq]; omega
      have Hf := Lib.hid (show W ≤ y.toNat % 2 ^ W by rw [← E1.out]; exact hf)
      go_wp2_with fail
      refine (of2 w cb W h1 h2 _ _ _ (by omega) (by omega) (by omega) (by omega) (by omega) (by omega) _ hcs3).mono ?_
      rintro e w4 ⟨r4, rfl, hr4, er4, hcs4⟩
      obtain rfl : r4 = 0 := by rw [er4.out, wN2]; exact m_shl_far W _ _ Hf.out
      go_wp2_with fail
      refine (of2 w cb W h1 h2 _ _ _ (by omega) (by omega) (by omega) (by omega) (by omega) (by omega) _ hcs4).mono ?_
      rintro e w5 ⟨r5, rfl, hr5, er5, hcs5⟩
      obtain rfl : r5 = 0 := by rw [er5.out, wN2]; exact m_shr_far W _ _ Hf.out
      go_wp2_with fail
      refine (of2 w cb W h1 h2 _ _ _ (by omega) (by omega) (by omega) (by omega) (by omega) (by omega) _ hcs5).mono ?_
      rintro e w6 ⟨r6, rfl, hr6, er6, hcs6⟩
      obtain rfl : r6 = r3 := by rw [er6.out, er3.out, wN2]; exact (m_sar_far W _ _ h2 Hf.out).trans (if_pos Hc.out)
      have k6 := hcs6.c1
      go_wp2_with (go_at_call 30; refine (known_cs _ _ _ _ hcs6).mono ?_; rintro e w7 ⟨rfl, hcs7⟩)
      go_ret
      exact ⟨rfl, hcs7.2.1⟩
    · have hfd : decide ((W : Int) ≤ (r1 : Int)) = false := by rw [decide_eq_false_iff_not]; omega
      have Hf := Lib.hid (show y.toNat % 2 ^ W < W by rw [← E1.out]; omega)
      obtain ⟨p, hp1, hp2, hp3⟩ := pow_word r1 (by omega)
      have hlt : r1 < W := by omega
      go_wp2_with fail
      refine (of2 w cb W h1 h2 _ _ _ (by omega) (by omega) (by omega) (by omega) (by omega) (by omega) _ hcs3).mono ?_
      rintro e w4 ⟨r4, rfl, hr4, er4, hcs4⟩
      go_wp2_with fail
      refine (of1 w cb W h1 h2 _ _ (by omega) (by omega) (by omega) _ hcs4).mono ?_
      rintro e w5 ⟨r5, rfl, hr5, er5, hcs5⟩
      go_wp2_with fail
      refine (of2 w cb W h1 h2 _ _ _ (by omega) (by omega) (by omega) (by omega) (by omega) (by omega) _ hcs5).mono ?_
      rintro e w6 ⟨r6, rfl, hr6, er6, hcs6⟩
      go_wp2_with fail
      refine (of1 w cb W h1 h2 _ _ (by omega) (by omega) (by omega) _ hcs6).mono ?_
      rintro e w7 ⟨r7, rfl, hr7, er7, hcs7⟩
      go_wp2_with fail
      refine (of2 w cb W h1 h2 _ _ _ (by omega) (by omega) (by omega) (by omega) (by omega) (by omega) _ hcs7).mono ?_
      rintro e w8 ⟨r8, rfl, hr8, er8, hcs8⟩
      go_wp2_with fail
      refine (of2 w cb W h1 h2 _ _ _ (by omega) (by omega) (by omega) (by omega) (by omega) (by omega) _ hcs8).mono ?_
      rintro e w9 ⟨r9, rfl, hr9, er9, hcs9⟩
      obtain rfl : r8 = r9 := by rw [er8.out, er9.out, wN2, wN2]; simp only [Int.toNat_natCast]; rw [hp3.out, E1.out]; exact m_shl_mul W _ _ Hf.out
      go_wp2_with fail
      refine (of2 w cb W h1 h2 _ _ _ (by omega) (by omega) (by omega) (by omega) (by omega) (by omega) _ hcs9).mono ?_
      rintro e w10 ⟨r10, rfl, hr10, er10, hcs10⟩
      go_wp2_with fail
      refine (of2 w cb W h1 h2 _ _ _ (by omega) (by omega) (by omega) (by omega) (by omega) (by omega) _ hcs10).mono ?_
      rintro e w11 ⟨r11, rfl, hr11, er11, hcs11⟩
      obtain rfl : r10 = r11 := by rw [er10.out, er11.out, wN2, wN2]; simp only [Int.toNat_natCast]; rw [hp3.out, E1.out]; exact m_shr_div W _ _ Hf.out
      go_wp2_with fail
      refine (of2 w cb W h1 h2 _ _ _ (by omega) (by omega) (by omega) (by omega) (by omega) (by omega) _ hcs11).mono ?_
      rintro e w12 ⟨r12, rfl, hr12, er12, hcs12⟩
      obtain rfl : r12 = r7 := by rw [er12.out, er7.out, er6.out, er5.out, wN2, wN1, wN2, wN1]; simp only [Int.toNat_natCast]; exact m_sar_neg W _ _ h1 h2 Hf.out Hc.out
      have k12 := hcs12.c1
      go_wp2_with (go_at_call 30; refine (known_cs _ _ _ _ hcs12).mono ?_; rintro e w13 ⟨rfl, hcs13⟩)
      go_ret
      exact ⟨rfl, hcs13.2.1⟩
  · have hr : r2 = 0 := by rw [hs, decide_eq_false hc]; rfl
    subst hr
    have Hc := Lib.hid hc; clear hc hs
    have c2 := hcs2.c0
    have k2 := hcs2.c1
    by_cases hf : W ≤ r1
    · have hfd : decide ((W : Int) ≤ (r1 : Int)) = true := by rw [decide_eq_true_eq]; omega
      have Hf := Lib.hid (show W ≤ y.toNat % 2 ^ W by rw [← E1.out]; exact hf)
      go_wp2_with fail
      refine (of2 w cb W h1 h2 _ _ _ (by omega) (by omega) (by omega) (by omega) (by omega) (by omega) _ hcs2).mono ?_
      rintro e w4 ⟨r4, rfl, hr4, er4, hcs4⟩
      obtain rfl : r4 = 0 := by rw [er4.out, wN2]; exact m_shl_far W _ _ Hf.out
      go_wp2_with fail
      refine (of2 w cb W h1 h2 _ _ _ (by omega) (by omega) (by omega) (by omega) (by omega) (by omega) _ hcs4).mono ?_
      rintro e w5 ⟨r5, rfl, hr5, er5, hcs5⟩
      obtain rfl : r5 = 0 := by rw [er5.out, wN2]; exact m_shr_far W _ _ Hf.out
      go_wp2_with fail
      refine (of2 w cb W h1 h2 _ _ _ (by omega) (by omega) (by omega) (by omega) (by omega) (by omega) _ hcs5).mono ?_
      rintro e w6 ⟨r6, rfl, hr6, er6, hcs6⟩
      obtain rfl : r6 = 0 := by rw [er6.out, wN2]; exact (m_sar_far W _ _ h2 Hf.out).trans (if_neg Hc.out)
      have k6 := hcs6.c1
      go_wp2_with (go_at_call 30; refine (known_cs _ _ _ _ hcs6).mono ?_; rintro e w7 ⟨rfl, hcs7⟩)
      go_ret
      exact ⟨rfl, hcs7.2.1⟩
    · have hfd : decide ((W : Int) ≤ (r1 : Int)) = false := by rw [decide_eq_false_iff_not]; omega
      have Hf := Lib.hid (show y.toNat % 2 ^ W < W by rw [← E1.out]; omega)
      obtain ⟨p, hp1, hp2, hp3⟩ := pow_word r1 (by omega)
      have hlt : r1 < W := by omega
      go_wp2_with fail
      refine (of2 w cb W h1 h2 _ _ _ (by omega) (by omega) (by omega) (by omega) (by omega) (by omega) _ hcs2).mono ?_
      rintro e w4 ⟨r4, rfl, hr4, er4, hcs4⟩
      go_wp2_with fail
      refine (of2 w cb W h1 h2 _ _ _ (by omega) (by omega) (by omega) (by omega) (by omega) (by omega) _ hcs4).mono ?_
      rintro e w8 ⟨r8, rfl, hr8, er8, hcs8⟩
      go_wp2_with fail
      refine (of2 w cb W h1 h2 _ _ _ (by omega) (by omega) (by omega) (by omega) (by omega) (by omega) _ hcs8).mono ?_
      rintro e w9 ⟨r9, rfl, hr9, er9, hcs9⟩
      obtain rfl : r8 = r9 := by rw [er8.out, er9.out, wN2, wN2]; simp only [Int.toNat_natCast]; rw [hp3.out, E1.out]; exact m_shl_mul W _ _ Hf.out
      go_wp2_with fail
      refine (of2 w cb W h1 h2 _ _ _ (by omega) (by omega) (by omega) (by omega) (by omega) (by omega) _ hcs9).mono ?_
      rintro e w10 ⟨r10, rfl, hr10, er10, hcs10⟩
      go_wp2_with fail
      refine (of2 w cb W h1 h2 _ _ _ (by omega) (by omega) (by omega) (by omega) (by omega) (by omega) _ hcs10).mono ?_
      rintro e w11 ⟨r11, rfl, hr11, er11, hcs11⟩
      obtain rfl : r10 = r11 := by rw [er10.out, er11.out, wN2, wN2]; simp only [Int.toNat_natCast]; rw [hp3.out, E1.out]; exact m_shr_div W _ _ Hf.out
      go_wp2_with fail
      refine (of2 w cb W h1 h2 _ _ _ (by omega) (by omega) (by omega) (by omega) (by omega) (by omega) _ hcs11).mono ?_
      rintro e w12 ⟨r12, rfl, hr12, er12, hcs12⟩
      obtain rfl : r12 = r4 := by rw [er12.out, er4.out, wN2, wN2]; exact m_sar_pos W _ _ h2 Hf.out Hc.out
      have k12 := hcs12.c1
      go_wp2_with (go_at_call 30; refine (known_cs _ _ _ _ hcs12).mono ?_; rintro e w13 ⟨rfl, hcs13⟩)
      go_ret
      exact ⟨rfl, hcs13.2.1⟩
end Go.Proofs.Ytpkahhpgkceciaa
