/- Laws of words: WordNegs. -/
import Derived.Test.YtpkahhpgkceciaaLawWD
namespace Go.Proofs.Ytpkahhpgkceciaa
open Go.RowKit
set_option maxHeartbeats 400000

theorem wordNegs_walk (Wi x y : Int) (hW0 : 0 ≤ Wi) (hW1 : Wi ≤ 255) (hx0 : 0 ≤ x) (hx1 : x ≤ 18446744073709551615) (hy0 : 0 ≤ y) (hy1 : y ≤ 18446744073709551615) (w : World) :
    Calls Try.prog 12 #[.int .u8 Wi, .int .u64 x, .int .u64 y] w fun e w' => e = .returned (.bool true) ∧ Below w.heap.size w w' := by
  go_enter Try.func12, Try.ntmps12
  go_wp2_with fail
  refine (with_any _ hW0 hW1 _).mono ?_
  rintro e w0 ⟨rfl, hcs0, -⟩
  obtain ⟨W, hW⟩ : ∃ W, 1 + Wi.toNat % 64 = W := ⟨_, rfl⟩
  rw [hW] at hcs0
  have h1 : 1 ≤ W := by omega
  have h2 : W ≤ 64 := by omega
  clear hW
  obtain ⟨cb, hcb⟩ : ∃ cb, w.heap.size = cb := ⟨_, rfl⟩
  rw [hcb] at hcs0
  go_wp2_with fail
  refine (ctrim_any w cb W h1 h2 _ (by omega) (by omega) _ hcs0).mono ?_
  rintro e w1 ⟨r1, rfl, hr1, er1, hcs1⟩
  go_wp2_with fail
  refine (ctrim_any w cb W h1 h2 _ (by omega) (by omega) _ hcs1).mono ?_
  rintro e w2 ⟨r2, rfl, hr2, er2, hcs2⟩
  go_wp2_with fail
  refine (of1 w cb W h1 h2 _ _ (by omega) (by omega) (by omega) _ hcs2).mono ?_
  rintro e w3 ⟨r3, rfl, hr3, er3, hcs3⟩
  go_wp2_with fail
  refine (of1 w cb W h1 h2 _ _ (by omega) (by omega) (by omega) _ hcs3).mono ?_
  rintro e w4 ⟨r4, rfl, hr4, er4, hcs4⟩
  go_wp2_with fail
  refine (of2 w cb W h1 h2 _ _ _ (by omega) (by omega) (by omega) (by omega) (by omega) (by omega) _ hcs4).mono ?_
  rintro e w5 ⟨r5, rfl, hr5, er5, hcs5⟩
  obtain rfl : r3 = r5 := by rw [er3.out, er5.out, er4.out, wN1, wN1, wN2]; simpa using m_neg W x.toNat h1
  go_wp2_with fail
  refine (of2 w cb W h1 h2 _ _ _ (by omega) (by omega) (by omega) (by omega) (by omega) (by omega) _ hcs5).mono ?_
  rintro e w6 ⟨r6, rfl, hr6, er6, hcs6⟩
  go_wp2_with fail
  refine (of1 w cb W h1 h2 _ _ (by omega) (by omega) (by omega) _ hcs6).mono ?_
  rintro e w7 ⟨r7, rfl, hr7, er7, hcs7⟩
  go_wp2_with fail
  refine (of2 w cb W h1 h2 _ _ _ (by omega) (by omega) (by omega) (by omega) (by omega) (by omega) _ hcs7).mono ?_
  rintro e w8 ⟨r8, rfl, hr8, er8, hcs8⟩
  obtain rfl : r6 = r8 := by rw [er6.out, er8.out, er7.out, wN1, wN2, wN2]; simpa using m_sub W x.toNat y.toNat h1
  go_wp2_with fail
  refine (of2 w cb W h1 h2 _ _ _ (by omega) (by omega) (by omega) (by omega) (by omega) (by omega) _ hcs8).mono ?_
  rintro e w9 ⟨r9, rfl, hr9, er9, hcs9⟩
  go_wp2_with fail
  refine (of2 w cb W h1 h2 _ _ _ (by omega) (by omega) (by omega) (by omega) (by omega) (by omega) _ hcs9).mono ?_
  rintro e w10 ⟨r10, rfl, hr10, er10, hcs10⟩
  have e1 := er1.out
  have e2 := er2.out
  have e9 := er9.out
  have e10 := er10.out
  rw [wN2] at e9 e10
  have E1 := Lib.hid e1; have E2 := Lib.hid e2; have E9 := Lib.hid e9; have E10 := Lib.hid e10; clear e1 e2 e9 e10
  by_cases hz : r2 = 0
  · have d1 : r10 = r1 := by rw [E10.out, E1.out]; exact m_rem0 W _ _ (by rw [← E2.out]; exact hz)
    subst d1
    have hz' : ((r2 : Int) == 0) = true := by rw [beq_iff_eq]; omega
    have Hz := Lib.hid hz; clear hz
    go_wp2_with fail
    refine (ctrim_any w cb W h1 h2 _ (by omega) (by omega) _ hcs10).mono ?_
    rintro e w11 ⟨r11, rfl, hr11, er11, hcs11⟩
    obtain rfl : r9 = r11 := by rw [E9.out, er11.out]; exact m_div0 W _ _ h2 (by rw [← E2.out]; exact Hz.out)
    have k11 := hcs11.c1
    go_wp2_with (go_at_call 30; refine (known_cs _ _ _ _ hcs11).mono ?_; rintro e w12 ⟨rfl, hcs12⟩)
    go_ret
    exact ⟨rfl, hcs12.2.1⟩
  · have hz' : ((r2 : Int) == 0) = false := by rw [beq_eq_false_iff_ne]; omega
    have hz2 : y.toNat % 2 ^ W ≠ 0 := by rw [← E2.out]; exact hz
    have hlt : r10 < r2 := by rw [E10.out, E2.out]; exact m_rem_lt W _ _ hz2
    have hle : r9 ≤ r1 := by rw [E9.out, E1.out]; exact m_div_le W _ _ hz2
    have Hz := Lib.hid hz2; clear hz hz2
    go_wp2_with fail
    refine (of2 w cb W h1 h2 _ _ _ (by omega) (by omega) (by omega) (by omega) (by omega) (by omega) _ hcs10).mono ?_
    rintro e w11 ⟨r11, rfl, hr11, er11, hcs11⟩
    go_wp2_with fail
    refine (of2 w cb W h1 h2 _ _ _ (by omega) (by omega) (by omega) (by omega) (by omega) (by omega) _ hcs11).mono ?_
    rintro e w12 ⟨r12, rfl, hr12, er12, hcs12⟩
    obtain rfl : r12 = r1 := by rw [er12.out, er11.out, E1.out, E9.out, E10.out, wN2, wN2]; simpa using m_divmod W _ _ h1 Hz.out
    have k12 := hcs12.c1
    go_wp2_with (go_at_call 30; refine (known_cs _ _ _ _ hcs12).mono ?_; rintro e w13 ⟨rfl, hcs13⟩)
    go_ret
    exact ⟨rfl, hcs13.2.1⟩
end Go.Proofs.Ytpkahhpgkceciaa
