/- Laws of words: WordCompares. -/
import Derived.Test.YtpkahhpgkceciaaLawWF
import Derived.Test.YtpkahhpgkceciaaPlainX
namespace Go.Proofs.Ytpkahhpgkceciaa
open Go.RowKit
set_option maxHeartbeats 400000

/-- x with its highest bit turned, in the walk's spelling. -/
theorem xor_word (x : Int) (p : Nat) (h0 : 0 ≤ x) (h1 : x ≤ 18446744073709551615) (hp : p ≤ 18446744073709551615) :
    ∃ q : Nat, bits .xor .u64 x (p : Int) = (q : Int) ∧ q ≤ 18446744073709551615 ∧ Hid (q = x.toNat ^^^ p) := by
  obtain ⟨n, rfl⟩ := Int.eq_ofNat_of_zero_le h0
  refine ⟨n ^^^ p, by rw [u64_xor_nat _ _ (by omega) (by omega)], ?_, by show _ = _; rw [Int.toNat_natCast]⟩
  have := Nat.xor_lt_two_pow (x := n) (y := p) (n := 64) (by omega) (by omega)
  omega
set_option maxRecDepth 100000 in
theorem wordCompares_walk (Wi x y : Int) (hW0 : 0 ≤ Wi) (hW1 : Wi ≤ 255) (hx0 : 0 ≤ x) (hx1 : x ≤ 18446744073709551615) (hy0 : 0 ≤ y) (hy1 : y ≤ 18446744073709551615) (w : World) :
    Calls Try.prog 18 #[.int .u8 Wi, .int .u64 x, .int .u64 y] w fun e w' => e = .returned (.bool true) ∧ Below w.heap.size w w' := by
  go_enter Try.func18, Try.ntmps18
  go_wp2_with fail
  refine (with_any _ hW0 hW1 _).mono ?_
  rintro e w0 ⟨rfl, hcs0, -⟩
  obtain ⟨W, hW⟩ : ∃ W, 1 + Wi.toNat % 64 = W := ⟨_, rfl⟩
  rw [hW] at hcs0
  have h1 : 1 ≤ W := by omega
  have h2 : W ≤ 64 := by omega
  clear hW
  obtain ⟨cb, hcb⟩ : ∃ cb, w.heap.size = cb := ⟨_, rfl⟩
  rw [hcb] at hcs0
  have c0 := hcs0.c0
  obtain ⟨p, hp1, hp2, hp3⟩ := pow_word (W - 1) (by omega)
  obtain ⟨xt, hxt1, hxt2, hxt3⟩ := xor_word x p hx0 hx1 hp2
  obtain ⟨yt, hyt1, hyt2, hyt3⟩ := xor_word y p hy0 hy1 hp2
  go_wp2_with fail
  refine (of2 w cb W h1 h2 _ _ _ (by omega) (by omega) (by omega) (by omega) (by omega) (by omega) _ hcs0).mono ?_
  rintro e w1 ⟨r1, rfl, hr1, er1, hcs1⟩
  go_wp2_with fail
  refine (of2 w cb W h1 h2 _ _ _ (by omega) (by omega) (by omega) (by omega) (by omega) (by omega) _ hcs1).mono ?_
  rintro e w2 ⟨r2, rfl, hr2, er2, hcs2⟩
  go_wp2_with fail
  refine (of2 w cb W h1 h2 _ _ _ (by omega) (by omega) (by omega) (by omega) (by omega) (by omega) _ hcs2).mono ?_
  rintro e w3 ⟨r3, rfl, hr3, er3, hcs3⟩
  have tri := m_tri W x.toNat y.toNat
  have e1 := er1.out; have e2 := er2.out; have e3 := er3.out
  rw [wN2] at e1 e2 e3
  rw [show Int.toNat 17 = 17 from rfl] at e1 e3
  rw [show Int.toNat 15 = 15 from rfl] at e2
  rw [← e1, ← e2, ← e3] at tri
  have Tri := Lib.hid tri; clear tri e1 e2 e3
  have l1 : r1 ≤ 1 := by have := Tri.out; omega
  have l2 : r2 ≤ 1 := by have := Tri.out; omega
  have l3 : r3 ≤ 1 := by have := Tri.out; omega
  have t3 : (((r1 : Int) + (r2 : Int) + (r3 : Int)) != 1) = false := by rw [bne_eq_false_iff_eq]; have := Tri.out; omega
  clear c0
  go_wp2_with fail
  refine (of2 w cb W h1 h2 _ _ _ (by omega) (by omega) (by omega) (by omega) (by omega) (by omega) _ hcs3).mono ?_
  rintro e w4 ⟨r4, rfl, hr4, er4, hcs4⟩
  have e4 : r4 = r1 + r2 := by have := Tri.out.2.1; rw [er4.out, wN2]; exact this
  have t4 : ((r4 : Int) != (r1 : Int) + (r2 : Int)) = false := by rw [bne_eq_false_iff_eq]; omega
  clear e4
  go_wp2_with fail
  refine (of2 w cb W h1 h2 _ _ _ (by omega) (by omega) (by omega) (by omega) (by omega) (by omega) _ hcs4).mono ?_
  rintro e w5 ⟨r5, rfl, hr5, er5, hcs5⟩
  have e5 : r5 + r2 = 1 := by have := Tri.out.2.2; rw [er5.out, wN2]; exact this
  have t5 : ((r5 : Int) != 1 - (r2 : Int)) = false := by rw [bne_eq_false_iff_eq]; omega
  clear e5
  go_wp2_with fail
  refine (of2 w cb W h1 h2 _ _ _ (by omega) (by omega) (by omega) (by omega) (by omega) (by omega) _ hcs5).mono ?_
  rintro e w6 ⟨r6, rfl, hr6, er6, hcs6⟩
  go_wp2_with fail
  refine (of2 w cb W h1 h2 _ _ _ (by omega) (by omega) (by omega) (by omega) (by omega) (by omega) _ hcs6).mono ?_
  rintro e w7 ⟨r7, rfl, hr7, er7, hcs7⟩
  obtain rfl : r6 = r7 := by rw [er6.out, er7.out, wN2, wN2]; simp only [Int.toNat_natCast]; rw [hxt3.out, hyt3.out, hp3.out]; exact (m_slt_top W _ _ h1).1
  go_wp2_with fail
  refine (of2 w cb W h1 h2 _ _ _ (by omega) (by omega) (by omega) (by omega) (by omega) (by omega) _ hcs7).mono ?_
  rintro e w8 ⟨r8, rfl, hr8, er8, hcs8⟩
  go_wp2_with fail
  refine (of2 w cb W h1 h2 _ _ _ (by omega) (by omega) (by omega) (by omega) (by omega) (by omega) _ hcs8).mono ?_
  rintro e w9 ⟨r9, rfl, hr9, er9, hcs9⟩
  obtain rfl : r8 = r9 := by rw [er8.out, er9.out, wN2, wN2]; simp only [Int.toNat_natCast]; rw [hxt3.out, hyt3.out, hp3.out]; exact (m_slt_top W _ _ h1).2
  have c9 := hcs9.c0
  have hck : chk (W : Int) = 0 := chk_in (by omega) (by omega)
  have sx : sgnI W x = sgn W (x.toNat % 2 ^ W) := by unfold sgnI; rw [if_pos hck]; simp
  have sy : sgnI W y = sgn W (y.toNat % 2 ^ W) := by unfold sgnI; rw [if_pos hck]; simp
  obtain ⟨A, hA⟩ : ∃ A, sgn W (x.toNat % 2 ^ W) = A := ⟨_, rfl⟩
  obtain ⟨B, hB⟩ : ∃ B, sgn W (y.toNat % 2 ^ W) = B := ⟨_, rfl⟩
  rw [hA] at sx
  rw [hB] at sy
  have HA := Lib.hid hA; have HB := Lib.hid hB; clear hA hB t3 t4 t5 hcs0 hcs1 hcs2 hcs3 hcs4 hcs5 hcs6 hcs7 hcs8
  go_wp2_with fail
  refine (wsigned_any _ _ (by omega) (by omega) _).mono ?_
  rintro e w' ⟨rfl, rfl⟩
  go_wp2_with fail
  refine (wsigned_any _ _ (by omega) (by omega) _).mono ?_
  rintro e w' ⟨rfl, rfl⟩
  go_wp2_with fail
  refine (of2 w cb W h1 h2 _ _ _ (by omega) (by omega) (by omega) (by omega) (by omega) (by omega) _ hcs9).mono ?_
  rintro e w10 ⟨r10, rfl, hr10, er10, hcs10⟩
  have e10 : r10 = b01 (decide (A < B)) := by rw [er10.out, wN2, ← HA.out, ← HB.out]; exact m_slt W _ _
  have t10 : (decide (A < B) == ((r10 : Int) == 1)) = true := by rw [e10]; cases decide (A < B) <;> rfl
  clear e10
  go_wp2_with fail
  refine (of2 w cb W h1 h2 _ _ _ (by omega) (by omega) (by omega) (by omega) (by omega) (by omega) _ hcs10).mono ?_
  rintro e w11 ⟨r11, rfl, hr11, er11, hcs11⟩
  have e11 : r11 = b01 (decide (A ≤ B)) := by rw [er11.out, wN2, ← HA.out, ← HB.out]; exact m_sle W _ _
  have t11 : (decide (A ≤ B) == ((r11 : Int) == 1)) = true := by rw [e11]; cases decide (A ≤ B) <;> rfl
  clear e11
  have k11 := hcs11.c1
  go_wp2_with (go_at_call 30; refine (known_cs _ _ _ _ hcs11).mono ?_; rintro e w12 ⟨rfl, hcs12⟩)
  go_ret
  exact ⟨rfl, hcs12.2.1⟩
end Go.Proofs.Ytpkahhpgkceciaa
