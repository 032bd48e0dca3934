/- Words in plain numbers: what WordRing and WordParts say. -/
import Derived.Test.YtpkahhpgkceciaaPlainX
namespace Go.Proofs.Ytpkahhpgkceciaa

theorem m_comm (W o x y : Nat) (ho : o = 4 ∨ o = 6 ∨ o = 9 ∨ o = 10 ∨ o = 11 ∨ o = 15 ∨ o = 16) : wm W o x y = wm W o y x := by
  unfold wm
  generalize x % 2 ^ W = a
  generalize y % 2 ^ W = b
  rcases ho with rfl | rfl | rfl | rfl | rfl | rfl | rfl
  · show (a + b) % 2 ^ W = (b + a) % 2 ^ W; rw [Nat.add_comm]
  · show a * b % 2 ^ W = b * a % 2 ^ W; rw [Nat.mul_comm]
  · exact Nat.and_comm a b
  · exact Nat.or_comm a b
  · exact Nat.xor_comm a b
  · show b01 (a == b) = b01 (b == a); rw [show (a == b) = (b == a) from by rw [Bool.eq_iff_iff, beq_iff_eq, beq_iff_eq]; exact eq_comm]
  · show b01 (a != b) = b01 (b != a); rw [show (a != b) = (b != a) from by rw [Bool.eq_iff_iff, bne_iff_ne, bne_iff_ne]; exact ne_comm]
theorem m_assoc (W o x y z : Nat) (h1 : 1 ≤ W) (ho : o = 4 ∨ o = 6 ∨ o = 9 ∨ o = 10 ∨ o = 11) : wm W o (wm W o x y) z = wm W o x (wm W o y z) := by
  have e1 := wm_mod W o x y h1
  have e2 := wm_mod W o y z h1
  have u1 : wm W o (wm W o x y) z = wop W o (wm W o x y) (z % 2 ^ W) 0 := by rw [show wm W o (wm W o x y) z = wop W o (wm W o x y % 2 ^ W) (z % 2 ^ W) 0 from rfl, e1]
  have u2 : wm W o x (wm W o y z) = wop W o (x % 2 ^ W) (wm W o y z) 0 := by rw [show wm W o x (wm W o y z) = wop W o (x % 2 ^ W) (wm W o y z % 2 ^ W) 0 from rfl, e2]
  rw [u1, u2]
  unfold wm
  generalize x % 2 ^ W = a
  generalize y % 2 ^ W = b
  generalize z % 2 ^ W = c
  rcases ho with rfl | rfl | rfl | rfl | rfl
  · show ((a + b) % 2 ^ W + c) % 2 ^ W = (a + (b + c) % 2 ^ W) % 2 ^ W
    rw [Nat.mod_add_mod, Nat.add_mod_mod, Nat.add_assoc]
  · show (a * b % 2 ^ W * c) % 2 ^ W = (a * (b * c % 2 ^ W)) % 2 ^ W
    rw [Nat.mod_mul_mod, Nat.mul_mod_mod, Nat.mul_assoc]
  · exact Nat.and_assoc a b c
  · exact Nat.or_assoc a b c
  · exact Nat.xor_assoc a b c
theorem m_distr (W o p x y z : Nat) (h1 : 1 ≤ W) (ho : o = 6 ∧ p = 4 ∨ o = 9 ∧ p = 10 ∨ o = 9 ∧ p = 11 ∨ o = 10 ∧ p = 9) : wm W o x (wm W p y z) = wm W p (wm W o x y) (wm W o x z) := by
  have e1 := wm_mod W p y z h1
  have e2 := wm_mod W o x y h1
  have e3 := wm_mod W o x z h1
  have u1 : wm W o x (wm W p y z) = wop W o (x % 2 ^ W) (wm W p y z) 0 := by rw [show wm W o x (wm W p y z) = wop W o (x % 2 ^ W) (wm W p y z % 2 ^ W) 0 from rfl, e1]
  have u2 : wm W p (wm W o x y) (wm W o x z) = wop W p (wm W o x y) (wm W o x z) 0 := by rw [show wm W p (wm W o x y) (wm W o x z) = wop W p (wm W o x y % 2 ^ W) (wm W o x z % 2 ^ W) 0 from rfl, e2, e3]
  rw [u1, u2]
  unfold wm
  generalize x % 2 ^ W = a
  generalize y % 2 ^ W = b
  generalize z % 2 ^ W = c
  rcases ho with ⟨rfl, rfl⟩ | ⟨rfl, rfl⟩ | ⟨rfl, rfl⟩ | ⟨rfl, rfl⟩
  · show (a * ((b + c) % 2 ^ W)) % 2 ^ W = (a * b % 2 ^ W + a * c % 2 ^ W) % 2 ^ W
    rw [Nat.mul_mod_mod, Nat.mul_add, ← Nat.add_mod]
  · show a &&& (b ||| c) = (a &&& b) ||| (a &&& c)
    exact Nat.and_or_distrib_left a b c
  · show a &&& (b ^^^ c) = (a &&& b) ^^^ (a &&& c)
    exact Nat.and_xor_distrib_left
  · show a ||| (b &&& c) = (a ||| b) &&& (a ||| c)
    exact Nat.or_and_distrib_left a b c
theorem m_add0 (W x : Nat) : wm W 4 x 0 = x % 2 ^ W := by
  show (x % 2 ^ W + 0 % 2 ^ W) % 2 ^ W = _
  simp
theorem m_mul1 (W x : Nat) (h1 : 1 ≤ W) : wm W 6 x 1 = x % 2 ^ W := by
  show (x % 2 ^ W * (1 % 2 ^ W)) % 2 ^ W = _
  rw [one_mod h1]; simp
theorem m_xorx (W x : Nat) : wm W 11 x x = 0 := by
  show (x % 2 ^ W) ^^^ (x % 2 ^ W) = 0
  simp
theorem m_or0 (W x : Nat) : wm W 10 x 0 = x % 2 ^ W := by
  show (x % 2 ^ W) ||| (0 % 2 ^ W) = _
  simp
/-- Numbers that are added above the width. -/
theorem above_add (W x h : Nat) (h2 : W < 64) : (x + h * 2 ^ W % 18446744073709551616) % 18446744073709551616 % 2 ^ W = x % 2 ^ W := by
  rw [Nat.add_mod_mod, mod64_mod (by omega), Nat.add_mul_mod_self_right]
theorem above_sub (W x h : Nat) (h2 : W < 64) (hx : x < 18446744073709551616) : (x + 18446744073709551616 - h * 2 ^ W % 18446744073709551616) % 18446744073709551616 % 2 ^ W = x % 2 ^ W := by
  obtain ⟨k, hk⟩ := pow_dvd64 (show W ≤ 64 by omega)
  have hp := pow_pos2 W
  have e : h * 2 ^ W % 18446744073709551616 = 2 ^ W * (h % k) := by
    conv => lhs; rw [hk, Nat.mul_comm h]
    exact Nat.mul_mod_mul_left _ _ _
  have hkp : 0 < k := by
    rcases Nat.eq_zero_or_pos k with h0 | h0
    · subst h0; omega
    · exact h0
  have hlt : h % k < k := Nat.mod_lt _ hkp
  rw [e, mod64_mod (by omega)]
  have e2 : x + 18446744073709551616 - 2 ^ W * (h % k) = x + 2 ^ W * (k - h % k) := by
    rw [hk, Nat.mul_sub]
    have := Nat.mul_le_mul_left (2 ^ W) (Nat.le_of_lt hlt)
    omega
  rw [e2, Nat.add_mul_mod_self_left]
theorem above_xor (W x h : Nat) (h2 : W < 64) : (x ^^^ (h * 2 ^ W % 18446744073709551616)) % 2 ^ W = x % 2 ^ W := by
  rw [Nat.xor_mod_two_pow, mod64_mod (by omega), Nat.mul_mod_left]
  simp
theorem pow_mod_mod {K W : Nat} (h : K ≤ W) (n : Nat) : n % 2 ^ W % 2 ^ K = n % 2 ^ K := Nat.mod_mod_of_dvd n (Nat.pow_dvd_pow 2 h)
/-- The lowest bits of a result. -/
theorem m_low (K W o x y : Nat) (h : K ≤ W) (_hk1 : 1 ≤ K) (ho : o = 2 ∨ o = 3 ∨ o = 4 ∨ o = 5 ∨ o = 6 ∨ o = 9 ∨ o = 10 ∨ o = 11) : wm K o x y = wm W o x y % 2 ^ K := by
  unfold wm
  have ex := pow_mod_mod h x
  have ey := pow_mod_mod h y
  rw [← ex, ← ey]
  have hx := Nat.mod_lt x (pow_pos2 W)
  have hy := Nat.mod_lt y (pow_pos2 W)
  clear ex ey
  generalize x % 2 ^ W = a at *
  generalize y % 2 ^ W = b at *
  obtain ⟨c, hc⟩ := Nat.pow_dvd_pow 2 h
  have hp := pow_pos2 K
  have hcp : 0 < c := by
    rcases Nat.eq_zero_or_pos c with h0 | h0
    · subst h0; have := pow_pos2 W; omega
    · exact h0
  have sub : ∀ a : Nat, a < 2 ^ W → ∀ e : Nat, (e + 2 ^ W - a) % 2 ^ K = (e + 2 ^ K - a % 2 ^ K) % 2 ^ K := by
    intro a ha e
    have hd := Nat.div_add_mod a (2 ^ K)
    have hr := Nat.mod_lt a hp
    have hq : a / 2 ^ K < c := by rw [Nat.div_lt_iff_lt_mul hp, Nat.mul_comm]; rw [hc] at ha; exact ha
    have e2 : e + 2 ^ W - a = (e + 2 ^ K - a % 2 ^ K) + 2 ^ K * (c - 1 - a / 2 ^ K) := by
      have h3 : 2 ^ K * (c - 1 - a / 2 ^ K) + 2 ^ K * (a / 2 ^ K) + 2 ^ K = 2 ^ K * c := by
        rw [← Nat.mul_add, ← Nat.mul_succ]; congr 1; omega
      rw [hc]; omega
    rw [e2, Nat.add_mul_mod_self_left]
  rcases ho with rfl | rfl | rfl | rfl | rfl | rfl | rfl | rfl
  · show 2 ^ K - 1 - a % 2 ^ K = (2 ^ W - 1 - a) % 2 ^ K
    have hd := Nat.div_add_mod a (2 ^ K)
    have hr := Nat.mod_lt a hp
    have hq : a / 2 ^ K < c := by rw [Nat.div_lt_iff_lt_mul hp, Nat.mul_comm]; rw [hc] at hx; exact hx
    have e2 : 2 ^ W - 1 - a = (2 ^ K - 1 - a % 2 ^ K) + 2 ^ K * (c - 1 - a / 2 ^ K) := by
      have h3 : 2 ^ K * (c - 1 - a / 2 ^ K) + 2 ^ K * (a / 2 ^ K) + 2 ^ K = 2 ^ K * c := by
        rw [← Nat.mul_add, ← Nat.mul_succ]; congr 1; omega
      rw [hc]; omega
    rw [e2, Nat.add_mul_mod_self_left]
    exact (Nat.mod_eq_of_lt (by omega)).symm
  · show (2 ^ K - a % 2 ^ K) % 2 ^ K = (2 ^ W - a) % 2 ^ W % 2 ^ K
    rw [pow_mod_mod h]
    have := sub a hx 0
    rw [Nat.zero_add, Nat.zero_add] at this
    exact this.symm
  · show (a % 2 ^ K + b % 2 ^ K) % 2 ^ K = (a + b) % 2 ^ W % 2 ^ K
    rw [pow_mod_mod h, ← Nat.add_mod]
  · show (a % 2 ^ K + 2 ^ K - b % 2 ^ K) % 2 ^ K = (a + 2 ^ W - b) % 2 ^ W % 2 ^ K
    rw [pow_mod_mod h, sub b hy a]
    have hr := Nat.mod_lt b hp
    rw [Nat.add_sub_assoc (by omega), Nat.add_sub_assoc (by omega), Nat.mod_add_mod]
  · show a % 2 ^ K * (b % 2 ^ K) % 2 ^ K = a * b % 2 ^ W % 2 ^ K
    rw [pow_mod_mod h, ← Nat.mul_mod]
  · exact Nat.and_mod_two_pow.symm
  · exact Nat.or_mod_two_pow.symm
  · exact Nat.xor_mod_two_pow.symm
theorem m_low_shl (K W x y : Nat) (h : K ≤ W) (hb : y % 2 ^ W < K) (hk : y % 2 ^ W % 2 ^ K = y % 2 ^ W) : wm K 12 x (y % 2 ^ W) = wm W 12 x y % 2 ^ K := by
  show (if K ≤ y % 2 ^ W % 2 ^ K then 0 else x % 2 ^ K * 2 ^ (y % 2 ^ W % 2 ^ K) % 2 ^ K) = (if W ≤ y % 2 ^ W then 0 else x % 2 ^ W * 2 ^ (y % 2 ^ W) % 2 ^ W) % 2 ^ K
  rw [hk, if_neg (by omega), if_neg (by omega), pow_mod_mod h, Nat.mod_mul_mod]
  conv => rhs; rw [Nat.mul_mod, pow_mod_mod h, ← Nat.mul_mod]
end Go.Proofs.Ytpkahhpgkceciaa
