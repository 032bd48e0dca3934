/- Laws of words of a width, in plain arithmetic. -/
import Derived.Test.YteofgmjejocleaaPlain
namespace Go.Proofs.Yteofgmjejocleaa

section
variable (W a b c : Nat)
theorem w_neg (h1 : 1 ≤ W) (ha : a < 2 ^ W) : wop W 3 a 0 0 = wop W 4 (wop W 2 a 0 0) 1 0 := by
  show (2 ^ W - a) % 2 ^ W = (2 ^ W - 1 - a + 1) % 2 ^ W
  have := two_le_pow h1
  congr 1; omega
theorem w_sub (hb : b < 2 ^ W) : wop W 5 a b 0 = wop W 4 a (wop W 3 b 0 0) 0 := by
  show (a + 2 ^ W - b) % 2 ^ W = (a + (2 ^ W - b) % 2 ^ W) % 2 ^ W
  rw [Nat.add_mod_mod]
  congr 1; omega
theorem w_divmod (ha : a < 2 ^ W) (h0 : b ≠ 0) : wop W 4 (wop W 6 (wop W 7 a b 0) b 0) (wop W 8 a b 0) 0 = a := by
  show ((if b = 0 then 2 ^ W - 1 else a / b) * b % 2 ^ W + (if b = 0 then a else a % b)) % 2 ^ W = a
  rw [if_neg h0, if_neg h0, Nat.mod_add_mod, Nat.mul_comm, Nat.div_add_mod, Nat.mod_eq_of_lt ha]
theorem w_rem_lt (h0 : b ≠ 0) : wop W 8 a b 0 < b := by
  show (if b = 0 then a else a % b) < b
  rw [if_neg h0]; exact Nat.mod_lt _ (by omega)
theorem w_div_le (h0 : b ≠ 0) : wop W 7 a b 0 ≤ a := by
  show (if b = 0 then 2 ^ W - 1 else a / b) ≤ a
  rw [if_neg h0]; exact Nat.div_le_self _ _
theorem w_div0 : wop W 7 a 0 0 = 2 ^ W - 1 := rfl
theorem w_rem0 : wop W 8 a 0 0 = a := rfl
end
/-- What the calculator's results are, in words. -/
theorem one_mod {W : Nat} (h1 : 1 ≤ W) : 1 % 2 ^ W = 1 := Nat.mod_eq_of_lt (by have := two_le_pow h1; omega)
theorem ones_mod' {W : Nat} (h2 : W ≤ 64) : 18446744073709551615 % 2 ^ W = 2 ^ W - 1 := by
  have h := mod_minus W 0 h2 (pow_pos2 W)
  simpa using h

/-- The result of an operator on numbers, of which the lowest bits count. -/
def wm (W o x y : Nat) : Nat := wop W o (x % 2 ^ W) (y % 2 ^ W) 0
theorem wm_lt (W o x y : Nat) (h1 : 1 ≤ W) : wm W o x y < 2 ^ W := wop_lt W o _ _ 0 h1 (Nat.mod_lt _ (pow_pos2 W)) (Nat.mod_lt _ (pow_pos2 W)) (pow_pos2 W)
theorem wm_mod (W o x y : Nat) (h1 : 1 ≤ W) : wm W o x y % 2 ^ W = wm W o x y := Nat.mod_eq_of_lt (wm_lt W o x y h1)
theorem m_neg (W x : Nat) (h1 : 1 ≤ W) : wm W 3 x 0 = wm W 4 (wm W 2 x 0) 1 := by
  have h := w_neg W (x % 2 ^ W) h1 (Nat.mod_lt _ (pow_pos2 W))
  have e := wm_mod W 2 x 0 h1
  unfold wm at e ⊢
  rw [Nat.zero_mod] at e ⊢
  rw [e, one_mod h1, h]
theorem m_sub (W x y : Nat) (h1 : 1 ≤ W) : wm W 5 x y = wm W 4 x (wm W 3 y 0) := by
  have h := w_sub W (x % 2 ^ W) (y % 2 ^ W) (Nat.mod_lt _ (pow_pos2 W))
  have e := wm_mod W 3 y 0 h1
  unfold wm at e ⊢
  rw [Nat.zero_mod] at e ⊢
  rw [e, h]
theorem m_divmod (W x y : Nat) (h1 : 1 ≤ W) (h0 : y % 2 ^ W ≠ 0) : wm W 4 (wm W 6 (wm W 7 x y) y) (wm W 8 x y) = x % 2 ^ W := by
  have h := w_divmod W (x % 2 ^ W) (y % 2 ^ W) (Nat.mod_lt _ (pow_pos2 W)) h0
  have e1 := wm_mod W 7 x y h1
  have e2 := wm_mod W 8 x y h1
  have e3 := wm_mod W 6 (wm W 7 x y) y h1
  unfold wm at e1 e2 e3 ⊢
  rw [e1] at e3
  rw [e1, e2, e3, h]
theorem m_rem_lt (W x y : Nat) (h0 : y % 2 ^ W ≠ 0) : wm W 8 x y < y % 2 ^ W := w_rem_lt W _ _ h0
theorem m_div_le (W x y : Nat) (h0 : y % 2 ^ W ≠ 0) : wm W 7 x y ≤ x % 2 ^ W := w_div_le W _ _ h0
theorem m_div0 (W x y : Nat) (h2 : W ≤ 64) (h0 : y % 2 ^ W = 0) : wm W 7 x y = 18446744073709551615 % 2 ^ W := by
  unfold wm; rw [h0, ones_mod' h2]; rfl
theorem m_rem0 (W x y : Nat) (h0 : y % 2 ^ W = 0) : wm W 8 x y = x % 2 ^ W := by
  unfold wm; rw [h0]; rfl

theorem sgn_lt0 (W a : Nat) (h1 : 1 ≤ W) (ha : a < 2 ^ W) : decide (sgn W a < sgn W 0) = decide (2 ^ (W - 1) ≤ a) := by
  have hh := pow_half h1
  have hq := pow_pos2 (W - 1)
  unfold sgn
  rw [if_pos hq]
  by_cases hc : a < 2 ^ (W - 1)
  · rw [if_pos hc]
    rw [decide_eq_false (by omega), decide_eq_false (by omega)]
  · rw [if_neg hc, decide_eq_true (by omega : 2 ^ (W - 1) ≤ a)]
    apply decide_eq_true
    generalize 2 ^ (W - 1) = H at *
    generalize 2 ^ W = P at *
    omega
theorem m_slt0 (W x : Nat) (h1 : 1 ≤ W) : wm W 19 x 0 = b01 (decide (2 ^ (W - 1) ≤ x % 2 ^ W)) := by
  unfold wm
  rw [Nat.zero_mod]
  show b01 (decide (sgn W (x % 2 ^ W) < sgn W 0)) = _
  rw [sgn_lt0 W _ h1 (Nat.mod_lt _ (pow_pos2 W))]
theorem m_shl_far (W x y : Nat) (h : W ≤ y % 2 ^ W) : wm W 12 x y = 0 := by
  show (if W ≤ y % 2 ^ W then 0 else _) = 0
  rw [if_pos h]
theorem m_shr_far (W x y : Nat) (h : W ≤ y % 2 ^ W) : wm W 13 x y = 0 := by
  show (if W ≤ y % 2 ^ W then 0 else _) = 0
  rw [if_pos h]
theorem div_far (W b c : Nat) (h2 : W ≤ 64) (h : W ≤ b) (hc : c < 2 ^ W) : c / 2 ^ min b 64 = 0 := by
  have hq : 2 ^ W ≤ 2 ^ min b 64 := Nat.pow_le_pow_right (by decide) (by omega)
  exact Nat.div_eq_of_lt (by omega)
theorem m_sar_far (W x y : Nat) (h2 : W ≤ 64) (h : W ≤ y % 2 ^ W) : wm W 14 x y = if 2 ^ (W - 1) ≤ x % 2 ^ W then 18446744073709551615 % 2 ^ W else 0 := by
  have hp := pow_pos2 W
  have hx := Nat.mod_lt x hp
  unfold wm
  show (if x % 2 ^ W < 2 ^ (W - 1) then x % 2 ^ W / 2 ^ min (y % 2 ^ W) 64 else 2 ^ W - 1 - (2 ^ W - 1 - x % 2 ^ W) / 2 ^ min (y % 2 ^ W) 64) = _
  rw [div_far W _ _ h2 h hx, div_far W _ _ h2 h (by omega), ones_mod' h2]
  by_cases hc : 2 ^ (W - 1) ≤ x % 2 ^ W
  · rw [if_neg (by omega), if_pos hc]; rfl
  · rw [if_pos (by omega), if_neg hc]
theorem pow_mod_lt {W b : Nat} (h : b < W) : 2 ^ b % 2 ^ W = 2 ^ b := Nat.mod_eq_of_lt (Nat.pow_lt_pow_right (by decide) h)
theorem m_shl_mul (W x y : Nat) (h : y % 2 ^ W < W) : wm W 12 x y = wm W 6 x (2 ^ (y % 2 ^ W)) := by
  unfold wm
  rw [pow_mod_lt h]
  show (if W ≤ y % 2 ^ W then 0 else _) = _
  rw [if_neg (by omega)]; rfl
theorem m_shr_div (W x y : Nat) (h : y % 2 ^ W < W) : wm W 13 x y = wm W 7 x (2 ^ (y % 2 ^ W)) := by
  have hq := pow_pos2 (y % 2 ^ W)
  unfold wm
  rw [pow_mod_lt h]
  show (if W ≤ y % 2 ^ W then 0 else _) = (if 2 ^ (y % 2 ^ W) = 0 then _ else _)
  rw [if_neg (by omega), if_neg (by omega)]
theorem m_sar_pos (W x y : Nat) (h2 : W ≤ 64) (h : y % 2 ^ W < W) (hc : ¬ 2 ^ (W - 1) ≤ x % 2 ^ W) : wm W 14 x y = wm W 13 x y := by
  unfold wm
  show (if x % 2 ^ W < 2 ^ (W - 1) then x % 2 ^ W / 2 ^ min (y % 2 ^ W) 64 else _) = (if W ≤ y % 2 ^ W then 0 else _)
  rw [if_pos (by omega), if_neg (by omega), Nat.min_eq_left (by omega)]
theorem m_sar_neg (W x y : Nat) (h1 : 1 ≤ W) (h2 : W ≤ 64) (h : y % 2 ^ W < W) (hc : 2 ^ (W - 1) ≤ x % 2 ^ W) : wm W 14 x y = wm W 2 (wm W 13 (wm W 2 x 0) y) 0 := by
  have e1 := wm_mod W 2 x 0 h1
  have e2 := wm_mod W 13 (wm W 2 x 0) y h1
  have l : wm W 2 x 0 = 2 ^ W - 1 - x % 2 ^ W := by unfold wm; rfl
  have l2 : wm W 13 (wm W 2 x 0) y = (2 ^ W - 1 - x % 2 ^ W) / 2 ^ (y % 2 ^ W) := by
    have : wm W 13 (wm W 2 x 0) y = if W ≤ y % 2 ^ W then 0 else (wm W 2 x 0 % 2 ^ W) / 2 ^ (y % 2 ^ W) := rfl
    rw [this, if_neg (by omega), e1, l]
  have l3 : wm W 2 (wm W 13 (wm W 2 x 0) y) 0 = 2 ^ W - 1 - wm W 13 (wm W 2 x 0) y % 2 ^ W := by unfold wm; rfl
  rw [l3, e2, l2]
  show (if x % 2 ^ W < 2 ^ (W - 1) then _ else 2 ^ W - 1 - (2 ^ W - 1 - x % 2 ^ W) / 2 ^ min (y % 2 ^ W) 64) = _
  rw [if_neg (by omega), Nat.min_eq_left (by omega)]
end Go.Proofs.Yteofgmjejocleaa
