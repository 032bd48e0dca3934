/- Laws of comparisons, in plain arithmetic. -/
import Derived.Test.YteofgmjejocleaaPlainW
namespace Go.Proofs.Yteofgmjejocleaa

theorem b01_le (p : Bool) : b01 p ≤ 1 := by unfold b01; split <;> omega
theorem m_lt (W x y : Nat) : wm W 17 x y = b01 (decide (x % 2 ^ W < y % 2 ^ W)) := rfl
theorem m_eq (W x y : Nat) : wm W 15 x y = b01 (x % 2 ^ W == y % 2 ^ W) := rfl
theorem m_le (W x y : Nat) : wm W 18 x y = b01 (decide (x % 2 ^ W ≤ y % 2 ^ W)) := rfl
theorem m_ne (W x y : Nat) : wm W 16 x y = b01 (x % 2 ^ W != y % 2 ^ W) := rfl
theorem m_slt (W x y : Nat) : wm W 19 x y = b01 (decide (sgn W (x % 2 ^ W) < sgn W (y % 2 ^ W))) := rfl
theorem m_sle (W x y : Nat) : wm W 20 x y = b01 (decide (sgn W (x % 2 ^ W) ≤ sgn W (y % 2 ^ W))) := rfl
theorem m_tri (W x y : Nat) : wm W 17 x y + wm W 15 x y + wm W 17 y x = 1 ∧ wm W 18 x y = wm W 17 x y + wm W 15 x y ∧ wm W 16 x y + wm W 15 x y = 1 := by
  rw [m_lt, m_eq, m_lt, m_le, m_ne]
  generalize x % 2 ^ W = a
  generalize y % 2 ^ W = b
  rcases Nat.lt_trichotomy a b with h | h | h
  · simp [b01, h, Nat.le_of_lt h, Nat.ne_of_lt h, Nat.not_lt.2 (Nat.le_of_lt h)]
  · subst h; simp [b01]
  · have : ¬ a = b := by omega
    have h2 : ¬ a ≤ b := by omega
    have h3 : ¬ a < b := by omega
    simp [b01, h, this, h2, h3]
/-- A word with its highest bit turned. -/
theorem xor_top (W x : Nat) (h1 : 1 ≤ W) : (x ^^^ 2 ^ (W - 1)) % 2 ^ W = if x % 2 ^ W < 2 ^ (W - 1) then x % 2 ^ W + 2 ^ (W - 1) else x % 2 ^ W - 2 ^ (W - 1) := by
  have hh := pow_half h1
  have hx := Nat.mod_lt x (pow_pos2 W)
  rw [Nat.xor_mod_two_pow, Nat.mod_eq_of_lt (show 2 ^ (W - 1) < 2 ^ W by have := pow_pos2 (W - 1); omega)]
  generalize hA : x % 2 ^ W = a at *
  by_cases hc : a < 2 ^ (W - 1)
  · rw [if_pos hc]
    have := Nat.two_pow_add_eq_or_of_lt hc 1
    rw [Nat.mul_one] at this
    rw [Nat.add_comm, this]
    apply Nat.eq_of_testBit_eq
    intro i
    rw [Nat.testBit_xor, Nat.testBit_or, Nat.testBit_two_pow]
    by_cases hi : W - 1 = i
    · subst hi
      simp [Nat.testBit_lt_two_pow hc]
    · simp [hi]
  · rw [if_neg hc]
    obtain ⟨b, rfl⟩ : ∃ b, a = 2 ^ (W - 1) + b := ⟨a - 2 ^ (W - 1), by omega⟩
    have hb : b < 2 ^ (W - 1) := by omega
    have := Nat.two_pow_add_eq_or_of_lt hb 1
    rw [Nat.mul_one] at this
    rw [Nat.add_sub_cancel_left, this]
    apply Nat.eq_of_testBit_eq
    intro i
    rw [Nat.testBit_xor, Nat.testBit_or, Nat.testBit_two_pow]
    by_cases hi : W - 1 = i
    · subst hi
      simp [Nat.testBit_lt_two_pow hb]
    · simp [hi]
theorem m_slt_top (W x y : Nat) (h1 : 1 ≤ W) : wm W 19 x y = wm W 17 (x ^^^ 2 ^ (W - 1)) (y ^^^ 2 ^ (W - 1)) ∧ wm W 20 x y = wm W 18 (x ^^^ 2 ^ (W - 1)) (y ^^^ 2 ^ (W - 1)) := by
  have hh := pow_half h1
  have hx := Nat.mod_lt x (pow_pos2 W)
  have hy := Nat.mod_lt y (pow_pos2 W)
  rw [m_slt, m_sle, m_lt, m_le, xor_top W x h1, xor_top W y h1]
  generalize x % 2 ^ W = a at *
  generalize y % 2 ^ W = b at *
  unfold sgn
  generalize 2 ^ (W - 1) = H at *
  generalize 2 ^ W = P at *
  by_cases c1 : a < H <;> by_cases c2 : b < H
  all_goals
    simp only [c1, c2, if_true, if_false]
    constructor <;> (congr 1; rw [decide_eq_decide]; omega)
end Go.Proofs.Yteofgmjejocleaa
