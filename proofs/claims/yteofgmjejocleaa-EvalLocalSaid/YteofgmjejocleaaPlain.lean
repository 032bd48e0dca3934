/- Plain mathematics of words of a width: no program in sight. -/
import Derived.Laws.BitsAllLaws
namespace Go.Proofs.Yteofgmjejocleaa

/-- A word, as a signed number. -/
def sgn (W a : Nat) : Int := if a < 2 ^ (W - 1) then (a : Int) else (a : Int) - (2 ^ W : Nat)
def b01 (p : Bool) : Nat := if p then 1 else 0
/-- The result of an operator on words (less than 2^W), a word. -/
def wop (W o a b c : Nat) : Nat :=
  match o with
  | 2 => 2 ^ W - 1 - a
  | 3 => (2 ^ W - a) % 2 ^ W
  | 4 => (a + b) % 2 ^ W
  | 5 => (a + 2 ^ W - b) % 2 ^ W
  | 6 => a * b % 2 ^ W
  | 7 => if b = 0 then 2 ^ W - 1 else a / b
  | 8 => if b = 0 then a else a % b
  | 9 => a &&& b
  | 10 => a ||| b
  | 11 => a ^^^ b
  | 12 => if W ≤ b then 0 else a * 2 ^ b % 2 ^ W
  | 13 => if W ≤ b then 0 else a / 2 ^ b
  | 14 => if a < 2 ^ (W - 1) then a / 2 ^ min b 64 else 2 ^ W - 1 - (2 ^ W - 1 - a) / 2 ^ min b 64
  | 15 => b01 (a == b)
  | 16 => b01 (a != b)
  | 17 => b01 (decide (a < b))
  | 18 => b01 (decide (a ≤ b))
  | 19 => b01 (decide (sgn W a < sgn W b))
  | 20 => b01 (decide (sgn W a ≤ sgn W b))
  | 21 => if a = 0 then c else b
  | _ => 0

def aryN (o : Nat) : Nat := if o ≤ 1 then 0 else if o ≤ 3 then 1 else if o = 21 then 3 else 2
/-- The error of Apply. -/
def wE (o W : Int) (n : Nat) : Int := if W < 1 ∨ 64 < W then 3 else if o < 2 ∨ 21 < o then 3 else if aryN o.toNat = n then 0 else 2
def wA (W : Int) (xs : List Int) (i : Nat) : Nat := (xs.getD i 0).toNat % 2 ^ W.toNat
/-- The result of Apply. -/
def wI (o W : Int) (xs : List Int) : Int := if wE o W xs.length = 0 then ((wop W.toNat o.toNat (wA W xs 0) (wA W xs 1) (wA W xs 2) : Nat) : Int) else 0

theorem two_le_pow {W : Nat} (h : 1 ≤ W) : 2 ≤ 2 ^ W := Nat.pow_le_pow_right (n := 2) (by decide) h
theorem pow_pos2 (W : Nat) : 0 < 2 ^ W := Nat.pow_pos (by decide)
theorem pow_le64 {W : Nat} (h : W ≤ 64) : 2 ^ W ≤ 18446744073709551616 := by
  have := Nat.pow_le_pow_right (n := 2) (by decide) h
  simpa using this
theorem pow_half {W : Nat} (h : 1 ≤ W) : 2 ^ W = 2 * 2 ^ (W - 1) := by
  obtain ⟨k, rfl⟩ : ∃ k, W = k + 1 := ⟨W - 1, by omega⟩
  rw [Nat.pow_succ, Nat.add_sub_cancel]; omega
theorem pow_dvd64 {W : Nat} (h : W ≤ 64) : 2 ^ W ∣ 18446744073709551616 := by
  have := Nat.pow_dvd_pow 2 h
  simpa using this
theorem mod64_mod {W : Nat} (h : W ≤ 64) (n : Nat) : n % 18446744073709551616 % 2 ^ W = n % 2 ^ W := Nat.mod_mod_of_dvd n (pow_dvd64 h)

theorem b01_lt {W : Nat} (h : 1 ≤ W) (p : Bool) : b01 p < 2 ^ W := by
  have := two_le_pow h; unfold b01; split <;> omega
theorem b01_mod {W : Nat} (h : 1 ≤ W) (p : Bool) : b01 p % 2 ^ W = b01 p := Nat.mod_eq_of_lt (b01_lt h p)

theorem wop_lt (W o a b c : Nat) (hW : 1 ≤ W) (ha : a < 2 ^ W) (hb : b < 2 ^ W) (hc : c < 2 ^ W) : wop W o a b c < 2 ^ W := by
  have hp := pow_pos2 W
  unfold wop
  split
  case h_1 => omega
  case h_2 => exact Nat.mod_lt _ hp
  case h_3 => exact Nat.mod_lt _ hp
  case h_4 => exact Nat.mod_lt _ hp
  case h_5 => exact Nat.mod_lt _ hp
  case h_6 => split; · omega
              · exact Nat.lt_of_le_of_lt (Nat.div_le_self _ _) ha
  case h_7 => split; · exact ha
              · exact Nat.lt_of_le_of_lt (Nat.mod_le _ _) ha
  case h_8 => exact Nat.lt_of_le_of_lt Nat.and_le_left ha
  case h_9 => exact Nat.or_lt_two_pow ha hb
  case h_10 => exact Nat.xor_lt_two_pow ha hb
  case h_11 => split; · exact hp
               · exact Nat.mod_lt _ hp
  case h_12 => split; · exact hp
               · exact Nat.lt_of_le_of_lt (Nat.div_le_self _ _) ha
  case h_13 => split; · exact Nat.lt_of_le_of_lt (Nat.div_le_self _ _) ha
               · exact Nat.lt_of_le_of_lt (Nat.sub_le _ _) (by omega)
  case h_20 => split <;> assumption
  case h_21 => exact hp
  all_goals exact b01_lt hW _

theorem sgn_neg {W a : Nat} (h1 : 1 ≤ W) (ha : a < 2 ^ W) (h : 2 ^ (W - 1) ≤ a) : sgn W a = Int.negSucc (2 ^ W - 1 - a) := by
  have := pow_half h1
  unfold sgn; rw [if_neg (by omega), Int.negSucc_eq]
  generalize 2 ^ (W - 1) = H at *
  generalize 2 ^ W = P at *
  omega
theorem mod_minus (W q : Nat) (h2 : W ≤ 64) (hq : q < 2 ^ W) : (18446744073709551615 - q) % 2 ^ W = 2 ^ W - 1 - q := by
  obtain ⟨k, hk⟩ := pow_dvd64 h2
  have hp := pow_le64 h2
  have hk1 : 1 ≤ k := by
    rcases Nat.eq_zero_or_pos k with h0 | h0
    · subst h0; omega
    · exact h0
  have : 2 ^ W * (k - 1) + 2 ^ W = 18446744073709551616 := by rw [hk, ← Nat.mul_succ]; congr 1; omega
  rw [show 18446744073709551615 - q = (2 ^ W - 1 - q) + 2 ^ W * (k - 1) from by omega, Nat.add_mul_mod_self_left, Nat.mod_eq_of_lt (by omega)]
/-- An arithmetic shift, at 64 bits. -/
theorem sar_raw (W a m : Nat) (h1 : 1 ≤ W) (h2 : W ≤ 64) (ha : a < 2 ^ W) :
    ∃ r : Nat, (sgn W a / (2 : Int) ^ m) % 18446744073709551616 = (r : Int) ∧ r < 18446744073709551616 ∧
      r % 2 ^ W = if a < 2 ^ (W - 1) then a / 2 ^ m else 2 ^ W - 1 - (2 ^ W - 1 - a) / 2 ^ m := by
  have hp := pow_le64 h2
  have hq := pow_pos2 W
  by_cases hc : a < 2 ^ (W - 1)
  · rw [if_pos hc]
    have hl : a / 2 ^ m < 2 ^ W := Nat.lt_of_le_of_lt (Nat.div_le_self _ _) ha
    have e : sgn W a = (a : Int) := by unfold sgn; rw [if_pos hc]
    have e2 : ((a : Int) / (2 : Int) ^ m) = ((a / 2 ^ m : Nat) : Int) := by simp
    refine ⟨a / 2 ^ m, ?_, by omega, Nat.mod_eq_of_lt hl⟩
    rw [e, e2]
    generalize a / 2 ^ m = x at *
    omega
  · rw [if_neg hc, sgn_neg h1 ha (by omega)]
    have hpos : (0 : Int) < 2 ^ m := by have := pow_pos2 m; exact_mod_cast this
    have hl : (2 ^ W - 1 - a) / 2 ^ m < 2 ^ W := Nat.lt_of_le_of_lt (Nat.div_le_self _ _) (by omega)
    have e2 : (((2 ^ W - 1 - a : Nat) : Int) / (2 : Int) ^ m) = (((2 ^ W - 1 - a) / 2 ^ m : Nat) : Int) := by simp
    have e3 : Int.ediv ((2 ^ W - 1 - a : Nat) : Int) ((2 : Int) ^ m) = (((2 ^ W - 1 - a) / 2 ^ m : Nat) : Int) := e2
    refine ⟨18446744073709551615 - (2 ^ W - 1 - a) / 2 ^ m, ?_, Nat.lt_of_le_of_lt (Nat.sub_le _ _) (by decide), mod_minus W _ h2 hl⟩
    rw [Int.negSucc_ediv _ hpos, e3]
    generalize (2 ^ W - 1 - a) / 2 ^ m = q at *
    omega
theorem sgn_wrap (W a : Nat) (h1 : 1 ≤ W) (h2 : W ≤ 64) (ha : a < 2 ^ W) (h : 2 ^ (W - 1) ≤ a) :
    (((a + (18446744073709551616 - 2 ^ W) : Nat) : Int) + 9223372036854775808) % 18446744073709551616 - 9223372036854775808 = sgn W a := by
  have hh := pow_half h1
  have hp := pow_le64 h2
  unfold sgn; rw [if_neg (by omega)]
  generalize 2 ^ (W - 1) = H at *
  generalize 2 ^ W = P at *
  omega
theorem sgn_wrap' (W a : Nat) (h1 : 1 ≤ W) (h2 : W ≤ 64) (h : ¬ 2 ^ (W - 1) ≤ a) :
    ((a : Int) + 9223372036854775808) % 18446744073709551616 - 9223372036854775808 = sgn W a := by
  have hh := pow_half h1
  have hp := pow_le64 h2
  unfold sgn; rw [if_pos (by omega)]
  generalize 2 ^ (W - 1) = H at *
  generalize 2 ^ W = P at *
  omega
end Go.Proofs.Yteofgmjejocleaa
