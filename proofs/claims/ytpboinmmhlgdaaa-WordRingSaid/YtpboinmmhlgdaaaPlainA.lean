/- Plain mathematics of words of a width: no program in sight. Laws of words of a width, in plain arithmetic. Laws of comparisons, in plain arithmetic. Graphs of terms, in plain lists: no program in sight. Words in plain numbers: what WordRing and WordParts say. -/
import Derived.Laws.BitsAllLaws
namespace Go.Proofs.Ytpboinmmhlgdaaa

/-- A word, as a signed number. -/
def sgn (W a : Nat) : Int := if a < 2 ^ (W - 1) then (a : Int) else (a : Int) - (2 ^ W : Nat)
def b01 (p : Bool) : Nat := if p then 1 else 0
/-- The result of an operator on words (less than 2^W), a word. -/
def wop (W o a b c : Nat) : Nat :=
  match o with
  | 2 => 2 ^ W - 1 - a
  | 3 => (2 ^ W - a) % 2 ^ W
  | 4 => (a + b) % 2 ^ W
  | 5 => (a + 2 ^ W - b) % 2 ^ W
  | 6 => a * b % 2 ^ W
  | 7 => if b = 0 then 2 ^ W - 1 else a / b
  | 8 => if b = 0 then a else a % b
  | 9 => a &&& b
  | 10 => a ||| b
  | 11 => a ^^^ b
  | 12 => if W ≤ b then 0 else a * 2 ^ b % 2 ^ W
  | 13 => if W ≤ b then 0 else a / 2 ^ b
  | 14 => if a < 2 ^ (W - 1) then a / 2 ^ min b 64 else 2 ^ W - 1 - (2 ^ W - 1 - a) / 2 ^ min b 64
  | 15 => b01 (a == b)
  | 16 => b01 (a != b)
  | 17 => b01 (decide (a < b))
  | 18 => b01 (decide (a ≤ b))
  | 19 => b01 (decide (sgn W a < sgn W b))
  | 20 => b01 (decide (sgn W a ≤ sgn W b))
  | 21 => if a = 0 then c else b
  | _ => 0

def aryN (o : Nat) : Nat := if o ≤ 1 then 0 else if o ≤ 3 then 1 else if o = 21 then 3 else 2
/-- The error of Apply. -/
def wE (o W : Int) (n : Nat) : Int := if W < 1 ∨ 64 < W then 3 else if o < 2 ∨ 21 < o then 3 else if aryN o.toNat = n then 0 else 2
def wA (W : Int) (xs : List Int) (i : Nat) : Nat := (xs.getD i 0).toNat % 2 ^ W.toNat
/-- The result of Apply. -/
def wI (o W : Int) (xs : List Int) : Int := if wE o W xs.length = 0 then ((wop W.toNat o.toNat (wA W xs 0) (wA W xs 1) (wA W xs 2) : Nat) : Int) else 0

theorem two_le_pow {W : Nat} (h : 1 ≤ W) : 2 ≤ 2 ^ W := Nat.pow_le_pow_right (n := 2) (by decide) h
theorem pow_pos2 (W : Nat) : 0 < 2 ^ W := Nat.pow_pos (by decide)
theorem pow_le64 {W : Nat} (h : W ≤ 64) : 2 ^ W ≤ 18446744073709551616 := by
  have := Nat.pow_le_pow_right (n := 2) (by decide) h
  simpa using this
theorem pow_half {W : Nat} (h : 1 ≤ W) : 2 ^ W = 2 * 2 ^ (W - 1) := by
  obtain ⟨k, rfl⟩ : ∃ k, W = k + 1 := ⟨W - 1, by omega⟩
  rw [Nat.pow_succ, Nat.add_sub_cancel]; omega
theorem pow_dvd64 {W : Nat} (h : W ≤ 64) : 2 ^ W ∣ 18446744073709551616 := by
  have := Nat.pow_dvd_pow 2 h
  simpa using this
theorem mod64_mod {W : Nat} (h : W ≤ 64) (n : Nat) : n % 18446744073709551616 % 2 ^ W = n % 2 ^ W := Nat.mod_mod_of_dvd n (pow_dvd64 h)

theorem b01_lt {W : Nat} (h : 1 ≤ W) (p : Bool) : b01 p < 2 ^ W := by
  have := two_le_pow h; unfold b01; split <;> omega
theorem b01_mod {W : Nat} (h : 1 ≤ W) (p : Bool) : b01 p % 2 ^ W = b01 p := Nat.mod_eq_of_lt (b01_lt h p)

theorem wop_lt (W o a b c : Nat) (hW : 1 ≤ W) (ha : a < 2 ^ W) (hb : b < 2 ^ W) (hc : c < 2 ^ W) : wop W o a b c < 2 ^ W := by
  have hp := pow_pos2 W
  unfold wop
  split
  case h_1 => omega
  case h_2 => exact Nat.mod_lt _ hp
  case h_3 => exact Nat.mod_lt _ hp
  case h_4 => exact Nat.mod_lt _ hp
  case h_5 => exact Nat.mod_lt _ hp
  case h_6 => split; · omega
              · exact Nat.lt_of_le_of_lt (Nat.div_le_self _ _) ha
  case h_7 => split; · exact ha
              · exact Nat.lt_of_le_of_lt (Nat.mod_le _ _) ha
  case h_8 => exact Nat.lt_of_le_of_lt Nat.and_le_left ha
  case h_9 => exact Nat.or_lt_two_pow ha hb
  case h_10 => exact Nat.xor_lt_two_pow ha hb
  case h_11 => split; · exact hp
               · exact Nat.mod_lt _ hp
  case h_12 => split; · exact hp
               · exact Nat.lt_of_le_of_lt (Nat.div_le_self _ _) ha
  case h_13 => split; · exact Nat.lt_of_le_of_lt (Nat.div_le_self _ _) ha
               · exact Nat.lt_of_le_of_lt (Nat.sub_le _ _) (by omega)
  case h_20 => split <;> assumption
  case h_21 => exact hp
  all_goals exact b01_lt hW _

theorem sgn_neg {W a : Nat} (h1 : 1 ≤ W) (ha : a < 2 ^ W) (h : 2 ^ (W - 1) ≤ a) : sgn W a = Int.negSucc (2 ^ W - 1 - a) := by
  have := pow_half h1
  unfold sgn; rw [if_neg (by omega), Int.negSucc_eq]
  generalize 2 ^ (W - 1) = H at *
  generalize 2 ^ W = P at *
  omega
theorem mod_minus (W q : Nat) (h2 : W ≤ 64) (hq : q < 2 ^ W) : (18446744073709551615 - q) % 2 ^ W = 2 ^ W - 1 - q := by
  obtain ⟨k, hk⟩ := pow_dvd64 h2
  have hp := pow_le64 h2
  have hk1 : 1 ≤ k := by
    rcases Nat.eq_zero_or_pos k with h0 | h0
    · subst h0; omega
    · exact h0
  have : 2 ^ W * (k - 1) + 2 ^ W = 18446744073709551616 := by rw [hk, ← Nat.mul_succ]; congr 1; omega
  rw [show 18446744073709551615 - q = (2 ^ W - 1 - q) + 2 ^ W * (k - 1) from by omega, Nat.add_mul_mod_self_left, Nat.mod_eq_of_lt (by omega)]
/-- An arithmetic shift, at 64 bits. -/
theorem sar_raw (W a m : Nat) (h1 : 1 ≤ W) (h2 : W ≤ 64) (ha : a < 2 ^ W) :
    ∃ r : Nat, (sgn W a / (2 : Int) ^ m) % 18446744073709551616 = (r : Int) ∧ r < 18446744073709551616 ∧
      r % 2 ^ W = if a < 2 ^ (W - 1) then a / 2 ^ m else 2 ^ W - 1 - (2 ^ W - 1 - a) / 2 ^ m := by
  have hp := pow_le64 h2
  have hq := pow_pos2 W
  by_cases hc : a < 2 ^ (W - 1)
  · rw [if_pos hc]
    have hl : a / 2 ^ m < 2 ^ W := Nat.lt_of_le_of_lt (Nat.div_le_self _ _) ha
    have e : sgn W a = (a : Int) := by unfold sgn; rw [if_pos hc]
    have e2 : ((a : Int) / (2 : Int) ^ m) = ((a / 2 ^ m : Nat) : Int) := by simp
    refine ⟨a / 2 ^ m, ?_, by omega, Nat.mod_eq_of_lt hl⟩
    rw [e, e2]
    generalize a / 2 ^ m = x at *
    omega
  · rw [if_neg hc, sgn_neg h1 ha (by omega)]
    have hpos : (0 : Int) < 2 ^ m := by have := pow_pos2 m; exact_mod_cast this
    have hl : (2 ^ W - 1 - a) / 2 ^ m < 2 ^ W := Nat.lt_of_le_of_lt (Nat.div_le_self _ _) (by omega)
    have e2 : (((2 ^ W - 1 - a : Nat) : Int) / (2 : Int) ^ m) = (((2 ^ W - 1 - a) / 2 ^ m : Nat) : Int) := by simp
    have e3 : Int.ediv ((2 ^ W - 1 - a : Nat) : Int) ((2 : Int) ^ m) = (((2 ^ W - 1 - a) / 2 ^ m : Nat) : Int) := e2
    refine ⟨18446744073709551615 - (2 ^ W - 1 - a) / 2 ^ m, ?_, Nat.lt_of_le_of_lt (Nat.sub_le _ _) (by decide), mod_minus W _ h2 hl⟩
    rw [Int.negSucc_ediv _ hpos, e3]
    generalize (2 ^ W - 1 - a) / 2 ^ m = q at *
    omega
theorem sgn_wrap (W a : Nat) (h1 : 1 ≤ W) (h2 : W ≤ 64) (ha : a < 2 ^ W) (h : 2 ^ (W - 1) ≤ a) :
    (((a + (18446744073709551616 - 2 ^ W) : Nat) : Int) + 9223372036854775808) % 18446744073709551616 - 9223372036854775808 = sgn W a := by
  have hh := pow_half h1
  have hp := pow_le64 h2
  unfold sgn; rw [if_neg (by omega)]
  generalize 2 ^ (W - 1) = H at *
  generalize 2 ^ W = P at *
  omega
theorem sgn_wrap' (W a : Nat) (h1 : 1 ≤ W) (h2 : W ≤ 64) (h : ¬ 2 ^ (W - 1) ≤ a) :
    ((a : Int) + 9223372036854775808) % 18446744073709551616 - 9223372036854775808 = sgn W a := by
  have hh := pow_half h1
  have hp := pow_le64 h2
  unfold sgn; rw [if_pos (by omega)]
  generalize 2 ^ (W - 1) = H at *
  generalize 2 ^ W = P at *
  omega
end Go.Proofs.Ytpboinmmhlgdaaa
namespace Go.Proofs.Ytpboinmmhlgdaaa

section
variable (W a b c : Nat)
theorem w_neg (h1 : 1 ≤ W) (ha : a < 2 ^ W) : wop W 3 a 0 0 = wop W 4 (wop W 2 a 0 0) 1 0 := by
  show (2 ^ W - a) % 2 ^ W = (2 ^ W - 1 - a + 1) % 2 ^ W
  have := two_le_pow h1
  congr 1; omega
theorem w_sub (hb : b < 2 ^ W) : wop W 5 a b 0 = wop W 4 a (wop W 3 b 0 0) 0 := by
  show (a + 2 ^ W - b) % 2 ^ W = (a + (2 ^ W - b) % 2 ^ W) % 2 ^ W
  rw [Nat.add_mod_mod]
  congr 1; omega
theorem w_divmod (ha : a < 2 ^ W) (h0 : b ≠ 0) : wop W 4 (wop W 6 (wop W 7 a b 0) b 0) (wop W 8 a b 0) 0 = a := by
  show ((if b = 0 then 2 ^ W - 1 else a / b) * b % 2 ^ W + (if b = 0 then a else a % b)) % 2 ^ W = a
  rw [if_neg h0, if_neg h0, Nat.mod_add_mod, Nat.mul_comm, Nat.div_add_mod, Nat.mod_eq_of_lt ha]
theorem w_rem_lt (h0 : b ≠ 0) : wop W 8 a b 0 < b := by
  show (if b = 0 then a else a % b) < b
  rw [if_neg h0]; exact Nat.mod_lt _ (by omega)
theorem w_div_le (h0 : b ≠ 0) : wop W 7 a b 0 ≤ a := by
  show (if b = 0 then 2 ^ W - 1 else a / b) ≤ a
  rw [if_neg h0]; exact Nat.div_le_self _ _
theorem w_div0 : wop W 7 a 0 0 = 2 ^ W - 1 := rfl
theorem w_rem0 : wop W 8 a 0 0 = a := rfl
end
/-- What the calculator's results are, in words. -/
theorem one_mod {W : Nat} (h1 : 1 ≤ W) : 1 % 2 ^ W = 1 := Nat.mod_eq_of_lt (by have := two_le_pow h1; omega)
theorem ones_mod' {W : Nat} (h2 : W ≤ 64) : 18446744073709551615 % 2 ^ W = 2 ^ W - 1 := by
  have h := mod_minus W 0 h2 (pow_pos2 W)
  simpa using h

/-- The result of an operator on numbers, of which the lowest bits count. -/
def wm (W o x y : Nat) : Nat := wop W o (x % 2 ^ W) (y % 2 ^ W) 0
theorem wm_lt (W o x y : Nat) (h1 : 1 ≤ W) : wm W o x y < 2 ^ W := wop_lt W o _ _ 0 h1 (Nat.mod_lt _ (pow_pos2 W)) (Nat.mod_lt _ (pow_pos2 W)) (pow_pos2 W)
theorem wm_mod (W o x y : Nat) (h1 : 1 ≤ W) : wm W o x y % 2 ^ W = wm W o x y := Nat.mod_eq_of_lt (wm_lt W o x y h1)
theorem m_neg (W x : Nat) (h1 : 1 ≤ W) : wm W 3 x 0 = wm W 4 (wm W 2 x 0) 1 := by
  have h := w_neg W (x % 2 ^ W) h1 (Nat.mod_lt _ (pow_pos2 W))
  have e := wm_mod W 2 x 0 h1
  unfold wm at e ⊢
  rw [Nat.zero_mod] at e ⊢
  rw [e, one_mod h1, h]
theorem m_sub (W x y : Nat) (h1 : 1 ≤ W) : wm W 5 x y = wm W 4 x (wm W 3 y 0) := by
  have h := w_sub W (x % 2 ^ W) (y % 2 ^ W) (Nat.mod_lt _ (pow_pos2 W))
  have e := wm_mod W 3 y 0 h1
  unfold wm at e ⊢
  rw [Nat.zero_mod] at e ⊢
  rw [e, h]
theorem m_divmod (W x y : Nat) (h1 : 1 ≤ W) (h0 : y % 2 ^ W ≠ 0) : wm W 4 (wm W 6 (wm W 7 x y) y) (wm W 8 x y) = x % 2 ^ W := by
  have h := w_divmod W (x % 2 ^ W) (y % 2 ^ W) (Nat.mod_lt _ (pow_pos2 W)) h0
  have e1 := wm_mod W 7 x y h1
  have e2 := wm_mod W 8 x y h1
  have e3 := wm_mod W 6 (wm W 7 x y) y h1
  unfold wm at e1 e2 e3 ⊢
  rw [e1] at e3
  rw [e1, e2, e3, h]
theorem m_rem_lt (W x y : Nat) (h0 : y % 2 ^ W ≠ 0) : wm W 8 x y < y % 2 ^ W := w_rem_lt W _ _ h0
theorem m_div_le (W x y : Nat) (h0 : y % 2 ^ W ≠ 0) : wm W 7 x y ≤ x % 2 ^ W := w_div_le W _ _ h0
theorem m_div0 (W x y : Nat) (h2 : W ≤ 64) (h0 : y % 2 ^ W = 0) : wm W 7 x y = 18446744073709551615 % 2 ^ W := by
  unfold wm; rw [h0, ones_mod' h2]; rfl
theorem m_rem0 (W x y : Nat) (h0 : y % 2 ^ W = 0) : wm W 8 x y = x % 2 ^ W := by
  unfold wm; rw [h0]; rfl

theorem sgn_lt0 (W a : Nat) (h1 : 1 ≤ W) (ha : a < 2 ^ W) : decide (sgn W a < sgn W 0) = decide (2 ^ (W - 1) ≤ a) := by
  have hh := pow_half h1
  have hq := pow_pos2 (W - 1)
  unfold sgn
  rw [if_pos hq]
  by_cases hc : a < 2 ^ (W - 1)
  · rw [if_pos hc]
    rw [decide_eq_false (by omega), decide_eq_false (by omega)]
  · rw [if_neg hc, decide_eq_true (by omega : 2 ^ (W - 1) ≤ a)]
    apply decide_eq_true
    generalize 2 ^ (W - 1) = H at *
    generalize 2 ^ W = P at *
    omega
theorem m_slt0 (W x : Nat) (h1 : 1 ≤ W) : wm W 19 x 0 = b01 (decide (2 ^ (W - 1) ≤ x % 2 ^ W)) := by
  unfold wm
  rw [Nat.zero_mod]
  show b01 (decide (sgn W (x % 2 ^ W) < sgn W 0)) = _
  rw [sgn_lt0 W _ h1 (Nat.mod_lt _ (pow_pos2 W))]
theorem m_shl_far (W x y : Nat) (h : W ≤ y % 2 ^ W) : wm W 12 x y = 0 := by
  show (if W ≤ y % 2 ^ W then 0 else _) = 0
  rw [if_pos h]
theorem m_shr_far (W x y : Nat) (h : W ≤ y % 2 ^ W) : wm W 13 x y = 0 := by
  show (if W ≤ y % 2 ^ W then 0 else _) = 0
  rw [if_pos h]
theorem div_far (W b c : Nat) (h2 : W ≤ 64) (h : W ≤ b) (hc : c < 2 ^ W) : c / 2 ^ min b 64 = 0 := by
  have hq : 2 ^ W ≤ 2 ^ min b 64 := Nat.pow_le_pow_right (by decide) (by omega)
  exact Nat.div_eq_of_lt (by omega)
theorem m_sar_far (W x y : Nat) (h2 : W ≤ 64) (h : W ≤ y % 2 ^ W) : wm W 14 x y = if 2 ^ (W - 1) ≤ x % 2 ^ W then 18446744073709551615 % 2 ^ W else 0 := by
  have hp := pow_pos2 W
  have hx := Nat.mod_lt x hp
  unfold wm
  show (if x % 2 ^ W < 2 ^ (W - 1) then x % 2 ^ W / 2 ^ min (y % 2 ^ W) 64 else 2 ^ W - 1 - (2 ^ W - 1 - x % 2 ^ W) / 2 ^ min (y % 2 ^ W) 64) = _
  rw [div_far W _ _ h2 h hx, div_far W _ _ h2 h (by omega), ones_mod' h2]
  by_cases hc : 2 ^ (W - 1) ≤ x % 2 ^ W
  · rw [if_neg (by omega), if_pos hc]; rfl
  · rw [if_pos (by omega), if_neg hc]
theorem pow_mod_lt {W b : Nat} (h : b < W) : 2 ^ b % 2 ^ W = 2 ^ b := Nat.mod_eq_of_lt (Nat.pow_lt_pow_right (by decide) h)
theorem m_shl_mul (W x y : Nat) (h : y % 2 ^ W < W) : wm W 12 x y = wm W 6 x (2 ^ (y % 2 ^ W)) := by
  unfold wm
  rw [pow_mod_lt h]
  show (if W ≤ y % 2 ^ W then 0 else _) = _
  rw [if_neg (by omega)]; rfl
theorem m_shr_div (W x y : Nat) (h : y % 2 ^ W < W) : wm W 13 x y = wm W 7 x (2 ^ (y % 2 ^ W)) := by
  have hq := pow_pos2 (y % 2 ^ W)
  unfold wm
  rw [pow_mod_lt h]
  show (if W ≤ y % 2 ^ W then 0 else _) = (if 2 ^ (y % 2 ^ W) = 0 then _ else _)
  rw [if_neg (by omega), if_neg (by omega)]
theorem m_sar_pos (W x y : Nat) (h2 : W ≤ 64) (h : y % 2 ^ W < W) (hc : ¬ 2 ^ (W - 1) ≤ x % 2 ^ W) : wm W 14 x y = wm W 13 x y := by
  unfold wm
  show (if x % 2 ^ W < 2 ^ (W - 1) then x % 2 ^ W / 2 ^ min (y % 2 ^ W) 64 else _) = (if W ≤ y % 2 ^ W then 0 else _)
  rw [if_pos (by omega), if_neg (by omega), Nat.min_eq_left (by omega)]
theorem m_sar_neg (W x y : Nat) (h1 : 1 ≤ W) (h2 : W ≤ 64) (h : y % 2 ^ W < W) (hc : 2 ^ (W - 1) ≤ x % 2 ^ W) : wm W 14 x y = wm W 2 (wm W 13 (wm W 2 x 0) y) 0 := by
  have e1 := wm_mod W 2 x 0 h1
  have e2 := wm_mod W 13 (wm W 2 x 0) y h1
  have l : wm W 2 x 0 = 2 ^ W - 1 - x % 2 ^ W := by unfold wm; rfl
  have l2 : wm W 13 (wm W 2 x 0) y = (2 ^ W - 1 - x % 2 ^ W) / 2 ^ (y % 2 ^ W) := by
    have : wm W 13 (wm W 2 x 0) y = if W ≤ y % 2 ^ W then 0 else (wm W 2 x 0 % 2 ^ W) / 2 ^ (y % 2 ^ W) := rfl
    rw [this, if_neg (by omega), e1, l]
  have l3 : wm W 2 (wm W 13 (wm W 2 x 0) y) 0 = 2 ^ W - 1 - wm W 13 (wm W 2 x 0) y % 2 ^ W := by unfold wm; rfl
  rw [l3, e2, l2]
  show (if x % 2 ^ W < 2 ^ (W - 1) then _ else 2 ^ W - 1 - (2 ^ W - 1 - x % 2 ^ W) / 2 ^ min (y % 2 ^ W) 64) = _
  rw [if_neg (by omega), Nat.min_eq_left (by omega)]
end Go.Proofs.Ytpboinmmhlgdaaa
namespace Go.Proofs.Ytpboinmmhlgdaaa

theorem b01_le (p : Bool) : b01 p ≤ 1 := by unfold b01; split <;> omega
theorem m_lt (W x y : Nat) : wm W 17 x y = b01 (decide (x % 2 ^ W < y % 2 ^ W)) := rfl
theorem m_eq (W x y : Nat) : wm W 15 x y = b01 (x % 2 ^ W == y % 2 ^ W) := rfl
theorem m_le (W x y : Nat) : wm W 18 x y = b01 (decide (x % 2 ^ W ≤ y % 2 ^ W)) := rfl
theorem m_ne (W x y : Nat) : wm W 16 x y = b01 (x % 2 ^ W != y % 2 ^ W) := rfl
theorem m_slt (W x y : Nat) : wm W 19 x y = b01 (decide (sgn W (x % 2 ^ W) < sgn W (y % 2 ^ W))) := rfl
theorem m_sle (W x y : Nat) : wm W 20 x y = b01 (decide (sgn W (x % 2 ^ W) ≤ sgn W (y % 2 ^ W))) := rfl
theorem m_tri (W x y : Nat) : wm W 17 x y + wm W 15 x y + wm W 17 y x = 1 ∧ wm W 18 x y = wm W 17 x y + wm W 15 x y ∧ wm W 16 x y + wm W 15 x y = 1 := by
  rw [m_lt, m_eq, m_lt, m_le, m_ne]
  generalize x % 2 ^ W = a
  generalize y % 2 ^ W = b
  rcases Nat.lt_trichotomy a b with h | h | h
  · simp [b01, h, Nat.le_of_lt h, Nat.ne_of_lt h, Nat.not_lt.2 (Nat.le_of_lt h)]
  · subst h; simp [b01]
  · have : ¬ a = b := by omega
    have h2 : ¬ a ≤ b := by omega
    have h3 : ¬ a < b := by omega
    simp [b01, h, this, h2, h3]
/-- A word with its highest bit turned. -/
theorem xor_top (W x : Nat) (h1 : 1 ≤ W) : (x ^^^ 2 ^ (W - 1)) % 2 ^ W = if x % 2 ^ W < 2 ^ (W - 1) then x % 2 ^ W + 2 ^ (W - 1) else x % 2 ^ W - 2 ^ (W - 1) := by
  have hh := pow_half h1
  have hx := Nat.mod_lt x (pow_pos2 W)
  rw [Nat.xor_mod_two_pow, Nat.mod_eq_of_lt (show 2 ^ (W - 1) < 2 ^ W by have := pow_pos2 (W - 1); omega)]
  generalize hA : x % 2 ^ W = a at *
  by_cases hc : a < 2 ^ (W - 1)
  · rw [if_pos hc]
    have := Nat.two_pow_add_eq_or_of_lt hc 1
    rw [Nat.mul_one] at this
    rw [Nat.add_comm, this]
    apply Nat.eq_of_testBit_eq
    intro i
    rw [Nat.testBit_xor, Nat.testBit_or, Nat.testBit_two_pow]
    by_cases hi : W - 1 = i
    · subst hi
      simp [Nat.testBit_lt_two_pow hc]
    · simp [hi]
  · rw [if_neg hc]
    obtain ⟨b, rfl⟩ : ∃ b, a = 2 ^ (W - 1) + b := ⟨a - 2 ^ (W - 1), by omega⟩
    have hb : b < 2 ^ (W - 1) := by omega
    have := Nat.two_pow_add_eq_or_of_lt hb 1
    rw [Nat.mul_one] at this
    rw [Nat.add_sub_cancel_left, this]
    apply Nat.eq_of_testBit_eq
    intro i
    rw [Nat.testBit_xor, Nat.testBit_or, Nat.testBit_two_pow]
    by_cases hi : W - 1 = i
    · subst hi
      simp [Nat.testBit_lt_two_pow hb]
    · simp [hi]
theorem m_slt_top (W x y : Nat) (h1 : 1 ≤ W) : wm W 19 x y = wm W 17 (x ^^^ 2 ^ (W - 1)) (y ^^^ 2 ^ (W - 1)) ∧ wm W 20 x y = wm W 18 (x ^^^ 2 ^ (W - 1)) (y ^^^ 2 ^ (W - 1)) := by
  have hh := pow_half h1
  have hx := Nat.mod_lt x (pow_pos2 W)
  have hy := Nat.mod_lt y (pow_pos2 W)
  rw [m_slt, m_sle, m_lt, m_le, xor_top W x h1, xor_top W y h1]
  generalize x % 2 ^ W = a at *
  generalize y % 2 ^ W = b at *
  unfold sgn
  generalize 2 ^ (W - 1) = H at *
  generalize 2 ^ W = P at *
  by_cases c1 : a < H <;> by_cases c2 : b < H
  all_goals
    simp only [c1, c2, if_true, if_false]
    constructor <;> (congr 1; rw [decide_eq_decide]; omega)
end Go.Proofs.Ytpboinmmhlgdaaa
namespace Go.Proofs.Ytpboinmmhlgdaaa

/-- A node: operator, number, arguments. -/
abbrev PNode := Nat × Nat × List Int
def NodeOk (n : PNode) : Prop := n.1 ≤ 21 ∧ n.2.1 ≤ 18446744073709551615 ∧ n.2.2.length = aryN n.1
/-- The nodes of a graph: each once, of the right form, its arguments before it. -/
structure WFL (L : List PNode) : Prop where
  nodup : L.Nodup
  ok : ∀ n ∈ L, NodeOk n
  args : ∀ (i : Nat) (n : PNode), L[i]? = some n → ∀ a ∈ n.2.2, (0 : Int) ≤ a ∧ a < (i : Int)
/-- What becomes of a list of nodes that is asked for a node: the list, the term, the error. -/
def askP (room : Nat) (L : List PNode) (n : PNode) : List PNode × Nat × Nat :=
  match L.findIdx? (· == n) with
  | some t => (L, t, 0)
  | none => if room ≤ L.length then (L, 0, 10) else (L ++ [n], L.length, 0)
theorem WFL.nil : WFL [] := ⟨by simp, by simp, by simp⟩
theorem WFL.snoc {L : List PNode} (h : WFL L) {n : PNode} (hn : n ∉ L) (hok : NodeOk n) (ha : ∀ a ∈ n.2.2, (0 : Int) ≤ a ∧ a < (L.length : Int)) : WFL (L ++ [n]) := by
  refine ⟨?_, ?_, ?_⟩
  · rw [List.nodup_append]
    refine ⟨h.nodup, by simp, ?_⟩
    intro x hx b hb hab
    simp at hb
    subst hb; subst hab
    exact hn hx
  · intro m hm
    rcases List.mem_append.1 hm with hm | hm
    · exact h.ok m hm
    · simp at hm; subst hm; exact hok
  · intro i m hm a hma
    rcases Nat.lt_or_ge i L.length with hl | hl
    · rw [List.getElem?_append_left hl] at hm
      exact h.args i m hm a hma
    · rw [List.getElem?_append_right hl] at hm
      have : i - L.length = 0 := by
        rcases Nat.eq_zero_or_pos (i - L.length) with h0 | h0
        · exact h0
        · rw [List.getElem?_eq_none (by simp; omega)] at hm; cases hm
      rw [this] at hm
      simp at hm; subst hm
      have := ha a hma
      omega
theorem find_some {L : List PNode} {n : PNode} {t : Nat} (h : L.findIdx? (· == n) = some t) : L[t]? = some n := by
  rw [List.findIdx?_eq_some_iff_getElem] at h
  obtain ⟨ht, h1, _⟩ := h
  rw [List.getElem?_eq_getElem ht]
  simpa using h1
theorem find_none {L : List PNode} {n : PNode} (h : L.findIdx? (· == n) = none) : n ∉ L := by
  rw [List.findIdx?_eq_none_iff] at h
  intro hm
  simpa using h n hm
theorem find_of_mem {L : List PNode} {n : PNode} {t : Nat} (hn : L.Nodup) (h : L[t]? = some n) : L.findIdx? (· == n) = some t := by
  cases hf : L.findIdx? (· == n) with
  | none => exact absurd (List.mem_of_getElem? h) (find_none hf)
  | some u =>
    have hu := find_some hf
    have h1 := List.getElem?_eq_some_iff.1 h
    have h2 := List.getElem?_eq_some_iff.1 hu
    obtain ⟨l1, e1⟩ := h1
    obtain ⟨l2, e2⟩ := h2
    congr 1
    exact (List.getElem_inj hn).1 (e2.trans e1.symm)
theorem askP_wf {L : List PNode} (h : WFL L) (room : Nat) {n : PNode} (hok : NodeOk n) (ha : ∀ a ∈ n.2.2, (0 : Int) ≤ a ∧ a < (L.length : Int)) : WFL (askP room L n).1 := by
  unfold askP
  cases hf : L.findIdx? (· == n) with
  | some t => exact h
  | none =>
    dsimp only
    split
    · exact h
    · exact h.snoc (find_none hf) hok ha
theorem askP_len (room : Nat) (L : List PNode) (n : PNode) : L.length ≤ (askP room L n).1.length ∧ (askP room L n).1.length ≤ L.length + 1 := by
  unfold askP
  cases L.findIdx? (· == n) with
  | some t => simp
  | none => dsimp only; split <;> simp
end Go.Proofs.Ytpboinmmhlgdaaa
namespace Go.Proofs.Ytpboinmmhlgdaaa

theorem m_comm (W o x y : Nat) (ho : o = 4 ∨ o = 6 ∨ o = 9 ∨ o = 10 ∨ o = 11 ∨ o = 15 ∨ o = 16) : wm W o x y = wm W o y x := by
  unfold wm
  generalize x % 2 ^ W = a
  generalize y % 2 ^ W = b
  rcases ho with rfl | rfl | rfl | rfl | rfl | rfl | rfl
  · show (a + b) % 2 ^ W = (b + a) % 2 ^ W; rw [Nat.add_comm]
  · show a * b % 2 ^ W = b * a % 2 ^ W; rw [Nat.mul_comm]
  · exact Nat.and_comm a b
  · exact Nat.or_comm a b
  · exact Nat.xor_comm a b
  · show b01 (a == b) = b01 (b == a); rw [show (a == b) = (b == a) from by rw [Bool.eq_iff_iff, beq_iff_eq, beq_iff_eq]; exact eq_comm]
  · show b01 (a != b) = b01 (b != a); rw [show (a != b) = (b != a) from by rw [Bool.eq_iff_iff, bne_iff_ne, bne_iff_ne]; exact ne_comm]
theorem m_assoc (W o x y z : Nat) (h1 : 1 ≤ W) (ho : o = 4 ∨ o = 6 ∨ o = 9 ∨ o = 10 ∨ o = 11) : wm W o (wm W o x y) z = wm W o x (wm W o y z) := by
  have e1 := wm_mod W o x y h1
  have e2 := wm_mod W o y z h1
  have u1 : wm W o (wm W o x y) z = wop W o (wm W o x y) (z % 2 ^ W) 0 := by rw [show wm W o (wm W o x y) z = wop W o (wm W o x y % 2 ^ W) (z % 2 ^ W) 0 from rfl, e1]
  have u2 : wm W o x (wm W o y z) = wop W o (x % 2 ^ W) (wm W o y z) 0 := by rw [show wm W o x (wm W o y z) = wop W o (x % 2 ^ W) (wm W o y z % 2 ^ W) 0 from rfl, e2]
  rw [u1, u2]
  unfold wm
  generalize x % 2 ^ W = a
  generalize y % 2 ^ W = b
  generalize z % 2 ^ W = c
  rcases ho with rfl | rfl | rfl | rfl | rfl
  · show ((a + b) % 2 ^ W + c) % 2 ^ W = (a + (b + c) % 2 ^ W) % 2 ^ W
    rw [Nat.mod_add_mod, Nat.add_mod_mod, Nat.add_assoc]
  · show (a * b % 2 ^ W * c) % 2 ^ W = (a * (b * c % 2 ^ W)) % 2 ^ W
    rw [Nat.mod_mul_mod, Nat.mul_mod_mod, Nat.mul_assoc]
  · exact Nat.and_assoc a b c
  · exact Nat.or_assoc a b c
  · exact Nat.xor_assoc a b c
theorem m_distr (W o p x y z : Nat) (h1 : 1 ≤ W) (ho : o = 6 ∧ p = 4 ∨ o = 9 ∧ p = 10 ∨ o = 9 ∧ p = 11 ∨ o = 10 ∧ p = 9) : wm W o x (wm W p y z) = wm W p (wm W o x y) (wm W o x z) := by
  have e1 := wm_mod W p y z h1
  have e2 := wm_mod W o x y h1
  have e3 := wm_mod W o x z h1
  have u1 : wm W o x (wm W p y z) = wop W o (x % 2 ^ W) (wm W p y z) 0 := by rw [show wm W o x (wm W p y z) = wop W o (x % 2 ^ W) (wm W p y z % 2 ^ W) 0 from rfl, e1]
  have u2 : wm W p (wm W o x y) (wm W o x z) = wop W p (wm W o x y) (wm W o x z) 0 := by rw [show wm W p (wm W o x y) (wm W o x z) = wop W p (wm W o x y % 2 ^ W) (wm W o x z % 2 ^ W) 0 from rfl, e2, e3]
  rw [u1, u2]
  unfold wm
  generalize x % 2 ^ W = a
  generalize y % 2 ^ W = b
  generalize z % 2 ^ W = c
  rcases ho with ⟨rfl, rfl⟩ | ⟨rfl, rfl⟩ | ⟨rfl, rfl⟩ | ⟨rfl, rfl⟩
  · show (a * ((b + c) % 2 ^ W)) % 2 ^ W = (a * b % 2 ^ W + a * c % 2 ^ W) % 2 ^ W
    rw [Nat.mul_mod_mod, Nat.mul_add, ← Nat.add_mod]
  · show a &&& (b ||| c) = (a &&& b) ||| (a &&& c)
    exact Nat.and_or_distrib_left a b c
  · show a &&& (b ^^^ c) = (a &&& b) ^^^ (a &&& c)
    exact Nat.and_xor_distrib_left
  · show a ||| (b &&& c) = (a ||| b) &&& (a ||| c)
    exact Nat.or_and_distrib_left a b c
theorem m_add0 (W x : Nat) : wm W 4 x 0 = x % 2 ^ W := by
  show (x % 2 ^ W + 0 % 2 ^ W) % 2 ^ W = _
  simp
theorem m_mul1 (W x : Nat) (h1 : 1 ≤ W) : wm W 6 x 1 = x % 2 ^ W := by
  show (x % 2 ^ W * (1 % 2 ^ W)) % 2 ^ W = _
  rw [one_mod h1]; simp
theorem m_xorx (W x : Nat) : wm W 11 x x = 0 := by
  show (x % 2 ^ W) ^^^ (x % 2 ^ W) = 0
  simp
theorem m_or0 (W x : Nat) : wm W 10 x 0 = x % 2 ^ W := by
  show (x % 2 ^ W) ||| (0 % 2 ^ W) = _
  simp
/-- Numbers that are added above the width. -/
theorem above_add (W x h : Nat) (h2 : W < 64) : (x + h * 2 ^ W % 18446744073709551616) % 18446744073709551616 % 2 ^ W = x % 2 ^ W := by
  rw [Nat.add_mod_mod, mod64_mod (by omega), Nat.add_mul_mod_self_right]
theorem above_sub (W x h : Nat) (h2 : W < 64) (hx : x < 18446744073709551616) : (x + 18446744073709551616 - h * 2 ^ W % 18446744073709551616) % 18446744073709551616 % 2 ^ W = x % 2 ^ W := by
  obtain ⟨k, hk⟩ := pow_dvd64 (show W ≤ 64 by omega)
  have hp := pow_pos2 W
  have e : h * 2 ^ W % 18446744073709551616 = 2 ^ W * (h % k) := by
    conv => lhs; rw [hk, Nat.mul_comm h]
    exact Nat.mul_mod_mul_left _ _ _
  have hkp : 0 < k := by
    rcases Nat.eq_zero_or_pos k with h0 | h0
    · subst h0; omega
    · exact h0
  have hlt : h % k < k := Nat.mod_lt _ hkp
  rw [e, mod64_mod (by omega)]
  have e2 : x + 18446744073709551616 - 2 ^ W * (h % k) = x + 2 ^ W * (k - h % k) := by
    rw [hk, Nat.mul_sub]
    have := Nat.mul_le_mul_left (2 ^ W) (Nat.le_of_lt hlt)
    omega
  rw [e2, Nat.add_mul_mod_self_left]
theorem above_xor (W x h : Nat) (h2 : W < 64) : (x ^^^ (h * 2 ^ W % 18446744073709551616)) % 2 ^ W = x % 2 ^ W := by
  rw [Nat.xor_mod_two_pow, mod64_mod (by omega), Nat.mul_mod_left]
  simp
theorem pow_mod_mod {K W : Nat} (h : K ≤ W) (n : Nat) : n % 2 ^ W % 2 ^ K = n % 2 ^ K := Nat.mod_mod_of_dvd n (Nat.pow_dvd_pow 2 h)
/-- The lowest bits of a result. -/
theorem m_low (K W o x y : Nat) (h : K ≤ W) (_hk1 : 1 ≤ K) (ho : o = 2 ∨ o = 3 ∨ o = 4 ∨ o = 5 ∨ o = 6 ∨ o = 9 ∨ o = 10 ∨ o = 11) : wm K o x y = wm W o x y % 2 ^ K := by
  unfold wm
  have ex := pow_mod_mod h x
  have ey := pow_mod_mod h y
  rw [← ex, ← ey]
  have hx := Nat.mod_lt x (pow_pos2 W)
  have hy := Nat.mod_lt y (pow_pos2 W)
  clear ex ey
  generalize x % 2 ^ W = a at *
  generalize y % 2 ^ W = b at *
  obtain ⟨c, hc⟩ := Nat.pow_dvd_pow 2 h
  have hp := pow_pos2 K
  have hcp : 0 < c := by
    rcases Nat.eq_zero_or_pos c with h0 | h0
    · subst h0; have := pow_pos2 W; omega
    · exact h0
  have sub : ∀ a : Nat, a < 2 ^ W → ∀ e : Nat, (e + 2 ^ W - a) % 2 ^ K = (e + 2 ^ K - a % 2 ^ K) % 2 ^ K := by
    intro a ha e
    have hd := Nat.div_add_mod a (2 ^ K)
    have hr := Nat.mod_lt a hp
    have hq : a / 2 ^ K < c := by rw [Nat.div_lt_iff_lt_mul hp, Nat.mul_comm]; rw [hc] at ha; exact ha
    have e2 : e + 2 ^ W - a = (e + 2 ^ K - a % 2 ^ K) + 2 ^ K * (c - 1 - a / 2 ^ K) := by
      have h3 : 2 ^ K * (c - 1 - a / 2 ^ K) + 2 ^ K * (a / 2 ^ K) + 2 ^ K = 2 ^ K * c := by
        rw [← Nat.mul_add, ← Nat.mul_succ]; congr 1; omega
      rw [hc]; omega
    rw [e2, Nat.add_mul_mod_self_left]
  rcases ho with rfl | rfl | rfl | rfl | rfl | rfl | rfl | rfl
  · show 2 ^ K - 1 - a % 2 ^ K = (2 ^ W - 1 - a) % 2 ^ K
    have hd := Nat.div_add_mod a (2 ^ K)
    have hr := Nat.mod_lt a hp
    have hq : a / 2 ^ K < c := by rw [Nat.div_lt_iff_lt_mul hp, Nat.mul_comm]; rw [hc] at hx; exact hx
    have e2 : 2 ^ W - 1 - a = (2 ^ K - 1 - a % 2 ^ K) + 2 ^ K * (c - 1 - a / 2 ^ K) := by
      have h3 : 2 ^ K * (c - 1 - a / 2 ^ K) + 2 ^ K * (a / 2 ^ K) + 2 ^ K = 2 ^ K * c := by
        rw [← Nat.mul_add, ← Nat.mul_succ]; congr 1; omega
      rw [hc]; omega
    rw [e2, Nat.add_mul_mod_self_left]
    exact (Nat.mod_eq_of_lt (by omega)).symm
  · show (2 ^ K - a % 2 ^ K) % 2 ^ K = (2 ^ W - a) % 2 ^ W % 2 ^ K
    rw [pow_mod_mod h]
    have := sub a hx 0
    rw [Nat.zero_add, Nat.zero_add] at this
    exact this.symm
  · show (a % 2 ^ K + b % 2 ^ K) % 2 ^ K = (a + b) % 2 ^ W % 2 ^ K
    rw [pow_mod_mod h, ← Nat.add_mod]
  · show (a % 2 ^ K + 2 ^ K - b % 2 ^ K) % 2 ^ K = (a + 2 ^ W - b) % 2 ^ W % 2 ^ K
    rw [pow_mod_mod h, sub b hy a]
    have hr := Nat.mod_lt b hp
    rw [Nat.add_sub_assoc (by omega), Nat.add_sub_assoc (by omega), Nat.mod_add_mod]
  · show a % 2 ^ K * (b % 2 ^ K) % 2 ^ K = a * b % 2 ^ W % 2 ^ K
    rw [pow_mod_mod h, ← Nat.mul_mod]
  · exact Nat.and_mod_two_pow.symm
  · exact Nat.or_mod_two_pow.symm
  · exact Nat.xor_mod_two_pow.symm
theorem m_low_shl (K W x y : Nat) (h : K ≤ W) (hb : y % 2 ^ W < K) (hk : y % 2 ^ W % 2 ^ K = y % 2 ^ W) : wm K 12 x (y % 2 ^ W) = wm W 12 x y % 2 ^ K := by
  show (if K ≤ y % 2 ^ W % 2 ^ K then 0 else x % 2 ^ K * 2 ^ (y % 2 ^ W % 2 ^ K) % 2 ^ K) = (if W ≤ y % 2 ^ W then 0 else x % 2 ^ W * 2 ^ (y % 2 ^ W) % 2 ^ W) % 2 ^ K
  rw [hk, if_neg (by omega), if_neg (by omega), pow_mod_mod h, Nat.mod_mul_mod]
  conv => rhs; rw [Nat.mul_mod, pow_mod_mod h, ← Nat.mul_mod]
end Go.Proofs.Ytpboinmmhlgdaaa
