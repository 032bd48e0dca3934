/- RefW, RGraphC, BothA: joined by wip/bundle.py. -/
import Derived.Test.YteamnchoddegpaaGreatDoorB1
import Derived.Test.YteamnchoddegpaaGreatDoorB2
import Derived.Test.YteamnchoddegpaaGreatDoorB3
import Derived.Test.YteamnchoddegpaaGreatDoorB4
import Derived.Test.YteamnchoddegpaaGreatDoorB6
import Derived.OrdersHeld
import Derived.StillTail
import Derived.Deep.RegionHeld3
import Derived.Laws.EntriesVeiled
namespace Go.Proofs.YteamnchoddegpaaGreatDoor
open Go.RowKit
set_option maxHeartbeats 400000
theorem rcheck_any (n : Int) (w : World) :
    Calls Tryz.prog 121 #[.int .i64 n] w fun e w' => e = .returned (.int .i64 (chk n)) ∧ w = w' := by
  by_cases h1 : n < 1
  · go_enter Tryz.func121, Tryz.ntmps121
    go_wp2
    go_ret
    simp [h1, chk]
  · by_cases h2 : 64 < n
    · go_enter Tryz.func121, Tryz.ntmps121
      go_wp2
      go_ret
      simp [h2, chk]
    · go_enter Tryz.func121, Tryz.ntmps121
      go_wp2
      go_ret
      simp [h1, h2, chk]
theorem rarity_any (o : Int) (h0 : 0 ≤ o) (h1 : o ≤ 255) (w : World) :
    Calls Tryz.prog 82 #[.int .u8 o] w fun e w' => e = .returned (.tuple #[.int .i64 (if 21 < o then 0 else aryN o.toNat), .int .i64 (if 21 < o then 3 else 0)]) ∧ w = w' := by
  obtain ⟨n, rfl⟩ := Int.eq_ofNat_of_zero_le h0
  by_cases a1 : n ≤ 1
  · have hr : aryN n = 0 := by unfold aryN; rw [if_pos a1]
    go_enter Tryz.func82, Tryz.ntmps82
    go_wp2
    go_ret2
    simp 
  by_cases a2 : n ≤ 3
  · have hr : aryN n = 1 := by unfold aryN; rw [if_neg a1, if_pos a2]
    go_enter Tryz.func82, Tryz.ntmps82
    go_wp2
    go_ret2
    simp 
  by_cases a3 : n = 21
  · subst a3
    go_enter Tryz.func82, Tryz.ntmps82
    go_wp2
    go_ret2
    exact ⟨rfl, rfl⟩
  have hr : aryN n = 2 := by unfold aryN; rw [if_neg a1, if_neg a2, if_neg a3]
  have hd : ((n : Int) == 21) = false := by simp; omega
  by_cases a4 : 21 < n
  · have h4 : 21 < (n : Int) := by omega
    go_enter Tryz.func82, Tryz.ntmps82
    go_wp2
    go_ret2
    simp 
  · have h4 : ¬ 21 < (n : Int) := by omega
    go_enter Tryz.func82, Tryz.ntmps82
    go_wp2
    go_ret2
    simp 
theorem rtrim_any (W v : Nat) (h1 : 1 ≤ W) (h2 : W ≤ 64) (hv : v ≤ 18446744073709551615) (w : World) :
    Calls Tryz.prog 122 #[.int .i64 W, .int .u64 v] w fun e w' => e = .returned (.int .u64 ((v % 2 ^ W : Nat) : Int)) ∧ w = w' := by
  by_cases hW : W = 64
  · subst hW
    have hr : v % 2 ^ 64 = v := Nat.mod_eq_of_lt (by omega)
    rw [hr]; clear hr
    go_enter Tryz.func122, Tryz.ntmps122
    go_wp2
    go_ret
    exact ⟨rfl, rfl⟩
  · have hd : ((W : Int) == 64) = false := by simp; omega
    have hl : 2 ^ W < 18446744073709551616 := by
      have := Nat.pow_lt_pow_right (a := 2) (by decide) (show W < 64 by omega); simpa using this
    have hp := pow_pos2 W
    have hw : IntKind.u64.wrap ((2 : Int) ^ W) = ((2 ^ W : Nat) : Int) := by
      have e : (2 : Int) ^ W = ((2 ^ W : Nat) : Int) := by simp
      rw [e, wrap_u64_nat, Nat.mod_eq_of_lt hl]
    have hz : (((2 ^ W : Nat) : Int) == 0) = false := by
      rw [beq_eq_false_iff_ne]; omega
    generalize hP : 2 ^ W = P at *
    have HP := Lib.hid hP
    clear hl hP
    go_enter Tryz.func122, Tryz.ntmps122
    go_wp2
    go_ret
    exact ⟨rfl, rfl⟩
theorem rtop_any (W a : Nat) (h1 : 1 ≤ W) (h2 : W ≤ 64) (ha : a < 2 ^ W) (w : World) :
    Calls Tryz.prog 150 #[.int .i64 W, .int .u64 a] w fun e w' => e = .returned (.bool (decide (2 ^ (W - 1) ≤ a))) ∧ w = w' := by
  have hh := pow_half h1
  have hq := pow_pos2 (W - 1)
  have hb : (((a : Int) / 2 ^ (W - 1)) == 1) = decide (2 ^ (W - 1) ≤ a) := by
    have e : ((a : Int) / 2 ^ (W - 1)) = ((a / 2 ^ (W - 1) : Nat) : Int) := by simp
    have hl : a / 2 ^ (W - 1) < 2 := by rw [Nat.div_lt_iff_lt_mul hq]; omega
    rw [e, Bool.eq_iff_iff]
    simp only [beq_iff_eq, decide_eq_true_eq]
    constructor
    · intro h
      have h' : a / 2 ^ (W - 1) = 1 := by omega
      rcases Nat.lt_or_ge a (2 ^ (W - 1)) with hc | hc
      · rw [Nat.div_eq_of_lt hc] at h'; omega
      · exact hc
    · intro h
      have : 1 ≤ a / 2 ^ (W - 1) := (Nat.le_div_iff_mul_le hq).2 (by omega)
      omega
  have Hb := Lib.hid hb; have Ha := Lib.hid ha; clear ha hb hh hq
  go_enter Tryz.func150, Tryz.ntmps150
  go_wp2
  go_ret
  refine ⟨?_, rfl⟩
  rw [← Hb.out]
  simp
theorem rbit_any (p : Bool) (w : World) :
    Calls Tryz.prog 151 #[.bool p] w fun e w' => e = .returned (.int .u64 (b01 p)) ∧ w = w' := by
  cases p <;>
  · go_enter Tryz.func151, Tryz.ntmps151
    go_wp2
    go_ret
    exact ⟨rfl, rfl⟩
/-- Less, as signed words. -/
def slt (W a b : Nat) : Bool := decide (sgn W a < sgn W b)
theorem slt_eq (W a b : Nat) (h1 : 1 ≤ W) (ha : a < 2 ^ W) (hb : b < 2 ^ W) : slt W a b = if decide (2 ^ (W - 1) ≤ a) = decide (2 ^ (W - 1) ≤ b) then decide (a < b) else decide (2 ^ (W - 1) ≤ a) := by
  have hh := pow_half h1
  unfold slt sgn
  generalize 2 ^ (W - 1) = H at *
  generalize 2 ^ W = P at *
  have d1 : decide (H ≤ a) = !decide (a < H) := by rw [Bool.eq_iff_iff]; simp
  have d2 : decide (H ≤ b) = !decide (b < H) := by rw [Bool.eq_iff_iff]; simp
  rw [d1, d2]
  by_cases c1 : a < H <;> by_cases c2 : b < H
  all_goals
    simp only [c1, c2, decide_true, decide_false, if_true, if_false, Bool.not_true, Bool.not_false, reduceCtorEq]
    first | (rw [decide_eq_decide]; omega) | (apply decide_eq_true; omega) | (apply decide_eq_false; omega)
theorem rtop_is (W a : Nat) (h1 : 1 ≤ W) (h2 : W ≤ 64) (A : Bool) (h : a < 2 ^ W ∧ decide (2 ^ (W - 1) ≤ a) = A) (w : World) :
    Calls Tryz.prog 150 #[.int .i64 W, .int .u64 a] w fun e w' => e = .returned (.bool A) ∧ w = w' := by
  rw [← h.2]; exact rtop_any W a h1 h2 h.1 w
theorem rless_any (W a b : Nat) (h1 : 1 ≤ W) (h2 : W ≤ 64) (ha : a < 2 ^ W) (hb : b < 2 ^ W) (w : World) :
    Calls Tryz.prog 152 #[.int .i64 W, .int .u64 a, .int .u64 b] w fun e w' => e = .returned (.bool (slt W a b)) ∧ w = w' := by
  have hs := slt_eq W a b h1 ha hb
  obtain ⟨A, hA⟩ : ∃ A, decide (2 ^ (W - 1) ≤ a) = A := ⟨_, rfl⟩
  obtain ⟨B, hB⟩ : ∃ B, decide (2 ^ (W - 1) ≤ b) = B := ⟨_, rfl⟩
  rw [hA, hB] at hs
  have Ha := Lib.hid (And.intro ha hA); have Hb := Lib.hid (And.intro hb hB); clear ha hb hA hB
  rw [hs]; clear hs
  cases A <;> cases B
  all_goals
    simp only [if_true, if_false, reduceCtorEq]
    go_enter Tryz.func152, Tryz.ntmps152
    go_wp2_with fail
    refine (rtop_is W a h1 h2 _ Ha.out _).mono ?_; rintro e w' ⟨rfl, rfl⟩
    go_wp2_with fail
    refine (rtop_is W b h1 h2 _ Hb.out _).mono ?_; rintro e w' ⟨rfl, rfl⟩
    go_wp2_with (go_at_call 150; refine (rtop_is W a h1 h2 _ Ha.out _).mono ?_; rintro e w' ⟨rfl, rfl⟩)
    go_ret
    exact ⟨rfl, rfl⟩
theorem ones_mod (W a : Nat) (h2 : W ≤ 64) : 18446744073709551615 % 2 ^ W = wop W 7 a 0 0 := by
  have h := mod_minus W 0 h2 (pow_pos2 W)
  simpa [wop] using h
theorem rest_any (o W a b : Nat) (ho : o = 7 ∨ o = 8 ∨ 15 ≤ o ∧ o ≤ 20) (h1 : 1 ≤ W) (h2 : W ≤ 64) (ha : a < 2 ^ W) (hb : b < 2 ^ W) (w : World) :
    Calls Tryz.prog 141 #[.int .u8 o, .int .i64 W, .int .u64 a, .int .u64 b] w (Raw W o a b w) := by
  have hp := pow_le64 h2
  have Ha := Lib.hid ha; have Hb := Lib.hid hb; have Hp := Lib.hid hp; clear ha hb hp
  rcases ho with rfl | rfl | ho
  · by_cases h0 : b = 0
    · subst h0
      go_enter Tryz.func141, Tryz.ntmps141
      go_wp2
      go_ret
      exact ⟨18446744073709551615, by simp, by omega, ones_mod W a h2, rfl⟩
    · have hz : ((b : Int) == 0) = false := by simp; omega
      go_enter Tryz.func141, Tryz.ntmps141
      go_wp2
      go_ret
      have hl : a / b < 2 ^ W := Nat.lt_of_le_of_lt (Nat.div_le_self _ _) Ha.out
      have := Hp.out
      refine ⟨a / b, ?_, by omega, ?_, rfl⟩
      · show Ending.returned (.int .u64 (IntKind.u64.wrap ((a : Int) / (b : Int)))) = _
        rw [← Int.natCast_ediv, wrap_u64_nat, Nat.mod_eq_of_lt (by omega)]
      · rw [Nat.mod_eq_of_lt hl]; simp [wop, h0]
  · by_cases h0 : b = 0
    · subst h0
      go_enter Tryz.func141, Tryz.ntmps141
      go_wp2
      go_ret
      exact ⟨a, rfl, by have := Hp.out; have := Ha.out; omega, Nat.mod_eq_of_lt Ha.out, rfl⟩
    · have hz : ((b : Int) == 0) = false := by simp; omega
      go_enter Tryz.func141, Tryz.ntmps141
      go_wp2
      go_ret
      have hl : a % b < 2 ^ W := Nat.lt_of_le_of_lt (Nat.mod_le _ _) Ha.out
      have := Hp.out
      exact ⟨a % b, rfl, by omega, by rw [Nat.mod_eq_of_lt hl]; simp [wop, h0], rfl⟩
  · have : o = 15 ∨ o = 16 ∨ o = 17 ∨ o = 18 ∨ o = 19 ∨ o = 20 := by omega
    have e1 : b01 (slt W a b) = wop W 19 a b 0 := rfl
    have e2 : b01 (!slt W b a) = wop W 20 a b 0 := by
      show b01 (!decide (sgn W b < sgn W a)) = b01 (decide (sgn W a ≤ sgn W b))
      congr 1; rw [Bool.eq_iff_iff]; simp
    have E1 := Lib.hid e1; have E2 := Lib.hid e2; clear e1 e2
    rcases this with rfl | rfl | rfl | rfl | rfl | rfl
    · show Calls Tryz.prog _ #[.int .u8 15, .int .i64 W, .int .u64 a, .int .u64 b] w _
      go_enter Tryz.func141, Tryz.ntmps141
      go_wp2_with (go_at_call 151; refine (rbit_any _ _).mono ?_; rintro e w' ⟨rfl, rfl⟩)
      go_ret
      refine ⟨b01 (a == b), ?_, by unfold b01; split <;> decide, b01_mod h1 _, rfl⟩
      show Ending.returned (.int .u64 ((b01 ((a : Int) == (b : Int)) : Nat) : Int)) = _
      congr 4; rw [Bool.eq_iff_iff]; simp; try omega
    · show Calls Tryz.prog _ #[.int .u8 16, .int .i64 W, .int .u64 a, .int .u64 b] w _
      go_enter Tryz.func141, Tryz.ntmps141
      go_wp2_with (go_at_call 151; refine (rbit_any _ _).mono ?_; rintro e w' ⟨rfl, rfl⟩)
      go_ret
      refine ⟨b01 (a != b), ?_, by unfold b01; split <;> decide, b01_mod h1 _, rfl⟩
      show Ending.returned (.int .u64 ((b01 ((a : Int) != (b : Int)) : Nat) : Int)) = _
      congr 4; rw [Bool.eq_iff_iff]; simp; try omega
    · show Calls Tryz.prog _ #[.int .u8 17, .int .i64 W, .int .u64 a, .int .u64 b] w _
      go_enter Tryz.func141, Tryz.ntmps141
      go_wp2_with (go_at_call 151; refine (rbit_any _ _).mono ?_; rintro e w' ⟨rfl, rfl⟩)
      go_ret
      exact ⟨b01 (decide (a < b)), rfl, by unfold b01; split <;> decide, b01_mod h1 _, rfl⟩
    · show Calls Tryz.prog _ #[.int .u8 18, .int .i64 W, .int .u64 a, .int .u64 b] w _
      go_enter Tryz.func141, Tryz.ntmps141
      go_wp2_with (go_at_call 151; refine (rbit_any _ _).mono ?_; rintro e w' ⟨rfl, rfl⟩)
      go_ret
      exact ⟨b01 (decide (a ≤ b)), rfl, by unfold b01; split <;> decide, b01_mod h1 _, rfl⟩
    · show Calls Tryz.prog _ #[.int .u8 19, .int .i64 W, .int .u64 a, .int .u64 b] w _
      go_enter Tryz.func141, Tryz.ntmps141
      go_wp2_with (first | (go_at_call 151; refine (rbit_any _ _).mono ?_; rintro e w' ⟨rfl, rfl⟩) | (go_at_call 152; refine (rless_any W a b h1 h2 Ha.out Hb.out _).mono ?_; rintro e w' ⟨rfl, rfl⟩))
      go_ret
      exact ⟨b01 (slt W a b), rfl, by unfold b01; split <;> decide, by rw [b01_mod h1, E1.out], rfl⟩
    · show Calls Tryz.prog _ #[.int .u8 20, .int .i64 W, .int .u64 a, .int .u64 b] w _
      go_enter Tryz.func141, Tryz.ntmps141
      go_wp2_with (first | (go_at_call 151; refine (rbit_any _ _).mono ?_; rintro e w' ⟨rfl, rfl⟩) | (go_at_call 152; refine (rless_any W b a h1 h2 Hb.out Ha.out _).mono ?_; rintro e w' ⟨rfl, rfl⟩))
      go_ret
      exact ⟨b01 (!slt W b a), rfl, by unfold b01; split <;> decide, by rw [b01_mod h1, E2.out], rfl⟩
/-- A word shifted by i bits, bit after bit. -/
def shN (W o a i : Nat) : Nat :=
  match i with
  | 0 => a
  | i + 1 => if o = 12 then 2 * shN W o a i % 2 ^ W else if o = 14 ∧ 2 ^ (W - 1) ≤ a then shN W o a i / 2 + 2 ^ (W - 1) else shN W o a i / 2
theorem shN_lt (W o a : Nat) (h1 : 1 ≤ W) (ha : a < 2 ^ W) : ∀ i, shN W o a i < 2 ^ W
  | 0 => ha
  | i + 1 => by
    have ih := shN_lt W o a h1 ha i
    have hp := pow_half h1
    unfold shN
    split
    · exact Nat.mod_lt _ (pow_pos2 W)
    · split <;> omega
theorem shN_shl (W a : Nat) (h1 : 1 ≤ W) (ha : a < 2 ^ W) : ∀ i, shN W 12 a i = a * 2 ^ i % 2 ^ W
  | 0 => by simp [shN, Nat.mod_eq_of_lt ha]
  | i + 1 => by
    rw [shN, if_pos rfl, shN_shl W a h1 ha i, Nat.pow_succ, Nat.mul_mod, Nat.mod_mod, ← Nat.mul_mod]
    congr 1; rw [Nat.mul_comm 2, Nat.mul_assoc]
theorem shN_shr (W o a : Nat) (ho : o = 13 ∨ o = 14 ∧ a < 2 ^ (W - 1)) : ∀ i, shN W o a i = a / 2 ^ i
  | 0 => by simp [shN]
  | i + 1 => by
    rw [shN, if_neg (by omega), if_neg (by omega), shN_shr W o a ho i, Nat.pow_succ, Nat.div_div_eq_div_mul]
theorem shN_sar (W a : Nat) (h1 : 1 ≤ W) (ha : a < 2 ^ W) (h : 2 ^ (W - 1) ≤ a) : ∀ i, shN W 14 a i = 2 ^ W - 1 - (2 ^ W - 1 - a) / 2 ^ i
  | 0 => by simp [shN]; omega
  | i + 1 => by
    have hp := pow_half h1
    rw [shN, if_neg (by decide), if_pos ⟨rfl, h⟩, shN_sar W a h1 ha h i, Nat.pow_succ, ← Nat.div_div_eq_div_mul]
    have hl : (2 ^ W - 1 - a) / 2 ^ i ≤ 2 ^ W - 1 - a := Nat.div_le_self _ _
    generalize (2 ^ W - 1 - a) / 2 ^ i = c at *
    generalize 2 ^ (W - 1) = H at *
    generalize 2 ^ W = P at *
    omega
theorem shN_wop (W o a b : Nat) (ho : o = 12 ∨ o = 13 ∨ o = 14) (h1 : 1 ≤ W) (h2 : W ≤ 64) (ha : a < 2 ^ W) : shN W o a (min b W) = wop W o a b 0 := by
  rcases ho with rfl | rfl | rfl
  · rw [shN_shl W a h1 ha]
    show _ = if W ≤ b then 0 else a * 2 ^ b % 2 ^ W
    by_cases hb : W ≤ b
    · rw [if_pos hb, Nat.min_eq_right hb, Nat.mul_mod_left]
    · rw [if_neg hb, Nat.min_eq_left (by omega)]
  · rw [shN_shr W 13 a (.inl rfl)]
    show _ = if W ≤ b then 0 else a / 2 ^ b
    by_cases hb : W ≤ b
    · rw [if_pos hb, Nat.min_eq_right hb, Nat.div_eq_of_lt ha]
    · rw [if_neg hb, Nat.min_eq_left (by omega)]
  · show _ = if a < 2 ^ (W - 1) then a / 2 ^ min b 64 else 2 ^ W - 1 - (2 ^ W - 1 - a) / 2 ^ min b 64
    have h64 : ∀ c, c < 2 ^ W → W ≤ b → c / 2 ^ min b W = 0 ∧ c / 2 ^ min b 64 = 0 := by
      intro c hc hb
      have hq : 2 ^ W ≤ 2 ^ min b 64 := Nat.pow_le_pow_right (by decide) (by omega)
      rw [Nat.min_eq_right hb]
      exact ⟨Nat.div_eq_of_lt hc, Nat.div_eq_of_lt (by omega)⟩
    have hS : ∀ c, c < 2 ^ W → c / 2 ^ min b W = c / 2 ^ min b 64 := by
      intro c hc
      by_cases hb : W ≤ b
      · rw [(h64 c hc hb).1, (h64 c hc hb).2]
      · rw [Nat.min_eq_left (by omega), Nat.min_eq_left (by omega)]
    by_cases hc : a < 2 ^ (W - 1)
    · rw [if_pos hc, shN_shr W 14 a (.inr ⟨rfl, hc⟩), hS a ha]
    · rw [if_neg hc, shN_sar W a h1 ha (by omega), hS _ (by omega)]
theorem shN_succ12 (W a i : Nat) (h2 : W ≤ 64) : (2 * shN W 12 a i) % 18446744073709551616 % 2 ^ W = shN W 12 a (i + 1) := by
  rw [mod64_mod h2]; rfl
theorem shN_succ13 (W o a i : Nat) (ho : o = 13 ∨ o = 14 ∧ a < 2 ^ (W - 1)) : shN W o a i / 2 = shN W o a (i + 1) := by
  rw [shN, if_neg (by omega), if_neg (by omega)]
theorem shN_succ14 (W a i : Nat) (h : 2 ^ (W - 1) ≤ a) : shN W 14 a i / 2 + 2 ^ (W - 1) = shN W 14 a (i + 1) := by
  rw [shN, if_neg (by decide), if_pos ⟨rfl, h⟩]
theorem wrap_two (s : Nat) : IntKind.u64.wrap (2 * (s : Int)) = ((2 * s % 18446744073709551616 : Nat) : Int) := by
  rw [← wrap_u64_nat]; simp
theorem wrap_half (s : Nat) (h : s < 18446744073709551616) : IntKind.u64.wrap ((s : Int) / 2) = ((s / 2 : Nat) : Int) := by
  rw [IntKind.wrap_u64]; omega
theorem wrap_halfpow (W s : Nat) (h1 : 1 ≤ W) (h2 : W ≤ 64) (h : s < 2 ^ W) : IntKind.u64.wrap (((s / 2 : Nat) : Int) + IntKind.u64.wrap (2 ^ (W - 1))) = ((s / 2 + 2 ^ (W - 1) : Nat) : Int) := by
  have hp := pow_le64 h2
  have hh := pow_half h1
  have e : (2 : Int) ^ (W - 1) = ((2 ^ (W - 1) : Nat) : Int) := by simp
  rw [e, wrap_u64_nat, Nat.mod_eq_of_lt (by omega), IntKind.wrap_u64]
  generalize 2 ^ (W - 1) = H at *
  generalize 2 ^ W = P at *
  omega
theorem rtrim_is (W v r : Nat) (h1 : 1 ≤ W) (h2 : W ≤ 64) (h : v ≤ 18446744073709551615 ∧ v % 2 ^ W = r) (w : World) :
    Calls Tryz.prog 122 #[.int .i64 W, .int .u64 v] w fun e w' => e = .returned (.int .u64 r) ∧ w = w' := by
  rw [← h.2]; exact rtrim_any W v h1 h2 h.1 w
theorem two_step (W a n : Nat) (h2 : W ≤ 64) : ∃ v : Nat, IntKind.u64.wrap (2 * ((shN W 12 a n : Nat) : Int)) = (v : Int) ∧ Hid (v ≤ 18446744073709551615 ∧ v % 2 ^ W = shN W 12 a (n + 1)) :=
  ⟨_, wrap_two _, Nat.le_of_lt_succ (Nat.mod_lt _ (by decide)), shN_succ12 W a n h2⟩
theorem half_step (W o a n : Nat) (ho : o = 13 ∨ o = 14 ∧ a < 2 ^ (W - 1)) (h : shN W o a n < 18446744073709551616) : IntKind.u64.wrap (((shN W o a n : Nat) : Int) / 2) = ((shN W o a (n + 1) : Nat) : Int) := by
  rw [wrap_half _ h, shN_succ13 W o a n ho]
theorem sar_step (W a n : Nat) (h1 : 1 ≤ W) (h2 : W ≤ 64) (h : 2 ^ (W - 1) ≤ a) (hl : shN W 14 a n < 2 ^ W) :
    ∃ v : Nat, IntKind.u64.wrap (((shN W 14 a n : Nat) : Int) / 2) = (v : Int) ∧ IntKind.u64.wrap ((v : Int) + IntKind.u64.wrap (2 ^ (W - 1))) = ((shN W 14 a (n + 1) : Nat) : Int) := by
  have hp := pow_le64 h2
  exact ⟨_, wrap_half _ (by omega), by rw [wrap_halfpow W _ h1 h2 hl, shN_succ14 W a n h]⟩
theorem raw_shN (o W a b n : Nat) (ho : o = 12 ∨ o = 13 ∨ o = 14) (h1 : 1 ≤ W) (h2 : W ≤ 64) (ha : a < 2 ^ W) (hn : n = min b W) (w : World) : Raw W o a b w (.returned (.int .u64 ((shN W o a n : Nat) : Int))) w := by
  have hl := shN_lt W o a h1 ha n
  have hp := pow_le64 h2
  refine ⟨_, rfl, by omega, ?_, rfl⟩
  rw [Nat.mod_eq_of_lt hl, hn, shN_wop W o a b ho h1 h2 ha]
theorem shifted_any (o W a b : Nat) (ho : o = 12 ∨ o = 13 ∨ o = 14) (h1 : 1 ≤ W) (h2 : W ≤ 64) (ha : a < 2 ^ W) (hb : b < 2 ^ W) (w : World) :
    Calls Tryz.prog 140 #[.int .u8 o, .int .i64 W, .int .u64 a, .int .u64 b] w (Raw W o a b w) := by
  have hp := pow_le64 h2
  have hlt := shN_lt W o a h1 ha
  have hbl : b ≤ 18446744073709551615 := by omega
  have fin : ∀ n : Nat, n ≤ b → n ≤ W → ¬ (n < b ∧ n < W) → Raw W o a b w (.returned (.int .u64 ((shN W o a n : Nat) : Int))) w := fun n _ _ _ => raw_shN o W a b n ho h1 h2 ha (by omega) w
  have Fin := Lib.hid fin; clear fin
  have Ha := Lib.hid ha; have Hp := Lib.hid hp; have Hb := Lib.hid hb; have Hl := Lib.hid hlt; clear ha hp hb hlt
  rcases ho with rfl | rfl | rfl
  · show Calls Tryz.prog _ #[.int .u8 12, .int .i64 W, .int .u64 a, .int .u64 b] w _
    go_enter Tryz.func140, Tryz.ntmps140
    go_wp2
    go_loop [2, 10] (fun s i => ∃ n : Nat, n ≤ b ∧ n ≤ W ∧ i = .int .u64 n ∧ s = .int .u64 (shN W 12 a n)) (fun _ i => W - (intOf i).toNat)
    case atStart => exact ⟨0, by omega, by omega, rfl, rfl⟩
    case round =>
      obtain ⟨n, hn1, hn2, rfl, rfl⟩ := hrel
      by_cases hc : n < b ∧ n < W
      · obtain ⟨hc1, hc2⟩ := hc
        obtain ⟨v, e1, E2⟩ := two_step W a n h2
        go_wp2_with (go_at_call 122; refine (rtrim_is _ _ _ h1 h2 E2.out _).mono ?_; rintro e w' ⟨rfl, rfl⟩)
        go_round
        case rel => exact ⟨n + 1, by omega, by omega, by go_num, rfl⟩
        case measure => simp [intOf]; omega
      · have hf := Lib.hid (Fin.out n hn1 hn2 hc)
        by_cases hc1 : n < b
        · have hc2 : ¬ n < W := by omega
          clear hc
          go_wp2
          go_ret
          exact hf.out
        · clear hc
          go_wp2
          go_ret
          exact hf.out
  · show Calls Tryz.prog _ #[.int .u8 13, .int .i64 W, .int .u64 a, .int .u64 b] w _
    go_enter Tryz.func140, Tryz.ntmps140
    go_wp2
    go_loop [2, 10] (fun s i => ∃ n : Nat, n ≤ b ∧ n ≤ W ∧ i = .int .u64 n ∧ s = .int .u64 (shN W 13 a n)) (fun _ i => W - (intOf i).toNat)
    case atStart => exact ⟨0, by omega, by omega, rfl, rfl⟩
    case round =>
      obtain ⟨n, hn1, hn2, rfl, rfl⟩ := hrel
      by_cases hc : n < b ∧ n < W
      · obtain ⟨hc1, hc2⟩ := hc
        have e1 := half_step W 13 a n (.inl rfl) (by have := Hl.out n; have := Hp.out; omega)
        go_wp2
        go_round
        case rel => exact ⟨n + 1, by omega, by omega, by go_num, rfl⟩
        case measure => simp [intOf]; omega
      · have hf := Lib.hid (Fin.out n hn1 hn2 hc)
        by_cases hc1 : n < b
        · have hc2 : ¬ n < W := by omega
          clear hc
          go_wp2
          go_ret
          exact hf.out
        · clear hc
          go_wp2
          go_ret
          exact hf.out
  · show Calls Tryz.prog _ #[.int .u8 14, .int .i64 W, .int .u64 a, .int .u64 b] w _
    by_cases hA : 2 ^ (W - 1) ≤ a
    · have Ht := Lib.hid (And.intro Ha.out (decide_eq_true hA))
      have HA := Lib.hid hA; clear hA
      go_enter Tryz.func140, Tryz.ntmps140
      go_wp2_with (go_at_call 150; refine (rtop_is _ _ h1 h2 _ Ht.out _).mono ?_; rintro e w' ⟨rfl, rfl⟩)
      go_loop [2, 10] (fun s i => ∃ n : Nat, n ≤ b ∧ n ≤ W ∧ i = .int .u64 n ∧ s = .int .u64 (shN W 14 a n)) (fun _ i => W - (intOf i).toNat)
      case atStart => exact ⟨0, by omega, by omega, rfl, rfl⟩
      case round =>
        obtain ⟨n, hn1, hn2, rfl, rfl⟩ := hrel
        by_cases hc : n < b ∧ n < W
        · obtain ⟨hc1, hc2⟩ := hc
          obtain ⟨v, e1, e2⟩ := sar_step W a n h1 h2 HA.out (Hl.out n)
          go_wp2
          go_round
          case rel => exact ⟨n + 1, by omega, by omega, by go_num, rfl⟩
          case measure => simp [intOf]; omega
        · have hf := Lib.hid (Fin.out n hn1 hn2 hc)
          by_cases hc1 : n < b
          · have hc2 : ¬ n < W := by omega
            clear hc
            go_wp2
            go_ret
            exact hf.out
          · clear hc
            go_wp2
            go_ret
            exact hf.out
    · have Ht := Lib.hid (And.intro Ha.out (decide_eq_false hA))
      have HA := Lib.hid hA; clear hA
      go_enter Tryz.func140, Tryz.ntmps140
      go_wp2_with (go_at_call 150; refine (rtop_is _ _ h1 h2 _ Ht.out _).mono ?_; rintro e w' ⟨rfl, rfl⟩)
      go_loop [2, 10] (fun s i => ∃ n : Nat, n ≤ b ∧ n ≤ W ∧ i = .int .u64 n ∧ s = .int .u64 (shN W 14 a n)) (fun _ i => W - (intOf i).toNat)
      case atStart => exact ⟨0, by omega, by omega, rfl, rfl⟩
      case round =>
        obtain ⟨n, hn1, hn2, rfl, rfl⟩ := hrel
        by_cases hc : n < b ∧ n < W
        · obtain ⟨hc1, hc2⟩ := hc
          have e1 := half_step W 14 a n (.inr ⟨rfl, Nat.lt_of_not_le HA.out⟩) (by have := Hl.out n; have := Hp.out; omega)
          go_wp2
          go_round
          case rel => exact ⟨n + 1, by omega, by omega, by go_num, rfl⟩
          case measure => simp [intOf]; omega
        · have hf := Lib.hid (Fin.out n hn1 hn2 hc)
          by_cases hc1 : n < b
          · have hc2 : ¬ n < W := by omega
            clear hc
            go_wp2
            go_ret
            exact hf.out
          · clear hc
            go_wp2
            go_ret
            exact hf.out
end Go.Proofs.YteamnchoddegpaaGreatDoor
namespace Go.Proofs.YteamnchoddegpaaGreatDoor
open Go.RowKit Go.Maps
set_option maxHeartbeats 800000
theorem RPost.later {w w2 w' : World} {base : Nat} {F I : List Nat} {rb W room : Nat} {R : List PNode × Nat × Nat} {e : Ending} (h : RPost w2 base F I rb W room R e w') (hb : Below w.heap.size w w2) : RPost w base F I rb W room R e w' := by
  obtain ⟨F', I', h1, h2, h3, h4, h5⟩ := h
  exact ⟨F', I', h1, h2, (Touch.of_below hb F).trans h3 (fun k hk => .inl hk), fun k hk => (h4 k hk).imp id (fun h => by have := hb.size; omega), fun k hk => (h5 k hk).imp id (fun h => by have := hb.size; omega)⟩
section
variable {w : World} {base : Nat} {F I : List Nat} {rb W room : Nat} {L : List PNode}
theorem RPost.same (h : RGr w base F I rb W room L) {w' : World} (hb : Below w.heap.size w w') (t f : Nat) : RPost w base F I rb W room (L, t, f) (.returned (.tuple #[.int .i64 t, .int .i64 f])) w' :=
  ⟨F, I, rfl, h.later hb, Touch.of_below hb F, fun _ hk => .inl hk, fun _ hk => .inl hk⟩
theorem rconst_any (h : RGr w base F I rb W room L) (q : Nat) (hq : q < 18446744073709551616) :
    Calls Tryz.prog 29 #[.pointer (some ⟨rb, 0, none⟩), .int .u64 q] w (RPost w base F I rb W room (constR W room L q)) := by
  obtain ⟨a, cap, c0, c1, c2, hl⟩ := h.parts
  have hm : q % 2 ^ W < 18446744073709551616 := Nat.lt_of_le_of_lt (Nat.mod_le _ _) hq
  have ha := and_mask q W hq h.w1 h.w2
  have hw1 := h.w1
  have hw2 := h.w2
  unfold constR
  obtain ⟨m, hm'⟩ : ∃ m, q % 2 ^ W = m := ⟨_, rfl⟩
  rw [hm'] at hm ha ⊢
  have H0 := Lib.hid h; have HMK := Lib.hid (rmask_any W hw1 hw2 w)
  clear h hm'
  obtain ⟨M, hM⟩ : ∃ M : Nat, 2 ^ W - 1 = M := ⟨_, rfl⟩
  rw [hM] at ha HMK
  clear hM
  go_enter Tryz.func29, Tryz.ntmps29
  go_wp2_with fail
  refine HMK.out.mono ?_
  rintro e w' ⟨rfl, rfl⟩
  go_wp2_with fail
  refine (rask_any H0.out 0 m [] _ (IntsAt.nil w) (by simp [Value.ownBlock]) (nodeOk_leaf (by decide) hm) (by simp)).mono ?_
  rintro e w' ⟨F', I', rfl, g1, g2, g3, g4⟩
  go_wp2
  go_ret2
  exact ⟨F', I', rfl, g1, g2, g3, fun k hk => (g4 k hk).imp id (fun h => by simp [Value.ownBlock] at h)⟩
theorem rvar_any (h : RGr w base F I rb W room L) (n : Int) :
    Calls Tryz.prog 31 #[.pointer (some ⟨rb, 0, none⟩), .int .i64 n] w (RPost w base F I rb W room (varR room L n)) := by
  have H0 := Lib.hid h
  clear h
  by_cases h1 : n < 0
  · have hr : varR room L n = (L, 0, 3) := by unfold varR; rw [if_neg (by omega)]
    rw [hr]
    clear hr
    go_enter Tryz.func31, Tryz.ntmps31
    go_wp2
    go_ret2
    exact RPost.same H0.out (Below.refl _ _) 0 3
  · by_cases h2 : n > 4194303
    · have hr : varR room L n = (L, 0, 3) := by unfold varR; rw [if_neg (by omega)]
      rw [hr]
      clear hr
      go_enter Tryz.func31, Tryz.ntmps31
      go_wp2
      go_ret2
      exact RPost.same H0.out (Below.refl _ _) 0 3
    · obtain ⟨m, rfl⟩ := Int.eq_ofNat_of_zero_le (show 0 ≤ n by omega)
      have hr : varR room L (m : Int) = askP room L (1, m, []) := by unfold varR; rw [if_pos (by omega)]; simp
      rw [hr]
      clear hr
      have hwr : IntKind.u64.wrap (m : Int) = (m : Int) := by rw [wrap_u64_nat, Nat.mod_eq_of_lt (by omega)]
      go_enter Tryz.func31, Tryz.ntmps31
      go_wp2_with (go_at_call 58; refine (rask_any H0.out 1 m [] _ (IntsAt.nil w) (by simp [Value.ownBlock]) (nodeOk_leaf (by decide) (by omega)) (by simp)).mono ?_; rintro e w' ⟨F', I', rfl, g1, g2, g3, g4⟩)
      go_ret2
      exact ⟨F', I', rfl, g1, g2, g3, fun k hk => (g4 k hk).imp id (fun h => by simp [Value.ownBlock] at h)⟩
/-- The errors that come before room. -/
def mayR (L : List PNode) (o : Nat) (xs : List Int) : Nat := if o ≤ 21 ∧ aryN o ≠ 0 ∧ aryN o = xs.length then (if ∀ a ∈ xs, (0 : Int) ≤ a ∧ a < (L.length : Int) then 0 else 3) else 2
theorem appR_may (room : Nat) (L : List PNode) (o : Nat) (xs : List Int) : appR room L o xs = if mayR L o xs = 0 then askP room L (o, 0, xs) else (L, 0, mayR L o xs) := by
  unfold appR mayR
  split
  · split <;> simp
  · simp
theorem rmay_bad (_h : RGr w base F I rb W room L) (o : Nat) (ho : o ≤ 255) (xs : List Int) (va : Value) (hv : SliceOf w .i64 va xs) (hb : ¬ (o ≤ 21 ∧ aryN o ≠ 0 ∧ aryN o = xs.length)) :
    Calls Tryz.prog 61 #[.pointer (some ⟨rb, 0, none⟩), .int .u8 o, va] w fun e w' => e = .returned (.int .i64 2) ∧ w = w' := by
  obtain ⟨a, n, cap, rfl, hna, -⟩ := hv.parts
  clear hv
  rw [hna] at hb
  clear hna
  obtain ⟨p, hp⟩ : ∃ p : Nat, (if 21 < (o : Int) then 0 else aryN (o : Int).toNat) = p := ⟨_, rfl⟩
  have hp' : 21 < (o : Int) ∨ p = 0 ∨ p ≠ n := by
    by_cases h1 : 21 < (o : Int)
    · exact .inl h1
    · rw [if_neg h1] at hp; simp at hp; right; omega
  have HP := Lib.hid hp
  clear hp hb
  have har : ∀ w', Calls Tryz.prog 82 #[.int .u8 o] w' fun e w'' => e = .returned (.tuple #[.int .i64 p, .int .i64 (if 21 < (o : Int) then 3 else 0)]) ∧ w' = w'' := by
    intro w'
    refine (rarity_any o (by omega) (by omega) w').mono ?_
    rintro e w'' ⟨rfl, hb⟩
    refine ⟨?_, hb⟩
    rw [← HP.out]
    by_cases h1 : 21 < (o : Int) <;> simp [h1]
  by_cases h1 : 21 < (o : Int)
  · rw [if_pos h1] at har
    clear hp'
    go_enter Tryz.func61, Tryz.ntmps61
    go_wp2_with (go_at_call 82; refine (har _).mono ?_; rintro e w' ⟨rfl, rfl⟩)
    go_ret
    exact ⟨rfl, rfl⟩
  · rw [if_neg h1] at har
    by_cases h0 : p = 0
    · subst h0
      go_enter Tryz.func61, Tryz.ntmps61
      go_wp2_with (go_at_call 82; refine (har _).mono ?_; rintro e w' ⟨rfl, rfl⟩)
      go_ret
      exact ⟨rfl, rfl⟩
    · have hpn : ((p : Int) != (n : Int)) = true := by simp; omega
      have hp0 : ((p : Int) == 0) = false := by simp; omega
      clear h0
      go_enter Tryz.func61, Tryz.ntmps61
      go_wp2_with (go_at_call 82; refine (har _).mono ?_; rintro e w' ⟨rfl, rfl⟩)
      go_ret
      exact ⟨rfl, rfl⟩
theorem rmay_good (h : RGr w base F I rb W room L) (o : Nat) (ho : o ≤ 21) (xs : List Int) (va : Value) (hv : SliceOf w .i64 va xs) (h0 : aryN o ≠ 0) (hl : aryN o = xs.length) :
    Calls Tryz.prog 61 #[.pointer (some ⟨rb, 0, none⟩), .int .u8 o, va] w fun e w' => e = .returned (.int .i64 ((if ∀ a ∈ xs, (0 : Int) ≤ a ∧ a < (L.length : Int) then 0 else 3 : Nat) : Int)) ∧ w = w' := by
  obtain ⟨R, hR⟩ : ∃ R : Nat, (if ∀ a ∈ xs, (0 : Int) ≤ a ∧ a < (L.length : Int) then 0 else 3 : Nat) = R := ⟨_, rfl⟩
  rw [hR]
  have HR := Lib.hid hR
  clear hR
  obtain ⟨a, n, cap, rfl, hna, hcell⟩ := hv.parts
  have H0 := Lib.hid h
  clear hv
  have har : ∀ w', Calls Tryz.prog 82 #[.int .u8 o] w' fun e w'' => e = .returned (.tuple #[.int .i64 n, .int .i64 0]) ∧ w' = w'' := by
    intro w'
    refine (rarity_any o (by omega) (by omega) w').mono ?_
    rintro e w'' ⟨rfl, hb⟩
    refine ⟨?_, hb⟩
    rw [if_neg (show ¬ 21 < (o : Int) by omega), if_neg (show ¬ 21 < (o : Int) by omega), ← hna, ← hl]; simp
  have hn3 : n ≤ 3 := by have := aryN_le o; omega
  have hp0 : ((n : Int) == 0) = false := by simp; omega
  have hpn : ((n : Int) != (n : Int)) = false := by simp
  have HNA := Lib.hid (And.intro hna (And.intro h0 hl)); have Hc := Lib.hid hcell
  clear hna hcell h0 hl h
  go_enter Tryz.func61, Tryz.ntmps61
  go_wp2_with (go_at_call 82; refine (har _).mono ?_; rintro e w2 ⟨rfl, rfl⟩)
  go_loop [9] (fun i => ∃ k : Nat, k ≤ n ∧ i = .int .i64 k ∧ ∀ j, j < k → (0 : Int) ≤ xs.getD j 0 ∧ xs.getD j 0 < (L.length : Int)) (fun i => n - (intOf i).toNat)
  case atStart => exact ⟨0, by omega, rfl, fun j hj => by omega⟩
  case round =>
    obtain ⟨k, hk, rfl, hok⟩ := hrel
    by_cases hlt : k < n
    · obtain ⟨b, off, q, rfl, hc, hq⟩ := Hc.out k hlt
      have hqd : xs.getD k 0 = q := by rw [List.getD_eq_getElem?_getD, hq]; rfl
      have hqm : q ∈ xs := List.mem_of_getElem? hq
      have Hq := Lib.hid (And.intro hqd hqm)
      clear hq hqd hqm
      have his := rIs_any H0.out q
      by_cases hin : (0 : Int) ≤ q ∧ q < (L.length : Int)
      · have hT : isT L q = true := decide_eq_true hin
        rw [hT] at his
        have HIS := Lib.hid his
        clear his hT
        go_wp2_with (go_at_call 69; refine HIS.out.mono ?_; rintro e w2 ⟨rfl, rfl⟩)
        go_round
        case rel => exact ⟨k + 1, by omega, by go_num, fun j hj => by
          rcases Nat.lt_or_ge j k with h | h
          · exact hok j h
          · obtain rfl : j = k := by omega
            rw [Hq.out.1]; exact hin⟩
        case measure => simp [intOf]; omega
      · have hT : isT L q = false := decide_eq_false hin
        rw [hT] at his
        have HIS := Lib.hid his
        obtain rfl : R = 3 := by rw [← HR.out, if_neg (fun h' => hin (h' q Hq.out.2))]
        clear his hT hin
        go_wp2_with (go_at_call 69; refine HIS.out.mono ?_; rintro e w2 ⟨rfl, rfl⟩)
        go_ret
        exact ⟨rfl, rfl⟩
    · obtain rfl : k = n := by omega
      have hall : ∀ a ∈ xs, (0 : Int) ≤ a ∧ a < (L.length : Int) := by
        intro a ha
        obtain ⟨j, hj, rfl⟩ := List.getElem_of_mem ha
        have h := hok j (by have := HNA.out.1; omega)
        rw [List.getD_eq_getElem?_getD, List.getElem?_eq_getElem hj] at h
        exact h
      obtain rfl : R = 0 := by rw [← HR.out, if_pos hall]
      clear hall hok
      go_wp2
      go_ret
      exact ⟨rfl, rfl⟩
theorem rmay_any (h : RGr w base F I rb W room L) (o : Nat) (ho : o ≤ 255) (xs : List Int) (va : Value) (hv : SliceOf w .i64 va xs) :
    Calls Tryz.prog 61 #[.pointer (some ⟨rb, 0, none⟩), .int .u8 o, va] w fun e w' => e = .returned (.int .i64 (mayR L o xs)) ∧ w = w' := by
  unfold mayR
  by_cases hc : o ≤ 21 ∧ aryN o ≠ 0 ∧ aryN o = xs.length
  · rw [if_pos hc]; exact rmay_good h o hc.1 xs va hv hc.2.1 hc.2.2
  · rw [if_neg hc]; exact rmay_bad h o ho xs va hv hc
theorem rapp_any (h : RGr w base F I rb W room L) (o : Nat) (ho : o ≤ 255) (xs : List Int) (va : Value) (hv : SliceOf w .i64 va xs) :
    Calls Tryz.prog 33 #[.pointer (some ⟨rb, 0, none⟩), .int .u8 o, va] w (RPost w base F I rb W room (appR room L o xs)) := by
  have hmay := rmay_any h o ho xs va hv
  rw [appR_may]
  obtain ⟨a, n, cap, rfl, -, -⟩ := hv.parts
  have H0 := Lib.hid h
  by_cases h0 : mayR L o xs = 0
  · rw [if_pos h0]
    rw [h0] at hmay
    have hm : o ≤ 21 ∧ aryN o ≠ 0 ∧ aryN o = xs.length ∧ ∀ a ∈ xs, (0 : Int) ≤ a ∧ a < (L.length : Int) := by
      unfold mayR at h0
      split at h0
      · rename_i hc
        split at h0
        · exact ⟨hc.1, hc.2.1, hc.2.2, by assumption⟩
        · cases h0
      · cases h0
    have hx3 : xs.length ≤ 3 := by have := aryN_le o; omega
    have HM := Lib.hid hm; have HMAY := Lib.hid hmay; have HV := Lib.hid hv
    clear h0 hm hmay hv h
    go_enter Tryz.func33, Tryz.ntmps33
    go_wp2_with fail
    refine HMAY.out.mono ?_
    rintro e w2 ⟨rfl, rfl⟩
    go_wp2_with fail
    refine (copyInts_any xs _ _ HV.out (by omega)).mono ?_
    rintro e w2 ⟨v2, rfl, hv2, hb2⟩
    obtain ⟨a2, m2, c2, rfl⟩ := hv2.val
    have hask := rask_any (H0.out.later hb2) o 0 xs _ (intsAt_owns hv2) (intBlk_owns hv2) ⟨HM.out.1, Nat.zero_le _, HM.out.2.2.1.symm⟩ HM.out.2.2.2
    have HA := Lib.hid hask; have HV2 := Lib.hid hv2
    clear hask hv2
    go_wp2_with fail
    refine HA.out.mono ?_
    rintro e w4 ⟨F', I', rfl, g1, g2, g3, g4⟩
    go_wp2
    go_ret2
    exact ⟨F', I', rfl, g1, (Touch.of_below hb2 F).trans g2 (fun k hk => .inl hk), fun k hk => (g3 k hk).imp id (fun h => by have := hb2.size; omega), fun k hk => (g4 k hk).imp id (fun h => (HV2.out.lt k h).1)⟩
  · rw [if_neg h0]
    obtain ⟨m, hm⟩ : ∃ m, mayR L o xs = m := ⟨_, rfl⟩
    rw [hm] at hmay h0 ⊢
    have hmb : ((m : Int) != 0) = true := by rw [bne_iff_ne]; omega
    have HMAY := Lib.hid hmay
    clear hm hmay h0 hv h
    go_enter Tryz.func33, Tryz.ntmps33
    go_wp2_with fail
    refine HMAY.out.mono ?_
    rintro e w2 ⟨rfl, rfl⟩
    go_wp2
    go_ret2
    exact RPost.same H0.out (Below.refl _ _) 0 m
end
end Go.Proofs.YteamnchoddegpaaGreatDoor
namespace Go.Proofs.YteamnchoddegpaaGreatDoor
open Go.RowKit Go.Maps
set_option maxHeartbeats 800000
def Thing.rgraph (F I : List Nat) (rb W room : Nat) (L : List PNode) : Thing :=
  ⟨F, I, fun w => RGr w 0 F I rb W room L, fun _ _ h hk => h.keep (fun k hm => hk k (.inl hm)) (fun k hm _ => hk k (.inr hm))⟩
section
variable {w0 wr w' : World} {ts : List Thing} {F I : List Nat} {rb W room : Nat} {L : List PNode}
theorem Lab.rgr (h : Lab w0 wr (Thing.rgraph F I rb W room L :: ts)) : RGr wr 0 F I rb W room L := h.head
theorem Lab.rgr2 {s : Thing} (h : Lab w0 wr (s :: Thing.rgraph F I rb W room L :: ts)) : RGr wr 0 F I rb W room L := h.second
theorem Lab.rpost {R : List PNode × Nat × Nat} {e : Ending} (h : Lab w0 wr (Thing.rgraph F I rb W room L :: ts)) (hp : RPost wr 0 F I rb W room R e w') :
    ∃ F' I', e = .returned (.tuple #[.int .i64 R.2.1, .int .i64 R.2.2]) ∧ Lab w0 w' (Thing.rgraph F' I' rb W room R.1 :: ts) := by
  obtain ⟨F', I', he, hg, ht, hF, hI⟩ := hp
  refine ⟨F', I'.filter fun k => decide (k < w'.heap.size), he, h.turn (s' := Thing.rgraph F' _ rb W room R.1) ht hg.inI hF (fun k hk => ?_) (fun k hk => ?_)⟩
  · exact hI k (List.mem_filter.1 hk).1
  · rcases hk with hk | hk
    · exact hg.lt k hk
    · simpa using (List.mem_filter.1 hk).2
theorem Lab.new_rgraph (h : Lab w0 wr ts) (W most : Int) (hok : newOk W most) :
    Calls Tryz.prog 27 #[.int .i64 W, .int .i64 most] wr fun e w' => ∃ rb F, e = .returned (.tuple #[.pointer (some ⟨rb, 0, none⟩), .int .i64 0]) ∧ Lab w0 w' (Thing.rgraph F [] rb W.toNat (roomOf most) [] :: ts) := by
  refine (rnew_any W most hok wr).mono ?_
  rintro e w' ⟨rb, F, rfl, hg, hb⟩
  refine ⟨rb, F, rfl, h.new (s := Thing.rgraph F [] rb W.toNat (roomOf most) []) hb (hg.mono (Nat.zero_le _)) hg.base_le (fun k hk => by simp [Thing.rgraph] at hk) (fun k hk => ?_)⟩
  rcases hk with hk | hk
  · exact hg.lt k hk
  · simp [Thing.rgraph] at hk
end
/-- A cell of a block of one's own is written. -/
theorem Lab.store {w0 wr : World} {ts : List Thing} {b T : Nat} {arr : Array Value} (h : Lab w0 wr (Thing.box b T arr :: ts)) (i : Nat) (v : Value) : Lab w0 (wr.setCell ⟨b, i, none⟩ v) (Thing.box b T (arr.setIfInBounds i v) :: ts) := by
  refine h.turn (s' := Thing.box b T (arr.setIfInBounds i v)) ⟨rfl, rfl, rfl, by rw [World.size_setCell]; exact Nat.le_refl _, fun k hk hn => heap_setCell_other _ _ _ _ (by simpa [Thing.box] using hn)⟩ (heap_setCell_same _ _ _ _ _ _ h.box1) (fun k hk => .inl hk) (fun k hk => .inl hk) (fun k hk => ?_)
  rw [World.size_setCell]
  exact h.high (Thing.box b T arr) (by simp) k hk
/-- A slice that a graph's call leaves as it is. -/
def Stays (w : World) (S : List Nat) (va : Value) (xs : List Int) : Prop := ∀ wx, Touch S w wx → SliceOf wx .i64 va xs
theorem Stays.slice {w : World} {S : List Nat} {va : Value} {xs : List Int} (h : Stays w S va xs) : SliceOf w .i64 va xs := h w (Touch.refl _ _)
theorem Lab.stays {w0 wr : World} {ts : List Thing} {F I : List Nat} {gb W room : Nat} {L : List PNode} (h : Lab w0 wr (Thing.graph F I gb W room L :: ts)) {va : Value} {xs : List Int} (hs : SliceOf w0 .i64 va xs) : Stays wr F va xs :=
  fun _ ht => hs.below (ht.below h.below h.size (h.low (Thing.graph F I gb W room L) (by simp)))
end Go.Proofs.YteamnchoddegpaaGreatDoor
namespace Go.Proofs.YteamnchoddegpaaGreatDoor
open Go.RowKit Go.Maps
set_option maxHeartbeats 800000
/-- What Node answers: the node and the error. -/
def nodeAt (L : List PNode) (t : Int) : PNode × Nat := if 0 ≤ t ∧ t < (L.length : Int) then (L.getD t.toNat (0, 0, []), 0) else ((0, 0, []), 3)
theorem nodeAt_in {L : List PNode} {i : Nat} {n : PNode} (h : L[i]? = some n) : nodeAt L (i : Int) = (n, 0) := by
  have hl := (List.getElem?_eq_some_iff.1 h).1
  unfold nodeAt
  rw [if_pos (by omega), Int.toNat_natCast, List.getD_eq_getElem?_getD, h]; rfl
section
variable {w : World} {base : Nat} {F I F' I' : List Nat} {gb rb W room : Nat} {L : List PNode}
theorem node_t (h : Gr w base F I gb W room L) (t : Int) :
    Calls Tryz.prog 67 #[.pointer (some ⟨gb, 0, none⟩), .int .i64 t] w fun e w' => ∃ a m c, e = .returned (.tuple #[.agg #[.int .u8 (nodeAt L t).1.1, .int .u64 (nodeAt L t).1.2.1, .slice a m c], .int .i64 (nodeAt L t).2]) ∧ OwnInts w' w.heap.size 3 .i64 (.slice a m c) (nodeAt L t).1.2.2 ∧ Below w.heap.size w w' := by
  by_cases ht : 0 ≤ t ∧ t < (L.length : Int)
  · obtain ⟨i, rfl⟩ := Int.eq_ofNat_of_zero_le ht.1
    obtain ⟨n, hn⟩ : ∃ n, L[i]? = some n := ⟨_, List.getElem?_eq_getElem (by omega)⟩
    rw [nodeAt_in hn]
    refine (node_at h i n hn).mono ?_
    rintro e w' ⟨va, rfl, hv, hb⟩
    obtain ⟨a, m, c, rfl⟩ := hv.val
    exact ⟨a, m, c, rfl, hv, hb⟩
  · have : nodeAt L t = ((0, 0, []), 3) := by unfold nodeAt; rw [if_neg ht]
    rw [this]
    refine (node_out h t (by omega)).mono ?_
    rintro e w' ⟨rfl, hb⟩
    exact ⟨none, 0, 0, rfl, OwnInts.nil _ _ _ _, hb⟩
end
end Go.Proofs.YteamnchoddegpaaGreatDoor
