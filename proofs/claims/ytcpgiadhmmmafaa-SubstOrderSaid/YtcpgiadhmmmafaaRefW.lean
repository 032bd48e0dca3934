/- The reference of package word: what its functions return. -/
import Derived.Test.YtcpgiadhmmmafaaWordC
namespace Go.Proofs.Ytcpgiadhmmmafaa
open Go.RowKit
set_option maxHeartbeats 400000

theorem rcheck_any (n : Int) (w : World) :
    Calls Try.prog 90 #[.int .i64 n] w fun e w' => e = .returned (.int .i64 (chk n)) ∧ w = w' := by
  by_cases h1 : n < 1
  · go_enter Try.func90, Try.ntmps90
    go_wp2
    go_ret
    simp [h1, chk]
  · by_cases h2 : 64 < n
    · go_enter Try.func90, Try.ntmps90
      go_wp2
      go_ret
      simp [h2, chk]
    · go_enter Try.func90, Try.ntmps90
      go_wp2
      go_ret
      simp [h1, h2, chk]
theorem rarity_any (o : Int) (h0 : 0 ≤ o) (h1 : o ≤ 255) (w : World) :
    Calls Try.prog 89 #[.int .u8 o] w fun e w' => e = .returned (.tuple #[.int .i64 (if 21 < o then 0 else aryN o.toNat), .int .i64 (if 21 < o then 3 else 0)]) ∧ w = w' := by
  obtain ⟨n, rfl⟩ := Int.eq_ofNat_of_zero_le h0
  by_cases a1 : n ≤ 1
  · have hr : aryN n = 0 := by unfold aryN; rw [if_pos a1]
    go_enter Try.func89, Try.ntmps89
    go_wp2
    go_ret2
    simp 
  by_cases a2 : n ≤ 3
  · have hr : aryN n = 1 := by unfold aryN; rw [if_neg a1, if_pos a2]
    go_enter Try.func89, Try.ntmps89
    go_wp2
    go_ret2
    simp 
  by_cases a3 : n = 21
  · subst a3
    go_enter Try.func89, Try.ntmps89
    go_wp2
    go_ret2
    exact ⟨rfl, rfl⟩
  have hr : aryN n = 2 := by unfold aryN; rw [if_neg a1, if_neg a2, if_neg a3]
  have hd : ((n : Int) == 21) = false := by simp; omega
  by_cases a4 : 21 < n
  · have h4 : 21 < (n : Int) := by omega
    go_enter Try.func89, Try.ntmps89
    go_wp2
    go_ret2
    simp 
  · have h4 : ¬ 21 < (n : Int) := by omega
    go_enter Try.func89, Try.ntmps89
    go_wp2
    go_ret2
    simp 
theorem rtrim_any (W v : Nat) (h1 : 1 ≤ W) (h2 : W ≤ 64) (hv : v ≤ 18446744073709551615) (w : World) :
    Calls Try.prog 91 #[.int .i64 W, .int .u64 v] w fun e w' => e = .returned (.int .u64 ((v % 2 ^ W : Nat) : Int)) ∧ w = w' := by
  by_cases hW : W = 64
  · subst hW
    have hr : v % 2 ^ 64 = v := Nat.mod_eq_of_lt (by omega)
    rw [hr]; clear hr
    go_enter Try.func91, Try.ntmps91
    go_wp2
    go_ret
    exact ⟨rfl, rfl⟩
  · have hd : ((W : Int) == 64) = false := by simp; omega
    have hl : 2 ^ W < 18446744073709551616 := by
      have := Nat.pow_lt_pow_right (a := 2) (by decide) (show W < 64 by omega); simpa using this
    have hp := pow_pos2 W
    have hw : IntKind.u64.wrap ((2 : Int) ^ W) = ((2 ^ W : Nat) : Int) := by
      have e : (2 : Int) ^ W = ((2 ^ W : Nat) : Int) := by simp
      rw [e, wrap_u64_nat, Nat.mod_eq_of_lt hl]
    have hz : (((2 ^ W : Nat) : Int) == 0) = false := by
      rw [beq_eq_false_iff_ne]; omega
    generalize hP : 2 ^ W = P at *
    have HP := Lib.hid hP
    clear hl hP
    go_enter Try.func91, Try.ntmps91
    go_wp2
    go_ret
    exact ⟨rfl, rfl⟩
theorem rtop_any (W a : Nat) (h1 : 1 ≤ W) (h2 : W ≤ 64) (ha : a < 2 ^ W) (w : World) :
    Calls Try.prog 120 #[.int .i64 W, .int .u64 a] w fun e w' => e = .returned (.bool (decide (2 ^ (W - 1) ≤ a))) ∧ w = w' := by
  have hh := pow_half h1
  have hq := pow_pos2 (W - 1)
  have hb : (((a : Int) / 2 ^ (W - 1)) == 1) = decide (2 ^ (W - 1) ≤ a) := by
    have e : ((a : Int) / 2 ^ (W - 1)) = ((a / 2 ^ (W - 1) : Nat) : Int) := by simp
    have hl : a / 2 ^ (W - 1) < 2 := by rw [Nat.div_lt_iff_lt_mul hq]; omega
    rw [e, Bool.eq_iff_iff]
    simp only [beq_iff_eq, decide_eq_true_eq]
    constructor
    · intro h
      have h' : a / 2 ^ (W - 1) = 1 := by omega
      rcases Nat.lt_or_ge a (2 ^ (W - 1)) with hc | hc
      · rw [Nat.div_eq_of_lt hc] at h'; omega
      · exact hc
    · intro h
      have : 1 ≤ a / 2 ^ (W - 1) := (Nat.le_div_iff_mul_le hq).2 (by omega)
      omega
  have Hb := Lib.hid hb; have Ha := Lib.hid ha; clear ha hb hh hq
  go_enter Try.func120, Try.ntmps120
  go_wp2
  go_ret
  refine ⟨?_, rfl⟩
  rw [← Hb.out]
  simp
theorem rbit_any (p : Bool) (w : World) :
    Calls Try.prog 121 #[.bool p] w fun e w' => e = .returned (.int .u64 (b01 p)) ∧ w = w' := by
  cases p <;>
  · go_enter Try.func121, Try.ntmps121
    go_wp2
    go_ret
    exact ⟨rfl, rfl⟩
/-- Less, as signed words. -/
def slt (W a b : Nat) : Bool := decide (sgn W a < sgn W b)
theorem slt_eq (W a b : Nat) (h1 : 1 ≤ W) (ha : a < 2 ^ W) (hb : b < 2 ^ W) : slt W a b = if decide (2 ^ (W - 1) ≤ a) = decide (2 ^ (W - 1) ≤ b) then decide (a < b) else decide (2 ^ (W - 1) ≤ a) := by
  have hh := pow_half h1
  unfold slt sgn
  generalize 2 ^ (W - 1) = H at *
  generalize 2 ^ W = P at *
  have d1 : decide (H ≤ a) = !decide (a < H) := by rw [Bool.eq_iff_iff]; simp
  have d2 : decide (H ≤ b) = !decide (b < H) := by rw [Bool.eq_iff_iff]; simp
  rw [d1, d2]
  by_cases c1 : a < H <;> by_cases c2 : b < H
  all_goals
    simp only [c1, c2, decide_true, decide_false, if_true, if_false, Bool.not_true, Bool.not_false, reduceCtorEq]
    first | (rw [decide_eq_decide]; omega) | (apply decide_eq_true; omega) | (apply decide_eq_false; omega)
theorem rtop_is (W a : Nat) (h1 : 1 ≤ W) (h2 : W ≤ 64) (A : Bool) (h : a < 2 ^ W ∧ decide (2 ^ (W - 1) ≤ a) = A) (w : World) :
    Calls Try.prog 120 #[.int .i64 W, .int .u64 a] w fun e w' => e = .returned (.bool A) ∧ w = w' := by
  rw [← h.2]; exact rtop_any W a h1 h2 h.1 w
theorem rless_any (W a b : Nat) (h1 : 1 ≤ W) (h2 : W ≤ 64) (ha : a < 2 ^ W) (hb : b < 2 ^ W) (w : World) :
    Calls Try.prog 122 #[.int .i64 W, .int .u64 a, .int .u64 b] w fun e w' => e = .returned (.bool (slt W a b)) ∧ w = w' := by
  have hs := slt_eq W a b h1 ha hb
  obtain ⟨A, hA⟩ : ∃ A, decide (2 ^ (W - 1) ≤ a) = A := ⟨_, rfl⟩
  obtain ⟨B, hB⟩ : ∃ B, decide (2 ^ (W - 1) ≤ b) = B := ⟨_, rfl⟩
  rw [hA, hB] at hs
  have Ha := Lib.hid (And.intro ha hA); have Hb := Lib.hid (And.intro hb hB); clear ha hb hA hB
  rw [hs]; clear hs
  cases A <;> cases B
  all_goals
    simp only [if_true, if_false, reduceCtorEq]
    go_enter Try.func122, Try.ntmps122
    go_wp2_with fail
    refine (rtop_is W a h1 h2 _ Ha.out _).mono ?_; rintro e w' ⟨rfl, rfl⟩
    go_wp2_with fail
    refine (rtop_is W b h1 h2 _ Hb.out _).mono ?_; rintro e w' ⟨rfl, rfl⟩
    go_wp2_with (go_at_call 120; refine (rtop_is W a h1 h2 _ Ha.out _).mono ?_; rintro e w' ⟨rfl, rfl⟩)
    go_ret
    exact ⟨rfl, rfl⟩
theorem ones_mod (W a : Nat) (h2 : W ≤ 64) : 18446744073709551615 % 2 ^ W = wop W 7 a 0 0 := by
  have h := mod_minus W 0 h2 (pow_pos2 W)
  simpa [wop] using h
theorem rest_any (o W a b : Nat) (ho : o = 7 ∨ o = 8 ∨ 15 ≤ o ∧ o ≤ 20) (h1 : 1 ≤ W) (h2 : W ≤ 64) (ha : a < 2 ^ W) (hb : b < 2 ^ W) (w : World) :
    Calls Try.prog 117 #[.int .u8 o, .int .i64 W, .int .u64 a, .int .u64 b] w (Raw W o a b w) := by
  have hp := pow_le64 h2
  have Ha := Lib.hid ha; have Hb := Lib.hid hb; have Hp := Lib.hid hp; clear ha hb hp
  rcases ho with rfl | rfl | ho
  · by_cases h0 : b = 0
    · subst h0
      go_enter Try.func117, Try.ntmps117
      go_wp2
      go_ret
      exact ⟨18446744073709551615, by simp, by omega, ones_mod W a h2, rfl⟩
    · have hz : ((b : Int) == 0) = false := by simp; omega
      go_enter Try.func117, Try.ntmps117
      go_wp2
      go_ret
      have hl : a / b < 2 ^ W := Nat.lt_of_le_of_lt (Nat.div_le_self _ _) Ha.out
      have := Hp.out
      refine ⟨a / b, ?_, by omega, ?_, rfl⟩
      · show Ending.returned (.int .u64 (IntKind.u64.wrap ((a : Int) / (b : Int)))) = _
        rw [← Int.natCast_ediv, wrap_u64_nat, Nat.mod_eq_of_lt (by omega)]
      · rw [Nat.mod_eq_of_lt hl]; simp [wop, h0]
  · by_cases h0 : b = 0
    · subst h0
      go_enter Try.func117, Try.ntmps117
      go_wp2
      go_ret
      exact ⟨a, rfl, by have := Hp.out; have := Ha.out; omega, Nat.mod_eq_of_lt Ha.out, rfl⟩
    · have hz : ((b : Int) == 0) = false := by simp; omega
      go_enter Try.func117, Try.ntmps117
      go_wp2
      go_ret
      have hl : a % b < 2 ^ W := Nat.lt_of_le_of_lt (Nat.mod_le _ _) Ha.out
      have := Hp.out
      exact ⟨a % b, rfl, by omega, by rw [Nat.mod_eq_of_lt hl]; simp [wop, h0], rfl⟩
  · have : o = 15 ∨ o = 16 ∨ o = 17 ∨ o = 18 ∨ o = 19 ∨ o = 20 := by omega
    have e1 : b01 (slt W a b) = wop W 19 a b 0 := rfl
    have e2 : b01 (!slt W b a) = wop W 20 a b 0 := by
      show b01 (!decide (sgn W b < sgn W a)) = b01 (decide (sgn W a ≤ sgn W b))
      congr 1; rw [Bool.eq_iff_iff]; simp
    have E1 := Lib.hid e1; have E2 := Lib.hid e2; clear e1 e2
    rcases this with rfl | rfl | rfl | rfl | rfl | rfl
    · show Calls Try.prog _ #[.int .u8 15, .int .i64 W, .int .u64 a, .int .u64 b] w _
      go_enter Try.func117, Try.ntmps117
      go_wp2_with (go_at_call 121; refine (rbit_any _ _).mono ?_; rintro e w' ⟨rfl, rfl⟩)
      go_ret
      refine ⟨b01 (a == b), ?_, by unfold b01; split <;> decide, b01_mod h1 _, rfl⟩
      show Ending.returned (.int .u64 ((b01 ((a : Int) == (b : Int)) : Nat) : Int)) = _
      congr 4; rw [Bool.eq_iff_iff]; simp; try omega
    · show Calls Try.prog _ #[.int .u8 16, .int .i64 W, .int .u64 a, .int .u64 b] w _
      go_enter Try.func117, Try.ntmps117
      go_wp2_with (go_at_call 121; refine (rbit_any _ _).mono ?_; rintro e w' ⟨rfl, rfl⟩)
      go_ret
      refine ⟨b01 (a != b), ?_, by unfold b01; split <;> decide, b01_mod h1 _, rfl⟩
      show Ending.returned (.int .u64 ((b01 ((a : Int) != (b : Int)) : Nat) : Int)) = _
      congr 4; rw [Bool.eq_iff_iff]; simp; try omega
    · show Calls Try.prog _ #[.int .u8 17, .int .i64 W, .int .u64 a, .int .u64 b] w _
      go_enter Try.func117, Try.ntmps117
      go_wp2_with (go_at_call 121; refine (rbit_any _ _).mono ?_; rintro e w' ⟨rfl, rfl⟩)
      go_ret
      exact ⟨b01 (decide (a < b)), rfl, by unfold b01; split <;> decide, b01_mod h1 _, rfl⟩
    · show Calls Try.prog _ #[.int .u8 18, .int .i64 W, .int .u64 a, .int .u64 b] w _
      go_enter Try.func117, Try.ntmps117
      go_wp2_with (go_at_call 121; refine (rbit_any _ _).mono ?_; rintro e w' ⟨rfl, rfl⟩)
      go_ret
      exact ⟨b01 (decide (a ≤ b)), rfl, by unfold b01; split <;> decide, b01_mod h1 _, rfl⟩
    · show Calls Try.prog _ #[.int .u8 19, .int .i64 W, .int .u64 a, .int .u64 b] w _
      go_enter Try.func117, Try.ntmps117
      go_wp2_with (first | (go_at_call 121; refine (rbit_any _ _).mono ?_; rintro e w' ⟨rfl, rfl⟩) | (go_at_call 122; refine (rless_any W a b h1 h2 Ha.out Hb.out _).mono ?_; rintro e w' ⟨rfl, rfl⟩))
      go_ret
      exact ⟨b01 (slt W a b), rfl, by unfold b01; split <;> decide, by rw [b01_mod h1, E1.out], rfl⟩
    · show Calls Try.prog _ #[.int .u8 20, .int .i64 W, .int .u64 a, .int .u64 b] w _
      go_enter Try.func117, Try.ntmps117
      go_wp2_with (first | (go_at_call 121; refine (rbit_any _ _).mono ?_; rintro e w' ⟨rfl, rfl⟩) | (go_at_call 122; refine (rless_any W b a h1 h2 Hb.out Ha.out _).mono ?_; rintro e w' ⟨rfl, rfl⟩))
      go_ret
      exact ⟨b01 (!slt W b a), rfl, by unfold b01; split <;> decide, by rw [b01_mod h1, E2.out], rfl⟩
/-- A word shifted by i bits, bit after bit. -/
def shN (W o a i : Nat) : Nat :=
  match i with
  | 0 => a
  | i + 1 => if o = 12 then 2 * shN W o a i % 2 ^ W else if o = 14 ∧ 2 ^ (W - 1) ≤ a then shN W o a i / 2 + 2 ^ (W - 1) else shN W o a i / 2
theorem shN_lt (W o a : Nat) (h1 : 1 ≤ W) (ha : a < 2 ^ W) : ∀ i, shN W o a i < 2 ^ W
  | 0 => ha
  | i + 1 => by
    have ih := shN_lt W o a h1 ha i
    have hp := pow_half h1
    unfold shN
    split
    · exact Nat.mod_lt _ (pow_pos2 W)
    · split <;> omega
theorem shN_shl (W a : Nat) (h1 : 1 ≤ W) (ha : a < 2 ^ W) : ∀ i, shN W 12 a i = a * 2 ^ i % 2 ^ W
  | 0 => by simp [shN, Nat.mod_eq_of_lt ha]
  | i + 1 => by
    rw [shN, if_pos rfl, shN_shl W a h1 ha i, Nat.pow_succ, Nat.mul_mod, Nat.mod_mod, ← Nat.mul_mod]
    congr 1; rw [Nat.mul_comm 2, Nat.mul_assoc]
theorem shN_shr (W o a : Nat) (ho : o = 13 ∨ o = 14 ∧ a < 2 ^ (W - 1)) : ∀ i, shN W o a i = a / 2 ^ i
  | 0 => by simp [shN]
  | i + 1 => by
    rw [shN, if_neg (by omega), if_neg (by omega), shN_shr W o a ho i, Nat.pow_succ, Nat.div_div_eq_div_mul]
theorem shN_sar (W a : Nat) (h1 : 1 ≤ W) (ha : a < 2 ^ W) (h : 2 ^ (W - 1) ≤ a) : ∀ i, shN W 14 a i = 2 ^ W - 1 - (2 ^ W - 1 - a) / 2 ^ i
  | 0 => by simp [shN]; omega
  | i + 1 => by
    have hp := pow_half h1
    rw [shN, if_neg (by decide), if_pos ⟨rfl, h⟩, shN_sar W a h1 ha h i, Nat.pow_succ, ← Nat.div_div_eq_div_mul]
    have hl : (2 ^ W - 1 - a) / 2 ^ i ≤ 2 ^ W - 1 - a := Nat.div_le_self _ _
    generalize (2 ^ W - 1 - a) / 2 ^ i = c at *
    generalize 2 ^ (W - 1) = H at *
    generalize 2 ^ W = P at *
    omega
theorem shN_wop (W o a b : Nat) (ho : o = 12 ∨ o = 13 ∨ o = 14) (h1 : 1 ≤ W) (h2 : W ≤ 64) (ha : a < 2 ^ W) : shN W o a (min b W) = wop W o a b 0 := by
  rcases ho with rfl | rfl | rfl
  · rw [shN_shl W a h1 ha]
    show _ = if W ≤ b then 0 else a * 2 ^ b % 2 ^ W
    by_cases hb : W ≤ b
    · rw [if_pos hb, Nat.min_eq_right hb, Nat.mul_mod_left]
    · rw [if_neg hb, Nat.min_eq_left (by omega)]
  · rw [shN_shr W 13 a (.inl rfl)]
    show _ = if W ≤ b then 0 else a / 2 ^ b
    by_cases hb : W ≤ b
    · rw [if_pos hb, Nat.min_eq_right hb, Nat.div_eq_of_lt ha]
    · rw [if_neg hb, Nat.min_eq_left (by omega)]
  · show _ = if a < 2 ^ (W - 1) then a / 2 ^ min b 64 else 2 ^ W - 1 - (2 ^ W - 1 - a) / 2 ^ min b 64
    have h64 : ∀ c, c < 2 ^ W → W ≤ b → c / 2 ^ min b W = 0 ∧ c / 2 ^ min b 64 = 0 := by
      intro c hc hb
      have hq : 2 ^ W ≤ 2 ^ min b 64 := Nat.pow_le_pow_right (by decide) (by omega)
      rw [Nat.min_eq_right hb]
      exact ⟨Nat.div_eq_of_lt hc, Nat.div_eq_of_lt (by omega)⟩
    have hS : ∀ c, c < 2 ^ W → c / 2 ^ min b W = c / 2 ^ min b 64 := by
      intro c hc
      by_cases hb : W ≤ b
      · rw [(h64 c hc hb).1, (h64 c hc hb).2]
      · rw [Nat.min_eq_left (by omega), Nat.min_eq_left (by omega)]
    by_cases hc : a < 2 ^ (W - 1)
    · rw [if_pos hc, shN_shr W 14 a (.inr ⟨rfl, hc⟩), hS a ha]
    · rw [if_neg hc, shN_sar W a h1 ha (by omega), hS _ (by omega)]
theorem shN_succ12 (W a i : Nat) (h2 : W ≤ 64) : (2 * shN W 12 a i) % 18446744073709551616 % 2 ^ W = shN W 12 a (i + 1) := by
  rw [mod64_mod h2]; rfl
theorem shN_succ13 (W o a i : Nat) (ho : o = 13 ∨ o = 14 ∧ a < 2 ^ (W - 1)) : shN W o a i / 2 = shN W o a (i + 1) := by
  rw [shN, if_neg (by omega), if_neg (by omega)]
theorem shN_succ14 (W a i : Nat) (h : 2 ^ (W - 1) ≤ a) : shN W 14 a i / 2 + 2 ^ (W - 1) = shN W 14 a (i + 1) := by
  rw [shN, if_neg (by decide), if_pos ⟨rfl, h⟩]
theorem wrap_two (s : Nat) : IntKind.u64.wrap (2 * (s : Int)) = ((2 * s % 18446744073709551616 : Nat) : Int) := by
  rw [← wrap_u64_nat]; simp
theorem wrap_half (s : Nat) (h : s < 18446744073709551616) : IntKind.u64.wrap ((s : Int) / 2) = ((s / 2 : Nat) : Int) := by
  rw [IntKind.wrap_u64]; omega
theorem wrap_halfpow (W s : Nat) (h1 : 1 ≤ W) (h2 : W ≤ 64) (h : s < 2 ^ W) : IntKind.u64.wrap (((s / 2 : Nat) : Int) + IntKind.u64.wrap (2 ^ (W - 1))) = ((s / 2 + 2 ^ (W - 1) : Nat) : Int) := by
  have hp := pow_le64 h2
  have hh := pow_half h1
  have e : (2 : Int) ^ (W - 1) = ((2 ^ (W - 1) : Nat) : Int) := by simp
  rw [e, wrap_u64_nat, Nat.mod_eq_of_lt (by omega), IntKind.wrap_u64]
  generalize 2 ^ (W - 1) = H at *
  generalize 2 ^ W = P at *
  omega
theorem rtrim_is (W v r : Nat) (h1 : 1 ≤ W) (h2 : W ≤ 64) (h : v ≤ 18446744073709551615 ∧ v % 2 ^ W = r) (w : World) :
    Calls Try.prog 91 #[.int .i64 W, .int .u64 v] w fun e w' => e = .returned (.int .u64 r) ∧ w = w' := by
  rw [← h.2]; exact rtrim_any W v h1 h2 h.1 w
theorem two_step (W a n : Nat) (h2 : W ≤ 64) : ∃ v : Nat, IntKind.u64.wrap (2 * ((shN W 12 a n : Nat) : Int)) = (v : Int) ∧ Hid (v ≤ 18446744073709551615 ∧ v % 2 ^ W = shN W 12 a (n + 1)) :=
  ⟨_, wrap_two _, Nat.le_of_lt_succ (Nat.mod_lt _ (by decide)), shN_succ12 W a n h2⟩
theorem half_step (W o a n : Nat) (ho : o = 13 ∨ o = 14 ∧ a < 2 ^ (W - 1)) (h : shN W o a n < 18446744073709551616) : IntKind.u64.wrap (((shN W o a n : Nat) : Int) / 2) = ((shN W o a (n + 1) : Nat) : Int) := by
  rw [wrap_half _ h, shN_succ13 W o a n ho]
theorem sar_step (W a n : Nat) (h1 : 1 ≤ W) (h2 : W ≤ 64) (h : 2 ^ (W - 1) ≤ a) (hl : shN W 14 a n < 2 ^ W) :
    ∃ v : Nat, IntKind.u64.wrap (((shN W 14 a n : Nat) : Int) / 2) = (v : Int) ∧ IntKind.u64.wrap ((v : Int) + IntKind.u64.wrap (2 ^ (W - 1))) = ((shN W 14 a (n + 1) : Nat) : Int) := by
  have hp := pow_le64 h2
  exact ⟨_, wrap_half _ (by omega), by rw [wrap_halfpow W _ h1 h2 hl, shN_succ14 W a n h]⟩
theorem raw_shN (o W a b n : Nat) (ho : o = 12 ∨ o = 13 ∨ o = 14) (h1 : 1 ≤ W) (h2 : W ≤ 64) (ha : a < 2 ^ W) (hn : n = min b W) (w : World) : Raw W o a b w (.returned (.int .u64 ((shN W o a n : Nat) : Int))) w := by
  have hl := shN_lt W o a h1 ha n
  have hp := pow_le64 h2
  refine ⟨_, rfl, by omega, ?_, rfl⟩
  rw [Nat.mod_eq_of_lt hl, hn, shN_wop W o a b ho h1 h2 ha]
theorem shifted_any (o W a b : Nat) (ho : o = 12 ∨ o = 13 ∨ o = 14) (h1 : 1 ≤ W) (h2 : W ≤ 64) (ha : a < 2 ^ W) (hb : b < 2 ^ W) (w : World) :
    Calls Try.prog 116 #[.int .u8 o, .int .i64 W, .int .u64 a, .int .u64 b] w (Raw W o a b w) := by
  have hp := pow_le64 h2
  have hlt := shN_lt W o a h1 ha
  have hbl : b ≤ 18446744073709551615 := by omega
  have fin : ∀ n : Nat, n ≤ b → n ≤ W → ¬ (n < b ∧ n < W) → Raw W o a b w (.returned (.int .u64 ((shN W o a n : Nat) : Int))) w := fun n _ _ _ => raw_shN o W a b n ho h1 h2 ha (by omega) w
  have Fin := Lib.hid fin; clear fin
  have Ha := Lib.hid ha; have Hp := Lib.hid hp; have Hb := Lib.hid hb; have Hl := Lib.hid hlt; clear ha hp hb hlt
  rcases ho with rfl | rfl | rfl
  · show Calls Try.prog _ #[.int .u8 12, .int .i64 W, .int .u64 a, .int .u64 b] w _
    go_enter Try.func116, Try.ntmps116
    go_wp2
    go_loop [2, 10] (fun s i => ∃ n : Nat, n ≤ b ∧ n ≤ W ∧ i = .int .u64 n ∧ s = .int .u64 (shN W 12 a n)) (fun _ i => W - (intOf i).toNat)
    case atStart => exact ⟨0, by omega, by omega, rfl, rfl⟩
    case round =>
      obtain ⟨n, hn1, hn2, rfl, rfl⟩ := hrel
      by_cases hc : n < b ∧ n < W
      · obtain ⟨hc1, hc2⟩ := hc
        obtain ⟨v, e1, E2⟩ := two_step W a n h2
        go_wp2_with (go_at_call 91; refine (rtrim_is _ _ _ h1 h2 E2.out _).mono ?_; rintro e w' ⟨rfl, rfl⟩)
        go_round
        case rel => exact ⟨n + 1, by omega, by omega, by go_num, rfl⟩
        case measure => simp [intOf]; omega
      · have hf := Lib.hid (Fin.out n hn1 hn2 hc)
        by_cases hc1 : n < b
        · have hc2 : ¬ n < W := by omega
          clear hc
          go_wp2
          go_ret
          exact hf.out
        · clear hc
          go_wp2
          go_ret
          exact hf.out
  · show Calls Try.prog _ #[.int .u8 13, .int .i64 W, .int .u64 a, .int .u64 b] w _
    go_enter Try.func116, Try.ntmps116
    go_wp2
    go_loop [2, 10] (fun s i => ∃ n : Nat, n ≤ b ∧ n ≤ W ∧ i = .int .u64 n ∧ s = .int .u64 (shN W 13 a n)) (fun _ i => W - (intOf i).toNat)
    case atStart => exact ⟨0, by omega, by omega, rfl, rfl⟩
    case round =>
      obtain ⟨n, hn1, hn2, rfl, rfl⟩ := hrel
      by_cases hc : n < b ∧ n < W
      · obtain ⟨hc1, hc2⟩ := hc
        have e1 := half_step W 13 a n (.inl rfl) (by have := Hl.out n; have := Hp.out; omega)
        go_wp2
        go_round
        case rel => exact ⟨n + 1, by omega, by omega, by go_num, rfl⟩
        case measure => simp [intOf]; omega
      · have hf := Lib.hid (Fin.out n hn1 hn2 hc)
        by_cases hc1 : n < b
        · have hc2 : ¬ n < W := by omega
          clear hc
          go_wp2
          go_ret
          exact hf.out
        · clear hc
          go_wp2
          go_ret
          exact hf.out
  · show Calls Try.prog _ #[.int .u8 14, .int .i64 W, .int .u64 a, .int .u64 b] w _
    by_cases hA : 2 ^ (W - 1) ≤ a
    · have Ht := Lib.hid (And.intro Ha.out (decide_eq_true hA))
      have HA := Lib.hid hA; clear hA
      go_enter Try.func116, Try.ntmps116
      go_wp2_with (go_at_call 120; refine (rtop_is _ _ h1 h2 _ Ht.out _).mono ?_; rintro e w' ⟨rfl, rfl⟩)
      go_loop [2, 10] (fun s i => ∃ n : Nat, n ≤ b ∧ n ≤ W ∧ i = .int .u64 n ∧ s = .int .u64 (shN W 14 a n)) (fun _ i => W - (intOf i).toNat)
      case atStart => exact ⟨0, by omega, by omega, rfl, rfl⟩
      case round =>
        obtain ⟨n, hn1, hn2, rfl, rfl⟩ := hrel
        by_cases hc : n < b ∧ n < W
        · obtain ⟨hc1, hc2⟩ := hc
          obtain ⟨v, e1, e2⟩ := sar_step W a n h1 h2 HA.out (Hl.out n)
          go_wp2
          go_round
          case rel => exact ⟨n + 1, by omega, by omega, by go_num, rfl⟩
          case measure => simp [intOf]; omega
        · have hf := Lib.hid (Fin.out n hn1 hn2 hc)
          by_cases hc1 : n < b
          · have hc2 : ¬ n < W := by omega
            clear hc
            go_wp2
            go_ret
            exact hf.out
          · clear hc
            go_wp2
            go_ret
            exact hf.out
    · have Ht := Lib.hid (And.intro Ha.out (decide_eq_false hA))
      have HA := Lib.hid hA; clear hA
      go_enter Try.func116, Try.ntmps116
      go_wp2_with (go_at_call 120; refine (rtop_is _ _ h1 h2 _ Ht.out _).mono ?_; rintro e w' ⟨rfl, rfl⟩)
      go_loop [2, 10] (fun s i => ∃ n : Nat, n ≤ b ∧ n ≤ W ∧ i = .int .u64 n ∧ s = .int .u64 (shN W 14 a n)) (fun _ i => W - (intOf i).toNat)
      case atStart => exact ⟨0, by omega, by omega, rfl, rfl⟩
      case round =>
        obtain ⟨n, hn1, hn2, rfl, rfl⟩ := hrel
        by_cases hc : n < b ∧ n < W
        · obtain ⟨hc1, hc2⟩ := hc
          have e1 := half_step W 14 a n (.inr ⟨rfl, Nat.lt_of_not_le HA.out⟩) (by have := Hl.out n; have := Hp.out; omega)
          go_wp2
          go_round
          case rel => exact ⟨n + 1, by omega, by omega, by go_num, rfl⟩
          case measure => simp [intOf]; omega
        · have hf := Lib.hid (Fin.out n hn1 hn2 hc)
          by_cases hc1 : n < b
          · have hc2 : ¬ n < W := by omega
            clear hc
            go_wp2
            go_ret
            exact hf.out
          · clear hc
            go_wp2
            go_ret
            exact hf.out
end Go.Proofs.Ytcpgiadhmmmafaa
