/- The leaves of package word: what each function returns. -/
import Derived.Test.YtpboinmmhlgdaaaChecked
import Derived.Test.YtpboinmmhlgdaaaPlainA
import Derived.Lib.Hide
import Derived.WalkKit
import Derived.WalkSpells
import Derived.WalkLawsBesides
namespace Go.Proofs.Ytpboinmmhlgdaaa
open Go.RowKit
set_option maxHeartbeats 400000

theorem wrap_u64_nat (n : Nat) : IntKind.u64.wrap (n : Int) = ((n % 18446744073709551616 : Nat) : Int) := by
  rw [IntKind.wrap_u64]; omega
theorem wrap_pow (W : Nat) (h1 : 1 ≤ W) (h2 : W ≤ 64) : IntKind.u64.wrap (IntKind.u64.wrap (2 ^ ((W : Int)).toNat) - 1) = ((2 ^ W - 1 : Nat) : Int) := by
  have h := pow_le64 h2
  have h' := two_le_pow h1
  have e : ((2 : Int) ^ ((W : Int)).toNat) = ((2 ^ W : Nat) : Int) := by simp
  rw [e, IntKind.wrap_u64, IntKind.wrap_u64]
  rcases Nat.lt_or_ge (2 ^ W) 18446744073709551616 with hl | hl
  · omega
  · have : 2 ^ W = 18446744073709551616 := by omega
    rw [this]; rfl

theorem mask_any (W : Nat) (h1 : 1 ≤ W) (h2 : W ≤ 64) (w : World) :
    Calls Try.prog 14 #[.int .i64 W] w fun e w' => e = .returned (.int .u64 ((2 ^ W - 1 : Nat) : Int)) ∧ w = w' := by
  have hp := wrap_pow W h1 h2
  have H := Lib.hid hp
  clear hp
  go_enter Try.func14, Try.ntmps14
  go_wp2
  go_ret
  have e := H.out
  simp at e
  simp [e]

theorem bit_any (p : Bool) (w : World) :
    Calls Try.prog 35 #[.bool p] w fun e w' => e = .returned (.int .u64 (b01 p)) ∧ w = w' := by
  cases p <;>
  · go_enter Try.func35, Try.ntmps35
    go_wp2
    go_ret
    exact ⟨rfl, rfl⟩

/-- What a leaf returns: a number whose lowest bits are the operator's result. -/
def Raw (W o a b : Nat) (w : World) (e : Ending) (w' : World) : Prop := ∃ r : Nat, e = .returned (.int .u64 r) ∧ r < 18446744073709551616 ∧ r % 2 ^ W = wop W o a b 0 ∧ w = w'

theorem add_any (W a b : Nat) (_h1 : 1 ≤ W) (h2 : W ≤ 64) (ha : a < 2 ^ W) (hb : b < 2 ^ W) (w : World) :
    Calls Try.prog 17 #[.int .i64 W, .int .u64 a, .int .u64 b] w (Raw W 4 a b w) := by
  have Ha := Lib.hid ha; have Hb := Lib.hid hb; clear ha hb
  go_enter Try.func17, Try.ntmps17
  go_wp2
  go_ret
  exact ⟨(a + b) % 18446744073709551616, by rw [← wrap_u64_nat]; rfl, Nat.mod_lt _ (by decide), mod64_mod h2 _, rfl⟩
theorem sub_any (W a b : Nat) (_h1 : 1 ≤ W) (h2 : W ≤ 64) (ha : a < 2 ^ W) (hb : b < 2 ^ W) (w : World) :
    Calls Try.prog 18 #[.int .i64 W, .int .u64 a, .int .u64 b] w (Raw W 5 a b w) := by
  have Ha := Lib.hid ha; have Hb := Lib.hid hb; clear ha hb
  go_enter Try.func18, Try.ntmps18
  go_wp2
  go_ret
  have hp := pow_le64 h2
  refine ⟨(a + 18446744073709551616 - b) % 18446744073709551616, ?_, Nat.mod_lt _ (by decide), ?_, rfl⟩
  · have := Hb.out
    show Ending.returned (.int .u64 (IntKind.u64.wrap _)) = _
    rw [IntKind.wrap_u64]; congr 2; omega
  · rw [mod64_mod h2]
    have := Hb.out
    obtain ⟨q, hq⟩ := pow_dvd64 h2
    show _ = (a + 2 ^ W - b) % 2 ^ W
    rw [show a + 18446744073709551616 - b = (a + 2 ^ W - b) + 2 ^ W * (q - 1) from ?_, Nat.add_mul_mod_self_left]
    have hq1 : 1 ≤ q := by
      rcases Nat.eq_zero_or_pos q with h0 | h0
      · subst h0; omega
      · exact h0
    have : 2 ^ W * (q - 1) + 2 ^ W = 18446744073709551616 := by rw [hq, ← Nat.mul_succ]; congr 1; omega
    omega
theorem mul_any (W a b : Nat) (_h1 : 1 ≤ W) (h2 : W ≤ 64) (ha : a < 2 ^ W) (hb : b < 2 ^ W) (w : World) :
    Calls Try.prog 19 #[.int .i64 W, .int .u64 a, .int .u64 b] w (Raw W 6 a b w) := by
  have Ha := Lib.hid ha; have Hb := Lib.hid hb; clear ha hb
  go_enter Try.func19, Try.ntmps19
  go_wp2
  go_ret
  exact ⟨(a * b) % 18446744073709551616, by rw [← wrap_u64_nat, Int.natCast_mul]; rfl, Nat.mod_lt _ (by decide), mod64_mod h2 _, rfl⟩
theorem and_any (W a b : Nat) (_h1 : 1 ≤ W) (h2 : W ≤ 64) (ha : a < 2 ^ W) (hb : b < 2 ^ W) (w : World) :
    Calls Try.prog 22 #[.int .i64 W, .int .u64 a, .int .u64 b] w (Raw W 9 a b w) := by
  have Ha := Lib.hid ha; have Hb := Lib.hid hb; clear ha hb
  go_enter Try.func22, Try.ntmps22
  go_wp2
  go_ret
  have hp := pow_le64 h2
  have ha := Ha.out; have hb := Hb.out
  refine ⟨a &&& b, ?_, Nat.lt_of_le_of_lt Nat.and_le_left (by omega), Nat.mod_eq_of_lt (Nat.lt_of_le_of_lt Nat.and_le_left ha), rfl⟩
  show Ending.returned (.int .u64 (bits .and .u64 _ _)) = _
  rw [u64_and_nat _ _ (by omega) (by omega)]
theorem or_any (W a b : Nat) (_h1 : 1 ≤ W) (h2 : W ≤ 64) (ha : a < 2 ^ W) (hb : b < 2 ^ W) (w : World) :
    Calls Try.prog 23 #[.int .i64 W, .int .u64 a, .int .u64 b] w (Raw W 10 a b w) := by
  have Ha := Lib.hid ha; have Hb := Lib.hid hb; clear ha hb
  go_enter Try.func23, Try.ntmps23
  go_wp2
  go_ret
  have hp := pow_le64 h2
  have ha := Ha.out; have hb := Hb.out
  refine ⟨a ||| b, ?_, Nat.lt_of_lt_of_le (Nat.or_lt_two_pow ha hb) hp, Nat.mod_eq_of_lt (Nat.or_lt_two_pow ha hb), rfl⟩
  show Ending.returned (.int .u64 (bits .or .u64 _ _)) = _
  rw [u64_or_nat _ _ (by omega) (by omega)]
theorem xor_any (W a b : Nat) (_h1 : 1 ≤ W) (h2 : W ≤ 64) (ha : a < 2 ^ W) (hb : b < 2 ^ W) (w : World) :
    Calls Try.prog 24 #[.int .i64 W, .int .u64 a, .int .u64 b] w (Raw W 11 a b w) := by
  have Ha := Lib.hid ha; have Hb := Lib.hid hb; clear ha hb
  go_enter Try.func24, Try.ntmps24
  go_wp2
  go_ret
  have hp := pow_le64 h2
  have ha := Ha.out; have hb := Hb.out
  refine ⟨a ^^^ b, ?_, Nat.lt_of_lt_of_le (Nat.xor_lt_two_pow ha hb) hp, Nat.mod_eq_of_lt (Nat.xor_lt_two_pow ha hb), rfl⟩
  show Ending.returned (.int .u64 (bits .xor .u64 _ _)) = _
  rw [u64_xor_nat _ _ (by omega) (by omega)]
theorem div_any (W a b : Nat) (_h1 : 1 ≤ W) (h2 : W ≤ 64) (ha : a < 2 ^ W) (hb : b < 2 ^ W) (w : World) :
    Calls Try.prog 20 #[.int .i64 W, .int .u64 a, .int .u64 b] w (Raw W 7 a b w) := by
  have hp := pow_le64 h2
  have Ha := Lib.hid ha; have Hb := Lib.hid hb; have Hp := Lib.hid hp; clear ha hb hp
  by_cases h0 : b = 0
  · subst h0
    go_enter Try.func20, Try.ntmps20
    go_wp2_with (go_at_call 14; refine (mask_any _ _h1 h2 _).mono ?_; rintro e w' ⟨rfl, rfl⟩)
    go_ret
    have := two_le_pow _h1
    exact ⟨2 ^ W - 1, rfl, by have := Hp.out; omega, Nat.mod_eq_of_lt (by omega), rfl⟩
  · have hz : ((b : Int) == 0) = false := by simp; omega
    go_enter Try.func20, Try.ntmps20
    go_wp2
    go_ret
    have hl : a / b < 2 ^ W := Nat.lt_of_le_of_lt (Nat.div_le_self _ _) Ha.out
    have := Hp.out
    refine ⟨a / b, ?_, by omega, ?_, rfl⟩
    · show Ending.returned (.int .u64 (IntKind.u64.wrap ((a : Int) / (b : Int)))) = _
      rw [← Int.natCast_ediv, wrap_u64_nat, Nat.mod_eq_of_lt (by omega)]
    rw [Nat.mod_eq_of_lt hl]; simp [wop, h0]
theorem rem_any (W a b : Nat) (_h1 : 1 ≤ W) (h2 : W ≤ 64) (ha : a < 2 ^ W) (hb : b < 2 ^ W) (w : World) :
    Calls Try.prog 21 #[.int .i64 W, .int .u64 a, .int .u64 b] w (Raw W 8 a b w) := by
  have hp := pow_le64 h2
  have Ha := Lib.hid ha; have Hb := Lib.hid hb; have Hp := Lib.hid hp; clear ha hb hp
  by_cases h0 : b = 0
  · subst h0
    go_enter Try.func21, Try.ntmps21
    go_wp2
    go_ret
    exact ⟨a, rfl, by have := Hp.out; have := Ha.out; omega, Nat.mod_eq_of_lt Ha.out, rfl⟩
  · have hz : ((b : Int) == 0) = false := by simp; omega
    go_enter Try.func21, Try.ntmps21
    go_wp2
    go_ret
    have hl : a % b < 2 ^ W := Nat.lt_of_le_of_lt (Nat.mod_le _ _) Ha.out
    have := Hp.out
    refine ⟨a % b, by first | rfl | (simp; done), by omega, ?_, rfl⟩
    rw [Nat.mod_eq_of_lt hl]; simp [wop, h0]

theorem mod_mod_pow (W n : Nat) : n % 2 ^ W % 2 ^ W = n % 2 ^ W := Nat.mod_mod _ _
theorem shl_any (W a b : Nat) (_h1 : 1 ≤ W) (h2 : W ≤ 64) (ha : a < 2 ^ W) (hb : b < 2 ^ W) (w : World) :
    Calls Try.prog 25 #[.int .i64 W, .int .u64 a, .int .u64 b] w (Raw W 12 a b w) := by
  have Ha := Lib.hid ha; have Hb := Lib.hid hb; clear ha hb
  by_cases h0 : W ≤ b
  · go_enter Try.func25, Try.ntmps25
    go_wp2
    go_ret
    exact ⟨0, rfl, by decide, by simp [wop, h0], rfl⟩
  · go_enter Try.func25, Try.ntmps25
    go_wp2
    go_ret
    refine ⟨(a * 2 ^ b) % 18446744073709551616, ?_, Nat.mod_lt _ (by decide), by rw [mod64_mod h2]; simp [wop, h0], rfl⟩
    rw [← wrap_u64_nat]; simp
theorem shr_any (W a b : Nat) (_h1 : 1 ≤ W) (h2 : W ≤ 64) (ha : a < 2 ^ W) (hb : b < 2 ^ W) (w : World) :
    Calls Try.prog 26 #[.int .i64 W, .int .u64 a, .int .u64 b] w (Raw W 13 a b w) := by
  have hp := pow_le64 h2
  have Ha := Lib.hid ha; have Hb := Lib.hid hb; have Hp := Lib.hid hp; clear ha hb hp
  by_cases h0 : W ≤ b
  · go_enter Try.func26, Try.ntmps26
    go_wp2
    go_ret
    exact ⟨0, rfl, by decide, by simp [wop, h0], rfl⟩
  · go_enter Try.func26, Try.ntmps26
    go_wp2
    go_ret
    have hl : a / 2 ^ b < 2 ^ W := Nat.lt_of_le_of_lt (Nat.div_le_self _ _) Ha.out
    have := Hp.out
    exact ⟨a / 2 ^ b, by simp, by omega, by rw [Nat.mod_eq_of_lt hl]; simp [wop, h0], rfl⟩
theorem eq_any (W a b : Nat) (_h1 : 1 ≤ W) (_h2 : W ≤ 64) (ha : a < 2 ^ W) (hb : b < 2 ^ W) (w : World) :
    Calls Try.prog 28 #[.int .i64 W, .int .u64 a, .int .u64 b] w (Raw W 15 a b w) := by
  have Ha := Lib.hid ha; have Hb := Lib.hid hb; clear ha hb
  go_enter Try.func28, Try.ntmps28
  go_wp2_with (go_at_call 35; refine (bit_any _ _).mono ?_; rintro e w' ⟨rfl, rfl⟩)
  go_ret
  refine ⟨b01 (a == b), ?_, by unfold b01; split <;> decide, b01_mod _h1 _, rfl⟩
  show Ending.returned (.int .u64 ((b01 ((a : Int) == (b : Int)) : Nat) : Int)) = _
  congr 4
  first | rfl | (rw [Bool.eq_iff_iff]; simp; done) | (rw [Bool.eq_iff_iff]; simp; omega)
theorem ne_any (W a b : Nat) (_h1 : 1 ≤ W) (_h2 : W ≤ 64) (ha : a < 2 ^ W) (hb : b < 2 ^ W) (w : World) :
    Calls Try.prog 29 #[.int .i64 W, .int .u64 a, .int .u64 b] w (Raw W 16 a b w) := by
  have Ha := Lib.hid ha; have Hb := Lib.hid hb; clear ha hb
  go_enter Try.func29, Try.ntmps29
  go_wp2_with (go_at_call 35; refine (bit_any _ _).mono ?_; rintro e w' ⟨rfl, rfl⟩)
  go_ret
  refine ⟨b01 (a != b), ?_, by unfold b01; split <;> decide, b01_mod _h1 _, rfl⟩
  show Ending.returned (.int .u64 ((b01 ((a : Int) != (b : Int)) : Nat) : Int)) = _
  congr 4
  first | rfl | (rw [Bool.eq_iff_iff]; simp; done) | (rw [Bool.eq_iff_iff]; simp; omega)
theorem lt_any (W a b : Nat) (_h1 : 1 ≤ W) (_h2 : W ≤ 64) (ha : a < 2 ^ W) (hb : b < 2 ^ W) (w : World) :
    Calls Try.prog 30 #[.int .i64 W, .int .u64 a, .int .u64 b] w (Raw W 17 a b w) := by
  have Ha := Lib.hid ha; have Hb := Lib.hid hb; clear ha hb
  go_enter Try.func30, Try.ntmps30
  go_wp2_with (go_at_call 35; refine (bit_any _ _).mono ?_; rintro e w' ⟨rfl, rfl⟩)
  go_ret
  refine ⟨b01 (decide (a < b)), ?_, by unfold b01; split <;> decide, b01_mod _h1 _, rfl⟩
  rfl
theorem le_any (W a b : Nat) (_h1 : 1 ≤ W) (_h2 : W ≤ 64) (ha : a < 2 ^ W) (hb : b < 2 ^ W) (w : World) :
    Calls Try.prog 31 #[.int .i64 W, .int .u64 a, .int .u64 b] w (Raw W 18 a b w) := by
  have Ha := Lib.hid ha; have Hb := Lib.hid hb; clear ha hb
  go_enter Try.func31, Try.ntmps31
  go_wp2_with (go_at_call 35; refine (bit_any _ _).mono ?_; rintro e w' ⟨rfl, rfl⟩)
  go_ret
  refine ⟨b01 (decide (a ≤ b)), ?_, by unfold b01; split <;> decide, b01_mod _h1 _, rfl⟩
  rfl

theorem high_bool (W a : Nat) (h1 : 1 ≤ W) (h2 : W ≤ 64) (ha : a < 2 ^ W) : (bits BinOp.and IntKind.u64 ((a : Int) / 2 ^ (W - 1)) 1 == 1) = decide (2 ^ (W - 1) ≤ a) := by
  have hp := pow_le64 h2
  have hh := pow_half h1
  have hq := pow_pos2 (W - 1)
  have e : ((a : Int) / 2 ^ (W - 1)) = ((a / 2 ^ (W - 1) : Nat) : Int) := by simp
  have e1 : (1 : Int) = ((1 : Nat) : Int) := rfl
  have hl : a / 2 ^ (W - 1) < 2 := by rw [Nat.div_lt_iff_lt_mul hq]; omega
  rw [e, e1, u64_and_nat _ _ (by omega) (by decide), Nat.and_one_is_mod, Nat.mod_eq_of_lt hl, Bool.eq_iff_iff]
  simp only [beq_iff_eq, decide_eq_true_eq]
  constructor
  · intro h
    have h' : a / 2 ^ (W - 1) = 1 := by omega
    rcases Nat.lt_or_ge a (2 ^ (W - 1)) with hc | hc
    · rw [Nat.div_eq_of_lt hc] at h'; omega
    · exact hc
  · intro h
    have : 1 ≤ a / 2 ^ (W - 1) := (Nat.le_div_iff_mul_le hq).2 (by omega)
    omega
theorem high_any (W a : Nat) (h1 : 1 ≤ W) (h2 : W ≤ 64) (ha : a < 2 ^ W) (w : World) :
    Calls Try.prog 36 #[.int .i64 W, .int .u64 a] w fun e w' => e = .returned (.bool (decide (2 ^ (W - 1) ≤ a))) ∧ w = w' := by
  have hb := high_bool W a h1 h2 ha
  have Hb := Lib.hid hb; have Ha := Lib.hid ha; clear ha hb
  go_enter Try.func36, Try.ntmps36
  go_wp2
  go_ret
  refine ⟨?_, rfl⟩
  rw [← Hb.out]
  simp
theorem xor_ones : ∀ W, W < 65 → 18446744073709551615 ^^^ (2 ^ W - 1) = 18446744073709551616 - 2 ^ W := by decide +kernel
theorem signed_or (W a : Nat) (h1 : 1 ≤ W) (h2 : W ≤ 64) (ha : a < 2 ^ W) :
    bits BinOp.or IntKind.u64 (a : Int) (bits BinOp.xor IntKind.u64 IntKind.u64.max ((2 ^ W - 1 : Nat) : Int)) = ((a + (18446744073709551616 - 2 ^ W) : Nat) : Int) := by
  have hp := pow_le64 h2
  have hq := pow_pos2 W
  have e : IntKind.u64.max = ((18446744073709551615 : Nat) : Int) := by decide
  obtain ⟨q, hq'⟩ := pow_dvd64 h2
  rw [e, u64_xor_nat _ _ (by decide) (by omega), xor_ones W (by omega), u64_or_nat _ _ (by omega) (by omega), Nat.or_comm,
    nat_join W _ _ (by rw [hq']; exact Nat.mod_eq_zero_of_dvd (Nat.dvd_sub (Nat.dvd_mul_right _ _) (Nat.dvd_refl _))) ha, Nat.add_comm]
theorem signed_any (W a : Nat) (h1 : 1 ≤ W) (h2 : W ≤ 64) (ha : a < 2 ^ W) (w : World) :
    Calls Try.prog 34 #[.int .i64 W, .int .u64 a] w fun e w' => e = .returned (.int .i64 (sgn W a)) ∧ w = w' := by
  have hs := signed_or W a h1 h2 ha
  have Hs := Lib.hid hs; clear hs
  have hp := pow_le64 h2
  have hh := pow_half h1
  have Hp := Lib.hid hp; have Hh := Lib.hid hh; clear hp hh
  have Ha := Lib.hid ha
  by_cases hc : 2 ^ (W - 1) ≤ a
  · have hd : decide (2 ^ (W - 1) ≤ a) = true := decide_eq_true hc
    have Hc := Lib.hid hc; clear hc
    go_enter Try.func34, Try.ntmps34
    go_wp2_with (first | (go_at_call 36; refine (high_any _ _ h1 h2 Ha.out _).mono ?_; rintro e w' ⟨rfl, rfl⟩) | (go_at_call 14; refine (mask_any _ h1 h2 _).mono ?_; rintro e w' ⟨rfl, rfl⟩))
    go_ret
    refine ⟨?_, rfl⟩
    have h3 := Hs.out
    have h4 := Hc.out
    have h5 := Hp.out
    have h6 := Hh.out
    have h7 := Ha.out
    show Ending.returned (.int .i64 (wrap64 (bits BinOp.or IntKind.u64 (a : Int) (bits BinOp.xor IntKind.u64 IntKind.u64.max ((2 ^ W - 1 : Nat) : Int))))) = _
    rw [h3]
    unfold wrap64
    rw [sgn_wrap W a h1 h2 h7 h4]
  · have hd : decide (2 ^ (W - 1) ≤ a) = false := decide_eq_false hc
    have Hc := Lib.hid hc; clear hc
    clear ha
    go_enter Try.func34, Try.ntmps34
    go_wp2_with (first | (go_at_call 36; refine (high_any _ _ h1 h2 Ha.out _).mono ?_; rintro e w' ⟨rfl, rfl⟩))
    go_ret
    refine ⟨?_, rfl⟩
    have h3 := Hs.out
    have h4 := Hc.out
    have h5 := Hp.out
    have h6 := Hh.out
    have h7 := Ha.out
    show Ending.returned (.int .i64 (wrap64 (a : Int))) = _
    unfold wrap64
    rw [sgn_wrap' W a h1 h2 h4]

theorem slt_any (W a b : Nat) (h1 : 1 ≤ W) (h2 : W ≤ 64) (ha : a < 2 ^ W) (hb : b < 2 ^ W) (w : World) :
    Calls Try.prog 32 #[.int .i64 W, .int .u64 a, .int .u64 b] w (Raw W 19 a b w) := by
  have Ha := Lib.hid ha; have Hb := Lib.hid hb; clear ha hb
  go_enter Try.func32, Try.ntmps32
  go_wp2_with fail
  refine (signed_any _ _ h1 h2 Ha.out _).mono ?_; rintro e w' ⟨rfl, rfl⟩
  go_wp2_with fail
  refine (signed_any _ _ h1 h2 Hb.out _).mono ?_; rintro e w' ⟨rfl, rfl⟩
  go_wp2_with (go_at_call 35; refine (bit_any _ _).mono ?_; rintro e w' ⟨rfl, rfl⟩)
  go_ret
  refine ⟨b01 (decide (sgn W a < sgn W b)), ?_, by unfold b01; split <;> decide, b01_mod h1 _, rfl⟩
  rfl
theorem sle_any (W a b : Nat) (h1 : 1 ≤ W) (h2 : W ≤ 64) (ha : a < 2 ^ W) (hb : b < 2 ^ W) (w : World) :
    Calls Try.prog 33 #[.int .i64 W, .int .u64 a, .int .u64 b] w (Raw W 20 a b w) := by
  have Ha := Lib.hid ha; have Hb := Lib.hid hb; clear ha hb
  go_enter Try.func33, Try.ntmps33
  go_wp2_with fail
  refine (signed_any _ _ h1 h2 Ha.out _).mono ?_; rintro e w' ⟨rfl, rfl⟩
  go_wp2_with fail
  refine (signed_any _ _ h1 h2 Hb.out _).mono ?_; rintro e w' ⟨rfl, rfl⟩
  go_wp2_with (go_at_call 35; refine (bit_any _ _).mono ?_; rintro e w' ⟨rfl, rfl⟩)
  go_ret
  refine ⟨b01 (decide (sgn W a ≤ sgn W b)), ?_, by unfold b01; split <;> decide, b01_mod h1 _, rfl⟩
  rfl
theorem sar_any (W a b : Nat) (h1 : 1 ≤ W) (h2 : W ≤ 64) (ha : a < 2 ^ W) (hb : b < 2 ^ W) (w : World) :
    Calls Try.prog 27 #[.int .i64 W, .int .u64 a, .int .u64 b] w (Raw W 14 a b w) := by
  have Ha := Lib.hid ha; have Hb := Lib.hid hb; clear ha hb
  go_enter Try.func27, Try.ntmps27
  go_wp2_with (first | (go_at_call 34; refine (signed_any _ _ h1 h2 Ha.out _).mono ?_; rintro e w' ⟨rfl, rfl⟩))
  · go_ret
    obtain ⟨r, h3, h4, h5⟩ := sar_raw W a 63 h1 h2 Ha.out
    refine ⟨r, ?_, h4, ?_, rfl⟩
    · rw [← h3, ← IntKind.wrap_u64]; rfl
    · rw [h5]
      have h6 : 63 < b := by omega
      have h7 := Ha.out
      have h8 := pow_le64 h2
      have h9 := pow_half h1
      simp only [wop]
      by_cases hc : a < 2 ^ (W - 1)
      · rw [if_pos hc, if_pos hc, Nat.div_eq_of_lt (by omega), Nat.div_eq_of_lt]
        rw [Nat.min_eq_right (by omega)]; omega
      · rw [if_neg hc, if_neg hc, Nat.div_eq_of_lt (by omega), Nat.div_eq_of_lt]
        rw [Nat.min_eq_right (by omega)]; omega
  · go_ret
    obtain ⟨r, h3, h4, h5⟩ := sar_raw W a b h1 h2 Ha.out
    refine ⟨r, ?_, h4, ?_, rfl⟩
    · rw [← h3, ← IntKind.wrap_u64]; rfl
    · rw [h5]
      simp only [wop]
      rw [Nat.min_eq_left (by omega)]
end Go.Proofs.Ytpboinmmhlgdaaa
