/- The reference's Apply. -/
import Derived.Test.YtcpgiadhmmmafaaRefW
namespace Go.Proofs.Ytcpgiadhmmmafaa
open Go.RowKit
set_option maxHeartbeats 400000

theorem not_raw (X : Nat) (h : X < 18446744073709551616) : bits .xor .u64 IntKind.u64.max (X : Int) = ((18446744073709551615 - X : Nat) : Int) := by
  have e : IntKind.u64.max = ((18446744073709551615 : Nat) : Int) := by decide
  have hq : 18446744073709551615 ^^^ X = 18446744073709551615 - X := by
    apply Nat.eq_of_testBit_eq
    intro i
    rw [show 18446744073709551615 - X = 2 ^ 64 - (X + 1) from by omega, Nat.testBit_two_pow_sub_succ (by omega), Nat.testBit_xor, show (18446744073709551615 : Nat) = 2 ^ 64 - 1 from rfl, Nat.testBit_two_pow_sub_one]
    by_cases hi : i < 64
    · simp [hi]
    · have : X < 2 ^ i := Nat.lt_of_lt_of_le (by omega : X < 2 ^ 64) (Nat.pow_le_pow_right (by decide) (by omega))
      simp [hi, Nat.testBit_lt_two_pow this]
  rw [e, u64_xor_nat _ _ (by decide) (by omega), hq]
/-- 2^64 is a multiple of 2^W. -/
theorem sub64 (W m : Nat) (h2 : W ≤ 64) (h : m ≤ 2 ^ W) (k : Nat) : (k + 18446744073709551616 - m) % 2 ^ W = (k + 2 ^ W - m) % 2 ^ W := by
  have hp := pow_pos2 W
  obtain ⟨q, hq⟩ := pow_dvd64 h2
  have hq1 : 1 ≤ q := by
    rcases Nat.eq_zero_or_pos q with h0 | h0
    · subst h0; omega
    · exact h0
  have : 2 ^ W * (q - 1) + 2 ^ W = 18446744073709551616 := by rw [hq, ← Nat.mul_succ]; congr 1; omega
  rw [show k + 18446744073709551616 - m = (k + 2 ^ W - m) + 2 ^ W * (q - 1) from by omega, Nat.add_mul_mod_self_left]
def Raw3 (W o a b c : Nat) (w : World) (e : Ending) (w' : World) : Prop := ∃ r : Nat, e = .returned (.int .u64 r) ∧ r < 18446744073709551616 ∧ r % 2 ^ W = wop W o a b c ∧ w = w'
theorem raw_add (W a b c : Nat) (h2 : W ≤ 64) (w : World) : Raw3 W 4 a b c w (.returned (.int .u64 (IntKind.u64.wrap ((a : Int) + b)))) w :=
  ⟨(a + b) % 18446744073709551616, by rw [← wrap_u64_nat]; rfl, Nat.mod_lt _ (by decide), mod64_mod h2 _, rfl⟩
theorem raw_mul (W a b c : Nat) (h2 : W ≤ 64) (w : World) : Raw3 W 6 a b c w (.returned (.int .u64 (IntKind.u64.wrap ((a : Int) * b)))) w :=
  ⟨(a * b) % 18446744073709551616, by rw [← wrap_u64_nat, Int.natCast_mul], Nat.mod_lt _ (by decide), mod64_mod h2 _, rfl⟩
theorem raw_sub (W a b c : Nat) (h2 : W ≤ 64) (ha : a < 2 ^ W) (hb : b < 2 ^ W) (w : World) : Raw3 W 5 a b c w (.returned (.int .u64 (IntKind.u64.wrap ((a : Int) - b)))) w := by
  have hp := pow_le64 h2
  refine ⟨(a + 18446744073709551616 - b) % 18446744073709551616, ?_, Nat.mod_lt _ (by decide), ?_, rfl⟩
  · rw [IntKind.wrap_u64]; congr 2; omega
  · rw [mod64_mod h2, sub64 W b h2 (by omega) a]; rfl
theorem raw_neg (W a b c : Nat) (h2 : W ≤ 64) (ha : a < 2 ^ W) (w : World) : Raw3 W 3 a b c w (.returned (.int .u64 (IntKind.u64.wrap (-(a : Int))))) w := by
  have hp := pow_le64 h2
  refine ⟨(0 + 18446744073709551616 - a) % 18446744073709551616, ?_, Nat.mod_lt _ (by decide), ?_, rfl⟩
  · rw [IntKind.wrap_u64]; congr 2; omega
  · rw [mod64_mod h2, sub64 W a h2 (by omega) 0, Nat.zero_add]; rfl
theorem raw_not (W a b c : Nat) (h2 : W ≤ 64) (ha : a < 2 ^ W) (w : World) : Raw3 W 2 a b c w (.returned (.int .u64 (bits .xor .u64 IntKind.u64.max (a : Int)))) w := by
  have hp := pow_le64 h2
  exact ⟨18446744073709551615 - a, by rw [not_raw a (by omega)], by omega, mod_minus W a h2 ha, rfl⟩
theorem raw_and (W a b c : Nat) (h2 : W ≤ 64) (ha : a < 2 ^ W) (hb : b < 2 ^ W) (w : World) : Raw3 W 9 a b c w (.returned (.int .u64 (bits .and .u64 (a : Int) b))) w := by
  have hp := pow_le64 h2
  refine ⟨a &&& b, by rw [u64_and_nat _ _ (by omega) (by omega)], Nat.lt_of_le_of_lt Nat.and_le_left (by omega), Nat.mod_eq_of_lt (Nat.lt_of_le_of_lt Nat.and_le_left ha), rfl⟩
theorem raw_or (W a b c : Nat) (h2 : W ≤ 64) (ha : a < 2 ^ W) (hb : b < 2 ^ W) (w : World) : Raw3 W 10 a b c w (.returned (.int .u64 (bits .or .u64 (a : Int) b))) w := by
  have hp := pow_le64 h2
  refine ⟨a ||| b, by rw [u64_or_nat _ _ (by omega) (by omega)], Nat.lt_of_lt_of_le (Nat.or_lt_two_pow ha hb) hp, Nat.mod_eq_of_lt (Nat.or_lt_two_pow ha hb), rfl⟩
theorem raw_xor (W a b c : Nat) (h2 : W ≤ 64) (ha : a < 2 ^ W) (hb : b < 2 ^ W) (w : World) : Raw3 W 11 a b c w (.returned (.int .u64 (bits .xor .u64 (a : Int) b))) w := by
  have hp := pow_le64 h2
  refine ⟨a ^^^ b, by rw [u64_xor_nat _ _ (by omega) (by omega)], Nat.lt_of_lt_of_le (Nat.xor_lt_two_pow ha hb) hp, Nat.mod_eq_of_lt (Nat.xor_lt_two_pow ha hb), rfl⟩

theorem result_any (o W a b c : Nat) (ho1 : 2 ≤ o) (ho2 : o ≤ 21) (h1 : 1 ≤ W) (h2 : W ≤ 64) (ha : a < 2 ^ W) (hb : b < 2 ^ W) (hc : c < 2 ^ W) (w : World) :
    Calls Try.prog 92 #[.int .u8 o, .int .i64 W, .int .u64 a, .int .u64 b, .int .u64 c] w (Raw3 W o a b c w) := by
  have hp := pow_le64 h2
  have Ha := Lib.hid ha; have Hb := Lib.hid hb; have Hp := Lib.hid hp; have Hc := Lib.hid hc; clear ha hb hp hc
  by_cases hr : o = 7 ∨ o = 8 ∨ 15 ≤ o ∧ o ≤ 20
  · have H := fun w => rest_any o W a b hr h1 h2 Ha.out Hb.out w
    have e7 : wop W o a b 0 = wop W o a b c := by
      rcases hr with rfl | rfl | ⟨h3, h4⟩
      · rfl
      · rfl
      · have : o = 15 ∨ o = 16 ∨ o = 17 ∨ o = 18 ∨ o = 19 ∨ o = 20 := by omega
        rcases this with rfl | rfl | rfl | rfl | rfl | rfl <;> rfl
    have E7 := Lib.hid e7; have HH := Lib.hid H; clear e7 H
    have d2 : ((o : Int) == 2) = false := by rw [beq_eq_false_iff_ne]; omega
    have d3 : ((o : Int) == 3) = false := by rw [beq_eq_false_iff_ne]; omega
    have d4 : ((o : Int) == 4) = false := by rw [beq_eq_false_iff_ne]; omega
    have d5 : ((o : Int) == 5) = false := by rw [beq_eq_false_iff_ne]; omega
    have d6 : ((o : Int) == 6) = false := by rw [beq_eq_false_iff_ne]; omega
    have d9 : ((o : Int) == 9) = false := by rw [beq_eq_false_iff_ne]; omega
    have d10 : ((o : Int) == 10) = false := by rw [beq_eq_false_iff_ne]; omega
    have d11 : ((o : Int) == 11) = false := by rw [beq_eq_false_iff_ne]; omega
    have d12 : ((o : Int) == 12) = false := by rw [beq_eq_false_iff_ne]; omega
    have d13 : ((o : Int) == 13) = false := by rw [beq_eq_false_iff_ne]; omega
    have d14 : ((o : Int) == 14) = false := by rw [beq_eq_false_iff_ne]; omega
    have d21 : ((o : Int) == 21) = false := by rw [beq_eq_false_iff_ne]; omega
    clear hr
    go_enter Try.func92, Try.ntmps92
    go_wp2_with (go_at_call 117; refine (HH.out _).mono ?_; rintro e w' ⟨r, rfl, hr1, hr2, rfl⟩)
    go_ret
    exact ⟨r, rfl, hr1, by rw [hr2, E7.out], rfl⟩
  by_cases hs : o = 12 ∨ o = 13 ∨ o = 14
  · have H := fun w => shifted_any o W a b hs h1 h2 Ha.out Hb.out w
    have e7 : wop W o a b 0 = wop W o a b c := by
      rcases hs with rfl | rfl | rfl <;> rfl
    have E7 := Lib.hid e7; have HH := Lib.hid H; clear e7 H
    rcases hs with rfl | rfl | rfl
    · show Calls Try.prog _ #[.int .u8 12, .int .i64 W, .int .u64 a, .int .u64 b, .int .u64 c] w _
      go_enter Try.func92, Try.ntmps92
      go_wp2_with (go_at_call 116; refine (HH.out _).mono ?_; rintro e w' ⟨r, rfl, hr1, hr2, rfl⟩)
      go_ret
      exact ⟨r, rfl, hr1, by rw [hr2, E7.out], rfl⟩
    · show Calls Try.prog _ #[.int .u8 13, .int .i64 W, .int .u64 a, .int .u64 b, .int .u64 c] w _
      go_enter Try.func92, Try.ntmps92
      go_wp2_with (go_at_call 116; refine (HH.out _).mono ?_; rintro e w' ⟨r, rfl, hr1, hr2, rfl⟩)
      go_ret
      exact ⟨r, rfl, hr1, by rw [hr2, E7.out], rfl⟩
    · show Calls Try.prog _ #[.int .u8 14, .int .i64 W, .int .u64 a, .int .u64 b, .int .u64 c] w _
      go_enter Try.func92, Try.ntmps92
      go_wp2_with (go_at_call 116; refine (HH.out _).mono ?_; rintro e w' ⟨r, rfl, hr1, hr2, rfl⟩)
      go_ret
      exact ⟨r, rfl, hr1, by rw [hr2, E7.out], rfl⟩
  have : o = 2 ∨ o = 3 ∨ o = 4 ∨ o = 5 ∨ o = 6 ∨ o = 9 ∨ o = 10 ∨ o = 11 ∨ o = 21 := by omega
  clear hr hs
  rcases this with rfl | rfl | rfl | rfl | rfl | rfl | rfl | rfl | rfl
  · show Calls Try.prog _ #[.int .u8 2, .int .i64 W, .int .u64 a, .int .u64 b, .int .u64 c] w _
    go_enter Try.func92, Try.ntmps92
    go_wp2
    all_goals
      go_ret
      exact raw_not W a b c h2 Ha.out w
  · show Calls Try.prog _ #[.int .u8 3, .int .i64 W, .int .u64 a, .int .u64 b, .int .u64 c] w _
    go_enter Try.func92, Try.ntmps92
    go_wp2
    all_goals
      go_ret
      exact raw_neg W a b c h2 Ha.out w
  · show Calls Try.prog _ #[.int .u8 4, .int .i64 W, .int .u64 a, .int .u64 b, .int .u64 c] w _
    go_enter Try.func92, Try.ntmps92
    go_wp2
    all_goals
      go_ret
      exact raw_add W a b c h2 w
  · show Calls Try.prog _ #[.int .u8 5, .int .i64 W, .int .u64 a, .int .u64 b, .int .u64 c] w _
    go_enter Try.func92, Try.ntmps92
    go_wp2
    all_goals
      go_ret
      exact raw_sub W a b c h2 Ha.out Hb.out w
  · show Calls Try.prog _ #[.int .u8 6, .int .i64 W, .int .u64 a, .int .u64 b, .int .u64 c] w _
    go_enter Try.func92, Try.ntmps92
    go_wp2
    all_goals
      go_ret
      exact raw_mul W a b c h2 w
  · show Calls Try.prog _ #[.int .u8 9, .int .i64 W, .int .u64 a, .int .u64 b, .int .u64 c] w _
    go_enter Try.func92, Try.ntmps92
    go_wp2
    all_goals
      go_ret
      exact raw_and W a b c h2 Ha.out Hb.out w
  · show Calls Try.prog _ #[.int .u8 10, .int .i64 W, .int .u64 a, .int .u64 b, .int .u64 c] w _
    go_enter Try.func92, Try.ntmps92
    go_wp2
    all_goals
      go_ret
      exact raw_or W a b c h2 Ha.out Hb.out w
  · show Calls Try.prog _ #[.int .u8 11, .int .i64 W, .int .u64 a, .int .u64 b, .int .u64 c] w _
    go_enter Try.func92, Try.ntmps92
    go_wp2
    all_goals
      go_ret
      exact raw_xor W a b c h2 Ha.out Hb.out w
  · show Calls Try.prog _ #[.int .u8 21, .int .i64 W, .int .u64 a, .int .u64 b, .int .u64 c] w _
    by_cases h0 : a = 0
    · subst h0
      go_enter Try.func92, Try.ntmps92
      go_wp2
      go_ret
      exact ⟨c, rfl, by have := Hc.out; have := Hp.out; omega, Nat.mod_eq_of_lt Hc.out, rfl⟩
    · have hd : ((a : Int) != 0) = true := by rw [bne_iff_ne]; omega
      have hr : b % 2 ^ W = wop W 21 a b c := by rw [Nat.mod_eq_of_lt Hb.out]; show b = if a = 0 then c else b; rw [if_neg h0]
      have Hr := Lib.hid hr; clear hr h0
      go_enter Try.func92, Try.ntmps92
      go_wp2
      go_ret
      exact ⟨b, rfl, by have := Hb.out; have := Hp.out; omega, Hr.out, rfl⟩
set_option maxRecDepth 100000 in
theorem rapply1 (o W x : Nat) (ho : o = 2 ∨ o = 3) (h1 : 1 ≤ W) (h2 : W ≤ 64) (hx : x ≤ 18446744073709551615) (b off cap : Nat) (w : World) (c0 : w.cell? ⟨b, off, none⟩ = some (.int .u64 x)) :
    Calls Try.prog 69 #[.int .u8 o, .int .i64 W, .slice (some ⟨b, off, none⟩) 1 cap] w fun e w' => e = .returned (.tuple #[.int .u64 (wop W o (x % 2 ^ W) 0 0), .int .i64 0]) ∧ w = w' := by
  have hc : chk (W : Int) = 0 := chk_in (by omega) (by omega)
  have hn : aryN o = 1 := by unfold aryN; rcases ho with rfl | rfl <;> rfl
  have h21 : o ≤ 21 ∧ 2 ≤ o := by omega
  obtain ⟨h21, h20⟩ := h21
  have hp0 := pow_pos2 W
  have Tx := Lib.hid (show x ≤ 18446744073709551615 ∧ x % 2 ^ W = x % 2 ^ W from ⟨hx, rfl⟩)
  have Lx := Lib.hid (Nat.mod_lt x hp0)
  obtain ⟨X, ex⟩ : ∃ q, x % 2 ^ W = q := ⟨_, rfl⟩
  rw [ex]
  replace Tx := Lib.hid (show x ≤ 18446744073709551615 ∧ x % 2 ^ W = X from ⟨hx, ex⟩)
  replace Lx := Lib.hid (show X < 2 ^ W from ex ▸ Lx.out)
  clear ex
  have HR := Lib.hid (fun w => result_any o W X 0 0 h20 h21 h1 h2 Lx.out hp0 hp0 w)
  obtain ⟨R, eR⟩ : ∃ R, wop W o X 0 0 = R := ⟨_, rfl⟩
  rw [eR]
  have HL := Lib.hid (show R < 2 ^ W from eR ▸ wop_lt W o X 0 0 h1 Lx.out hp0 hp0)
  have ER := Lib.hid eR
  clear eR ho hp0
  go_enter Try.func69, Try.ntmps69
  go_wp2_with (first | (go_at_call 90; refine (rcheck_any _ _).mono ?_; rintro e w' ⟨rfl, rfl⟩) | (go_at_call 89; refine (rarity_any _ (by omega) (by omega) _).mono ?_; rintro e w' ⟨rfl, rfl⟩) | (go_at_call 91; ((with_reducible refine (rtrim_is W x X h1 h2 Tx.out _).mono ?_); rintro e w' ⟨rfl, rfl⟩)) | (go_at_call 92; refine (HR.out _).mono ?_; rintro e w' ⟨r, rfl, hr1, hr2, rfl⟩; have HT := Lib.hid (And.intro (Nat.le_of_lt_succ hr1) (hr2.trans ER.out)); clear hr1 hr2) | (go_at_call 91; refine (rtrim_is W _ R h1 h2 HT.out _).mono ?_; rintro e w' ⟨rfl, rfl⟩))
  go_ret2
  exact ⟨rfl, rfl⟩
set_option maxRecDepth 100000 in
theorem rapply2 (o W x y : Nat) (ho1 : 4 ≤ o) (ho2 : o ≤ 20) (h1 : 1 ≤ W) (h2 : W ≤ 64) (hx : x ≤ 18446744073709551615) (hy : y ≤ 18446744073709551615) (b off cap : Nat) (w : World) (c0 : w.cell? ⟨b, off, none⟩ = some (.int .u64 x)) (c1 : w.cell? ⟨b, off + 1, none⟩ = some (.int .u64 y)) :
    Calls Try.prog 69 #[.int .u8 o, .int .i64 W, .slice (some ⟨b, off, none⟩) 2 cap] w fun e w' => e = .returned (.tuple #[.int .u64 (wop W o (x % 2 ^ W) (y % 2 ^ W) 0), .int .i64 0]) ∧ w = w' := by
  have hc : chk (W : Int) = 0 := chk_in (by omega) (by omega)
  have hn : aryN o = 2 := by unfold aryN; rw [if_neg (by omega), if_neg (by omega), if_neg (by omega)]
  have h21 : o ≤ 21 ∧ 2 ≤ o := by omega
  obtain ⟨h21, h20⟩ := h21
  have hp0 := pow_pos2 W
  have Tx := Lib.hid (show x ≤ 18446744073709551615 ∧ x % 2 ^ W = x % 2 ^ W from ⟨hx, rfl⟩)
  have Lx := Lib.hid (Nat.mod_lt x hp0)
  have Ty := Lib.hid (show y ≤ 18446744073709551615 ∧ y % 2 ^ W = y % 2 ^ W from ⟨hy, rfl⟩)
  have Ly := Lib.hid (Nat.mod_lt y hp0)
  obtain ⟨X, ex⟩ : ∃ q, x % 2 ^ W = q := ⟨_, rfl⟩
  rw [ex]
  replace Tx := Lib.hid (show x ≤ 18446744073709551615 ∧ x % 2 ^ W = X from ⟨hx, ex⟩)
  replace Lx := Lib.hid (show X < 2 ^ W from ex ▸ Lx.out)
  clear ex
  obtain ⟨Y, ey⟩ : ∃ q, y % 2 ^ W = q := ⟨_, rfl⟩
  rw [ey]
  replace Ty := Lib.hid (show y ≤ 18446744073709551615 ∧ y % 2 ^ W = Y from ⟨hy, ey⟩)
  replace Ly := Lib.hid (show Y < 2 ^ W from ey ▸ Ly.out)
  clear ey
  have HR := Lib.hid (fun w => result_any o W X Y 0 h20 h21 h1 h2 Lx.out Ly.out hp0 w)
  obtain ⟨R, eR⟩ : ∃ R, wop W o X Y 0 = R := ⟨_, rfl⟩
  rw [eR]
  have HL := Lib.hid (show R < 2 ^ W from eR ▸ wop_lt W o X Y 0 h1 Lx.out Ly.out hp0)
  have ER := Lib.hid eR
  clear eR ho1 ho2 hp0
  go_enter Try.func69, Try.ntmps69
  go_wp2_with (first | (go_at_call 90; refine (rcheck_any _ _).mono ?_; rintro e w' ⟨rfl, rfl⟩) | (go_at_call 89; refine (rarity_any _ (by omega) (by omega) _).mono ?_; rintro e w' ⟨rfl, rfl⟩) | (go_at_call 91; ((with_reducible refine (rtrim_is W x X h1 h2 Tx.out _).mono ?_); rintro e w' ⟨rfl, rfl⟩)) | (go_at_call 91; ((with_reducible refine (rtrim_is W y Y h1 h2 Ty.out _).mono ?_); rintro e w' ⟨rfl, rfl⟩)) | (go_at_call 92; refine (HR.out _).mono ?_; rintro e w' ⟨r, rfl, hr1, hr2, rfl⟩; have HT := Lib.hid (And.intro (Nat.le_of_lt_succ hr1) (hr2.trans ER.out)); clear hr1 hr2) | (go_at_call 91; refine (rtrim_is W _ R h1 h2 HT.out _).mono ?_; rintro e w' ⟨rfl, rfl⟩))
  go_ret2
  exact ⟨rfl, rfl⟩
set_option maxRecDepth 100000 in
theorem rapply3 (o W x y z : Nat) (ho : o = 21) (h1 : 1 ≤ W) (h2 : W ≤ 64) (hx : x ≤ 18446744073709551615) (hy : y ≤ 18446744073709551615) (hz : z ≤ 18446744073709551615) (b off cap : Nat) (w : World) (c0 : w.cell? ⟨b, off, none⟩ = some (.int .u64 x)) (c1 : w.cell? ⟨b, off + 1, none⟩ = some (.int .u64 y)) (c2 : w.cell? ⟨b, off + 2, none⟩ = some (.int .u64 z)) :
    Calls Try.prog 69 #[.int .u8 o, .int .i64 W, .slice (some ⟨b, off, none⟩) 3 cap] w fun e w' => e = .returned (.tuple #[.int .u64 (wop W o (x % 2 ^ W) (y % 2 ^ W) (z % 2 ^ W)), .int .i64 0]) ∧ w = w' := by
  have hc : chk (W : Int) = 0 := chk_in (by omega) (by omega)
  have hn : aryN o = 3 := by unfold aryN; subst ho; rfl
  have h21 : o ≤ 21 ∧ 2 ≤ o := by omega
  obtain ⟨h21, h20⟩ := h21
  have hp0 := pow_pos2 W
  have Tx := Lib.hid (show x ≤ 18446744073709551615 ∧ x % 2 ^ W = x % 2 ^ W from ⟨hx, rfl⟩)
  have Lx := Lib.hid (Nat.mod_lt x hp0)
  have Ty := Lib.hid (show y ≤ 18446744073709551615 ∧ y % 2 ^ W = y % 2 ^ W from ⟨hy, rfl⟩)
  have Ly := Lib.hid (Nat.mod_lt y hp0)
  have Tz := Lib.hid (show z ≤ 18446744073709551615 ∧ z % 2 ^ W = z % 2 ^ W from ⟨hz, rfl⟩)
  have Lz := Lib.hid (Nat.mod_lt z hp0)
  obtain ⟨X, ex⟩ : ∃ q, x % 2 ^ W = q := ⟨_, rfl⟩
  rw [ex]
  replace Tx := Lib.hid (show x ≤ 18446744073709551615 ∧ x % 2 ^ W = X from ⟨hx, ex⟩)
  replace Lx := Lib.hid (show X < 2 ^ W from ex ▸ Lx.out)
  clear ex
  obtain ⟨Y, ey⟩ : ∃ q, y % 2 ^ W = q := ⟨_, rfl⟩
  rw [ey]
  replace Ty := Lib.hid (show y ≤ 18446744073709551615 ∧ y % 2 ^ W = Y from ⟨hy, ey⟩)
  replace Ly := Lib.hid (show Y < 2 ^ W from ey ▸ Ly.out)
  clear ey
  obtain ⟨Z, ez⟩ : ∃ q, z % 2 ^ W = q := ⟨_, rfl⟩
  rw [ez]
  replace Tz := Lib.hid (show z ≤ 18446744073709551615 ∧ z % 2 ^ W = Z from ⟨hz, ez⟩)
  replace Lz := Lib.hid (show Z < 2 ^ W from ez ▸ Lz.out)
  clear ez
  have HR := Lib.hid (fun w => result_any o W X Y Z h20 h21 h1 h2 Lx.out Ly.out Lz.out w)
  obtain ⟨R, eR⟩ : ∃ R, wop W o X Y Z = R := ⟨_, rfl⟩
  rw [eR]
  have HL := Lib.hid (show R < 2 ^ W from eR ▸ wop_lt W o X Y Z h1 Lx.out Ly.out Lz.out)
  have ER := Lib.hid eR
  clear eR ho hp0
  go_enter Try.func69, Try.ntmps69
  go_wp2_with (first | (go_at_call 90; refine (rcheck_any _ _).mono ?_; rintro e w' ⟨rfl, rfl⟩) | (go_at_call 89; refine (rarity_any _ (by omega) (by omega) _).mono ?_; rintro e w' ⟨rfl, rfl⟩) | (go_at_call 91; ((with_reducible refine (rtrim_is W x X h1 h2 Tx.out _).mono ?_); rintro e w' ⟨rfl, rfl⟩)) | (go_at_call 91; ((with_reducible refine (rtrim_is W y Y h1 h2 Ty.out _).mono ?_); rintro e w' ⟨rfl, rfl⟩)) | (go_at_call 91; ((with_reducible refine (rtrim_is W z Z h1 h2 Tz.out _).mono ?_); rintro e w' ⟨rfl, rfl⟩)) | (go_at_call 92; refine (HR.out _).mono ?_; rintro e w' ⟨r, rfl, hr1, hr2, rfl⟩; have HT := Lib.hid (And.intro (Nat.le_of_lt_succ hr1) (hr2.trans ER.out)); clear hr1 hr2) | (go_at_call 91; refine (rtrim_is W _ R h1 h2 HT.out _).mono ?_; rintro e w' ⟨rfl, rfl⟩))
  go_ret2
  exact ⟨rfl, rfl⟩
theorem rapplyE (o W : Int) (h0 : 0 ≤ o) (h1 : o ≤ 255) (a : Option Addr) (n cap : Nat) (_hn : n ≤ 9223372036854775807) (w : World) (he : wE o W n ≠ 0) :
    Calls Try.prog 69 #[.int .u8 o, .int .i64 W, .slice a n cap] w fun e w' => e = .returned (.tuple #[.int .u64 0, .int .i64 (wE o W n)]) ∧ w = w' := by
  by_cases hW : 1 ≤ W ∧ W ≤ 64
  · have hc := chk_in hW.1 hW.2
    by_cases ho : 2 ≤ o ∧ o ≤ 21
    · have ha := aryN_le o.toNat
      have hw : wE o W n = 2 ∧ aryN o.toNat ≠ n := by
        unfold wE at he ⊢
        rw [if_neg (by omega), if_neg (by omega)] at he ⊢
        by_cases hh : aryN o.toNat = n
        · rw [if_pos hh] at he; exact absurd rfl he
        · rw [if_neg hh]; exact ⟨rfl, hh⟩
      rw [hw.1]
      have hne : ((n : Int) != (aryN o.toNat : Int)) = true := by rw [bne_iff_ne]; have := hw.2; omega
      clear hw he
      go_enter Try.func69, Try.ntmps69
      go_wp2_with (first | (go_at_call 90; refine (rcheck_any _ _).mono ?_; rintro e w' ⟨rfl, rfl⟩) | (go_at_call 89; refine (rarity_any _ (by omega) (by omega) _).mono ?_; rintro e w' ⟨rfl, rfl⟩))
      go_ret2
      exact ⟨rfl, rfl⟩
    · have hw : wE o W n = 3 := by unfold wE; rw [if_neg (by omega), if_pos (by omega)]
      rw [hw]
      clear hw he
      by_cases h2 : o < 2
      · have h3 : ¬ 21 < o := by omega
        go_enter Try.func69, Try.ntmps69
        go_wp2_with (first | (go_at_call 90; refine (rcheck_any _ _).mono ?_; rintro e w' ⟨rfl, rfl⟩) | (go_at_call 89; refine (rarity_any _ (by omega) (by omega) _).mono ?_; rintro e w' ⟨rfl, rfl⟩))
        go_ret2
        exact ⟨rfl, rfl⟩
      · have h3 : 21 < o := by omega
        go_enter Try.func69, Try.ntmps69
        go_wp2_with (first | (go_at_call 90; refine (rcheck_any _ _).mono ?_; rintro e w' ⟨rfl, rfl⟩) | (go_at_call 89; refine (rarity_any _ (by omega) (by omega) _).mono ?_; rintro e w' ⟨rfl, rfl⟩))
        go_ret2
        exact ⟨rfl, rfl⟩
  · have hc := chk_out hW
    have hw : wE o W n = 3 := by unfold wE; rw [if_pos (by omega)]
    rw [hw]
    clear hw he
    go_enter Try.func69, Try.ntmps69
    go_wp2_with (first | (go_at_call 90; refine (rcheck_any _ _).mono ?_; rintro e w' ⟨rfl, rfl⟩))
    go_ret2
    exact ⟨by simp , rfl⟩
theorem rapply_any (o W : Int) (h0 : 0 ≤ o) (h1 : o ≤ 255) (v : Value) (xs : List Int) (w : World) (hs : SliceOf w .u64 v xs) (hx : U64s xs) (hn : xs.length ≤ 9223372036854775807) :
    Calls Try.prog 69 #[.int .u8 o, .int .i64 W, v] w fun e w' => e = .returned (.tuple #[.int .u64 (wI o W xs), .int .i64 (wE o W xs.length)]) ∧ w = w' := by
  by_cases he : wE o W xs.length = 0
  · have hW : 1 ≤ W ∧ W ≤ 64 := by
      unfold wE at he; by_cases h : W < 1 ∨ 64 < W
      · rw [if_pos h] at he; omega
      · omega
    have ho : 2 ≤ o ∧ o ≤ 21 := by
      unfold wE at he; rw [if_neg (by omega)] at he; by_cases h : o < 2 ∨ 21 < o
      · rw [if_pos h] at he; omega
      · omega
    have hl : aryN o.toNat = xs.length := by
      unfold wE at he; rw [if_neg (by omega), if_neg (by omega)] at he
      by_cases h : aryN o.toNat = xs.length
      · exact h
      · rw [if_neg h] at he; omega
    have hI : wI o W xs = ((wop W.toNat o.toNat (wA W xs 0) (wA W xs 1) (wA W xs 2) : Nat) : Int) := by unfold wI; rw [if_pos he]
    obtain ⟨ns, rfl, hns⟩ := hx.nat
    obtain ⟨O, rfl⟩ := Int.eq_ofNat_of_zero_le h0
    obtain ⟨m, rfl⟩ := Int.eq_ofNat_of_zero_le (show 0 ≤ W by omega)
    rw [hI, he]
    simp only [wA, Int.toNat_natCast] at hl ⊢
    clear hI he
    have hpos : 1 ≤ aryN O := by unfold aryN; rw [if_neg (by omega)]; split; · omega
                                 · split <;> omega
    obtain ⟨b, off, cap, rfl, hc⟩ := hs.addr (by omega)
    · by_cases h3 : O ≤ 3
      · have hl1 : aryN O = 1 := by unfold aryN; rw [if_neg (by omega), if_pos h3]
        obtain ⟨x, rfl⟩ : ∃ x, ns = [x] := List.length_eq_one_iff.1 (by simp at hl; omega)
        have c0 := hc 0 (by simp)
        have := rapply1 O m x (by omega) (by omega) (by omega) (hns x (by simp)) b off cap w (by simpa using c0)
        simpa using this
      · by_cases h21 : O = 21
        · subst h21
          obtain ⟨x, y, z, rfl⟩ : ∃ x y z, ns = [x, y, z] := by
            match ns, hl with
            | [x, y, z], _ => exact ⟨x, y, z, rfl⟩
            | [], h => simp [aryN] at h
            | [_], h => simp [aryN] at h
            | [_, _], h => simp [aryN] at h
            | _ :: _ :: _ :: _ :: _, h => simp [aryN] at h
          have c0 := hc 0 (by simp)
          have c1 := hc 1 (by simp)
          have c2 := hc 2 (by simp)
          have := rapply3 21 m x y z rfl (by omega) (by omega) (hns x (by simp)) (hns y (by simp)) (hns z (by simp)) b off cap w (by simpa using c0) (by simpa using c1) (by simpa using c2)
          simpa using this
        · have hl2 : aryN O = 2 := by unfold aryN; rw [if_neg (by omega), if_neg h3, if_neg h21]
          obtain ⟨x, y, rfl⟩ : ∃ x y, ns = [x, y] := by
            rw [hl2] at hl
            match ns, hl with
            | [x, y], _ => exact ⟨x, y, rfl⟩
            | [], h => simp at h
            | [_], h => simp at h
            | _ :: _ :: _ :: _, h => simp at h
          have c0 := hc 0 (by simp)
          have c1 := hc 1 (by simp)
          have := rapply2 O m x y (by omega) (by omega) (by omega) (by omega) (hns x (by simp)) (hns y (by simp)) b off cap w (by simpa using c0) (by simpa using c1)
          simpa using this
  · have hI : wI o W xs = 0 := by unfold wI; rw [if_neg he]
    rw [hI]
    obtain ⟨a, n, cap, rfl, rfl, -⟩ := hs
    exact rapplyE o W h0 h1 a _ cap hn w he
end Go.Proofs.Ytcpgiadhmmmafaa
