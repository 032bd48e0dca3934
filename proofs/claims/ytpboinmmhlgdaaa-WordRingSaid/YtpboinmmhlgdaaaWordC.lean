/- Check, Trim, Signed, and Apply of package word. -/
import Derived.Test.YtpboinmmhlgdaaaWordB
import Derived.BigQuiet
import Derived.Deep.QuietTactic
import Derived.Deep.RegionHeld3
namespace Go.Proofs.Ytpboinmmhlgdaaa
open Go.RowKit
set_option maxHeartbeats 400000

def chk (n : Int) : Int := if n < 1 ∨ 64 < n then 3 else 0
theorem check_any (n : Int) (w : World) :
    Calls Try.prog 12 #[.int .i64 n] w fun e w' => e = .returned (.int .i64 (chk n)) ∧ w = w' := by
  by_cases h1 : n < 1
  · go_enter Try.func12, Try.ntmps12
    go_wp2
    go_ret
    simp [h1, chk]
  · by_cases h2 : 64 < n
    · go_enter Try.func12, Try.ntmps12
      go_wp2
      go_ret
      simp [h2, chk]
    · go_enter Try.func12, Try.ntmps12
      go_wp2
      go_ret
      simp [h1, h2, chk]
theorem chk_in {n : Int} (h1 : 1 ≤ n) (h2 : n ≤ 64) : chk n = 0 := by unfold chk; rw [if_neg (by omega)]
theorem chk_out {n : Int} (h : ¬ (1 ≤ n ∧ n ≤ 64)) : chk n = 3 := by unfold chk; rw [if_pos (by omega)]

def trimI (W v : Int) : Int := if chk W = 0 then ((v.toNat % 2 ^ W.toNat : Nat) : Int) else 0
theorem and_mask (v W : Nat) (hv : v < 18446744073709551616) (_h1 : 1 ≤ W) (h2 : W ≤ 64) : bits .and .u64 (v : Int) ((2 ^ W - 1 : Nat) : Int) = ((v % 2 ^ W : Nat) : Int) := by
  have := pow_le64 h2
  have := pow_pos2 W
  rw [u64_and_nat _ _ hv (by omega), Nat.and_two_pow_sub_one_eq_mod]
theorem trim_any (W v : Int) (h0 : 0 ≤ v) (h1 : v ≤ 18446744073709551615) (w : World) :
    Calls Try.prog 10 #[.int .i64 W, .int .u64 v] w fun e w' => e = .returned (.tuple #[.int .u64 (trimI W v), .int .i64 (chk W)]) ∧ w = w' := by
  obtain ⟨n, rfl⟩ := Int.eq_ofNat_of_zero_le h0
  by_cases hW : 1 ≤ W ∧ W ≤ 64
  · obtain ⟨hW1, hW2⟩ := hW
    obtain ⟨m, rfl⟩ := Int.eq_ofNat_of_zero_le (show 0 ≤ W by omega)
    have hc := chk_in hW1 hW2
    have ha := and_mask n m (by omega) (by omega) (by omega)
    have hr : trimI (m : Int) (n : Int) = ((n % 2 ^ m : Nat) : Int) := by unfold trimI; rw [if_pos hc]; simp
    have Ha := Lib.hid ha; have Hr := Lib.hid hr; clear ha hr h1
    go_enter Try.func10, Try.ntmps10
    go_wp2_with (first | (go_at_call 12; refine (check_any _ _).mono ?_; rintro e w' ⟨rfl, rfl⟩) | (go_at_call 14; refine (mask_any _ (by omega) (by omega) _).mono ?_; rintro e w' ⟨rfl, rfl⟩))
    go_ret2
    have h3 := Ha.out
    have h4 := Hr.out
    refine ⟨?_, rfl⟩
    rw [h4, ← h3, hc]; rfl
  · have hc := chk_out hW
    have hr : trimI W (n : Int) = 0 := by unfold trimI; rw [if_neg (by omega)]
    go_enter Try.func10, Try.ntmps10
    go_wp2_with (first | (go_at_call 12; refine (check_any _ _).mono ?_; rintro e w' ⟨rfl, rfl⟩))
    go_ret2
    exact ⟨by simp [hr, hc], rfl⟩
/-- A slice value reads as a list of integers. -/
def SliceOf (w : World) (k : IntKind) (v : Value) (xs : List Int) : Prop :=
  ∃ a n cap, v = .slice a n cap ∧ xs.length = n ∧ ∀ i, i < n → ∃ b off, a = some ⟨b, off, none⟩ ∧ w.cell? ⟨b, off + i, none⟩ = some (.int k (xs.getD i 0))
theorem SliceOf.below {w w' : World} {k : IntKind} {v : Value} {xs : List Int} (h : SliceOf w k v xs) (hw : Below w.heap.size w w') : SliceOf w' k v xs := by
  obtain ⟨a, n, cap, rfl, hl, hc⟩ := h
  refine ⟨a, n, cap, rfl, hl, fun i hi => ?_⟩
  obtain ⟨b, off, rfl, h⟩ := hc i hi
  exact ⟨b, off, rfl, (hw.cell (World.block_lt_of_cell? _ _ h)).trans h⟩
/-- Where there is an element the slice has an address. -/
theorem SliceOf.addr {w : World} {k : IntKind} {v : Value} {xs : List Int} (h : SliceOf w k v xs) (h0 : 0 < xs.length) :
    ∃ b off cap, v = .slice (some ⟨b, off, none⟩) xs.length cap ∧ ∀ i, i < xs.length → w.cell? ⟨b, off + i, none⟩ = some (.int k (xs.getD i 0)) := by
  obtain ⟨a, n, cap, rfl, rfl, hc⟩ := h
  obtain ⟨b, off, rfl, -⟩ := hc 0 h0
  refine ⟨b, off, cap, rfl, fun i hi => ?_⟩
  obtain ⟨b', off', e, h⟩ := hc i hi
  simp only [Option.some.injEq, Addr.mk.injEq, and_true] at e
  obtain ⟨rfl, rfl⟩ := e
  exact h
theorem opTab_get (n : Nat) (h1 : 4 ≤ n) (h2 : n ≤ 20) (w : World) : (Instr.index 50 (.agg opTab) (.int .u8 n)).run Try.prog w = .ok (.agg #[.func (.func (opFn n)) #[] #[]]) w := by
  have : n = 4 ∨ n = 5 ∨ n = 6 ∨ n = 7 ∨ n = 8 ∨ n = 9 ∨ n = 10 ∨ n = 11 ∨ n = 12 ∨ n = 13 ∨ n = 14 ∨ n = 15 ∨ n = 16 ∨ n = 17 ∨ n = 18 ∨ n = 19 ∨ n = 20 := by omega
  rcases this with rfl | rfl | rfl | rfl | rfl | rfl | rfl | rfl | rfl | rfl | rfl | rfl | rfl | rfl | rfl | rfl | rfl <;> (show _ = _; kernel_rfl)
theorem opFn_any (o : Nat) (h1 : 4 ≤ o) (h2 : o ≤ 20) (W a b : Nat) (hW1 : 1 ≤ W) (hW2 : W ≤ 64) (ha : a < 2 ^ W) (hb : b < 2 ^ W) (w : World) :
    Calls Try.prog (opFn o) #[.int .i64 W, .int .u64 a, .int .u64 b] w (Raw W o a b w) := by
  have : o = 4 ∨ o = 5 ∨ o = 6 ∨ o = 7 ∨ o = 8 ∨ o = 9 ∨ o = 10 ∨ o = 11 ∨ o = 12 ∨ o = 13 ∨ o = 14 ∨ o = 15 ∨ o = 16 ∨ o = 17 ∨ o = 18 ∨ o = 19 ∨ o = 20 := by omega
  rcases this with rfl | rfl | rfl | rfl | rfl | rfl | rfl | rfl | rfl | rfl | rfl | rfl | rfl | rfl | rfl | rfl | rfl
  · exact add_any W a b hW1 hW2 ha hb w
  · exact sub_any W a b hW1 hW2 ha hb w
  · exact mul_any W a b hW1 hW2 ha hb w
  · exact div_any W a b hW1 hW2 ha hb w
  · exact rem_any W a b hW1 hW2 ha hb w
  · exact and_any W a b hW1 hW2 ha hb w
  · exact or_any W a b hW1 hW2 ha hb w
  · exact xor_any W a b hW1 hW2 ha hb w
  · exact shl_any W a b hW1 hW2 ha hb w
  · exact shr_any W a b hW1 hW2 ha hb w
  · exact sar_any W a b hW1 hW2 ha hb w
  · exact eq_any W a b hW1 hW2 ha hb w
  · exact ne_any W a b hW1 hW2 ha hb w
  · exact lt_any W a b hW1 hW2 ha hb w
  · exact le_any W a b hW1 hW2 ha hb w
  · exact slt_any W a b hW1 hW2 ha hb w
  · exact sle_any W a b hW1 hW2 ha hb w

theorem opFn_call (o : Nat) (h1 : 4 ≤ o) (h2 : o ≤ 20) (x y z : Value) (w : World) : (callFunc (opFn o) #[x, y, z]).run Try.prog w = .ok (.enter (opFn o) #[x, y, z]) w := by
  have : o = 4 ∨ o = 5 ∨ o = 6 ∨ o = 7 ∨ o = 8 ∨ o = 9 ∨ o = 10 ∨ o = 11 ∨ o = 12 ∨ o = 13 ∨ o = 14 ∨ o = 15 ∨ o = 16 ∨ o = 17 ∨ o = 18 ∨ o = 19 ∨ o = 20 := by omega
  rcases this with rfl | rfl | rfl | rfl | rfl | rfl | rfl | rfl | rfl | rfl | rfl | rfl | rfl | rfl | rfl | rfl | rfl <;> (show _ = _; kernel_rfl)
/-- A cell of a world is there in a later one. -/
theorem keep2 {w w' : World} {a b : Addr} {u v : Value} (hb : Below w.heap.size w w') (h : w.cell? a = some u ∧ w.cell? b = some v) : w'.cell? a = some u ∧ w'.cell? b = some v :=
  ⟨cell_later hb h.1, cell_later hb h.2⟩
set_option maxRecDepth 100000 in
theorem apply2 (o W x y : Nat) (h1 : 4 ≤ o) (h2 : o ≤ 20) (hW1 : 1 ≤ W) (hW2 : W ≤ 64) (hx : x ≤ 18446744073709551615) (hy : y ≤ 18446744073709551615)
    (b off cap : Nat) (w : World) (c0 : w.cell? ⟨b, off, none⟩ = some (.int .u64 x)) (c1 : w.cell? ⟨b, off + 1, none⟩ = some (.int .u64 y)) :
    Calls Try.prog 9 #[.int .u8 o, .int .i64 W, .slice (some ⟨b, off, none⟩) 2 cap] w fun e w' => e = .returned (.tuple #[.int .u64 (wop W o (x % 2 ^ W) (y % 2 ^ W) 0), .int .i64 0]) ∧ Below w.heap.size w w' := by
  have hc : chk (W : Int) = 0 := chk_in (by omega) (by omega)
  have hn : aryN o = 2 := by unfold aryN; rw [if_neg (by omega), if_neg (by omega), if_neg (by omega)]
  have ha1 := and_mask x W (by omega) hW1 hW2
  have ha2 := and_mask y W (by omega) hW1 hW2
  have hxl := Nat.mod_lt x (pow_pos2 W)
  have hyl := Nat.mod_lt y (pow_pos2 W)
  generalize x % 2 ^ W = X at *
  generalize y % 2 ^ W = Y at *
  have Hx := Lib.hid hxl; have Hy := Lib.hid hyl; clear hxl hyl
  have htab := opTab_get o h1 h2
  have hfield : ∀ w, (Instr.field 49 (.agg #[.func (.func (opFn o)) #[] #[]]) 0).run Try.prog w = .ok (.func (.func (opFn o)) #[] #[]) w := fun w => by kernel_rfl
  have hcall := opFn_call o h1 h2
  have d2 : ((o : Int) == 2) = false := by simp; omega
  have d3 : ((o : Int) == 3) = false := by simp; omega
  have d21 : ((o : Int) == 21) = false := by simp; omega
  go_enter Try.func9, Try.ntmps9
  go_wp2_with (first | (go_at_call 12; refine (check_any _ _).mono ?_; rintro e w' ⟨rfl, rfl⟩) | (go_at_call 13; refine (arity_any _ (by omega) (by omega) _).mono ?_; rintro e w1 ⟨rfl, hb1⟩; have k0 := cell_later hb1 c0; have k1 := cell_later hb1 c1; have hbl : b < w1.heap.size := World.block_lt_of_cell? _ _ k0; clear c0 c1))
  refine wp_loop_rounds 3 ?_
  rw [rounds_succ]
  go_wp2_with (first | (go_at_call 14; refine (mask_any _ hW1 hW2 _).mono ?_; rintro e w' ⟨rfl, rfl⟩))
  rw [rounds_succ]
  go_wp2_with (first | (go_at_call 14; refine (mask_any _ hW1 hW2 _).mono ?_; rintro e w' ⟨rfl, rfl⟩))
  rw [rounds_succ]
  go_wp2_with (first | (go_at_call 14; refine (mask_any _ hW1 hW2 _).mono ?_; rintro e w' ⟨rfl, rfl⟩))
  clear k0 k1 ha1 ha2
  go_region_held3 (fun w' => w'.cell? ⟨w1.heap.size, 0, none⟩ = some (.int .u64 X) ∧ w'.cell? ⟨w1.heap.size, 1, none⟩ = some (.int .u64 Y))
    (first | go_keep | exact keep2 (by assumption) (by assumption))
    (first | (go_at_call 15; refine (table_any _).mono ?_; rintro e w2 ⟨rfl, hb2⟩) | (refine (opFn_any o h1 h2 W X Y hW1 hW2 Hx.out Hy.out _).mono ?_; rintro e w3 ⟨r, rfl, hr1, hr2, rfl⟩))
  have hm := and_mask r W hr1 hW1 hW2
  rw [hr2] at hm
  clear hr2 htab hfield hcall
  go_wp2_with (first | (go_at_call 14; refine (mask_any _ hW1 hW2 _).mono ?_; rintro e w' ⟨rfl, rfl⟩))
  go_ret2
  exact ⟨rfl, (hb1.alloc hb1.size _).drew.trans (hb2.mono (by have := hb1.size; simp; omega))⟩
set_option maxRecDepth 100000 in
theorem apply1 (o W x : Nat) (ho : o = 2 ∨ o = 3) (hW1 : 1 ≤ W) (hW2 : W ≤ 64) (hx : x ≤ 18446744073709551615)
    (b off cap : Nat) (w : World) (c0 : w.cell? ⟨b, off, none⟩ = some (.int .u64 x)) :
    Calls Try.prog 9 #[.int .u8 o, .int .i64 W, .slice (some ⟨b, off, none⟩) 1 cap] w fun e w' => e = .returned (.tuple #[.int .u64 (wop W o (x % 2 ^ W) 0 0), .int .i64 0]) ∧ Below w.heap.size w w' := by
  have hc : chk (W : Int) = 0 := chk_in (by omega) (by omega)
  have ha1 := and_mask x W (by omega) hW1 hW2
  have hxl := Nat.mod_lt x (pow_pos2 W)
  generalize x % 2 ^ W = X at *
  have hp := pow_le64 hW2
  have hm1 : bits .and .u64 (bits .xor .u64 IntKind.u64.max (X : Int)) ((2 ^ W - 1 : Nat) : Int) = ((wop W 2 X 0 0 : Nat) : Int) := by
    have e : IntKind.u64.max = ((18446744073709551615 : Nat) : Int) := by decide
    have hq : 18446744073709551615 ^^^ X = 18446744073709551615 - X := by
      have := Nat.xor_comm
      apply Nat.eq_of_testBit_eq
      intro i
      rw [show 18446744073709551615 - X = 2 ^ 64 - (X + 1) from by omega, Nat.testBit_two_pow_sub_succ (by omega), Nat.testBit_xor, show (18446744073709551615 : Nat) = 2 ^ 64 - 1 from rfl, Nat.testBit_two_pow_sub_one]
      by_cases hi : i < 64
      · simp [hi]
      · have : X < 2 ^ i := Nat.lt_of_lt_of_le (by omega : X < 2 ^ 64) (Nat.pow_le_pow_right (by decide) (by omega))
        simp [hi, Nat.testBit_lt_two_pow this]
    rw [e, u64_xor_nat _ _ (by decide) (by omega), hq, and_mask _ _ (by omega) hW1 hW2, mod_minus W X hW2 hxl]; rfl
  have hm2 : bits .and .u64 (IntKind.u64.wrap (-(X : Int))) ((2 ^ W - 1 : Nat) : Int) = ((wop W 3 X 0 0 : Nat) : Int) := by
    have e : IntKind.u64.wrap (-(X : Int)) = (((18446744073709551616 - X) % 18446744073709551616 : Nat) : Int) := by rw [IntKind.wrap_u64]; omega
    rw [e, and_mask _ _ (Nat.mod_lt _ (by decide)) hW1 hW2, mod64_mod hW2]
    obtain ⟨k, hk⟩ := pow_dvd64 hW2
    have hk1 : 1 ≤ k := by
      rcases Nat.eq_zero_or_pos k with h0 | h0
      · subst h0; omega
      · exact h0
    have : 2 ^ W * (k - 1) + 2 ^ W = 18446744073709551616 := by rw [hk, ← Nat.mul_succ]; congr 1; omega
    rw [show 18446744073709551616 - X = (2 ^ W - X) + 2 ^ W * (k - 1) from by omega, Nat.add_mul_mod_self_left]; rfl
  have Hx := Lib.hid hxl; clear hxl hp
  rcases ho with rfl | rfl
  all_goals
    have hn2 : aryN 2 = 1 := rfl
    have hn3 : aryN 3 = 1 := rfl
    go_enter Try.func9, Try.ntmps9
    go_wp2_with (first | (go_at_call 12; refine (check_any _ _).mono ?_; rintro e w' ⟨rfl, rfl⟩) | (go_at_call 13; refine (arity_any _ (by omega) (by omega) _).mono ?_; rintro e w1 ⟨rfl, hb1⟩; have k0 := cell_later hb1 c0; have hbl : b < w1.heap.size := World.block_lt_of_cell? _ _ k0; clear c0))
    refine wp_loop_rounds 2 ?_
    rw [rounds_succ]
    go_wp2_with (first | (go_at_call 14; refine (mask_any _ hW1 hW2 _).mono ?_; rintro e w' ⟨rfl, rfl⟩))
    rw [rounds_succ]
    go_wp2_with (first | (go_at_call 14; refine (mask_any _ hW1 hW2 _).mono ?_; rintro e w' ⟨rfl, rfl⟩))
    go_ret2
    exact ⟨rfl, hb1.alloc hb1.size _⟩
set_option maxRecDepth 100000 in
theorem apply3 (W x y z : Nat) (hW1 : 1 ≤ W) (hW2 : W ≤ 64) (hx : x ≤ 18446744073709551615) (hy : y ≤ 18446744073709551615) (hz : z ≤ 18446744073709551615)
    (b off cap : Nat) (w : World) (c0 : w.cell? ⟨b, off, none⟩ = some (.int .u64 x)) (c1 : w.cell? ⟨b, off + 1, none⟩ = some (.int .u64 y)) (c2 : w.cell? ⟨b, off + 2, none⟩ = some (.int .u64 z)) :
    Calls Try.prog 9 #[.int .u8 21, .int .i64 W, .slice (some ⟨b, off, none⟩) 3 cap] w fun e w' => e = .returned (.tuple #[.int .u64 (wop W 21 (x % 2 ^ W) (y % 2 ^ W) (z % 2 ^ W)), .int .i64 0]) ∧ Below w.heap.size w w' := by
  have hc : chk (W : Int) = 0 := chk_in (by omega) (by omega)
  have hp := pow_le64 hW2
  have ha1 := and_mask x W (by omega) hW1 hW2
  have ha2 := and_mask y W (by omega) hW1 hW2
  have ha3 := and_mask z W (by omega) hW1 hW2
  have hxl := Nat.mod_lt x (pow_pos2 W)
  have hyl := Nat.mod_lt y (pow_pos2 W)
  have hzl := Nat.mod_lt z (pow_pos2 W)
  generalize x % 2 ^ W = X at *
  generalize y % 2 ^ W = Y at *
  generalize z % 2 ^ W = Z at *
  have hb2 := and_mask Y W (by omega) hW1 hW2
  have hb3 := and_mask Z W (by omega) hW1 hW2
  rw [Nat.mod_eq_of_lt hyl] at hb2
  rw [Nat.mod_eq_of_lt hzl] at hb3
  clear hxl hyl hzl hp
  have hn : aryN 21 = 3 := rfl
  by_cases h0 : X = 0
  all_goals
    have hd : ((X : Int) != 0) = !decide (X = 0) := by rw [Bool.eq_iff_iff]; simp
    simp only [h0, decide_true, decide_false, Bool.not_true, Bool.not_false] at hd
    have hr : wop W 21 X Y Z = if X = 0 then Z else Y := rfl
    first | rw [if_pos h0] at hr | rw [if_neg h0] at hr
    first | subst h0 | skip
    have Hr := Lib.hid hr; clear hr
    go_enter Try.func9, Try.ntmps9
    go_wp2_with (first | (go_at_call 12; refine (check_any _ _).mono ?_; rintro e w' ⟨rfl, rfl⟩) | (go_at_call 13; refine (arity_any _ (by omega) (by omega) _).mono ?_; rintro e w1 ⟨rfl, hb1⟩; have k0 := cell_later hb1 c0; have k1 := cell_later hb1 c1; have k2 := cell_later hb1 c2; have hbl : b < w1.heap.size := World.block_lt_of_cell? _ _ k0; clear c0 c1 c2))
    refine wp_loop_rounds 4 ?_
    rw [rounds_succ]
    go_wp2_with (first | (go_at_call 14; refine (mask_any _ hW1 hW2 _).mono ?_; rintro e w' ⟨rfl, rfl⟩))
    rw [rounds_succ]
    go_wp2_with (first | (go_at_call 14; refine (mask_any _ hW1 hW2 _).mono ?_; rintro e w' ⟨rfl, rfl⟩))
    rw [rounds_succ]
    go_wp2_with (first | (go_at_call 14; refine (mask_any _ hW1 hW2 _).mono ?_; rintro e w' ⟨rfl, rfl⟩))
    rw [rounds_succ]
    go_wp2_with (first | (go_at_call 14; refine (mask_any _ hW1 hW2 _).mono ?_; rintro e w' ⟨rfl, rfl⟩))
    go_ret2
    rw [Hr.out]
    exact ⟨rfl, hb1.alloc hb1.size _⟩
theorem applyE (o W : Int) (h0 : 0 ≤ o) (h1 : o ≤ 255) (a : Option Addr) (n cap : Nat) (_hn : n ≤ 9223372036854775807) (w : World) (he : wE o W n ≠ 0) :
    Calls Try.prog 9 #[.int .u8 o, .int .i64 W, .slice a n cap] w fun e w' => e = .returned (.tuple #[.int .u64 0, .int .i64 (wE o W n)]) ∧ Below w.heap.size w w' := by
  by_cases hW : 1 ≤ W ∧ W ≤ 64
  · have hc := chk_in hW.1 hW.2
    by_cases ho : 2 ≤ o ∧ o ≤ 21
    · have ha := aryN_le o.toNat
      have hw : wE o W n = 2 ∧ aryN o.toNat ≠ n := by
        unfold wE at he ⊢
        rw [if_neg (by omega), if_neg (by omega)] at he ⊢
        by_cases hh : aryN o.toNat = n
        · rw [if_pos hh] at he; exact absurd rfl he
        · rw [if_neg hh]; exact ⟨rfl, hh⟩
      rw [hw.1]
      have hne : ((aryN o.toNat : Int) != (n : Int)) = true := by simp; exact_mod_cast hw.2
      clear hw he
      go_enter Try.func9, Try.ntmps9
      go_wp2_with (first | (go_at_call 12; refine (check_any _ _).mono ?_; rintro e w' ⟨rfl, rfl⟩) | (go_at_call 13; refine (arity_any _ (by omega) (by omega) _).mono ?_; rintro e w1 ⟨rfl, hb1⟩))
      go_ret2
      exact ⟨rfl, hb1⟩
    · have hw : wE o W n = 3 := by unfold wE; rw [if_neg (by omega), if_pos (by omega)]
      rw [hw]
      clear hw he
      by_cases h2 : o < 2
      · go_enter Try.func9, Try.ntmps9
        go_wp2_with (first | (go_at_call 12; refine (check_any _ _).mono ?_; rintro e w' ⟨rfl, rfl⟩))
        go_ret2
        exact ⟨rfl, Below.refl _ _⟩
      · have h3 : 21 < o := by omega
        go_enter Try.func9, Try.ntmps9
        go_wp2_with (first | (go_at_call 12; refine (check_any _ _).mono ?_; rintro e w' ⟨rfl, rfl⟩))
        go_ret2
        exact ⟨rfl, Below.refl _ _⟩
  · have hc := chk_out hW
    have hw : wE o W n = 3 := by unfold wE; rw [if_pos (by omega)]
    rw [hw]
    clear hw he
    go_enter Try.func9, Try.ntmps9
    go_wp2_with (first | (go_at_call 12; refine (check_any _ _).mono ?_; rintro e w' ⟨rfl, rfl⟩))
    go_ret2
    exact ⟨by simp , Below.refl _ _⟩
/-- Every number of a list is a uint64. -/
def U64s (xs : List Int) : Prop := ∀ x ∈ xs, 0 ≤ x ∧ x ≤ 18446744073709551615
theorem U64s.nat {xs : List Int} (h : U64s xs) : ∃ ns : List Nat, xs = ns.map (fun (n : Nat) => (n : Int)) ∧ ∀ n ∈ ns, n ≤ 18446744073709551615 := by
  refine ⟨xs.map Int.toNat, ?_, ?_⟩
  · rw [List.map_map]
    conv => lhs; rw [← List.map_id xs]
    exact List.map_congr_left fun x hx => by have := h x hx; simp; omega
  · intro n hn
    obtain ⟨x, hx, rfl⟩ := List.mem_map.1 hn
    have := h x hx; omega
theorem apply_any (o W : Int) (h0 : 0 ≤ o) (h1 : o ≤ 255) (v : Value) (xs : List Int) (w : World) (hs : SliceOf w .u64 v xs) (hx : U64s xs) (hn : xs.length ≤ 9223372036854775807) :
    Calls Try.prog 9 #[.int .u8 o, .int .i64 W, v] w fun e w' => e = .returned (.tuple #[.int .u64 (wI o W xs), .int .i64 (wE o W xs.length)]) ∧ Below w.heap.size w w' := by
  by_cases he : wE o W xs.length = 0
  · have hW : 1 ≤ W ∧ W ≤ 64 := by
      unfold wE at he; by_cases h : W < 1 ∨ 64 < W
      · rw [if_pos h] at he; omega
      · omega
    have ho : 2 ≤ o ∧ o ≤ 21 := by
      unfold wE at he; rw [if_neg (by omega)] at he; by_cases h : o < 2 ∨ 21 < o
      · rw [if_pos h] at he; omega
      · omega
    have hl : aryN o.toNat = xs.length := by
      unfold wE at he; rw [if_neg (by omega), if_neg (by omega)] at he
      by_cases h : aryN o.toNat = xs.length
      · exact h
      · rw [if_neg h] at he; omega
    have hI : wI o W xs = ((wop W.toNat o.toNat (wA W xs 0) (wA W xs 1) (wA W xs 2) : Nat) : Int) := by unfold wI; rw [if_pos he]
    obtain ⟨ns, rfl, hns⟩ := hx.nat
    obtain ⟨O, rfl⟩ := Int.eq_ofNat_of_zero_le h0
    obtain ⟨m, rfl⟩ := Int.eq_ofNat_of_zero_le (show 0 ≤ W by omega)
    rw [hI, he]
    simp only [wA, Int.toNat_natCast] at hl ⊢
    clear hI he
    have hpos : 1 ≤ aryN O := by unfold aryN; rw [if_neg (by omega)]; split; · omega
                                 · split <;> omega
    obtain ⟨b, off, cap, rfl, hc⟩ := hs.addr (by omega)
    · by_cases h3 : O ≤ 3
      · have hl1 : aryN O = 1 := by unfold aryN; rw [if_neg (by omega), if_pos h3]
        obtain ⟨x, rfl⟩ : ∃ x, ns = [x] := List.length_eq_one_iff.1 (by simp at hl; omega)
        have c0 := hc 0 (by simp)
        have := apply1 O m x (by omega) (by omega) (by omega) (hns x (by simp)) b off cap w (by simpa using c0)
        simpa using this
      · by_cases h21 : O = 21
        · subst h21
          obtain ⟨x, y, z, rfl⟩ : ∃ x y z, ns = [x, y, z] := by
            match ns, hl with
            | [x, y, z], _ => exact ⟨x, y, z, rfl⟩
            | [], h => simp [aryN] at h
            | [_], h => simp [aryN] at h
            | [_, _], h => simp [aryN] at h
            | _ :: _ :: _ :: _ :: _, h => simp [aryN] at h
          have c0 := hc 0 (by simp)
          have c1 := hc 1 (by simp)
          have c2 := hc 2 (by simp)
          have := apply3 m x y z (by omega) (by omega) (hns x (by simp)) (hns y (by simp)) (hns z (by simp)) b off cap w (by simpa using c0) (by simpa using c1) (by simpa using c2)
          simpa using this
        · have hl2 : aryN O = 2 := by unfold aryN; rw [if_neg (by omega), if_neg h3, if_neg h21]
          obtain ⟨x, y, rfl⟩ : ∃ x y, ns = [x, y] := by
            rw [hl2] at hl
            match ns, hl with
            | [x, y], _ => exact ⟨x, y, rfl⟩
            | [], h => simp at h
            | [_], h => simp at h
            | _ :: _ :: _ :: _, h => simp at h
          have c0 := hc 0 (by simp)
          have c1 := hc 1 (by simp)
          have := apply2 O m x y (by omega) (by omega) (by omega) (by omega) (hns x (by simp)) (hns y (by simp)) b off cap w (by simpa using c0) (by simpa using c1)
          simpa using this
  · have hI : wI o W xs = 0 := by unfold wI; rw [if_neg he]
    rw [hI]
    obtain ⟨a, n, cap, rfl, rfl, -⟩ := hs
    exact applyE o W h0 h1 a _ cap hn w he
end Go.Proofs.Ytpboinmmhlgdaaa
