/- Laws of words: WordTrims, WordAll, WordNames. -/
import Derived.Test.YtpkahhpgkceciaaLawWA
namespace Go.Proofs.Ytpkahhpgkceciaa
open Go.RowKit
set_option maxHeartbeats 400000

theorem rTrim_any (W v : Int) (h0 : 0 ≤ v) (h1 : v ≤ 18446744073709551615) (w : World) :
    Calls Try.prog 45 #[.int .i64 W, .int .u64 v] w fun e w' => e = .returned (.tuple #[.int .u64 (trimI W v), .int .i64 (chk W)]) ∧ w = w' := by
  obtain ⟨n, rfl⟩ := Int.eq_ofNat_of_zero_le h0
  by_cases hW : 1 ≤ W ∧ W ≤ 64
  · obtain ⟨hW1, hW2⟩ := hW
    obtain ⟨m, rfl⟩ := Int.eq_ofNat_of_zero_le (show 0 ≤ W by omega)
    have hc := chk_in hW1 hW2
    obtain ⟨R, eR⟩ : ∃ R, n % 2 ^ m = R := ⟨_, rfl⟩
    have hr : trimI (m : Int) (n : Int) = (R : Int) := by unfold trimI; rw [if_pos hc, ← eR]; simp
    rw [hr]
    have HR := Lib.hid (And.intro (show n ≤ 18446744073709551615 by omega) eR); clear eR hr h1
    go_enter Try.func45, Try.ntmps45
    go_wp2_with (first | (go_at_call 49; refine (rcheck_any _ _).mono ?_; rintro e w' ⟨rfl, rfl⟩) | (go_at_call 57; refine (rtrim_is _ _ _ (by omega) (by omega) HR.out _).mono ?_; rintro e w' ⟨rfl, rfl⟩))
    go_ret2
    exact ⟨by simp [hc], rfl⟩
  · have hc := chk_out hW
    have hr : trimI W (n : Int) = 0 := by unfold trimI; rw [if_neg (by omega)]
    go_enter Try.func45, Try.ntmps45
    go_wp2_with (first | (go_at_call 49; refine (rcheck_any _ _).mono ?_; rintro e w' ⟨rfl, rfl⟩))
    go_ret2
    exact ⟨by simp [hr, hc], rfl⟩
theorem sgn64 (a : Nat) (h : a < 2 ^ 64) : sgn 64 a = IntKind.i64.wrap (a : Int) := by
  rw [IntKind.wrap_i64]
  unfold sgn
  split <;> omega
theorem rSigned_any (W v : Int) (h0 : 0 ≤ v) (h1 : v ≤ 18446744073709551615) (w : World) :
    Calls Try.prog 47 #[.int .i64 W, .int .u64 v] w fun e w' => e = .returned (.tuple #[.int .i64 (sgnI W v), .int .i64 (chk W)]) ∧ w = w' := by
  obtain ⟨n, rfl⟩ := Int.eq_ofNat_of_zero_le h0
  by_cases hW : 1 ≤ W ∧ W ≤ 64
  · obtain ⟨hW1, hW2⟩ := hW
    obtain ⟨m, rfl⟩ := Int.eq_ofNat_of_zero_le (show 0 ≤ W by omega)
    have hc := chk_in hW1 hW2
    obtain ⟨R, eR⟩ : ∃ R, n % 2 ^ m = R := ⟨_, rfl⟩
    have hlt : R < 2 ^ m := eR ▸ Nat.mod_lt _ (pow_pos2 m)
    have hr : sgnI (m : Int) (n : Int) = sgn m R := by unfold sgnI; rw [if_pos hc, ← eR]; simp
    rw [hr, hc]
    have HR := Lib.hid (And.intro (show n ≤ 18446744073709551615 by omega) eR); clear eR hr h1
    have hp := pow_le64 (W := m) (by omega)
    have hh := pow_half (W := m) (by omega)
    have Hp := Lib.hid (And.intro hp hh)
    by_cases hA : 2 ^ (m - 1) ≤ R
    · have Ht := Lib.hid (And.intro hlt (decide_eq_true hA))
      by_cases h64 : m = 64
      · subst h64
        have hs := sgn64 R hlt
        rw [hs]
        clear hA hlt hp hh hs
        go_enter Try.func47, Try.ntmps47
        go_wp2_with (first | (go_at_call 49; refine (rcheck_any _ _).mono ?_; rintro e w' ⟨rfl, rfl⟩) | (go_at_call 57; refine (rtrim_is 64 _ _ (by omega) (by omega) HR.out _).mono ?_; rintro e w' ⟨rfl, rfl⟩) | (go_at_call 66; refine (rtop_is 64 _ (by omega) (by omega) _ Ht.out _).mono ?_; rintro e w' ⟨rfl, rfl⟩))
        go_ret2
        exact ⟨by simp [IntWalk.i64_left], rfl⟩
      · have hl : (m : Int) < 64 := by omega
        have hs : sgn m R = IntKind.i64.wrap (IntKind.i64.wrap (R : Int) - IntKind.i64.wrap (2 ^ m)) := by
          have e : (2 : Int) ^ m = ((2 ^ m : Nat) : Int) := by simp
          have hq : 2 ^ m ≤ 9223372036854775808 := by
            have := Nat.pow_le_pow_right (n := 2) (by decide) (show m ≤ 63 by omega); simpa using this
          unfold sgn
          rw [if_neg (by omega), e, IntKind.wrap_i64, IntKind.wrap_i64, IntKind.wrap_i64]
          generalize 2 ^ (m - 1) = H at *
          generalize 2 ^ m = P at *
          omega
        have Hs := Lib.hid hs
        clear hA hlt hp hh hs h64
        go_enter Try.func47, Try.ntmps47
        go_wp2_with (first | (go_at_call 49; refine (rcheck_any _ _).mono ?_; rintro e w' ⟨rfl, rfl⟩) | (go_at_call 57; refine (rtrim_is m _ _ (by omega) (by omega) HR.out _).mono ?_; rintro e w' ⟨rfl, rfl⟩) | (go_at_call 66; refine (rtop_is m _ (by omega) (by omega) _ Ht.out _).mono ?_; rintro e w' ⟨rfl, rfl⟩))
        go_ret2
        exact ⟨by rw [Hs.out]; simp [IntWalk.i64_left], rfl⟩
    · have Ht := Lib.hid (And.intro hlt (decide_eq_false hA))
      have hs : sgn m R = IntKind.i64.wrap (R : Int) := by
        unfold sgn
        rw [if_pos (by omega), IntKind.wrap_i64]
        generalize 2 ^ (m - 1) = H at *
        generalize 2 ^ m = P at *
        omega
      rw [hs]
      clear hA hlt hp hh hs
      go_enter Try.func47, Try.ntmps47
      go_wp2_with (first | (go_at_call 49; refine (rcheck_any _ _).mono ?_; rintro e w' ⟨rfl, rfl⟩) | (go_at_call 57; refine (rtrim_is m _ _ (by omega) (by omega) HR.out _).mono ?_; rintro e w' ⟨rfl, rfl⟩) | (go_at_call 66; refine (rtop_is m _ (by omega) (by omega) _ Ht.out _).mono ?_; rintro e w' ⟨rfl, rfl⟩))
      go_ret2
      exact ⟨by simp [IntWalk.i64_left], rfl⟩
  · have hc := chk_out hW
    have hr' : sgnI W (n : Int) = 0 := by unfold sgnI; rw [if_neg (by omega)]
    go_enter Try.func47, Try.ntmps47
    go_wp2_with (go_at_call 49; refine (rcheck_any _ _).mono ?_; rintro e w' ⟨rfl, rfl⟩)
    go_ret2
    exact ⟨by simp [hr', hc], rfl⟩
theorem wordTrims_walk (W v : Int) (h0 : 0 ≤ v) (h1 : v ≤ 18446744073709551615) (w : World) :
    Calls Try.prog 15 #[.int .i64 W, .int .u64 v] w fun e w' => e = .returned (.bool true) ∧ Below w.heap.size w w' := by
  go_enter Try.func15, Try.ntmps15
  go_wp2_with (first | (go_at_call 44; refine (trim_any _ _ h0 h1 _).mono ?_; rintro e w' ⟨rfl, rfl⟩) | (go_at_call 45; refine (rTrim_any _ _ h0 h1 _).mono ?_; rintro e w' ⟨rfl, rfl⟩) | (go_at_call 46; refine (wsigned_any _ _ h0 h1 _).mono ?_; rintro e w' ⟨rfl, rfl⟩) | (go_at_call 47; refine (rSigned_any _ _ h0 h1 _).mono ?_; rintro e w' ⟨rfl, rfl⟩) | (go_at_call 48; refine (check_any _ _).mono ?_; rintro e w' ⟨rfl, rfl⟩) | (go_at_call 49; refine (rcheck_any _ _).mono ?_; rintro e w' ⟨rfl, rfl⟩) | (go_at_call 30; refine (known_any _).mono ?_; rintro e w1 ⟨rfl, hb1⟩))
  go_ret
  exact ⟨rfl, by assumption⟩

theorem sliceOf_take {w : World} {k : IntKind} {b off n cap : Nat} {xs : List Int} (h : SliceOf w k (.slice (some ⟨b, off, none⟩) n cap) xs) (m : Nat) (hm : m ≤ n) (c : Nat) : SliceOf w k (.slice (some ⟨b, off, none⟩) m c) (xs.take m) := by
  obtain ⟨a, n', cap', e, hl, hc⟩ := h
  simp only [Value.slice.injEq] at e
  obtain ⟨rfl, rfl, rfl⟩ := e
  refine ⟨_, _, _, rfl, by rw [List.length_take]; omega, fun i hi => ?_⟩
  obtain ⟨b', off', e, h⟩ := hc i (by omega)
  exact ⟨b', off', e, by rw [h]; simp [hi]⟩
theorem wordAll_walk (W x y z : Int) (hW0 : 0 ≤ W) (hW1 : W ≤ 255) (hx : 0 ≤ x ∧ x ≤ 18446744073709551615) (hy : 0 ≤ y ∧ y ≤ 18446744073709551615) (hz : 0 ≤ z ∧ z ≤ 18446744073709551615) (w : World) :
    Calls Try.prog 8 #[.int .u8 W, .int .u64 x, .int .u64 y, .int .u64 z] w fun e w' => e = .returned (.bool true) ∧ Below w.heap.size w w' := by
  have HX : Hid (U64s [x, y, z]) := by intro n hn; simp at hn; rcases hn with rfl | rfl | rfl <;> assumption
  have HS := Lib.hid (sliceOf_new w .u64 31 [x, y, z] 3)
  clear hx hy hz
  go_enter Try.func8, Try.ntmps8
  go_wp2
  go_loopw [11] (fun o wr => ∃ n : Nat, 2 ≤ n ∧ n ≤ 22 ∧ o = .int .u8 n ∧ Below (w.heap.size + 1) (w.alloc (.cells #[.int .u64 x, .int .u64 y, .int .u64 z] 31)) wr) (fun o _ => 22 - (intOf o).toNat)
  case atStart => exact ⟨2, by omega, by omega, rfl, Below.refl _ _⟩
  case round =>
    obtain ⟨n, hn1, hn2, rfl, hb⟩ := hrel
    by_cases hlt : n ≤ 21
    · obtain ⟨wo, rfl⟩ : ∃ wo : World, wo = wr := ⟨_, rfl⟩
      have hd : decide ((n : Int) ≤ 21) = true := by rw [decide_eq_true_eq]; omega
      go_wp2
      go_loopw [12, 13, 14, 15, 16] (fun i _ _ _ _ wr => ∃ k : Nat, 1 ≤ k ∧ k ≤ 4 ∧ i = .int .i64 k ∧ Below (w.heap.size + 1) (w.alloc (.cells #[.int .u64 x, .int .u64 y, .int .u64 z] 31)) wr) (fun i _ _ _ _ _ => 4 - (intOf i).toNat)
      case atStart => exact ⟨1, by omega, by omega, rfl, hb⟩
      case round =>
        obtain ⟨k, hk1, hk2, rfl, hb'⟩ := hrel
        by_cases hk : k ≤ 3
        · have HS' := Lib.hid (sliceOf_take (HS.out.below (by simpa using hb')) k (by simp; omega) 3)
          have HXk : Hid (U64s ([x, y, z].take k) ∧ ([x, y, z].take k).length ≤ 9223372036854775807) := ⟨fun q hq => HX.out q (List.mem_of_mem_take hq), by have := List.length_take_le k [x, y, z]; simp at this ⊢; omega⟩
          go_wp2_with fail
          refine (apply_any _ _ (by omega) (by omega) _ _ _ HS'.out HXk.out.1 HXk.out.2).mono ?_
          rintro e w2 ⟨rfl, hb2⟩
          have HS2 := Lib.hid (HS'.out.below hb2)
          have hb3 := hb'.trans (hb2.mono (by have := hb'.size; simp at this; omega))
          go_wp2_with fail
          refine (rapply_any _ _ (by omega) (by omega) _ _ _ HS2.out HXk.out.1 HXk.out.2).mono ?_
          rintro e w' ⟨rfl, rfl⟩
          go_wp2
          go_roundw
          case rel => exact ⟨k + 1, by omega, by omega, by go_num, hb3⟩
          case measure => simp [intOf]; omega
        · go_wp2
          go_roundw
          case rel => exact ⟨n + 1, by omega, by omega, by go_num, hb'⟩
          case measure => simp [intOf]; omega
    · go_wp2_with (go_at_call 30; refine (known_any _).mono ?_; rintro e w1 ⟨rfl, hb1⟩)
      go_ret
      exact ⟨rfl, (below_new w _).trans ((hb.mono (by omega)).trans (hb1.mono (by have := hb.size; simp at this; omega)))⟩
end Go.Proofs.Ytpkahhpgkceciaa
