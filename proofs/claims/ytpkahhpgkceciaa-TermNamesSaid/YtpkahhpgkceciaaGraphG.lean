/- Mod of the kit; awake of law 10. -/
import Derived.Test.YtpkahhpgkceciaaGraphF
namespace Go.Proofs.Ytpkahhpgkceciaa
open Go.RowKit Go.Maps
set_option maxHeartbeats 800000

theorem mod_law (v n : Int) (hn : 1 ≤ n) : (v.tmod n + n) % n = v % n ∧ -n < v.tmod n ∧ v.tmod n < n := by
  have h1 : v.tmod n < n := Int.tmod_lt_of_pos v (by omega)
  have h2 : -n < v.tmod n := by
    have h := Int.tmod_lt_of_pos (-v) (show 0 < n by omega)
    rw [Int.neg_tmod] at h
    omega
  refine ⟨?_, h2, h1⟩
  rw [Int.add_emod_right]
  conv => rhs; rw [← Int.mul_tdiv_add_tmod v n]
  rw [Int.add_comm, Int.add_mul_emod_self_left]
theorem mod_any (v n : Int) (h1 : 1 ≤ n) (h2 : n ≤ 1000000000) (w : World) :
    Calls Try.prog 28 #[.int .i64 v, .int .i64 n] w fun e w' => e = .returned (.int .i64 (v % n)) ∧ w = w' := by
  obtain ⟨h3, h4, h5⟩ := mod_law v n h1
  have h7 := Int.emod_nonneg v (show n ≠ 0 by omega)
  have h8 := Int.emod_lt_of_pos v (show 0 < n by omega)
  have hz : (n == 0) = false := by simp; omega
  have hm : (n == -1) = false := by simp; omega
  have H3 := Lib.hid h3
  clear h3
  go_enter Try.func28, Try.ntmps28
  go_wp2
  go_ret
  refine ⟨?_, rfl⟩
  rw [← H3.out]; rfl
theorem awake_any (w : World) : Calls Try.prog 22 #[] w fun e w' => e = .returned (.bool true) ∧ Below w.heap.size w w' := by
  have e1 : constR (Int.toNat 2) (roomOf 4) [] 7 = ([(0, 3, [])], 0, 0) := by decide
  have e2 : constR (Int.toNat 2) (roomOf 4) [(0, 3, [])] 3 = ([(0, 3, [])], 0, 0) := by decide
  have e3 : varR (roomOf 4) [(0, 3, [])] 0 = ([(0, 3, []), (1, 0, [])], 1, 0) := by decide
  have e4 : appR (roomOf 4) [(0, 3, []), (1, 0, [])] 4 [1, 0] = ([(0, 3, []), (1, 0, []), (4, 0, [1, 0])], 2, 0) := by decide
  have E1 := Lib.hid e1; have E2 := Lib.hid e2; have E3 := Lib.hid e3; have E4 := Lib.hid e4
  clear e1 e2 e3 e4
  go_enter Try.func22, Try.ntmps22
  go_wp2_with fail
  go_at_call 29
  refine (new_any 2 4 ⟨by decide, by decide, by decide, by decide⟩ _).mono ?_
  rintro e w1 ⟨gb, F, rfl, hg, hb⟩
  go_wp2_with fail
  go_at_call 24
  refine (const_any hg 7 (by decide)).mono ?_
  rw [E1.out]
  rintro e w2 ⟨F2, I2, rfl, hg2, ht2, hf2⟩
  have b2 : Below w.heap.size w w2 := ht2.below hb hb.size hg.base_le
  clear hg ht2 hf2
  go_wp2_with fail
  go_at_call 24
  refine (const_any hg2 3 (by decide)).mono ?_
  rw [E2.out]
  rintro e w3 ⟨F3, I3, rfl, hg3, ht3, hf3⟩
  have b3 : Below w.heap.size w w3 := ht3.below b2 b2.size hg2.base_le
  clear hg2 ht3 hf3 b2
  go_wp2_with fail
  go_at_call 25
  refine (var_any hg3 0).mono ?_
  rw [E3.out]
  rintro e w4 ⟨F4, I4, rfl, hg4, ht4, hf4⟩
  have b4 : Below w.heap.size w w4 := ht4.below b3 b3.size hg3.base_le
  clear hg3 ht4 hf4 b3
  go_wp2_with fail
  go_at_call 26
  refine (app_any (hg4.later (below_new _ _)) 4 (by decide) [1, 0] _ (sliceOf_new w4 .i64 3 [1, 0] 2)).mono ?_
  rw [E4.out]
  rintro e w5 ⟨F5, I5, rfl, hg5, ht5, hf5⟩
  have b5 : Below w.heap.size w w5 := ht5.below (b4.alloc b4.size _) (by have := b4.size; simp; omega) hg4.base_le
  clear hg4 ht5 hf5 b4
  go_wp2_with (go_at_call 20; refine (len_any hg5).mono ?_; rintro e w6 ⟨rfl, rfl⟩)
  go_ret
  exact ⟨rfl, b5⟩
end Go.Proofs.Ytpkahhpgkceciaa
