/- Mod of the kit; awake of law 10. -/
import Derived.Test.YteofgmjejocleaaGraphF
namespace Go.Proofs.Yteofgmjejocleaa
open Go.RowKit Go.Maps
set_option maxHeartbeats 800000

theorem mod_law (v n : Int) (hn : 1 ≤ n) : (v.tmod n + n) % n = v % n ∧ -n < v.tmod n ∧ v.tmod n < n := by
  have h1 : v.tmod n < n := Int.tmod_lt_of_pos v (by omega)
  have h2 : -n < v.tmod n := by
    have h := Int.tmod_lt_of_pos (-v) (show 0 < n by omega)
    rw [Int.neg_tmod] at h
    omega
  refine ⟨?_, h2, h1⟩
  rw [Int.add_emod_right]
  conv => rhs; rw [← Int.mul_tdiv_add_tmod v n]
  rw [Int.add_comm, Int.add_mul_emod_self_left]
theorem mod_any (v n : Int) (h1 : 1 ≤ n) (h2 : n ≤ 1000000000) (w : World) :
    Calls Try.prog 15 #[.int .i64 v, .int .i64 n] w fun e w' => e = .returned (.int .i64 (v % n)) ∧ w = w' := by
  obtain ⟨h3, h4, h5⟩ := mod_law v n h1
  have h7 := Int.emod_nonneg v (show n ≠ 0 by omega)
  have h8 := Int.emod_lt_of_pos v (show 0 < n by omega)
  have hz : (n == 0) = false := by simp; omega
  have hm : (n == -1) = false := by simp; omega
  have H3 := Lib.hid h3
  clear h3
  go_enter Try.func15, Try.ntmps15
  go_wp2
  go_ret
  refine ⟨?_, rfl⟩
  rw [← H3.out]; rfl
end Go.Proofs.Yteofgmjejocleaa
