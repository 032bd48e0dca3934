/- The reference of package word: what its functions return. -/
import Derived.Test.YtofbadmjopefpaaWordC
namespace Go.Proofs.Ytofbadmjopefpaa
open Go.RowKit
set_option maxHeartbeats 400000

theorem rarity_any (o : Int) (h0 : 0 ≤ o) (h1 : o ≤ 255) (w : World) :
    Calls Try.prog 69 #[.int .u8 o] w fun e w' => e = .returned (.tuple #[.int .i64 (if 21 < o then 0 else aryN o.toNat), .int .i64 (if 21 < o then 3 else 0)]) ∧ w = w' := by
  obtain ⟨n, rfl⟩ := Int.eq_ofNat_of_zero_le h0
  by_cases a1 : n ≤ 1
  · have hr : aryN n = 0 := by unfold aryN; rw [if_pos a1]
    go_enter Try.func69, Try.ntmps69
    go_wp2
    go_ret2
    simp 
  by_cases a2 : n ≤ 3
  · have hr : aryN n = 1 := by unfold aryN; rw [if_neg a1, if_pos a2]
    go_enter Try.func69, Try.ntmps69
    go_wp2
    go_ret2
    simp 
  by_cases a3 : n = 21
  · subst a3
    go_enter Try.func69, Try.ntmps69
    go_wp2
    go_ret2
    exact ⟨rfl, rfl⟩
  have hr : aryN n = 2 := by unfold aryN; rw [if_neg a1, if_neg a2, if_neg a3]
  have hd : ((n : Int) == 21) = false := by simp; omega
  by_cases a4 : 21 < n
  · have h4 : 21 < (n : Int) := by omega
    go_enter Try.func69, Try.ntmps69
    go_wp2
    go_ret2
    simp 
  · have h4 : ¬ 21 < (n : Int) := by omega
    go_enter Try.func69, Try.ntmps69
    go_wp2
    go_ret2
    simp 
end Go.Proofs.Ytofbadmjopefpaa
