/- Which operators commute. -/
import Derived.Test.YtpboinmmhlgdaaaWordC
namespace Go.Proofs.Ytpboinmmhlgdaaa
open Go.RowKit
set_option maxHeartbeats 400000

theorem commutes_any (o : Nat) (_h1 : o ≤ 21) (w : World) :
    Calls Try.prog 5 #[.int .u8 o] w fun e w' => e = .returned (.bool (decide (o = 4 ∨ o = 6 ∨ o = 9 ∨ o = 10 ∨ o = 11 ∨ o = 15 ∨ o = 16))) ∧ w = w' := by
  obtain ⟨B, hB⟩ : ∃ B, decide (o = 4 ∨ o = 6 ∨ o = 9 ∨ o = 10 ∨ o = 11 ∨ o = 15 ∨ o = 16) = B := ⟨_, rfl⟩
  rw [hB]
  have HB := Lib.hid hB
  clear hB
  by_cases g4 : o = 4
  · have q4 : ((o : Int) == 4) = true := by rw [beq_iff_eq]; omega
    obtain rfl : B = true := by rw [← HB.out]; exact decide_eq_true (by omega)
    clear g4
    go_enter Try.func5, Try.ntmps5
    go_wp2
    go_ret
    exact ⟨rfl, rfl⟩
  have q4 : ((o : Int) == 4) = false := by rw [beq_eq_false_iff_ne]; omega
  by_cases g6 : o = 6
  · have q6 : ((o : Int) == 6) = true := by rw [beq_iff_eq]; omega
    obtain rfl : B = true := by rw [← HB.out]; exact decide_eq_true (by omega)
    clear g4 g6
    go_enter Try.func5, Try.ntmps5
    go_wp2
    go_ret
    exact ⟨rfl, rfl⟩
  have q6 : ((o : Int) == 6) = false := by rw [beq_eq_false_iff_ne]; omega
  by_cases g9 : o = 9
  · have q9 : ((o : Int) == 9) = true := by rw [beq_iff_eq]; omega
    obtain rfl : B = true := by rw [← HB.out]; exact decide_eq_true (by omega)
    clear g4 g6 g9
    go_enter Try.func5, Try.ntmps5
    go_wp2
    go_ret
    exact ⟨rfl, rfl⟩
  have q9 : ((o : Int) == 9) = false := by rw [beq_eq_false_iff_ne]; omega
  by_cases g10 : o = 10
  · have q10 : ((o : Int) == 10) = true := by rw [beq_iff_eq]; omega
    obtain rfl : B = true := by rw [← HB.out]; exact decide_eq_true (by omega)
    clear g4 g6 g9 g10
    go_enter Try.func5, Try.ntmps5
    go_wp2
    go_ret
    exact ⟨rfl, rfl⟩
  have q10 : ((o : Int) == 10) = false := by rw [beq_eq_false_iff_ne]; omega
  by_cases g11 : o = 11
  · have q11 : ((o : Int) == 11) = true := by rw [beq_iff_eq]; omega
    obtain rfl : B = true := by rw [← HB.out]; exact decide_eq_true (by omega)
    clear g4 g6 g9 g10 g11
    go_enter Try.func5, Try.ntmps5
    go_wp2
    go_ret
    exact ⟨rfl, rfl⟩
  have q11 : ((o : Int) == 11) = false := by rw [beq_eq_false_iff_ne]; omega
  by_cases g15 : o = 15
  · have q15 : ((o : Int) == 15) = true := by rw [beq_iff_eq]; omega
    obtain rfl : B = true := by rw [← HB.out]; exact decide_eq_true (by omega)
    clear g4 g6 g9 g10 g11 g15
    go_enter Try.func5, Try.ntmps5
    go_wp2
    go_ret
    exact ⟨rfl, rfl⟩
  have q15 : ((o : Int) == 15) = false := by rw [beq_eq_false_iff_ne]; omega
  by_cases g16 : o = 16
  · have q16 : ((o : Int) == 16) = true := by rw [beq_iff_eq]; omega
    obtain rfl : B = true := by rw [← HB.out]; exact decide_eq_true (by omega)
    clear g4 g6 g9 g10 g11 g15 g16
    go_enter Try.func5, Try.ntmps5
    go_wp2
    go_ret
    exact ⟨rfl, rfl⟩
  have q16 : ((o : Int) == 16) = false := by rw [beq_eq_false_iff_ne]; omega
  obtain rfl : B = false := by rw [← HB.out]; exact decide_eq_false (by omega)
  clear g4 g6 g9 g10 g11 g15 g16
  go_enter Try.func5, Try.ntmps5
  go_wp2
  go_ret
  exact ⟨rfl, rfl⟩
end Go.Proofs.Ytpboinmmhlgdaaa
