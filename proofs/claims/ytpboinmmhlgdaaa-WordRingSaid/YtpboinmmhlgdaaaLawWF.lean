/- Laws of words: WordShifts. -/
import Derived.Test.YtpboinmmhlgdaaaLawWD
namespace Go.Proofs.Ytpboinmmhlgdaaa
open Go.RowKit
set_option maxHeartbeats 400000

/-- A power of two, as a word of 64 bits. -/
theorem pow_word (b : Nat) (h : b < 64) : ∃ p : Nat, IntKind.u64.wrap (2 ^ b) = (p : Int) ∧ p ≤ 18446744073709551615 ∧ Hid (p = 2 ^ b) := by
  have hl : 2 ^ b < 18446744073709551616 := by
    have := Nat.pow_lt_pow_right (a := 2) (by decide) h; simpa using this
  refine ⟨2 ^ b, ?_, by omega, rfl⟩
  have e : (2 : Int) ^ b = ((2 ^ b : Nat) : Int) := by simp
  rw [e, wrap_u64_nat, Nat.mod_eq_of_lt hl]
end Go.Proofs.Ytpboinmmhlgdaaa
