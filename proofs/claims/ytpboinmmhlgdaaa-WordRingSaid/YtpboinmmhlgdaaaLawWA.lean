/- Laws of words: 'known', and WordApplies, WordAll. -/
import Derived.Test.YtpboinmmhlgdaaaBase
namespace Go.Proofs.Ytpboinmmhlgdaaa
open Go.RowKit
set_option maxHeartbeats 400000

theorem is_true (want o W : Int) (v : Value) (xs : List Int) (w : World) (h0 : 0 ≤ o) (h1 : o ≤ 255) (hs : SliceOf w .u64 v xs) (hx : U64s xs) (hn : xs.length ≤ 9223372036854775807)
    (hI : wI o W xs = want) (hE : wE o W xs.length = 0) :
    Calls Try.prog 11 #[.int .u64 want, .int .u8 o, .int .i64 W, v] w fun e w' => e = .returned (.bool true) ∧ Below w.heap.size w w' := by
  have HA := Lib.hid (fun w' hs' => apply_any o W h0 h1 v xs w' hs' hx hn)
  have hd : (wI o W xs == want) = true := by simp [hI]
  have hd2 : (wE o W xs.length == 0) = true := by simp [hE]
  have Hs := Lib.hid hs
  clear hI hE hs hx hn
  generalize wI o W xs = I at *
  generalize wE o W xs.length = E at *
  go_enter Try.func11, Try.ntmps11
  go_wp2_with (go_at_call 9; refine (HA.out _ Hs.out).mono ?_; rintro e w1 ⟨rfl, hb1⟩)
  go_ret
  exact ⟨rfl, hb1⟩
theorem known_any (w : World) : Calls Try.prog 8 #[] w fun e w' => e = .returned (.bool true) ∧ Below w.heap.size w w' := by
  go_enter Try.func8, Try.ntmps8
  go_wp2_with fail
  refine (is_true 3 4 3 _ [5, 6] _ (by decide) (by decide) (sliceOf_new w .u64 22 [5, 6] 2) (by simp [U64s]) (by decide) (by decide) (by decide)).mono ?_
  rintro e w1 ⟨rfl, hb1⟩
  go_wp2_with fail
  refine (is_true 7 14 3 _ [6, 1] _ (by decide) (by decide) (sliceOf_new w1 .u64 22 [6, 1] 2) (by simp [U64s]) (by decide) (by decide) (by decide)).mono ?_
  rintro e w2 ⟨rfl, hb2⟩
  go_wp2
  go_ret
  refine ⟨rfl, ?_⟩
  have h1 := (below_new w _).trans (hb1.mono (by simp))
  exact (h1.alloc h1.size _).trans (hb2.mono (by have := h1.size; simp; omega))
end Go.Proofs.Ytpboinmmhlgdaaa
