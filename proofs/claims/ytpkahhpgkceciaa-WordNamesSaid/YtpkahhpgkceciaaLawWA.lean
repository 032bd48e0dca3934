/- Laws of words: 'known', and WordApplies, WordAll. -/
import Derived.Test.YtpkahhpgkceciaaRefX
import Derived.Test.YtpkahhpgkceciaaBase
namespace Go.Proofs.Ytpkahhpgkceciaa
open Go.RowKit
set_option maxHeartbeats 400000

theorem is_true (want o W : Int) (v : Value) (xs : List Int) (w : World) (h0 : 0 ≤ o) (h1 : o ≤ 255) (hs : SliceOf w .u64 v xs) (hx : U64s xs) (hn : xs.length ≤ 9223372036854775807)
    (hI : wI o W xs = want) (hE : wE o W xs.length = 0) :
    Calls Try.prog 50 #[.int .u64 want, .int .u8 o, .int .i64 W, v] w fun e w' => e = .returned (.bool true) ∧ Below w.heap.size w w' := by
  have HA := Lib.hid (fun w' hs' => apply_any o W h0 h1 v xs w' hs' hx hn)
  have hd : (wI o W xs == want) = true := by simp [hI]
  have hd2 : (wE o W xs.length == 0) = true := by simp [hE]
  have Hs := Lib.hid hs
  clear hI hE hs hx hn
  generalize wI o W xs = I at *
  generalize wE o W xs.length = E at *
  go_enter Try.func50, Try.ntmps50
  go_wp2_with (go_at_call 31; refine (HA.out _ Hs.out).mono ?_; rintro e w1 ⟨rfl, hb1⟩)
  go_ret
  exact ⟨rfl, hb1⟩
theorem known_any (w : World) : Calls Try.prog 30 #[] w fun e w' => e = .returned (.bool true) ∧ Below w.heap.size w w' := by
  go_enter Try.func30, Try.ntmps30
  go_wp2_with fail
  refine (is_true 3 4 3 _ [5, 6] _ (by decide) (by decide) (sliceOf_new w .u64 31 [5, 6] 2) (by simp [U64s]) (by decide) (by decide) (by decide)).mono ?_
  rintro e w1 ⟨rfl, hb1⟩
  go_wp2_with fail
  refine (is_true 7 14 3 _ [6, 1] _ (by decide) (by decide) (sliceOf_new w1 .u64 31 [6, 1] 2) (by simp [U64s]) (by decide) (by decide) (by decide)).mono ?_
  rintro e w2 ⟨rfl, hb2⟩
  go_wp2
  go_ret
  refine ⟨rfl, ?_⟩
  have h1 := (below_new w _).trans (hb1.mono (by simp))
  exact (h1.alloc h1.size _).trans (hb2.mono (by have := h1.size; simp; omega))
theorem wordApplies_walk (o W : Int) (a : Option Addr) (n cap : Nat) (xs : List Int) (w : World) (h0 : 0 ≤ o) (h1 : o ≤ 255) (_hW0 : -9223372036854775808 ≤ W) (_hW1 : W ≤ 9223372036854775807)
    (hs : SliceOf w .u64 (.slice a n cap) xs) (hx : U64s xs) (hl : xs.length = n) (hn : n ≤ 9223372036854775807) :
    Calls Try.prog 7 #[.int .u8 o, .int .i64 W, .slice a n cap] w fun e w' => e = .returned (.bool true) ∧ Below w.heap.size w w' := by
  by_cases h10 : 10 < n
  · clear hl hs hx
    go_enter Try.func7, Try.ntmps7
    go_wp2_with (go_at_call 30; refine (known_any _).mono ?_; rintro e w1 ⟨rfl, hb1⟩)
    go_ret
    exact ⟨rfl, hb1⟩
  · have Hs := Lib.hid hs; have Hx := Lib.hid hx; have Hl := Lib.hid hl; clear hs hx hl
    go_enter Try.func7, Try.ntmps7
    go_wp2_with fail
    refine (copyNums_any xs _ _ Hs.out (by have := Hl.out; omega)).mono ?_
    rintro e w1 ⟨v1, rfl, hv1, hb1⟩
    have Hv := Lib.hid hv1; clear hv1
    go_wp2_with fail
    refine (apply_any o W h0 h1 _ xs _ Hv.out.slice Hx.out (by have := Hl.out; omega)).mono ?_
    rintro e w2 ⟨rfl, hb2⟩
    have Hs2 := Lib.hid (Hs.out.below (hb1.trans (hb2.mono hb1.size)))
    go_wp2_with fail
    refine (rapply_any o W h0 h1 _ xs _ Hs2.out Hx.out (by have := Hl.out; omega)).mono ?_
    rintro e w' ⟨rfl, rfl⟩
    go_wp2_with (go_at_call 30; refine (known_any _).mono ?_; rintro e w3 ⟨rfl, hb3⟩)
    go_ret
    have hb := hb1.trans (hb2.mono hb1.size)
    exact ⟨rfl, hb.trans (hb3.mono hb.size)⟩
end Go.Proofs.Ytpkahhpgkceciaa
