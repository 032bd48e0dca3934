/- EvalNames of law 11. -/
import Derived.Test.YteofgmjejocleaaEvalF
namespace Go.Proofs.Yteofgmjejocleaa
open Go.RowKit Go.Maps
set_option maxHeartbeats 800000

section
variable {w0 wr w' : World} {ts : List Thing} {F I : List Nat} {gb W room : Nat} {L : List PNode}
theorem Lab.all (h : Lab w0 wr (Thing.graph F I gb W room L :: ts)) (xs vals : List Int) (v vv : Value) (hv : SliceOf wr .i64 v xs) (hvv : SliceOf wr .u64 vv vals) (hn : xs.length ≤ 1000000000) (hvl : vals.length ≤ 9223372036854775807) (hvu : U64s vals) {R : List Int × Nat} (hR : allR W vals L xs = R) :
    Calls Try.prog 12 #[.pointer (some ⟨gb, 0, none⟩), v, vv] wr fun e w' => ∃ a m c, e = .returned (.tuple #[.slice a m c, .int .i64 R.2]) ∧ Lab w0 w' (Thing.graph F I gb W room L :: Thing.nums (.slice a m c) R.1 :: ts) := by
  subst hR
  refine (all_any h.gr xs vals v vv hv hvv hn hvl hvu).mono ?_
  rintro e w' ⟨a, m, c, rfl, ho, hb⟩
  exact ⟨a, m, c, rfl, (h.new_nums hb ho).swap⟩
theorem Lab.evalnil (h : Lab w0 wr ts) (t : Int) (vv : Value) (hv : ∃ a n c, vv = .slice a n c) : Calls Try.prog 11 #[.pointer none, .int .i64 t, vv] wr fun e w' => e = .returned (.tuple #[.int .u64 0, .int .i64 1]) ∧ Lab w0 w' ts :=
  (eval_nil wr t vv hv).mono fun _e _w' ⟨he, hb⟩ => ⟨he, h.later hb⟩
theorem Lab.allnil (h : Lab w0 wr ts) (v vv : Value) (hv : ∃ a n c, vv = .slice a n c) : Calls Try.prog 12 #[.pointer none, v, vv] wr fun e w' => e = .returned (.tuple #[.slice none 0 0, .int .i64 1]) ∧ Lab w0 w' ts :=
  (all_nil wr v vv hv).mono fun _e _w' ⟨he, hb⟩ => ⟨he, h.later hb⟩
end
theorem nums_slice {w : World} {v : Value} {xs : List Int} (h : (Thing.nums v xs).holds w) : SliceOf w .u64 v xs := OwnInts.slice (k := .u64) h
theorem nums_len {w : World} {a : Option Addr} {m c : Nat} {xs : List Int} (h : (Thing.nums (.slice a m c) xs).holds w) : m = xs.length := by
  obtain ⟨_, _, _, e, hl, _⟩ := nums_slice h
  simp only [Value.slice.injEq] at e
  omega
set_option maxRecDepth 100000 in
theorem evalNames_walk (w : World) : Calls Try.prog 3 #[] w fun e w' => e = .returned (.bool true) ∧ Below w.heap.size w w' := by
  have e1 : evalR 4 [9, 0, 9] exL 5 = (4, 0) := by decide
  have e2 : evalR 4 [17, 5, 19, 6] exL 5 = (4, 0) := by decide
  have e3 : evalR 4 [3] exL 2 = (3, 0) := by decide
  have e4 : allR 4 [1, 0, 2] exL [2, 3, 2] = ([3, 9, 3], 0) := (allR_in (by unfold AllIn; decide)).trans (by decide)
  have e5 : allR 4 [1] exL [] = ([], 0) := (allR_in (by simp [AllIn])).trans rfl
  have e6 : evalR 4 [] exL 99 = (0, 3) := by decide
  have e7 : evalR 4 [] exL (-1) = (0, 3) := by decide
  have e8 : allR 4 [] exL [2, 99, 3] = ([], 3) := allR_out (by unfold AllIn; decide)
  have E1 := Lib.hid e1
  have E2 := Lib.hid e2
  have E3 := Lib.hid e3
  have E4 := Lib.hid e4
  have E5 := Lib.hid e5
  have E6 := Lib.hid e6
  have E7 := Lib.hid e7
  have E8 := Lib.hid e8
  have H0 := Lib.hid (Lab.nil (Below.refl w.heap.size w))
  clear e1 e2 e3 e4 e5 e6 e7 e8
  go_enter Try.func3, Try.ntmps3
  go_wp2_with fail
  go_at_call 10
  refine H0.out.example.mono ?_
  rintro e w1 ⟨gb, F, I, rfl, h1⟩
  have H1 := Lib.hid h1; clear h1
  go_wp2_with fail
  go_at_call 11
  refine ((H1.out.grL _).eval 5 [9, 0, 9] _ (sliceOf_new w1 .u64 25 [9, 0, 9] 3) (by decide) (by simp [U64s]) E1.out).mono ?_
  rintro e w2 ⟨rfl, h2⟩
  have H2 := Lib.hid h2; clear h2
  go_wp2_with fail
  go_at_call 11
  refine ((H2.out.grL _).eval 5 [17, 5, 19, 6] _ (sliceOf_new w2 .u64 25 [17, 5, 19, 6] 4) (by decide) (by simp [U64s]) E2.out).mono ?_
  rintro e w3 ⟨rfl, h3⟩
  have H3 := Lib.hid h3; clear h3
  go_wp2_with fail
  go_at_call 11
  refine ((H3.out.grL _).eval 2 [3] _ (sliceOf_new w3 .u64 25 [3] 1) (by decide) (by simp [U64s]) E3.out).mono ?_
  rintro e w4 ⟨rfl, h4⟩
  have H4 := Lib.hid h4; clear h4
  go_wp2_with fail
  go_at_call 12
  have hb4 := below_new w4 (.cells #[.int .i64 2, .int .i64 3, .int .i64 2] 3)
  refine (((H4.out.grL _).grL _).all [2, 3, 2] [1, 0, 2] _ _ ((sliceOf_new w4 .i64 3 [2, 3, 2] 3).below (below_new _ _)) (by simpa using sliceOf_new (w4.alloc (.cells #[.int .i64 2, .int .i64 3, .int .i64 2] 3)) .u64 25 [1, 0, 2] 3) (by decide) (by decide) (by simp [U64s]) E4.out).mono ?_
  rintro e w5 ⟨a5, m5, c5, rfl, h5⟩
  clear hb4
  have HV5 := Lib.hid (nums_slice h5.second)
  have H5 := Lib.hid h5.swap.drop; clear h5
  have hen := equalNums_any (.slice a5 m5 c5) _ [3, 9, 3] [3, 9, 3] (HV5.out.below (below_new w5 _)) (sliceOf_new w5 .u64 25 [3, 9, 3] 3) (by decide) (by decide)
  rw [decide_eq_true rfl] at hen
  have HEN := Lib.hid hen
  clear hen
  go_wp2_with (go_at_call 13; refine HEN.out.mono ?_; rintro e w6 ⟨rfl, hb6⟩; have H6 := Lib.hid ((H5.out.grL _).later hb6); clear hb6)
  refine ((H6.out.grL _).all [] [1] _ _ (sliceOf_nil _ _) (sliceOf_new w6 .u64 25 [1] 1) (by decide) (by decide) (by simp [U64s]) E5.out).mono ?_
  rintro e w7 ⟨a7, m7, c7, rfl, h7⟩
  obtain rfl : m7 = 0 := nums_len h7.second
  have H7 := Lib.hid h7.swap.drop; clear h7
  go_wp2_with fail
  go_at_call 11
  refine (H7.out.eval 99 [] _ (sliceOf_nil _ _) (by decide) (by simp [U64s]) E6.out).mono ?_
  rintro e w8 ⟨rfl, h8⟩
  have H8 := Lib.hid h8; clear h8
  go_wp2_with fail
  go_at_call 11
  refine (H8.out.eval (-1) [] _ (sliceOf_nil _ _) (by decide) (by simp [U64s]) E7.out).mono ?_
  rintro e w9 ⟨rfl, h9⟩
  have H9 := Lib.hid h9; clear h9
  go_wp2_with fail
  go_at_call 12
  refine ((H9.out.grL _).all [2, 99, 3] [] _ _ (sliceOf_new w9 .i64 3 [2, 99, 3] 3) (sliceOf_nil _ _) (by decide) (by decide) (by simp [U64s]) E8.out).mono ?_
  rintro e w10 ⟨a10, m10, c10, rfl, h10⟩
  obtain rfl : m10 = 0 := nums_len h10.second
  have H10 := Lib.hid h10.swap.drop; clear h10
  go_wp2_with fail
  go_at_call 12
  refine (H10.out.allnil _ _ ⟨none, 0, 0, rfl⟩).mono ?_
  rintro e w11 ⟨rfl, h11⟩
  have H11 := Lib.hid h11; clear h11
  go_wp2_with fail
  go_at_call 11
  refine (H11.out.evalnil _ _ ⟨none, 0, 0, rfl⟩).mono ?_
  rintro e w12 ⟨rfl, h12⟩
  have H12 := Lib.hid h12; clear h12
  go_wp2_with (go_at_call 14; refine H12.out.awake11.mono ?_; rintro e w13 ⟨rfl, hb13⟩)
  go_ret
  exact ⟨rfl, hb13⟩
end Go.Proofs.Yteofgmjejocleaa
