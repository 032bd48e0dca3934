/- SupportNames. -/
import Derived.Test.YtofbadmjopefpaaSupC
namespace Go.Proofs.Ytofbadmjopefpaa
open Go.RowKit Go.Maps
set_option maxHeartbeats 3200000

section
variable {w0 wr w' : World} {ts : List Thing} {F I : List Nat} {gb W room : Nat} {L : List PNode}
theorem Lab.vars14_nil (h : Lab w0 wr (Thing.graph F I gb W room L :: ts)) (hg : GoodL W L) (hp : (varsS L (occS L [])).Perm []) :
    Calls Try.prog 11 #[.pointer (some ⟨gb, 0, none⟩), .slice none 0 0, .slice none 0 0] wr fun e w' => e = .returned (.bool true) ∧ Lab w0 w' (Thing.graph F I gb W room L :: ts) := by
  refine (h.nil_ints.swap.vars14 hg (.slice none 0 0) [] (fun w _ => sliceOf_nil w .i64) (by decide) (.slice none 0 0) [] (sliceOf_nil wr .i64) (by decide) (by intro t ht; cases ht)).mono ?_
  rintro e w2 ⟨rfl, hl⟩
  exact ⟨by rw [decide_eq_true (varsO_of hp .nil)], hl⟩
theorem Lab.size14_nil (h : Lab w0 wr (Thing.graph F I gb W room L :: ts)) (hp : cntS L (occS L []) = 0) :
    Calls Try.prog 12 #[.pointer (some ⟨gb, 0, none⟩), .int .i64 0, .slice none 0 0] wr fun e w' => e = .returned (.bool true) ∧ Lab w0 w' (Thing.graph F I gb W room L :: ts) := by
  refine (h.size14 0 (.slice none 0 0) [] (sliceOf_nil wr .i64) (by decide) (by intro t ht; cases ht)).mono ?_
  rintro e w2 ⟨rfl, hl⟩
  exact ⟨by rw [hp]; rfl, hl⟩
/-- Vars and Size, of terms that are not all there. -/
theorem Lab.vars_bad (h : Lab w0 wr (Thing.graph F I gb W room L :: ts)) (hg : GoodL W L) (us : List Int) (c : Nat) (hn : us.length ≤ 900000000) (hin : ¬ InL L us) :
    Calls Try.prog 13 #[.pointer (some ⟨gb, 0, none⟩), .slice (some ⟨wr.heap.size, 0, none⟩) us.length c] (wr.alloc (.cells (us.map (Value.int .i64)).toArray 3)) fun e w' => e = .returned (.tuple #[.slice none 0 0, .int .i64 3]) ∧ Lab w0 w' (Thing.graph F I gb W room L :: ts) :=
  ((h.later (below_new _ _)).vars hg _ us (sliceOf_new wr .i64 3 us c) hn).mono fun e w' ⟨_, h2⟩ => by
    obtain ⟨rfl, rfl⟩ := h2 hin
    exact ⟨rfl, h.later (below_new _ _)⟩
theorem Lab.size_bad (h : Lab w0 wr (Thing.graph F I gb W room L :: ts)) (us : List Int) (c : Nat) (hn : us.length ≤ 900000000) (hin : ¬ InL L us) :
    Calls Try.prog 14 #[.pointer (some ⟨gb, 0, none⟩), .slice (some ⟨wr.heap.size, 0, none⟩) us.length c] (wr.alloc (.cells (us.map (Value.int .i64)).toArray 3)) fun e w' => e = .returned (.tuple #[.int .i64 0, .int .i64 3]) ∧ Lab w0 w' (Thing.graph F I gb W room L :: ts) :=
  ((h.later (below_new _ _)).sizeOf _ us (sliceOf_new wr .i64 3 us c) hn).mono fun e w' ⟨_, h2⟩ => by
    obtain ⟨rfl, rfl⟩ := h2 hin
    exact ⟨rfl, h.later (below_new _ _)⟩
end
set_option maxRecDepth 100000 in
theorem supportNames_walk (w : World) : Calls Try.prog 3 #[] w fun e w' => e = .returned (.bool true) ∧ Below w.heap.size w w' := by
  have g1 : GoodL 8 ex14 := by unfold GoodL NodeGood; decide
  have i1 : InL ex14 [2, 1] := by unfold InL; decide
  have i2 : InL ex14 [2, 3] := by unfold InL; decide
  have i3 : InL ex14 [0] := by unfold InL; decide
  have i4 : ¬ InL ex14 [2, 99] := by unfold InL; decide
  have i5 : ¬ InL ex14 [-1, 2] := by unfold InL; decide
  have p1 : (varsS ex14 (occS ex14 [2, 1])).Perm [2, 5] := by decide
  have p2 : (varsS ex14 (occS ex14 [])).Perm [] := by decide
  have n1 : cntS ex14 (occS ex14 [2, 3]) = 4 := by decide
  have n2 : cntS ex14 (occS ex14 [0]) = 1 := by decide
  have n3 : cntS ex14 (occS ex14 []) = 0 := by decide
  have G1 := Lib.hid g1; have I1 := Lib.hid i1; have I2 := Lib.hid i2; have I3 := Lib.hid i3; have I4 := Lib.hid i4; have I5 := Lib.hid i5; have P1 := Lib.hid p1; have P2 := Lib.hid p2; have N1 := Lib.hid n1; have N2 := Lib.hid n2; have N3 := Lib.hid n3; have H0 := Lib.hid (Lab.nil (Below.refl w.heap.size w))
  clear g1 i1 i2 i3 i4 i5 p1 p2 n1 n2 n3
  go_enter Try.func3, Try.ntmps3
  go_wp2_with fail
  go_at_call 10
  refine H0.out.example14.mono ?_
  rintro e w1 ⟨gb, F, I, rfl, h1⟩
  have H1 := Lib.hid h1; clear h1
  go_wp2_with fail
  go_at_call 11
  refine (H1.out.vars14_lit G1.out [2, 5] [2, 1] 2 2 (by decide) (by decide) I1.out P1.out (by decide)).mono ?_
  rintro e w2 ⟨rfl, h2⟩
  have H2 := Lib.hid h2; clear h2
  go_wp2_with fail
  go_at_call 11
  refine (H2.out.vars14_nil G1.out P2.out).mono ?_
  rintro e w3 ⟨rfl, h3⟩
  have H3 := Lib.hid h3; clear h3
  go_wp2_with fail
  go_at_call 12
  refine (H3.out.size14_lit 4 [2, 3] 2 (by decide) I2.out N1.out).mono ?_
  rintro e w4 ⟨rfl, h4⟩
  have H4 := Lib.hid h4; clear h4
  go_wp2_with fail
  go_at_call 12
  refine (H4.out.size14_lit 1 [0] 1 (by decide) I3.out N2.out).mono ?_
  rintro e w5 ⟨rfl, h5⟩
  have H5 := Lib.hid h5; clear h5
  go_wp2_with fail
  go_at_call 12
  refine (H5.out.size14_nil N3.out).mono ?_
  rintro e w6 ⟨rfl, h6⟩
  have H6 := Lib.hid h6; clear h6
  go_wp2_with fail
  go_at_call 13
  refine (H6.out.vars_bad G1.out [2, 99] 2 (by decide) I4.out).mono ?_
  rintro e w7 ⟨rfl, h7⟩
  have H7 := Lib.hid h7; clear h7
  go_wp2_with fail
  go_at_call 14
  refine (H7.out.size_bad [-1, 2] 2 (by decide) I5.out).mono ?_
  rintro e w8 ⟨rfl, h8⟩
  have H8 := Lib.hid h8; clear h8
  go_wp2_with fail
  go_at_call 13
  refine (vars_nil _ _).mono ?_
  rintro e w9 ⟨rfl, rfl⟩
  have H9 := Lib.hid (H8.out.later (below_new _ (.cells #[.int .i64 0] 3)))
  go_wp2_with fail
  go_at_call 14
  refine (size_nil _ _).mono ?_
  rintro e w10 ⟨rfl, rfl⟩
  have HA := Lib.hid (H9.out.drop.awake14)
  go_wp2_with fail
  go_at_call 15
  refine HA.out.mono ?_
  rintro e w11 ⟨rfl, hb⟩
  go_wp2
  go_ret
  exact ⟨rfl, hb⟩
end Go.Proofs.Ytofbadmjopefpaa
