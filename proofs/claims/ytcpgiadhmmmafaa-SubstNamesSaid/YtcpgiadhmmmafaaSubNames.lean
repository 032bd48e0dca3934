/- SubstNames: the chapter's examples, and what is refused. Printed by gensubnames.py. -/
import Derived.Test.YtcpgiadhmmmafaaSubH
import Derived.Test.YtcpgiadhmmmafaaSimpA
namespace Go.Proofs.Ytcpgiadhmmmafaa
open Go.RowKit Go.Maps
set_option maxHeartbeats 1600000

set_option maxRecDepth 100000 in
theorem substNames_walk (w : World) : Calls Try.prog 8 #[] w fun e w' => e = .returned (.bool true) ∧ Below w.heap.size w w' := by
  have e0 : appR 1048576 (ex13) 4 [1, 2] = (ex13 ++ [(4, 0, [1, 2])], 3, 0) := by decide
  have e1 : subst2R 2 1048576 (ex13 ++ [(4, 0, [1, 2])]) 2 [0] [2] = (ex13 ++ [(4, 0, [1, 2])], 3, 0) := by decide
  have e2 : constR 2 1048576 (ex13 ++ [(4, 0, [1, 2])]) 2 = (ex13 ++ [(4, 0, [1, 2]), (0, 2, [])], 4, 0) := by decide
  have e3 : constR 2 1048576 (ex13 ++ [(4, 0, [1, 2]), (0, 2, [])]) 3 = (ex13 ++ [(4, 0, [1, 2]), (0, 2, []), (0, 3, [])], 5, 0) := by decide
  have e4 : subst2R 2 1048576 (ex13 ++ [(4, 0, [1, 2]), (0, 2, []), (0, 3, [])]) 2 [0, 1] [5, 4] = (ex13 ++ [(4, 0, [1, 2]), (0, 2, []), (0, 3, []), (0, 1, [])], 6, 0) := by decide
  have e6 : subst2R 2 1048576 (ex13 ++ [(4, 0, [1, 2]), (0, 2, []), (0, 3, []), (0, 1, [])]) 2 [0, 0] [0, 0] = (ex13 ++ [(4, 0, [1, 2]), (0, 2, []), (0, 3, []), (0, 1, [])], 0, 8) := by decide
  have e7 : subst2R 2 1048576 (ex13 ++ [(4, 0, [1, 2]), (0, 2, []), (0, 3, []), (0, 1, [])]) 2 [0] [] = (ex13 ++ [(4, 0, [1, 2]), (0, 2, []), (0, 3, []), (0, 1, [])], 0, 2) := by decide
  have e8 : subst2R 2 1048576 (ex13 ++ [(4, 0, [1, 2]), (0, 2, []), (0, 3, []), (0, 1, [])]) 99 [0] [] = (ex13 ++ [(4, 0, [1, 2]), (0, 2, []), (0, 3, []), (0, 1, [])], 0, 3) := by decide
  have e9 : subst2R 2 1048576 (ex13 ++ [(4, 0, [1, 2]), (0, 2, []), (0, 3, []), (0, 1, [])]) 2 [0, 0] [99, 0] = (ex13 ++ [(4, 0, [1, 2]), (0, 2, []), (0, 3, []), (0, 1, [])], 0, 3) := by decide
  have e10 : subst2R 2 1048576 (ex13 ++ [(4, 0, [1, 2]), (0, 2, []), (0, 3, []), (0, 1, [])]) 2 [-5, 7] [0, -1] = (ex13 ++ [(4, 0, [1, 2]), (0, 2, []), (0, 3, []), (0, 1, [])], 0, 3) := by decide
  have e12 : subst2R 2 1048576 (ex13 ++ [(4, 0, [1, 2]), (0, 2, []), (0, 3, []), (0, 1, [])]) 2 [-5, 1099511627776] [0, 1] = (ex13 ++ [(4, 0, [1, 2]), (0, 2, []), (0, 3, []), (0, 1, [])], 2, 0) := by decide
  have g0 : GoodL 2 (ex13) := by unfold GoodL NodeGood; decide
  have g1 : GoodL 2 (ex13 ++ [(4, 0, [1, 2])]) := by unfold GoodL NodeGood; decide
  have g2 : GoodL 2 (ex13 ++ [(4, 0, [1, 2]), (0, 2, [])]) := by unfold GoodL NodeGood; decide
  have g3 : GoodL 2 (ex13 ++ [(4, 0, [1, 2]), (0, 2, []), (0, 3, [])]) := by unfold GoodL NodeGood; decide
  have g4 : GoodL 2 (ex13 ++ [(4, 0, [1, 2]), (0, 2, []), (0, 3, []), (0, 1, [])]) := by unfold GoodL NodeGood; decide
  have n1 : numD (ex13 ++ [(4, 0, [1, 2]), (0, 2, []), (0, 3, []), (0, 1, [])]) 6 = 1 := by decide
  have n2 : isNum (ex13 ++ [(4, 0, [1, 2]), (0, 2, []), (0, 3, []), (0, 1, [])]) 6 = true := by decide
  have E0 := Lib.hid e0; have E1 := Lib.hid e1; have E2 := Lib.hid e2; have E3 := Lib.hid e3; have E4 := Lib.hid e4; have E6 := Lib.hid e6; have E7 := Lib.hid e7; have E8 := Lib.hid e8; have E9 := Lib.hid e9; have E10 := Lib.hid e10; have E12 := Lib.hid e12; have G0 := Lib.hid g0; have G1 := Lib.hid g1; have G2 := Lib.hid g2; have G3 := Lib.hid g3; have G4 := Lib.hid g4; have N1 := Lib.hid n1; have N2 := Lib.hid n2; have H0 := Lib.hid (Lab.nil (Below.refl w.heap.size w))
  clear e0 e1 e2 e3 e4 e6 e7 e8 e9 e10 e12 g0 g1 g2 g3 g4 n1 n2
  go_enter Try.func8, Try.ntmps8
  go_wp2_with fail
  go_at_call 38
  refine H0.out.example13.mono ?_
  rintro e w1 ⟨gb, F, I, rfl, h1⟩
  have K0 := Lib.hid h1; clear h1
  go_wp2_with fail
  go_at_call 29
  refine (app_any ((K0.out.later (below_new _ _)).gr) 4 (by decide) [1, 2] _ (sliceOf_new _ .i64 3 [1, 2] 2)).mono ?_
  intro e w2 hp
  obtain ⟨F0, I0, rfl, h⟩ := (K0.out.later (below_new _ _)).gpost hp
  rw [E0.out] at h ⊢
  have K1 := Lib.hid h; clear h hp
  go_wp2_with fail
  go_at_call 39
  refine (K1.out.subst_lit 2 [0] [2] 1 1 G1.out (by decide) (by decide) (by decide) E1.out).mono ?_
  rintro e w3 ⟨F1, I1, rfl, h⟩
  have K2 := Lib.hid h; clear h
  go_wp2_with fail
  go_at_call 40
  refine (const_any K2.out.gr 2 (by decide)).mono ?_
  intro e w4 hp
  obtain ⟨F2, I2, rfl, h⟩ := K2.out.gpost hp
  rw [E2.out] at h ⊢
  have K3 := Lib.hid h; clear h hp
  go_wp2_with fail
  go_at_call 40
  refine (const_any K3.out.gr 3 (by decide)).mono ?_
  intro e w5 hp
  obtain ⟨F3, I3, rfl, h⟩ := K3.out.gpost hp
  rw [E3.out] at h ⊢
  have K4 := Lib.hid h; clear h hp
  go_wp2_with fail
  go_at_call 39
  refine (K4.out.subst_lit 2 [0, 1] [5, 4] 2 2 G3.out (by decide) (by decide) (by decide) E4.out).mono ?_
  rintro e w6 ⟨F4, I4, rfl, h⟩
  have K5 := Lib.hid h; clear h
  go_wp2_with fail
  go_at_call 31
  refine (number_any K5.out.gr 6).mono ?_
  rintro e w7 ⟨rfl, hb⟩
  rw [N1.out, N2.out]
  have K6 := Lib.hid (K5.out.later hb); clear hb
  go_wp2_with fail
  go_at_call 39
  refine (K6.out.subst_lit 2 [0, 0] [0, 0] 2 2 G4.out (by decide) (by decide) (by decide) E6.out).mono ?_
  rintro e w8 ⟨F6, I6, rfl, h⟩
  have K7 := Lib.hid h; clear h
  go_wp2_with fail
  go_at_call 39
  refine ((K7.out.later (below_new _ _)).subst 2 _ _ [0] [] (sliceOf_new _ .i64 3 [0] 1) (sliceOf_nil _ .i64) G4.out (by decide) (by decide) (by decide) E7.out).mono ?_
  rintro e w9 ⟨F7, I7, rfl, h⟩
  have K8 := Lib.hid h; clear h
  go_wp2_with fail
  go_at_call 39
  refine ((K8.out.later (below_new _ _)).subst 99 _ _ [0] [] (sliceOf_new _ .i64 3 [0] 1) (sliceOf_nil _ .i64) G4.out (by decide) (by decide) (by decide) E8.out).mono ?_
  rintro e w10 ⟨F8, I8, rfl, h⟩
  have K9 := Lib.hid h; clear h
  go_wp2_with fail
  go_at_call 39
  refine (K9.out.subst_lit 2 [0, 0] [99, 0] 2 2 G4.out (by decide) (by decide) (by decide) E9.out).mono ?_
  rintro e w11 ⟨F9, I9, rfl, h⟩
  have K10 := Lib.hid h; clear h
  go_wp2_with fail
  go_at_call 39
  refine (K10.out.subst_lit 2 [-5, 7] [0, -1] 2 2 G4.out (by decide) (by decide) (by decide) E10.out).mono ?_
  rintro e w12 ⟨F10, I10, rfl, h⟩
  have K11 := Lib.hid h; clear h
  go_wp2_with fail
  go_at_call 39
  refine (subst_nil _ 0 (.slice none 0 0) (.slice none 0 0)).mono ?_
  rintro e w13 ⟨rfl, hb⟩
  have K12 := Lib.hid (K11.out.later hb); clear hb
  go_wp2_with fail
  go_at_call 39
  refine (K12.out.subst_lit 2 [-5, 1099511627776] [0, 1] 2 2 G4.out (by decide) (by decide) (by decide) E12.out).mono ?_
  rintro e w14 ⟨F12, I12, rfl, h⟩
  have K13 := Lib.hid h; clear h
  go_wp2_with fail
  go_at_call 41
  refine (K13.out.awake13).mono ?_
  rintro e w15 ⟨rfl, hb⟩
  go_wp2
  go_ret
  exact ⟨rfl, hb⟩
end Go.Proofs.Ytcpgiadhmmmafaa
