/- Package simp: rules(o): which rules an operator has. Printed by gensimpe.py. -/
import Derived.Test.YtcpgiadhmmmafaaSimpC
namespace Go.Proofs.Ytcpgiadhmmmafaa
open Go.RowKit Go.Maps
set_option maxHeartbeats 3200000

/-- The rules of an operator, in their order. -/
def rulesOf : Nat → List Rul
  | 2 => [.twice]
  | 3 => [.twice]
  | 4 => [.neutral 0]
  | 5 => [.neutral 0, .equal 0]
  | 6 => [.fixed 1 0 0, .neutral 1]
  | 7 => [.neutral 1]
  | 8 => [.fixed 1 1 0]
  | 9 => [.fixed 1 0 0, .full 1, .both]
  | 10 => [.neutral 0, .full 2, .both]
  | 11 => [.neutral 0, .full 3, .equal 0]
  | 12 => [.neutral 0, .beyond]
  | 13 => [.neutral 0, .beyond]
  | 14 => [.neutral 0]
  | 15 => [.equal 1]
  | 16 => [.equal 0]
  | 17 => [.equal 0, .fixed 1 0 0]
  | 18 => [.equal 1, .fixed 0 0 1]
  | 19 => [.equal 0]
  | 20 => [.equal 1]
  | 21 => [.chosen]
  | _ => []
def allRules : List (Nat × List Rul) := [(21, [.chosen]), (19, [.equal 0]), (17, [.equal 0, .fixed 1 0 0]), (16, [.equal 0]), (20, [.equal 1]), (18, [.equal 1, .fixed 0 0 1]), (15, [.equal 1]), (14, [.neutral 0]), (13, [.neutral 0, .beyond]), (12, [.neutral 0, .beyond]), (11, [.neutral 0, .full 3, .equal 0]), (10, [.neutral 0, .full 2, .both]), (9, [.fixed 1 0 0, .full 1, .both]), (8, [.fixed 1 1 0]), (7, [.neutral 1]), (6, [.fixed 1 0 0, .neutral 1]), (5, [.neutral 0, .equal 0]), (4, [.neutral 0]), (3, [.twice]), (2, [.twice])]
theorem rules_mem (o : Nat) (h1 : 2 ≤ o) (h2 : o ≤ 21) : (o, rulesOf o) ∈ allRules := by
  have : o = 2 ∨ o = 3 ∨ o = 4 ∨ o = 5 ∨ o = 6 ∨ o = 7 ∨ o = 8 ∨ o = 9 ∨ o = 10 ∨ o = 11 ∨ o = 12 ∨ o = 13 ∨ o = 14 ∨ o = 15 ∨ o = 16 ∨ o = 17 ∨ o = 18 ∨ o = 19 ∨ o = 20 ∨ o = 21 := by omega
  rcases this with rfl | rfl | rfl | rfl | rfl | rfl | rfl | rfl | rfl | rfl | rfl | rfl | rfl | rfl | rfl | rfl | rfl | rfl | rfl | rfl <;> simp [allRules, rulesOf]
theorem RMap.find {w0 w : World} {mb : Nat} (h : RMap w0 w mb allRules) (o : Nat) (h1 : 2 ≤ o) (h2 : o ≤ 21) :
    ∃ sb, (Instr.lookup 159 (.map (some mb)) (.int .u8 o) false).run Try.prog w = .ok (.slice (some ⟨sb, 0, none⟩) (rulesOf o).length (rulesOf o).length) w ∧ RowR w mb sb (rulesOf o) := by
  obtain ⟨f, c, hm, hd⟩ := h.map
  obtain ⟨sb, q1, q2⟩ := hd _ (rules_mem o h1 h2)
  exact ⟨sb, hm.hit (E := 119) Try.underlying5 Try.underlying159 (by simp [Lit.wf, IntKind.min, IntKind.max, IntKind.signed, IntKind.bits]; omega) q1 false, q2⟩
theorem one_rule {w : World} {mb : Nat} {r1 : Rul} {f1 : Value} (h1 : RulV w mb r1 f1) : ∀ (i : Nat) r, [r1][i]? = some r → ∃ f, (#[f1] : Array Value)[i]? = some f ∧ RulV w mb r f := by
  intro i r hi
  match i, hi with
  | 0, hi => obtain rfl := Option.some.inj hi; exact ⟨f1, rfl, h1⟩
theorem two_rules {w : World} {mb : Nat} {r1 r2 : Rul} {f1 f2 : Value} (h1 : RulV w mb r1 f1) (h2 : RulV w mb r2 f2) : ∀ (i : Nat) r, [r1, r2][i]? = some r → ∃ f, (#[f1, f2] : Array Value)[i]? = some f ∧ RulV w mb r f := by
  intro i r hi
  match i, hi with
  | 0, hi => obtain rfl := Option.some.inj hi; exact ⟨f1, rfl, h1⟩
  | 1, hi => obtain rfl := Option.some.inj hi; exact ⟨f2, rfl, h2⟩
theorem three_rules {w : World} {mb : Nat} {r1 r2 r3 : Rul} {f1 f2 f3 : Value} (h1 : RulV w mb r1 f1) (h2 : RulV w mb r2 f2) (h3 : RulV w mb r3 f3) : ∀ (i : Nat) r, [r1, r2, r3][i]? = some r → ∃ f, (#[f1, f2, f3] : Array Value)[i]? = some f ∧ RulV w mb r f := by
  intro i r hi
  match i, hi with
  | 0, hi => obtain rfl := Option.some.inj hi; exact ⟨f1, rfl, h1⟩
  | 1, hi => obtain rfl := Option.some.inj hi; exact ⟨f2, rfl, h2⟩
  | 2, hi => obtain rfl := Option.some.inj hi; exact ⟨f3, rfl, h3⟩
set_option maxRecDepth 100000 in
theorem rules_any (o : Nat) (h1 : 2 ≤ o) (h2 : o ≤ 21) (w : World) :
    Calls Try.prog 57 #[.int .u8 o] w fun e w' => ∃ mb sb, e = .returned (.slice (some ⟨sb, 0, none⟩) (rulesOf o).length (rulesOf o).length) ∧ RowR w' mb sb (rulesOf o) ∧ Below w.heap.size w w' := by
  obtain ⟨n, hn⟩ : ∃ n, (rulesOf o).length = n := ⟨_, rfl⟩
  rw [hn]
  have HN := Lib.hid hn
  have HO := Lib.hid (And.intro h1 h2)
  obtain ⟨mb, w0, hmk, hm0⟩ : ∃ mb w0, (Instr.makeMap 159 none).run Try.prog w = .ok (.map (some mb)) w0 ∧ RMap w w0 mb [] := ⟨_, _, run_makeMap _ w, RMap.start w⟩
  have M0 := Lib.hid hm0
  clear hm0 hn h1 h2
  obtain ⟨v1, r1, m1⟩ := M0.out.entry 2 2 rfl (by decide) (by simp) #[.func (.func 79) #[] #[]] [.twice] 1 rfl (one_rule (show RulV _ mb .twice _ from rfl))
  have N1 := Lib.hid m1
  clear m1
  obtain ⟨v2, r2, m2⟩ := N1.out.entry 3 3 rfl (by decide) (by simp) #[.func (.func 79) #[] #[]] [.twice] 1 rfl (one_rule (show RulV _ mb .twice _ from rfl))
  have N2 := Lib.hid m2
  clear m2
  go_enter Try.func57, Try.ntmps57
  go_wp2_with fail
  go_at_call 80
  refine (neutral_make (mb := mb) 0 _ N2.out.lt).mono ?_
  rintro e w1 ⟨_, rfl, ⟨b1, rfl, q1⟩, hb⟩
  have Q1 := Lib.hid (show RulV w1 mb (.neutral 0) (.func (.func 110) #[] #[.pointer (some ⟨b1, 0, none⟩)]) from ⟨_, rfl, q1⟩)
  have L1 := Lib.hid (N2.out.later hb)
  clear hb q1
  obtain ⟨v3, r3, m3⟩ := L1.out.entry 4 4 rfl (by decide) (by simp) #[.func (.func 110) #[] #[.pointer (some ⟨b1, 0, none⟩)]] [.neutral 0] 1 rfl (one_rule Q1.out)
  have N3 := Lib.hid m3
  clear m3
  go_wp2_with fail
  go_at_call 80
  refine (neutral_make (mb := mb) 0 _ N3.out.lt).mono ?_
  rintro e w2 ⟨_, rfl, ⟨b2, rfl, q2⟩, hb⟩
  have Q2 := Lib.hid (show RulV w2 mb (.neutral 0) (.func (.func 110) #[] #[.pointer (some ⟨b2, 0, none⟩)]) from ⟨_, rfl, q2⟩)
  have L2 := Lib.hid (N3.out.later hb)
  clear hb q2
  go_wp2_with fail
  go_at_call 81
  refine (equal_make (mb := mb) 0 _ L2.out.lt).mono ?_
  rintro e w3 ⟨_, rfl, ⟨b3, rfl, q3⟩, hb⟩
  have Q3 := Lib.hid (show RulV w3 mb (.equal 0) (.func (.func 112) #[] #[.pointer (some ⟨b3, 0, none⟩)]) from ⟨_, rfl, q3⟩)
  have L3 := Lib.hid (L2.out.later hb)
  have P2_3 := Lib.hid (Q2.out.below hb)
  clear hb q3
  obtain ⟨v4, r4, m4⟩ := L3.out.entry 5 5 rfl (by decide) (by simp) #[.func (.func 110) #[] #[.pointer (some ⟨b2, 0, none⟩)], .func (.func 112) #[] #[.pointer (some ⟨b3, 0, none⟩)]] [.neutral 0, .equal 0] 2 rfl (two_rules P2_3.out Q3.out)
  have N4 := Lib.hid m4
  clear m4
  go_wp2_with fail
  go_at_call 82
  refine (fixed_make (mb := mb) 1 0 0 _ N4.out.lt).mono ?_
  rintro e w4 ⟨_, rfl, ⟨b4, c4, d4, rfl, q4⟩, hb⟩
  have Q4 := Lib.hid (show RulV w4 mb (.fixed 1 0 0) (.func (.func 113) #[] #[.pointer (some ⟨b4, 0, none⟩), .pointer (some ⟨c4, 0, none⟩), .pointer (some ⟨d4, 0, none⟩)]) from ⟨_, _, _, rfl, q4⟩)
  have L4 := Lib.hid (N4.out.later hb)
  clear hb q4
  go_wp2_with fail
  go_at_call 80
  refine (neutral_make (mb := mb) 1 _ L4.out.lt).mono ?_
  rintro e w5 ⟨_, rfl, ⟨b5, rfl, q5⟩, hb⟩
  have Q5 := Lib.hid (show RulV w5 mb (.neutral 1) (.func (.func 110) #[] #[.pointer (some ⟨b5, 0, none⟩)]) from ⟨_, rfl, q5⟩)
  have L5 := Lib.hid (L4.out.later hb)
  have P4_5 := Lib.hid (Q4.out.below hb)
  clear hb q5
  obtain ⟨v5, r5, m5⟩ := L5.out.entry 6 6 rfl (by decide) (by simp) #[.func (.func 113) #[] #[.pointer (some ⟨b4, 0, none⟩), .pointer (some ⟨c4, 0, none⟩), .pointer (some ⟨d4, 0, none⟩)], .func (.func 110) #[] #[.pointer (some ⟨b5, 0, none⟩)]] [.fixed 1 0 0, .neutral 1] 2 rfl (two_rules P4_5.out Q5.out)
  have N5 := Lib.hid m5
  clear m5
  go_wp2_with fail
  go_at_call 80
  refine (neutral_make (mb := mb) 1 _ N5.out.lt).mono ?_
  rintro e w6 ⟨_, rfl, ⟨b6, rfl, q6⟩, hb⟩
  have Q6 := Lib.hid (show RulV w6 mb (.neutral 1) (.func (.func 110) #[] #[.pointer (some ⟨b6, 0, none⟩)]) from ⟨_, rfl, q6⟩)
  have L6 := Lib.hid (N5.out.later hb)
  clear hb q6
  obtain ⟨v6, r6, m6⟩ := L6.out.entry 7 7 rfl (by decide) (by simp) #[.func (.func 110) #[] #[.pointer (some ⟨b6, 0, none⟩)]] [.neutral 1] 1 rfl (one_rule Q6.out)
  have N6 := Lib.hid m6
  clear m6
  go_wp2_with fail
  go_at_call 82
  refine (fixed_make (mb := mb) 1 1 0 _ N6.out.lt).mono ?_
  rintro e w7 ⟨_, rfl, ⟨b7, c7, d7, rfl, q7⟩, hb⟩
  have Q7 := Lib.hid (show RulV w7 mb (.fixed 1 1 0) (.func (.func 113) #[] #[.pointer (some ⟨b7, 0, none⟩), .pointer (some ⟨c7, 0, none⟩), .pointer (some ⟨d7, 0, none⟩)]) from ⟨_, _, _, rfl, q7⟩)
  have L7 := Lib.hid (N6.out.later hb)
  clear hb q7
  obtain ⟨v7, r7, m7⟩ := L7.out.entry 8 8 rfl (by decide) (by simp) #[.func (.func 113) #[] #[.pointer (some ⟨b7, 0, none⟩), .pointer (some ⟨c7, 0, none⟩), .pointer (some ⟨d7, 0, none⟩)]] [.fixed 1 1 0] 1 rfl (one_rule Q7.out)
  have N7 := Lib.hid m7
  clear m7
  go_wp2_with fail
  go_at_call 82
  refine (fixed_make (mb := mb) 1 0 0 _ N7.out.lt).mono ?_
  rintro e w8 ⟨_, rfl, ⟨b8, c8, d8, rfl, q8⟩, hb⟩
  have Q8 := Lib.hid (show RulV w8 mb (.fixed 1 0 0) (.func (.func 113) #[] #[.pointer (some ⟨b8, 0, none⟩), .pointer (some ⟨c8, 0, none⟩), .pointer (some ⟨d8, 0, none⟩)]) from ⟨_, _, _, rfl, q8⟩)
  have L8 := Lib.hid (N7.out.later hb)
  clear hb q8
  go_wp2_with fail
  go_at_call 83
  refine (full_make (mb := mb) 1 _ L8.out.lt).mono ?_
  rintro e w9 ⟨_, rfl, ⟨b9, rfl, q9⟩, hb⟩
  have Q9 := Lib.hid (show RulV w9 mb (.full 1) (.func (.func 114) #[] #[.pointer (some ⟨b9, 0, none⟩)]) from ⟨_, rfl, q9⟩)
  have L9 := Lib.hid (L8.out.later hb)
  have P8_9 := Lib.hid (Q8.out.below hb)
  clear hb q9
  obtain ⟨v8, r8, m8⟩ := L9.out.entry 9 9 rfl (by decide) (by simp) #[.func (.func 113) #[] #[.pointer (some ⟨b8, 0, none⟩), .pointer (some ⟨c8, 0, none⟩), .pointer (some ⟨d8, 0, none⟩)], .func (.func 114) #[] #[.pointer (some ⟨b9, 0, none⟩)], .func (.func 84) #[] #[]] [.fixed 1 0 0, .full 1, .both] 3 rfl (three_rules P8_9.out Q9.out (show RulV _ mb .both _ from rfl))
  have N8 := Lib.hid m8
  clear m8
  go_wp2_with fail
  go_at_call 80
  refine (neutral_make (mb := mb) 0 _ N8.out.lt).mono ?_
  rintro e w10 ⟨_, rfl, ⟨b10, rfl, q10⟩, hb⟩
  have Q10 := Lib.hid (show RulV w10 mb (.neutral 0) (.func (.func 110) #[] #[.pointer (some ⟨b10, 0, none⟩)]) from ⟨_, rfl, q10⟩)
  have L10 := Lib.hid (N8.out.later hb)
  clear hb q10
  go_wp2_with fail
  go_at_call 83
  refine (full_make (mb := mb) 2 _ L10.out.lt).mono ?_
  rintro e w11 ⟨_, rfl, ⟨b11, rfl, q11⟩, hb⟩
  have Q11 := Lib.hid (show RulV w11 mb (.full 2) (.func (.func 114) #[] #[.pointer (some ⟨b11, 0, none⟩)]) from ⟨_, rfl, q11⟩)
  have L11 := Lib.hid (L10.out.later hb)
  have P10_11 := Lib.hid (Q10.out.below hb)
  clear hb q11
  obtain ⟨v9, r9, m9⟩ := L11.out.entry 10 10 rfl (by decide) (by simp) #[.func (.func 110) #[] #[.pointer (some ⟨b10, 0, none⟩)], .func (.func 114) #[] #[.pointer (some ⟨b11, 0, none⟩)], .func (.func 84) #[] #[]] [.neutral 0, .full 2, .both] 3 rfl (three_rules P10_11.out Q11.out (show RulV _ mb .both _ from rfl))
  have N9 := Lib.hid m9
  clear m9
  go_wp2_with fail
  go_at_call 80
  refine (neutral_make (mb := mb) 0 _ N9.out.lt).mono ?_
  rintro e w12 ⟨_, rfl, ⟨b12, rfl, q12⟩, hb⟩
  have Q12 := Lib.hid (show RulV w12 mb (.neutral 0) (.func (.func 110) #[] #[.pointer (some ⟨b12, 0, none⟩)]) from ⟨_, rfl, q12⟩)
  have L12 := Lib.hid (N9.out.later hb)
  clear hb q12
  go_wp2_with fail
  go_at_call 83
  refine (full_make (mb := mb) 3 _ L12.out.lt).mono ?_
  rintro e w13 ⟨_, rfl, ⟨b13, rfl, q13⟩, hb⟩
  have Q13 := Lib.hid (show RulV w13 mb (.full 3) (.func (.func 114) #[] #[.pointer (some ⟨b13, 0, none⟩)]) from ⟨_, rfl, q13⟩)
  have L13 := Lib.hid (L12.out.later hb)
  have P12_13 := Lib.hid (Q12.out.below hb)
  clear hb q13
  go_wp2_with fail
  go_at_call 81
  refine (equal_make (mb := mb) 0 _ L13.out.lt).mono ?_
  rintro e w14 ⟨_, rfl, ⟨b14, rfl, q14⟩, hb⟩
  have Q14 := Lib.hid (show RulV w14 mb (.equal 0) (.func (.func 112) #[] #[.pointer (some ⟨b14, 0, none⟩)]) from ⟨_, rfl, q14⟩)
  have L14 := Lib.hid (L13.out.later hb)
  have P12_14 := Lib.hid (P12_13.out.below hb)
  have P13_14 := Lib.hid (Q13.out.below hb)
  clear hb q14
  obtain ⟨v10, r10, m10⟩ := L14.out.entry 11 11 rfl (by decide) (by simp) #[.func (.func 110) #[] #[.pointer (some ⟨b12, 0, none⟩)], .func (.func 114) #[] #[.pointer (some ⟨b13, 0, none⟩)], .func (.func 112) #[] #[.pointer (some ⟨b14, 0, none⟩)]] [.neutral 0, .full 3, .equal 0] 3 rfl (three_rules P12_14.out P13_14.out Q14.out)
  have N10 := Lib.hid m10
  clear m10
  go_wp2_with fail
  go_at_call 80
  refine (neutral_make (mb := mb) 0 _ N10.out.lt).mono ?_
  rintro e w15 ⟨_, rfl, ⟨b15, rfl, q15⟩, hb⟩
  have Q15 := Lib.hid (show RulV w15 mb (.neutral 0) (.func (.func 110) #[] #[.pointer (some ⟨b15, 0, none⟩)]) from ⟨_, rfl, q15⟩)
  have L15 := Lib.hid (N10.out.later hb)
  clear hb q15
  obtain ⟨v11, r11, m11⟩ := L15.out.entry 12 12 rfl (by decide) (by simp) #[.func (.func 110) #[] #[.pointer (some ⟨b15, 0, none⟩)], .func (.func 85) #[] #[]] [.neutral 0, .beyond] 2 rfl (two_rules Q15.out (show RulV _ mb .beyond _ from rfl))
  have N11 := Lib.hid m11
  clear m11
  go_wp2_with fail
  go_at_call 80
  refine (neutral_make (mb := mb) 0 _ N11.out.lt).mono ?_
  rintro e w16 ⟨_, rfl, ⟨b16, rfl, q16⟩, hb⟩
  have Q16 := Lib.hid (show RulV w16 mb (.neutral 0) (.func (.func 110) #[] #[.pointer (some ⟨b16, 0, none⟩)]) from ⟨_, rfl, q16⟩)
  have L16 := Lib.hid (N11.out.later hb)
  clear hb q16
  obtain ⟨v12, r12, m12⟩ := L16.out.entry 13 13 rfl (by decide) (by simp) #[.func (.func 110) #[] #[.pointer (some ⟨b16, 0, none⟩)], .func (.func 85) #[] #[]] [.neutral 0, .beyond] 2 rfl (two_rules Q16.out (show RulV _ mb .beyond _ from rfl))
  have N12 := Lib.hid m12
  clear m12
  go_wp2_with fail
  go_at_call 80
  refine (neutral_make (mb := mb) 0 _ N12.out.lt).mono ?_
  rintro e w17 ⟨_, rfl, ⟨b17, rfl, q17⟩, hb⟩
  have Q17 := Lib.hid (show RulV w17 mb (.neutral 0) (.func (.func 110) #[] #[.pointer (some ⟨b17, 0, none⟩)]) from ⟨_, rfl, q17⟩)
  have L17 := Lib.hid (N12.out.later hb)
  clear hb q17
  obtain ⟨v13, r13, m13⟩ := L17.out.entry 14 14 rfl (by decide) (by simp) #[.func (.func 110) #[] #[.pointer (some ⟨b17, 0, none⟩)]] [.neutral 0] 1 rfl (one_rule Q17.out)
  have N13 := Lib.hid m13
  clear m13
  go_wp2_with fail
  go_at_call 81
  refine (equal_make (mb := mb) 1 _ N13.out.lt).mono ?_
  rintro e w18 ⟨_, rfl, ⟨b18, rfl, q18⟩, hb⟩
  have Q18 := Lib.hid (show RulV w18 mb (.equal 1) (.func (.func 112) #[] #[.pointer (some ⟨b18, 0, none⟩)]) from ⟨_, rfl, q18⟩)
  have L18 := Lib.hid (N13.out.later hb)
  clear hb q18
  obtain ⟨v14, r14, m14⟩ := L18.out.entry 15 15 rfl (by decide) (by simp) #[.func (.func 112) #[] #[.pointer (some ⟨b18, 0, none⟩)]] [.equal 1] 1 rfl (one_rule Q18.out)
  have N14 := Lib.hid m14
  clear m14
  go_wp2_with fail
  go_at_call 81
  refine (equal_make (mb := mb) 1 _ N14.out.lt).mono ?_
  rintro e w19 ⟨_, rfl, ⟨b19, rfl, q19⟩, hb⟩
  have Q19 := Lib.hid (show RulV w19 mb (.equal 1) (.func (.func 112) #[] #[.pointer (some ⟨b19, 0, none⟩)]) from ⟨_, rfl, q19⟩)
  have L19 := Lib.hid (N14.out.later hb)
  clear hb q19
  go_wp2_with fail
  go_at_call 82
  refine (fixed_make (mb := mb) 0 0 1 _ L19.out.lt).mono ?_
  rintro e w20 ⟨_, rfl, ⟨b20, c20, d20, rfl, q20⟩, hb⟩
  have Q20 := Lib.hid (show RulV w20 mb (.fixed 0 0 1) (.func (.func 113) #[] #[.pointer (some ⟨b20, 0, none⟩), .pointer (some ⟨c20, 0, none⟩), .pointer (some ⟨d20, 0, none⟩)]) from ⟨_, _, _, rfl, q20⟩)
  have L20 := Lib.hid (L19.out.later hb)
  have P19_20 := Lib.hid (Q19.out.below hb)
  clear hb q20
  obtain ⟨v15, r15, m15⟩ := L20.out.entry 18 18 rfl (by decide) (by simp) #[.func (.func 112) #[] #[.pointer (some ⟨b19, 0, none⟩)], .func (.func 113) #[] #[.pointer (some ⟨b20, 0, none⟩), .pointer (some ⟨c20, 0, none⟩), .pointer (some ⟨d20, 0, none⟩)]] [.equal 1, .fixed 0 0 1] 2 rfl (two_rules P19_20.out Q20.out)
  have N15 := Lib.hid m15
  clear m15
  go_wp2_with fail
  go_at_call 81
  refine (equal_make (mb := mb) 1 _ N15.out.lt).mono ?_
  rintro e w21 ⟨_, rfl, ⟨b21, rfl, q21⟩, hb⟩
  have Q21 := Lib.hid (show RulV w21 mb (.equal 1) (.func (.func 112) #[] #[.pointer (some ⟨b21, 0, none⟩)]) from ⟨_, rfl, q21⟩)
  have L21 := Lib.hid (N15.out.later hb)
  clear hb q21
  obtain ⟨v16, r16, m16⟩ := L21.out.entry 20 20 rfl (by decide) (by simp) #[.func (.func 112) #[] #[.pointer (some ⟨b21, 0, none⟩)]] [.equal 1] 1 rfl (one_rule Q21.out)
  have N16 := Lib.hid m16
  clear m16
  go_wp2_with fail
  go_at_call 81
  refine (equal_make (mb := mb) 0 _ N16.out.lt).mono ?_
  rintro e w22 ⟨_, rfl, ⟨b22, rfl, q22⟩, hb⟩
  have Q22 := Lib.hid (show RulV w22 mb (.equal 0) (.func (.func 112) #[] #[.pointer (some ⟨b22, 0, none⟩)]) from ⟨_, rfl, q22⟩)
  have L22 := Lib.hid (N16.out.later hb)
  clear hb q22
  obtain ⟨v17, r17, m17⟩ := L22.out.entry 16 16 rfl (by decide) (by simp) #[.func (.func 112) #[] #[.pointer (some ⟨b22, 0, none⟩)]] [.equal 0] 1 rfl (one_rule Q22.out)
  have N17 := Lib.hid m17
  clear m17
  go_wp2_with fail
  go_at_call 81
  refine (equal_make (mb := mb) 0 _ N17.out.lt).mono ?_
  rintro e w23 ⟨_, rfl, ⟨b23, rfl, q23⟩, hb⟩
  have Q23 := Lib.hid (show RulV w23 mb (.equal 0) (.func (.func 112) #[] #[.pointer (some ⟨b23, 0, none⟩)]) from ⟨_, rfl, q23⟩)
  have L23 := Lib.hid (N17.out.later hb)
  clear hb q23
  go_wp2_with fail
  go_at_call 82
  refine (fixed_make (mb := mb) 1 0 0 _ L23.out.lt).mono ?_
  rintro e w24 ⟨_, rfl, ⟨b24, c24, d24, rfl, q24⟩, hb⟩
  have Q24 := Lib.hid (show RulV w24 mb (.fixed 1 0 0) (.func (.func 113) #[] #[.pointer (some ⟨b24, 0, none⟩), .pointer (some ⟨c24, 0, none⟩), .pointer (some ⟨d24, 0, none⟩)]) from ⟨_, _, _, rfl, q24⟩)
  have L24 := Lib.hid (L23.out.later hb)
  have P23_24 := Lib.hid (Q23.out.below hb)
  clear hb q24
  obtain ⟨v18, r18, m18⟩ := L24.out.entry 17 17 rfl (by decide) (by simp) #[.func (.func 112) #[] #[.pointer (some ⟨b23, 0, none⟩)], .func (.func 113) #[] #[.pointer (some ⟨b24, 0, none⟩), .pointer (some ⟨c24, 0, none⟩), .pointer (some ⟨d24, 0, none⟩)]] [.equal 0, .fixed 1 0 0] 2 rfl (two_rules P23_24.out Q24.out)
  have N18 := Lib.hid m18
  clear m18
  go_wp2_with fail
  go_at_call 81
  refine (equal_make (mb := mb) 0 _ N18.out.lt).mono ?_
  rintro e w25 ⟨_, rfl, ⟨b25, rfl, q25⟩, hb⟩
  have Q25 := Lib.hid (show RulV w25 mb (.equal 0) (.func (.func 112) #[] #[.pointer (some ⟨b25, 0, none⟩)]) from ⟨_, rfl, q25⟩)
  have L25 := Lib.hid (N18.out.later hb)
  clear hb q25
  obtain ⟨v19, r19, m19⟩ := L25.out.entry 19 19 rfl (by decide) (by simp) #[.func (.func 112) #[] #[.pointer (some ⟨b25, 0, none⟩)]] [.equal 0] 1 rfl (one_rule Q25.out)
  have N19 := Lib.hid m19
  clear m19
  obtain ⟨v20, r20, m20⟩ := N19.out.entry 21 21 rfl (by decide) (by simp) #[.func (.func 86) #[] #[]] [.chosen] 1 rfl (one_rule (show RulV _ mb .chosen _ from rfl))
  have N20 := Lib.hid m20
  clear m20
  obtain ⟨sb, hlk, hrow⟩ := RMap.find (show RMap w v20 mb allRules from N20.out) o HO.out.1 HO.out.2
  rw [HN.out] at hlk
  have HROW := Lib.hid hrow
  clear hrow
  go_wp2
  go_ret
  exact ⟨mb, sb, rfl, HROW.out, N20.out.below⟩
end Go.Proofs.Ytcpgiadhmmmafaa
