/- SimpE, SimpF: joined by wip/bundle.py. -/
import Derived.Test.YteamnchoddegpaaGreatDoorB1
import Derived.Test.YteamnchoddegpaaGreatDoorB2
import Derived.Test.YteamnchoddegpaaGreatDoorB3
import Derived.Test.YteamnchoddegpaaGreatDoorB4
import Derived.Test.YteamnchoddegpaaGreatDoorB5
import Derived.Test.YteamnchoddegpaaGreatDoorB6
import Derived.Test.YteamnchoddegpaaGreatDoorB7
import Derived.Test.YteamnchoddegpaaGreatDoorB9
import Derived.Test.YteamnchoddegpaaGreatDoorB10
import Derived.BigQuiet
namespace Go.Proofs.YteamnchoddegpaaGreatDoor
open Go.RowKit Go.Maps
set_option maxHeartbeats 3200000
/-- The rules of an operator, in their order. -/
def rulesOf : Nat → List Rul
  | 2 => [.twice]
  | 3 => [.twice]
  | 4 => [.neutral 0]
  | 5 => [.neutral 0, .equal 0]
  | 6 => [.fixed 1 0 0, .neutral 1]
  | 7 => [.neutral 1]
  | 8 => [.fixed 1 1 0]
  | 9 => [.fixed 1 0 0, .full 1, .both]
  | 10 => [.neutral 0, .full 2, .both]
  | 11 => [.neutral 0, .full 3, .equal 0]
  | 12 => [.neutral 0, .beyond]
  | 13 => [.neutral 0, .beyond]
  | 14 => [.neutral 0]
  | 15 => [.equal 1]
  | 16 => [.equal 0]
  | 17 => [.equal 0, .fixed 1 0 0]
  | 18 => [.equal 1, .fixed 0 0 1]
  | 19 => [.equal 0]
  | 20 => [.equal 1]
  | 21 => [.chosen]
  | _ => []
def allRules : List (Nat × List Rul) := [(21, [.chosen]), (19, [.equal 0]), (17, [.equal 0, .fixed 1 0 0]), (16, [.equal 0]), (20, [.equal 1]), (18, [.equal 1, .fixed 0 0 1]), (15, [.equal 1]), (14, [.neutral 0]), (13, [.neutral 0, .beyond]), (12, [.neutral 0, .beyond]), (11, [.neutral 0, .full 3, .equal 0]), (10, [.neutral 0, .full 2, .both]), (9, [.fixed 1 0 0, .full 1, .both]), (8, [.fixed 1 1 0]), (7, [.neutral 1]), (6, [.fixed 1 0 0, .neutral 1]), (5, [.neutral 0, .equal 0]), (4, [.neutral 0]), (3, [.twice]), (2, [.twice])]
theorem rules_mem (o : Nat) (h1 : 2 ≤ o) (h2 : o ≤ 21) : (o, rulesOf o) ∈ allRules := by
  have : o = 2 ∨ o = 3 ∨ o = 4 ∨ o = 5 ∨ o = 6 ∨ o = 7 ∨ o = 8 ∨ o = 9 ∨ o = 10 ∨ o = 11 ∨ o = 12 ∨ o = 13 ∨ o = 14 ∨ o = 15 ∨ o = 16 ∨ o = 17 ∨ o = 18 ∨ o = 19 ∨ o = 20 ∨ o = 21 := by omega
  rcases this with rfl | rfl | rfl | rfl | rfl | rfl | rfl | rfl | rfl | rfl | rfl | rfl | rfl | rfl | rfl | rfl | rfl | rfl | rfl | rfl <;> simp [allRules, rulesOf]
theorem RMap.find {w0 w : World} {mb : Nat} (h : RMap w0 w mb allRules) (o : Nat) (h1 : 2 ≤ o) (h2 : o ≤ 21) :
    ∃ sb, (Instr.lookup 195 (.map (some mb)) (.int .u8 o) false).run Tryz.prog w = .ok (.slice (some ⟨sb, 0, none⟩) (rulesOf o).length (rulesOf o).length) w ∧ RowR w mb sb (rulesOf o) := by
  obtain ⟨f, c, hm, hd⟩ := h.map
  obtain ⟨sb, q1, q2⟩ := hd _ (rules_mem o h1 h2)
  exact ⟨sb, hm.hit (E := 178) Tryz.underlying5 Tryz.underlying195 (by simp [Lit.wf, IntKind.min, IntKind.max, IntKind.signed, IntKind.bits]; omega) q1 false, q2⟩
theorem one_rule {w : World} {mb : Nat} {r1 : Rul} {f1 : Value} (h1 : RulV w mb r1 f1) : ∀ (i : Nat) r, [r1][i]? = some r → ∃ f, (#[f1] : Array Value)[i]? = some f ∧ RulV w mb r f := by
  intro i r hi
  match i, hi with
  | 0, hi => obtain rfl := Option.some.inj hi; exact ⟨f1, rfl, h1⟩
theorem two_rules {w : World} {mb : Nat} {r1 r2 : Rul} {f1 f2 : Value} (h1 : RulV w mb r1 f1) (h2 : RulV w mb r2 f2) : ∀ (i : Nat) r, [r1, r2][i]? = some r → ∃ f, (#[f1, f2] : Array Value)[i]? = some f ∧ RulV w mb r f := by
  intro i r hi
  match i, hi with
  | 0, hi => obtain rfl := Option.some.inj hi; exact ⟨f1, rfl, h1⟩
  | 1, hi => obtain rfl := Option.some.inj hi; exact ⟨f2, rfl, h2⟩
theorem three_rules {w : World} {mb : Nat} {r1 r2 r3 : Rul} {f1 f2 f3 : Value} (h1 : RulV w mb r1 f1) (h2 : RulV w mb r2 f2) (h3 : RulV w mb r3 f3) : ∀ (i : Nat) r, [r1, r2, r3][i]? = some r → ∃ f, (#[f1, f2, f3] : Array Value)[i]? = some f ∧ RulV w mb r f := by
  intro i r hi
  match i, hi with
  | 0, hi => obtain rfl := Option.some.inj hi; exact ⟨f1, rfl, h1⟩
  | 1, hi => obtain rfl := Option.some.inj hi; exact ⟨f2, rfl, h2⟩
  | 2, hi => obtain rfl := Option.some.inj hi; exact ⟨f3, rfl, h3⟩
set_option maxRecDepth 100000 in
theorem rules_any (o : Nat) (h1 : 2 ≤ o) (h2 : o ≤ 21) (w : World) :
    Calls Tryz.prog 103 #[.int .u8 o] w fun e w' => ∃ mb sb, e = .returned (.slice (some ⟨sb, 0, none⟩) (rulesOf o).length (rulesOf o).length) ∧ RowR w' mb sb (rulesOf o) ∧ Below w.heap.size w w' := by
  obtain ⟨n, hn⟩ : ∃ n, (rulesOf o).length = n := ⟨_, rfl⟩
  rw [hn]
  have HN := Lib.hid hn
  have HO := Lib.hid (And.intro h1 h2)
  obtain ⟨mb, w0, hmk, hm0⟩ : ∃ mb w0, (Instr.makeMap 195 none).run Tryz.prog w = .ok (.map (some mb)) w0 ∧ RMap w w0 mb [] := ⟨_, _, run_makeMap _ w, RMap.start w⟩
  have M0 := Lib.hid hm0
  clear hm0 hn h1 h2
  obtain ⟨v1, r1, m1⟩ := M0.out.entry 2 2 rfl (by decide) (by simp) #[.func (.func 130) #[] #[]] [.twice] 1 rfl (one_rule (show RulV _ mb .twice _ from rfl))
  have N1 := Lib.hid m1
  clear m1
  obtain ⟨v2, r2, m2⟩ := N1.out.entry 3 3 rfl (by decide) (by simp) #[.func (.func 130) #[] #[]] [.twice] 1 rfl (one_rule (show RulV _ mb .twice _ from rfl))
  have N2 := Lib.hid m2
  clear m2
  go_enter Tryz.func103, Tryz.ntmps103
  go_wp2_with fail
  go_at_call 131
  refine (neutral_make (mb := mb) 0 _ N2.out.lt).mono ?_
  rintro e w1 ⟨_, rfl, ⟨b1, rfl, q1⟩, hb⟩
  have Q1 := Lib.hid (show RulV w1 mb (.neutral 0) (.func (.func 143) #[] #[.pointer (some ⟨b1, 0, none⟩)]) from ⟨_, rfl, q1⟩)
  have L1 := Lib.hid (N2.out.later hb)
  clear hb q1
  obtain ⟨v3, r3, m3⟩ := L1.out.entry 4 4 rfl (by decide) (by simp) #[.func (.func 143) #[] #[.pointer (some ⟨b1, 0, none⟩)]] [.neutral 0] 1 rfl (one_rule Q1.out)
  have N3 := Lib.hid m3
  clear m3
  go_wp2_with fail
  go_at_call 131
  refine (neutral_make (mb := mb) 0 _ N3.out.lt).mono ?_
  rintro e w2 ⟨_, rfl, ⟨b2, rfl, q2⟩, hb⟩
  have Q2 := Lib.hid (show RulV w2 mb (.neutral 0) (.func (.func 143) #[] #[.pointer (some ⟨b2, 0, none⟩)]) from ⟨_, rfl, q2⟩)
  have L2 := Lib.hid (N3.out.later hb)
  clear hb q2
  go_wp2_with fail
  go_at_call 132
  refine (equal_make (mb := mb) 0 _ L2.out.lt).mono ?_
  rintro e w3 ⟨_, rfl, ⟨b3, rfl, q3⟩, hb⟩
  have Q3 := Lib.hid (show RulV w3 mb (.equal 0) (.func (.func 145) #[] #[.pointer (some ⟨b3, 0, none⟩)]) from ⟨_, rfl, q3⟩)
  have L3 := Lib.hid (L2.out.later hb)
  have P2_3 := Lib.hid (Q2.out.below hb)
  clear hb q3
  obtain ⟨v4, r4, m4⟩ := L3.out.entry 5 5 rfl (by decide) (by simp) #[.func (.func 143) #[] #[.pointer (some ⟨b2, 0, none⟩)], .func (.func 145) #[] #[.pointer (some ⟨b3, 0, none⟩)]] [.neutral 0, .equal 0] 2 rfl (two_rules P2_3.out Q3.out)
  have N4 := Lib.hid m4
  clear m4
  go_wp2_with fail
  go_at_call 133
  refine (fixed_make (mb := mb) 1 0 0 _ N4.out.lt).mono ?_
  rintro e w4 ⟨_, rfl, ⟨b4, c4, d4, rfl, q4⟩, hb⟩
  have Q4 := Lib.hid (show RulV w4 mb (.fixed 1 0 0) (.func (.func 146) #[] #[.pointer (some ⟨b4, 0, none⟩), .pointer (some ⟨c4, 0, none⟩), .pointer (some ⟨d4, 0, none⟩)]) from ⟨_, _, _, rfl, q4⟩)
  have L4 := Lib.hid (N4.out.later hb)
  clear hb q4
  go_wp2_with fail
  go_at_call 131
  refine (neutral_make (mb := mb) 1 _ L4.out.lt).mono ?_
  rintro e w5 ⟨_, rfl, ⟨b5, rfl, q5⟩, hb⟩
  have Q5 := Lib.hid (show RulV w5 mb (.neutral 1) (.func (.func 143) #[] #[.pointer (some ⟨b5, 0, none⟩)]) from ⟨_, rfl, q5⟩)
  have L5 := Lib.hid (L4.out.later hb)
  have P4_5 := Lib.hid (Q4.out.below hb)
  clear hb q5
  obtain ⟨v5, r5, m5⟩ := L5.out.entry 6 6 rfl (by decide) (by simp) #[.func (.func 146) #[] #[.pointer (some ⟨b4, 0, none⟩), .pointer (some ⟨c4, 0, none⟩), .pointer (some ⟨d4, 0, none⟩)], .func (.func 143) #[] #[.pointer (some ⟨b5, 0, none⟩)]] [.fixed 1 0 0, .neutral 1] 2 rfl (two_rules P4_5.out Q5.out)
  have N5 := Lib.hid m5
  clear m5
  go_wp2_with fail
  go_at_call 131
  refine (neutral_make (mb := mb) 1 _ N5.out.lt).mono ?_
  rintro e w6 ⟨_, rfl, ⟨b6, rfl, q6⟩, hb⟩
  have Q6 := Lib.hid (show RulV w6 mb (.neutral 1) (.func (.func 143) #[] #[.pointer (some ⟨b6, 0, none⟩)]) from ⟨_, rfl, q6⟩)
  have L6 := Lib.hid (N5.out.later hb)
  clear hb q6
  obtain ⟨v6, r6, m6⟩ := L6.out.entry 7 7 rfl (by decide) (by simp) #[.func (.func 143) #[] #[.pointer (some ⟨b6, 0, none⟩)]] [.neutral 1] 1 rfl (one_rule Q6.out)
  have N6 := Lib.hid m6
  clear m6
  go_wp2_with fail
  go_at_call 133
  refine (fixed_make (mb := mb) 1 1 0 _ N6.out.lt).mono ?_
  rintro e w7 ⟨_, rfl, ⟨b7, c7, d7, rfl, q7⟩, hb⟩
  have Q7 := Lib.hid (show RulV w7 mb (.fixed 1 1 0) (.func (.func 146) #[] #[.pointer (some ⟨b7, 0, none⟩), .pointer (some ⟨c7, 0, none⟩), .pointer (some ⟨d7, 0, none⟩)]) from ⟨_, _, _, rfl, q7⟩)
  have L7 := Lib.hid (N6.out.later hb)
  clear hb q7
  obtain ⟨v7, r7, m7⟩ := L7.out.entry 8 8 rfl (by decide) (by simp) #[.func (.func 146) #[] #[.pointer (some ⟨b7, 0, none⟩), .pointer (some ⟨c7, 0, none⟩), .pointer (some ⟨d7, 0, none⟩)]] [.fixed 1 1 0] 1 rfl (one_rule Q7.out)
  have N7 := Lib.hid m7
  clear m7
  go_wp2_with fail
  go_at_call 133
  refine (fixed_make (mb := mb) 1 0 0 _ N7.out.lt).mono ?_
  rintro e w8 ⟨_, rfl, ⟨b8, c8, d8, rfl, q8⟩, hb⟩
  have Q8 := Lib.hid (show RulV w8 mb (.fixed 1 0 0) (.func (.func 146) #[] #[.pointer (some ⟨b8, 0, none⟩), .pointer (some ⟨c8, 0, none⟩), .pointer (some ⟨d8, 0, none⟩)]) from ⟨_, _, _, rfl, q8⟩)
  have L8 := Lib.hid (N7.out.later hb)
  clear hb q8
  go_wp2_with fail
  go_at_call 134
  refine (full_make (mb := mb) 1 _ L8.out.lt).mono ?_
  rintro e w9 ⟨_, rfl, ⟨b9, rfl, q9⟩, hb⟩
  have Q9 := Lib.hid (show RulV w9 mb (.full 1) (.func (.func 147) #[] #[.pointer (some ⟨b9, 0, none⟩)]) from ⟨_, rfl, q9⟩)
  have L9 := Lib.hid (L8.out.later hb)
  have P8_9 := Lib.hid (Q8.out.below hb)
  clear hb q9
  obtain ⟨v8, r8, m8⟩ := L9.out.entry 9 9 rfl (by decide) (by simp) #[.func (.func 146) #[] #[.pointer (some ⟨b8, 0, none⟩), .pointer (some ⟨c8, 0, none⟩), .pointer (some ⟨d8, 0, none⟩)], .func (.func 147) #[] #[.pointer (some ⟨b9, 0, none⟩)], .func (.func 135) #[] #[]] [.fixed 1 0 0, .full 1, .both] 3 rfl (three_rules P8_9.out Q9.out (show RulV _ mb .both _ from rfl))
  have N8 := Lib.hid m8
  clear m8
  go_wp2_with fail
  go_at_call 131
  refine (neutral_make (mb := mb) 0 _ N8.out.lt).mono ?_
  rintro e w10 ⟨_, rfl, ⟨b10, rfl, q10⟩, hb⟩
  have Q10 := Lib.hid (show RulV w10 mb (.neutral 0) (.func (.func 143) #[] #[.pointer (some ⟨b10, 0, none⟩)]) from ⟨_, rfl, q10⟩)
  have L10 := Lib.hid (N8.out.later hb)
  clear hb q10
  go_wp2_with fail
  go_at_call 134
  refine (full_make (mb := mb) 2 _ L10.out.lt).mono ?_
  rintro e w11 ⟨_, rfl, ⟨b11, rfl, q11⟩, hb⟩
  have Q11 := Lib.hid (show RulV w11 mb (.full 2) (.func (.func 147) #[] #[.pointer (some ⟨b11, 0, none⟩)]) from ⟨_, rfl, q11⟩)
  have L11 := Lib.hid (L10.out.later hb)
  have P10_11 := Lib.hid (Q10.out.below hb)
  clear hb q11
  obtain ⟨v9, r9, m9⟩ := L11.out.entry 10 10 rfl (by decide) (by simp) #[.func (.func 143) #[] #[.pointer (some ⟨b10, 0, none⟩)], .func (.func 147) #[] #[.pointer (some ⟨b11, 0, none⟩)], .func (.func 135) #[] #[]] [.neutral 0, .full 2, .both] 3 rfl (three_rules P10_11.out Q11.out (show RulV _ mb .both _ from rfl))
  have N9 := Lib.hid m9
  clear m9
  go_wp2_with fail
  go_at_call 131
  refine (neutral_make (mb := mb) 0 _ N9.out.lt).mono ?_
  rintro e w12 ⟨_, rfl, ⟨b12, rfl, q12⟩, hb⟩
  have Q12 := Lib.hid (show RulV w12 mb (.neutral 0) (.func (.func 143) #[] #[.pointer (some ⟨b12, 0, none⟩)]) from ⟨_, rfl, q12⟩)
  have L12 := Lib.hid (N9.out.later hb)
  clear hb q12
  go_wp2_with fail
  go_at_call 134
  refine (full_make (mb := mb) 3 _ L12.out.lt).mono ?_
  rintro e w13 ⟨_, rfl, ⟨b13, rfl, q13⟩, hb⟩
  have Q13 := Lib.hid (show RulV w13 mb (.full 3) (.func (.func 147) #[] #[.pointer (some ⟨b13, 0, none⟩)]) from ⟨_, rfl, q13⟩)
  have L13 := Lib.hid (L12.out.later hb)
  have P12_13 := Lib.hid (Q12.out.below hb)
  clear hb q13
  go_wp2_with fail
  go_at_call 132
  refine (equal_make (mb := mb) 0 _ L13.out.lt).mono ?_
  rintro e w14 ⟨_, rfl, ⟨b14, rfl, q14⟩, hb⟩
  have Q14 := Lib.hid (show RulV w14 mb (.equal 0) (.func (.func 145) #[] #[.pointer (some ⟨b14, 0, none⟩)]) from ⟨_, rfl, q14⟩)
  have L14 := Lib.hid (L13.out.later hb)
  have P12_14 := Lib.hid (P12_13.out.below hb)
  have P13_14 := Lib.hid (Q13.out.below hb)
  clear hb q14
  obtain ⟨v10, r10, m10⟩ := L14.out.entry 11 11 rfl (by decide) (by simp) #[.func (.func 143) #[] #[.pointer (some ⟨b12, 0, none⟩)], .func (.func 147) #[] #[.pointer (some ⟨b13, 0, none⟩)], .func (.func 145) #[] #[.pointer (some ⟨b14, 0, none⟩)]] [.neutral 0, .full 3, .equal 0] 3 rfl (three_rules P12_14.out P13_14.out Q14.out)
  have N10 := Lib.hid m10
  clear m10
  go_wp2_with fail
  go_at_call 131
  refine (neutral_make (mb := mb) 0 _ N10.out.lt).mono ?_
  rintro e w15 ⟨_, rfl, ⟨b15, rfl, q15⟩, hb⟩
  have Q15 := Lib.hid (show RulV w15 mb (.neutral 0) (.func (.func 143) #[] #[.pointer (some ⟨b15, 0, none⟩)]) from ⟨_, rfl, q15⟩)
  have L15 := Lib.hid (N10.out.later hb)
  clear hb q15
  obtain ⟨v11, r11, m11⟩ := L15.out.entry 12 12 rfl (by decide) (by simp) #[.func (.func 143) #[] #[.pointer (some ⟨b15, 0, none⟩)], .func (.func 136) #[] #[]] [.neutral 0, .beyond] 2 rfl (two_rules Q15.out (show RulV _ mb .beyond _ from rfl))
  have N11 := Lib.hid m11
  clear m11
  go_wp2_with fail
  go_at_call 131
  refine (neutral_make (mb := mb) 0 _ N11.out.lt).mono ?_
  rintro e w16 ⟨_, rfl, ⟨b16, rfl, q16⟩, hb⟩
  have Q16 := Lib.hid (show RulV w16 mb (.neutral 0) (.func (.func 143) #[] #[.pointer (some ⟨b16, 0, none⟩)]) from ⟨_, rfl, q16⟩)
  have L16 := Lib.hid (N11.out.later hb)
  clear hb q16
  obtain ⟨v12, r12, m12⟩ := L16.out.entry 13 13 rfl (by decide) (by simp) #[.func (.func 143) #[] #[.pointer (some ⟨b16, 0, none⟩)], .func (.func 136) #[] #[]] [.neutral 0, .beyond] 2 rfl (two_rules Q16.out (show RulV _ mb .beyond _ from rfl))
  have N12 := Lib.hid m12
  clear m12
  go_wp2_with fail
  go_at_call 131
  refine (neutral_make (mb := mb) 0 _ N12.out.lt).mono ?_
  rintro e w17 ⟨_, rfl, ⟨b17, rfl, q17⟩, hb⟩
  have Q17 := Lib.hid (show RulV w17 mb (.neutral 0) (.func (.func 143) #[] #[.pointer (some ⟨b17, 0, none⟩)]) from ⟨_, rfl, q17⟩)
  have L17 := Lib.hid (N12.out.later hb)
  clear hb q17
  obtain ⟨v13, r13, m13⟩ := L17.out.entry 14 14 rfl (by decide) (by simp) #[.func (.func 143) #[] #[.pointer (some ⟨b17, 0, none⟩)]] [.neutral 0] 1 rfl (one_rule Q17.out)
  have N13 := Lib.hid m13
  clear m13
  go_wp2_with fail
  go_at_call 132
  refine (equal_make (mb := mb) 1 _ N13.out.lt).mono ?_
  rintro e w18 ⟨_, rfl, ⟨b18, rfl, q18⟩, hb⟩
  have Q18 := Lib.hid (show RulV w18 mb (.equal 1) (.func (.func 145) #[] #[.pointer (some ⟨b18, 0, none⟩)]) from ⟨_, rfl, q18⟩)
  have L18 := Lib.hid (N13.out.later hb)
  clear hb q18
  obtain ⟨v14, r14, m14⟩ := L18.out.entry 15 15 rfl (by decide) (by simp) #[.func (.func 145) #[] #[.pointer (some ⟨b18, 0, none⟩)]] [.equal 1] 1 rfl (one_rule Q18.out)
  have N14 := Lib.hid m14
  clear m14
  go_wp2_with fail
  go_at_call 132
  refine (equal_make (mb := mb) 1 _ N14.out.lt).mono ?_
  rintro e w19 ⟨_, rfl, ⟨b19, rfl, q19⟩, hb⟩
  have Q19 := Lib.hid (show RulV w19 mb (.equal 1) (.func (.func 145) #[] #[.pointer (some ⟨b19, 0, none⟩)]) from ⟨_, rfl, q19⟩)
  have L19 := Lib.hid (N14.out.later hb)
  clear hb q19
  go_wp2_with fail
  go_at_call 133
  refine (fixed_make (mb := mb) 0 0 1 _ L19.out.lt).mono ?_
  rintro e w20 ⟨_, rfl, ⟨b20, c20, d20, rfl, q20⟩, hb⟩
  have Q20 := Lib.hid (show RulV w20 mb (.fixed 0 0 1) (.func (.func 146) #[] #[.pointer (some ⟨b20, 0, none⟩), .pointer (some ⟨c20, 0, none⟩), .pointer (some ⟨d20, 0, none⟩)]) from ⟨_, _, _, rfl, q20⟩)
  have L20 := Lib.hid (L19.out.later hb)
  have P19_20 := Lib.hid (Q19.out.below hb)
  clear hb q20
  obtain ⟨v15, r15, m15⟩ := L20.out.entry 18 18 rfl (by decide) (by simp) #[.func (.func 145) #[] #[.pointer (some ⟨b19, 0, none⟩)], .func (.func 146) #[] #[.pointer (some ⟨b20, 0, none⟩), .pointer (some ⟨c20, 0, none⟩), .pointer (some ⟨d20, 0, none⟩)]] [.equal 1, .fixed 0 0 1] 2 rfl (two_rules P19_20.out Q20.out)
  have N15 := Lib.hid m15
  clear m15
  go_wp2_with fail
  go_at_call 132
  refine (equal_make (mb := mb) 1 _ N15.out.lt).mono ?_
  rintro e w21 ⟨_, rfl, ⟨b21, rfl, q21⟩, hb⟩
  have Q21 := Lib.hid (show RulV w21 mb (.equal 1) (.func (.func 145) #[] #[.pointer (some ⟨b21, 0, none⟩)]) from ⟨_, rfl, q21⟩)
  have L21 := Lib.hid (N15.out.later hb)
  clear hb q21
  obtain ⟨v16, r16, m16⟩ := L21.out.entry 20 20 rfl (by decide) (by simp) #[.func (.func 145) #[] #[.pointer (some ⟨b21, 0, none⟩)]] [.equal 1] 1 rfl (one_rule Q21.out)
  have N16 := Lib.hid m16
  clear m16
  go_wp2_with fail
  go_at_call 132
  refine (equal_make (mb := mb) 0 _ N16.out.lt).mono ?_
  rintro e w22 ⟨_, rfl, ⟨b22, rfl, q22⟩, hb⟩
  have Q22 := Lib.hid (show RulV w22 mb (.equal 0) (.func (.func 145) #[] #[.pointer (some ⟨b22, 0, none⟩)]) from ⟨_, rfl, q22⟩)
  have L22 := Lib.hid (N16.out.later hb)
  clear hb q22
  obtain ⟨v17, r17, m17⟩ := L22.out.entry 16 16 rfl (by decide) (by simp) #[.func (.func 145) #[] #[.pointer (some ⟨b22, 0, none⟩)]] [.equal 0] 1 rfl (one_rule Q22.out)
  have N17 := Lib.hid m17
  clear m17
  go_wp2_with fail
  go_at_call 132
  refine (equal_make (mb := mb) 0 _ N17.out.lt).mono ?_
  rintro e w23 ⟨_, rfl, ⟨b23, rfl, q23⟩, hb⟩
  have Q23 := Lib.hid (show RulV w23 mb (.equal 0) (.func (.func 145) #[] #[.pointer (some ⟨b23, 0, none⟩)]) from ⟨_, rfl, q23⟩)
  have L23 := Lib.hid (N17.out.later hb)
  clear hb q23
  go_wp2_with fail
  go_at_call 133
  refine (fixed_make (mb := mb) 1 0 0 _ L23.out.lt).mono ?_
  rintro e w24 ⟨_, rfl, ⟨b24, c24, d24, rfl, q24⟩, hb⟩
  have Q24 := Lib.hid (show RulV w24 mb (.fixed 1 0 0) (.func (.func 146) #[] #[.pointer (some ⟨b24, 0, none⟩), .pointer (some ⟨c24, 0, none⟩), .pointer (some ⟨d24, 0, none⟩)]) from ⟨_, _, _, rfl, q24⟩)
  have L24 := Lib.hid (L23.out.later hb)
  have P23_24 := Lib.hid (Q23.out.below hb)
  clear hb q24
  obtain ⟨v18, r18, m18⟩ := L24.out.entry 17 17 rfl (by decide) (by simp) #[.func (.func 145) #[] #[.pointer (some ⟨b23, 0, none⟩)], .func (.func 146) #[] #[.pointer (some ⟨b24, 0, none⟩), .pointer (some ⟨c24, 0, none⟩), .pointer (some ⟨d24, 0, none⟩)]] [.equal 0, .fixed 1 0 0] 2 rfl (two_rules P23_24.out Q24.out)
  have N18 := Lib.hid m18
  clear m18
  go_wp2_with fail
  go_at_call 132
  refine (equal_make (mb := mb) 0 _ N18.out.lt).mono ?_
  rintro e w25 ⟨_, rfl, ⟨b25, rfl, q25⟩, hb⟩
  have Q25 := Lib.hid (show RulV w25 mb (.equal 0) (.func (.func 145) #[] #[.pointer (some ⟨b25, 0, none⟩)]) from ⟨_, rfl, q25⟩)
  have L25 := Lib.hid (N18.out.later hb)
  clear hb q25
  obtain ⟨v19, r19, m19⟩ := L25.out.entry 19 19 rfl (by decide) (by simp) #[.func (.func 145) #[] #[.pointer (some ⟨b25, 0, none⟩)]] [.equal 0] 1 rfl (one_rule Q25.out)
  have N19 := Lib.hid m19
  clear m19
  obtain ⟨v20, r20, m20⟩ := N19.out.entry 21 21 rfl (by decide) (by simp) #[.func (.func 137) #[] #[]] [.chosen] 1 rfl (one_rule (show RulV _ mb .chosen _ from rfl))
  have N20 := Lib.hid m20
  clear m20
  obtain ⟨sb, hlk, hrow⟩ := RMap.find (show RMap w v20 mb allRules from N20.out) o HO.out.1 HO.out.2
  rw [HN.out] at hlk
  have HROW := Lib.hid hrow
  clear hrow
  go_wp2
  go_ret
  exact ⟨mb, sb, rfl, HROW.out, N20.out.below⟩
end Go.Proofs.YteamnchoddegpaaGreatDoor
namespace Go.Proofs.YteamnchoddegpaaGreatDoor
open Go.RowKit Go.Maps
set_option maxHeartbeats 1600000
/-- What a rule answers: its kind, a term, a number. -/
def ruleA (W : Nat) (L : List PNode) (o : Nat) (x y z : Int) : Rul → Nat × Int × Nat
  | .twice => match L[x.toNat]? with
    | some nd => if nd.1 = o then (1, nd.2.2.getD 0 0, 0) else (0, 0, 0)
    | none => (0, 0, 0)
  | .neutral v => if isNum L y = true ∧ numD L y = v then (1, x, 0) else (0, 0, 0)
  | .fixed i v u => if isNum L ([x, y].getD i 0) = true ∧ numD L ([x, y].getD i 0) = v then (2, 0, u) else (0, 0, 0)
  | .equal v => if x = y then (2, 0, v) else (0, 0, 0)
  | .both => if x = y then (1, x, 0) else (0, 0, 0)
  | .full k => if isNum L y = true ∧ numD L y = 2 ^ W - 1 then (k, x, 2 ^ W - 1) else (0, 0, 0)
  | .beyond => if isNum L y = true ∧ W ≤ numD L y then (2, 0, 0) else (0, 0, 0)
  | .chosen => if y = z then (1, y, 0) else if isNum L x = true then (if numD L x ≠ 0 then (1, y, 0) else (1, z, 0)) else (0, 0, 0)
/-- What an answer makes. -/
def ansOf (L : List PNode) (a : Nat × Int × Nat) : Ans := if a.1 = 1 then .term a.2.1 else if a.1 = 2 then .num a.2.2 else oneA L 2 a.2.1
/-- The first rule that answers. -/
def firstA (W : Nat) (L : List PNode) (o : Nat) (x y z : Int) (xs : List Int) : List Rul → Ans
  | [] => .app o xs
  | r :: rs => if (ruleA W L o x y z r).1 = 0 then firstA W L o x y z xs rs else ansOf L (ruleA W L o x y z r)
theorem numOf_iff {L : List PNode} {y : Int} {v : Nat} : numOf L y = some v ↔ isNum L y = true ∧ numD L y = v := by
  unfold isNum numD
  cases numOf L y with
  | none => simp
  | some c => simp
section
variable (W : Nat) (L : List PNode) (o : Nat) (x y z : Int) (xs : List Int)
theorem first_yes {r : Rul} {rs : List Rul} {a : Nat × Int × Nat} (h : ruleA W L o x y z r = a) (ha : a.1 ≠ 0) : firstA W L o x y z xs (r :: rs) = ansOf L a := by
  show (if (ruleA W L o x y z r).1 = 0 then _ else _) = _
  rw [h, if_neg ha]
theorem first_no {r : Rul} {rs : List Rul} (h : (ruleA W L o x y z r).1 = 0) : firstA W L o x y z xs (r :: rs) = firstA W L o x y z xs rs := if_pos h
theorem firstA_nil : firstA W L o x y z xs [] = .app o xs := rfl
theorem f_neutral (v : Nat) (rs : List Rul) : firstA W L o x y z xs (.neutral v :: rs) = if numOf L y = some v then .term x else firstA W L o x y z xs rs := by
  have e : ruleA W L o x y z (.neutral v) = ((if isNum L y = true ∧ numD L y = v then (1, x, 0) else (0, 0, 0)) : Nat × Int × Nat) := rfl
  by_cases h : numOf L y = some v
  · rw [if_pos h, first_yes W L o x y z xs (e.trans (if_pos (numOf_iff.1 h))) (by simp)]; rfl
  · rw [if_neg h, first_no W L o x y z xs (by rw [e, if_neg (fun q => h (numOf_iff.2 q))])]
theorem f_fixed1 (v u : Nat) (rs : List Rul) : firstA W L o x y z xs (.fixed 1 v u :: rs) = if numOf L y = some v then .num u else firstA W L o x y z xs rs := by
  have e : ruleA W L o x y z (.fixed 1 v u) = ((if isNum L y = true ∧ numD L y = v then (2, 0, u) else (0, 0, 0)) : Nat × Int × Nat) := rfl
  by_cases h : numOf L y = some v
  · rw [if_pos h, first_yes W L o x y z xs (e.trans (if_pos (numOf_iff.1 h))) (by simp)]; rfl
  · rw [if_neg h, first_no W L o x y z xs (by rw [e, if_neg (fun q => h (numOf_iff.2 q))])]
theorem f_fixed0 (v u : Nat) (rs : List Rul) : firstA W L o x y z xs (.fixed 0 v u :: rs) = if numOf L x = some v then .num u else firstA W L o x y z xs rs := by
  have e : ruleA W L o x y z (.fixed 0 v u) = ((if isNum L x = true ∧ numD L x = v then (2, 0, u) else (0, 0, 0)) : Nat × Int × Nat) := rfl
  by_cases h : numOf L x = some v
  · rw [if_pos h, first_yes W L o x y z xs (e.trans (if_pos (numOf_iff.1 h))) (by simp)]; rfl
  · rw [if_neg h, first_no W L o x y z xs (by rw [e, if_neg (fun q => h (numOf_iff.2 q))])]
theorem f_equal (v : Nat) (rs : List Rul) : firstA W L o x y z xs (.equal v :: rs) = if x = y then .num v else firstA W L o x y z xs rs := by
  have e : ruleA W L o x y z (.equal v) = ((if x = y then (2, 0, v) else (0, 0, 0)) : Nat × Int × Nat) := rfl
  by_cases h : x = y
  · rw [if_pos h, first_yes W L o x y z xs (e.trans (if_pos h)) (by simp)]; rfl
  · rw [if_neg h, first_no W L o x y z xs (by rw [e, if_neg h])]
theorem f_both  (rs : List Rul) : firstA W L o x y z xs (.both :: rs) = if x = y then .term x else firstA W L o x y z xs rs := by
  have e : ruleA W L o x y z (.both) = ((if x = y then (1, x, 0) else (0, 0, 0)) : Nat × Int × Nat) := rfl
  by_cases h : x = y
  · rw [if_pos h, first_yes W L o x y z xs (e.trans (if_pos h)) (by simp)]; rfl
  · rw [if_neg h, first_no W L o x y z xs (by rw [e, if_neg h])]
theorem f_full (k : Nat) (hk : k ≠ 0) (rs : List Rul) : firstA W L o x y z xs (.full k :: rs) = if numOf L y = some (2 ^ W - 1) then ansOf L (k, x, 2 ^ W - 1) else firstA W L o x y z xs rs := by
  have e : ruleA W L o x y z (.full k) = ((if isNum L y = true ∧ numD L y = 2 ^ W - 1 then (k, x, 2 ^ W - 1) else (0, 0, 0)) : Nat × Int × Nat) := rfl
  by_cases h : numOf L y = some (2 ^ W - 1)
  · rw [if_pos h, first_yes W L o x y z xs (e.trans (if_pos (numOf_iff.1 h))) (show (k, x, 2 ^ W - 1).1 ≠ 0 from hk)]
  · rw [if_neg h, first_no W L o x y z xs (by rw [e, if_neg (fun q => h (numOf_iff.2 q))])]
theorem f_beyond  (rs : List Rul) : firstA W L o x y z xs (.beyond :: rs) = if isNum L y = true ∧ W ≤ numD L y then .num 0 else firstA W L o x y z xs rs := by
  have e : ruleA W L o x y z (.beyond) = ((if isNum L y = true ∧ W ≤ numD L y then (2, 0, 0) else (0, 0, 0)) : Nat × Int × Nat) := rfl
  by_cases h : isNum L y = true ∧ W ≤ numD L y
  · rw [if_pos h, first_yes W L o x y z xs (e.trans (if_pos h)) (by simp)]; rfl
  · rw [if_neg h, first_no W L o x y z xs (by rw [e, if_neg h])]
theorem first_two (h1 : 4 ≤ o) (h2 : o ≤ 20) : firstA W L o x y z [x, y] (rulesOf o) = twoA W L o x y := by
  have hc : o = 4 ∨ o = 5 ∨ o = 6 ∨ o = 7 ∨ o = 8 ∨ o = 9 ∨ o = 10 ∨ o = 11 ∨ o = 12 ∨ o = 13 ∨ o = 14 ∨ o = 15 ∨ o = 16 ∨ o = 17 ∨ o = 18 ∨ o = 19 ∨ o = 20 := by omega
  rcases hc with rfl | rfl | rfl | rfl | rfl | rfl | rfl | rfl | rfl | rfl | rfl | rfl | rfl | rfl | rfl | rfl | rfl <;>
    simp only [rulesOf, f_neutral, f_fixed1, f_fixed0, f_equal, f_both, f_beyond, f_full W L _ x y z _ 1 (by decide), f_full W L _ x y z _ 2 (by decide), f_full W L _ x y z _ 3 (by decide), firstA_nil, ansOf, twoA] <;> simp
end
theorem first_one (W : Nat) (L : List PNode) {o : Nat} (h : o = 2 ∨ o = 3) (x y z : Int) : firstA W L o x y z [x] (rulesOf o) = oneA L o x := by
  have hr : rulesOf o = [.twice] := by rcases h with rfl | rfl <;> rfl
  rw [hr]
  unfold oneA
  cases hx : L[x.toNat]? with
  | none => exact first_no W L o x y z [x] (by simp only [ruleA, hx])
  | some nd =>
    by_cases hn : nd.1 = o
    · rw [first_yes W L o x y z [x] (a := (1, nd.2.2.getD 0 0, 0)) (by simp only [ruleA, hx]; exact if_pos hn) (show (1 : Nat) ≠ 0 by decide)]
      simp only [if_pos hn]; rfl
    · simp only [if_neg hn]
      exact first_no W L o x y z [x] (by simp only [ruleA, hx]; rw [if_neg hn])
theorem first_three (W : Nat) (L : List PNode) (x y z : Int) : firstA W L 21 x y z [x, y, z] (rulesOf 21) = threeA L x y z := by
  show (if (ruleA W L 21 x y z .chosen).1 = 0 then Ans.app 21 [x, y, z] else ansOf L (ruleA W L 21 x y z .chosen)) = _
  unfold threeA
  by_cases h1 : y = z
  · have e : ruleA W L 21 x y z .chosen = (1, y, 0) := if_pos h1
    rw [e, if_pos h1]; rfl
  · by_cases h2 : isNum L x = true
    · by_cases h3 : numD L x ≠ 0
      · have e : ruleA W L 21 x y z .chosen = (1, y, 0) := by simp only [ruleA]; rw [if_neg h1, if_pos h2, if_pos h3]
        rw [e, if_neg h1, if_pos h2, if_pos h3]; rfl
      · have e : ruleA W L 21 x y z .chosen = (1, z, 0) := by simp only [ruleA]; rw [if_neg h1, if_pos h2, if_neg h3]
        rw [e, if_neg h1, if_pos h2, if_neg h3]; rfl
    · have e : ruleA W L 21 x y z .chosen = (0, 0, 0) := by simp only [ruleA]; rw [if_neg h1, if_neg h2]
      rw [e, if_neg h1, if_neg h2]; rfl
end Go.Proofs.YteamnchoddegpaaGreatDoor
namespace Go.Proofs.YteamnchoddegpaaGreatDoor
open Go.RowKit Go.Maps
set_option maxHeartbeats 800000
/-- A value that is called with x and answers a. -/
def RulCalls (w : World) (xb : Nat) (f : Value) (a : Nat × Int × Nat) : Prop := ∃ N caps, f = .func (.func N) #[] caps ∧ (∀ w, (callFunc N (#[.pointer (some ⟨xb, 0, none⟩)] ++ caps)).run Tryz.prog w = .ok (.enter N (#[.pointer (some ⟨xb, 0, none⟩)] ++ caps)) w) ∧ Calls Tryz.prog N (#[.pointer (some ⟨xb, 0, none⟩)] ++ caps) w fun e w' => e = .returned (ansV a) ∧ Below w.heap.size w w'
section
variable {w : World} {xb gb ab ca nb ib W room mb : Nat} {L : List PNode} {o : Nat} {x y z : Int} {base : Nat} {F I : List Nat} {f : Value}
/-- The rules of two arguments. -/
def Rul.two : Rul → Bool
  | .twice => false
  | .chosen => false
  | .fixed i _ _ => decide (i < 2)
  | _ => true
theorem rule_two (h : Asked w xb gb ab ca nb ib 2 L o [x, y]) (hg : Gr w base F I gb W room L) (r : Rul) (hr : r.two = true) (hf : RulV w mb r f) : RulCalls w xb f (ruleA W L o x y z r) := by
  cases r with
  | twice => cases hr
  | chosen => cases hr
  | neutral v => obtain ⟨b, rfl, hb, -⟩ := hf; exact ⟨_, _, rfl, fun _ => by kernel_rfl, neutral_any h b v hb⟩
  | fixed i v u => obtain ⟨b1, b2, b3, rfl, q1, q2, q3, -⟩ := hf; exact ⟨_, _, rfl, fun _ => by kernel_rfl, fixed_any h b1 b2 b3 i v u (of_decide_eq_true hr) _ rfl q1 q2 q3⟩
  | equal v => obtain ⟨b, rfl, hb, -⟩ := hf; exact ⟨_, _, rfl, fun _ => by kernel_rfl, equal_any h b v hb⟩
  | both => obtain rfl := hf; exact ⟨_, _, rfl, fun _ => by kernel_rfl, both_any h⟩
  | full k => obtain ⟨b, rfl, hb, -⟩ := hf; exact ⟨_, _, rfl, fun _ => by kernel_rfl, full_any h hg b k hb⟩
  | beyond => obtain rfl := hf; exact ⟨_, _, rfl, fun _ => by kernel_rfl, beyond_any h hg⟩
theorem rule_three (h : Asked w xb gb ab ca nb ib 3 L o [x, y, z]) (hf : RulV w mb .chosen f) : RulCalls w xb f (ruleA W L o x y z .chosen) := by
  obtain rfl := hf
  exact ⟨_, _, rfl, fun _ => by kernel_rfl, chosen_any h⟩
theorem rule_one {t : Nat} {nd : PNode} (h : Asked w xb gb ab ca nb ib 1 L o [(t : Int)]) (hg : Gr w base F I gb W room L) (hi : L[t]? = some nd) (ho : aryN o = 1) (hf : RulV w mb .twice f) : RulCalls w xb f (ruleA W L o (t : Int) y z .twice) := by
  obtain rfl := hf
  refine ⟨_, _, rfl, fun _ => by kernel_rfl, ?_⟩
  have e : ruleA W L o (t : Int) y z .twice = if nd.1 = o then (1, nd.2.2.getD 0 0, 0) else (0, 0, 0) := by simp only [ruleA, Int.toNat_natCast, hi]
  rw [e]
  exact twice_any h hg hi ho
/-- Whatever rule it is that an operator has. -/
theorem rules_two (h1 : 4 ≤ o) (h2 : o ≤ 20) : ∀ r ∈ rulesOf o, r.two = true := by
  have hc : o = 4 ∨ o = 5 ∨ o = 6 ∨ o = 7 ∨ o = 8 ∨ o = 9 ∨ o = 10 ∨ o = 11 ∨ o = 12 ∨ o = 13 ∨ o = 14 ∨ o = 15 ∨ o = 16 ∨ o = 17 ∨ o = 18 ∨ o = 19 ∨ o = 20 := by omega
  rcases hc with rfl | rfl | rfl | rfl | rfl | rfl | rfl | rfl | rfl | rfl | rfl | rfl | rfl | rfl | rfl | rfl | rfl <;> simp [rulesOf, Rul.two]
theorem rule_any {n : Nat} {xs : List Int} (h : Asked w xb gb ab ca nb ib n L o xs) (hg : Gr w base F I gb W room L) (ho1 : 2 ≤ o) (ho2 : o ≤ 21) (hl : aryN o = n) (hxs : ∀ t ∈ xs, 0 ≤ t ∧ t < (L.length : Int)) (r : Rul) (hr : r ∈ rulesOf o) (hf : RulV w mb r f) :
    RulCalls w xb f (ruleA W L o (xs.getD 0 0) (xs.getD 1 0) (xs.getD 2 0) r) := by
  have hn := h.len
  by_cases h2 : o ≤ 3
  · have ha : aryN o = 1 := by have : o = 2 ∨ o = 3 := by omega
                               rcases this with rfl | rfl <;> rfl
    obtain rfl : n = 1 := by omega
    obtain ⟨x, rfl⟩ : ∃ x, xs = [x] := by
      match xs, hn with
      | [x], _ => exact ⟨x, rfl⟩
    obtain ⟨t, rfl⟩ := Int.eq_ofNat_of_zero_le (hxs x (by simp)).1
    have ht := (hxs _ (List.mem_singleton.2 rfl)).2
    obtain ⟨nd, hi⟩ : ∃ nd, L[t]? = some nd := ⟨_, List.getElem?_eq_getElem (by omega)⟩
    have hr2 : r = .twice := by
      have : o = 2 ∨ o = 3 := by omega
      rcases this with rfl | rfl <;> simpa [rulesOf] using hr
    subst hr2
    exact rule_one h hg hi ha hf
  · by_cases h3 : o = 21
    · subst h3
      have ha : aryN 21 = 3 := rfl
      obtain rfl : n = 3 := by omega
      obtain ⟨x, y, z, rfl⟩ : ∃ x y z, xs = [x, y, z] := by
        match xs, hn with
        | [x, y, z], _ => exact ⟨x, y, z, rfl⟩
      have hr2 : r = .chosen := by simpa [rulesOf] using hr
      subst hr2
      exact rule_three h hf
    · have ha : aryN o = 2 := by
        have hc : o = 4 ∨ o = 5 ∨ o = 6 ∨ o = 7 ∨ o = 8 ∨ o = 9 ∨ o = 10 ∨ o = 11 ∨ o = 12 ∨ o = 13 ∨ o = 14 ∨ o = 15 ∨ o = 16 ∨ o = 17 ∨ o = 18 ∨ o = 19 ∨ o = 20 := by omega
        rcases hc with rfl | rfl | rfl | rfl | rfl | rfl | rfl | rfl | rfl | rfl | rfl | rfl | rfl | rfl | rfl | rfl | rfl <;> rfl
      obtain rfl : n = 2 := by omega
      obtain ⟨x, y, rfl⟩ : ∃ x y, xs = [x, y] := by
        match xs, hn with
        | [x, y], _ => exact ⟨x, y, rfl⟩
      exact rule_two h hg r (rules_two (by omega) (by omega) r hr) hf
end
end Go.Proofs.YteamnchoddegpaaGreatDoor
