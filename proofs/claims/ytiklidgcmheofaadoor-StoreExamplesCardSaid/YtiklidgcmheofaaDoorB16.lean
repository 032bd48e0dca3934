/- FlE: joined by wip/bundle.py. -/
import Derived.Test.YtiklidgcmheofaaDoorB1
import Derived.Test.YtiklidgcmheofaaDoorB2
import Derived.Test.YtiklidgcmheofaaDoorB3
import Derived.Test.YtiklidgcmheofaaDoorB4
import Derived.Test.YtiklidgcmheofaaDoorB5
import Derived.Test.YtiklidgcmheofaaDoorB14
import Derived.Test.YtiklidgcmheofaaDoorB15
import Derived.BigQuiet
namespace Go.Proofs.YtiklidgcmheofaaDoor
open Go.RowKit Go.Maps
set_option maxHeartbeats 12800000
section
variable {W R : Int} {a1 a2 a3 a4 : Option Addr} {nc ns na nk c1 c2 c3 c4 o an bn : Nat} {d n ar br : Int} {w : World}
set_option maxRecDepth 100000 in
theorem finstr_5 (hA : ∃ b1, refB W R ar an true = b1 ∧ ∀ w, Calls Tryd.prog 63 #[.agg #[.int .i64 W, .int .i64 R, .slice a1 nc c1, .slice a2 ns c2, .slice a3 na c3, .slice a4 nk c4], .agg #[.int .i64 ar, .int .u64 an], .bool true] w fun e w' => e = .returned (.bool b1) ∧ Below w.heap.size w w')
    (hB : ∃ b2, refB W R br bn false = b2 ∧ ∀ w, Calls Tryd.prog 63 #[.agg #[.int .i64 W, .int .i64 R, .slice a1 nc c1, .slice a2 ns c2, .slice a3 na c3, .slice a4 nk c4], .agg #[.int .i64 br, .int .u64 bn], .bool false] w fun e w' => e = .returned (.bool b2) ∧ Below w.heap.size w w') (ho : o ≤ 255) (hT : ShpOk w) (p0 : Prop) (hp0 : p0 ↔ (o = 0 ∧ (0 ≤ n ∧ n < (nc : Int)) ∧ (d = 0) ∧ refB W R ar an true = true ∧ refB W R br bn false = true)) (h0 : 0 < w.heap.size) :
    Calls Tryd.prog 46 #[.agg #[.int .i64 W, .int .i64 R, .slice a1 nc c1, .slice a2 ns c2, .slice a3 na c3, .slice a4 nk c4], .agg #[.int .u8 5, .int .u8 (o : Int), .int .i64 d, .int .i64 n, .int .i64 ar, .int .u64 an, .int .i64 br, .int .u64 bn]] w (BoolPost p0 w) := by
  obtain ⟨b1, e1, hA⟩ := hA
  obtain ⟨b2, e2, hB⟩ := hB
  rw [e1, e2] at hp0
  obtain ⟨s0, s1, s2, s3⟩ := hT 5 (by omega)
  replace s0 : w.cell? ⟨0, 20, none⟩ = some (.bool false) := s0
  replace s1 : w.cell? ⟨0, 21, none⟩ = some (.bool true) := s1
  replace s2 : w.cell? ⟨0, 22, none⟩ = some (.bool false) := s2
  replace s3 : w.cell? ⟨0, 23, none⟩ = some (.int .i64 2) := s3
  have HA := Lib.hid hA; have HB := Lib.hid hB; have H0 := Lib.hid hT
  have hix := fun w => index5_2 (.int .i64 1) (.int .i64 na) (.int .i64 nc) (.int .i64 ns) (.int .i64 nk) w
  have HI := Lib.hid hp0
  clear hA hB e1 e2 hT hp0
  by_cases ho0 : o = 0
  case neg =>
    have g : ((o : Int) != 0) = true := by rw [bne_iff_ne]; omega
    go_enter Tryd.func46, Tryd.ntmps46
    go_wp2
    go_ret
    exact ⟨_, rfl, ⟨(by intro h; cases h), fun h => by (have hh := HI.out.1 h; exfalso; omega)⟩, below3 w _ _ _⟩
  subst ho0
  by_cases hn0 : 0 ≤ n
  case neg =>
    have g : decide (n < 0) = true := decide_eq_true (by omega)
    have HH := Lib.hid hn0
    clear hn0
    go_enter Tryd.func46, Tryd.ntmps46
    go_wp2
    go_ret
    exact ⟨_, rfl, ⟨(by intro h; cases h), fun h => by (have hh := HI.out.1 h; have hk := HH.out; exfalso; omega)⟩, below3 w _ _ _⟩
  have g0 : decide (n < 0) = false := decide_eq_false (by omega)
  by_cases hn1 : n < (nc : Int)
  case neg =>
    have g : decide ((nc : Int) ≤ n) = true := decide_eq_true (by omega)
    have HH := Lib.hid hn1
    clear hn1
    go_enter Tryd.func46, Tryd.ntmps46
    go_wp2
    go_ret
    exact ⟨_, rfl, ⟨(by intro h; cases h), fun h => by (have hh := HI.out.1 h; have hk := HH.out; exfalso; omega)⟩, below3 w _ _ _⟩
  have g1 : decide ((nc : Int) ≤ n) = false := decide_eq_false (by omega)
  by_cases hd0 : d = 0
  case neg =>
    have g : (d != 0) = true := by rw [bne_iff_ne]; omega
    have HH := Lib.hid hd0
    clear hd0
    go_enter Tryd.func46, Tryd.ntmps46
    go_wp2
    go_ret
    exact ⟨_, rfl, ⟨(by intro h; cases h), fun h => by (have hh := HI.out.1 h; have hk := HH.out; exfalso; omega)⟩, below3 w _ _ _⟩
  have g2 : (d != 0) = false := by rw [bne_eq_false_iff_eq]; omega
  subst hd0
  clear g2
  have HP := Lib.hid (And.intro hn0 hn1)
  clear hn0 hn1
  go_enter Tryd.func46, Tryd.ntmps46
  go_upto_region 14 with fail
  refine wp_abs (fun wx => Bx w wx w.heap.size #[.int .i64 W, .int .i64 R, .slice a1 nc c1, .slice a2 ns c2, .slice a3 na c3, .slice a4 nk c4] #[.int .u8 5, .int .u8 0, .int .i64 0, .int .i64 n, .int .i64 ar, .int .u64 an, .int .i64 br, .int .u64 bn] #[.bool false, .bool true, .bool false, .int .i64 2]) ⟨below3 w _ _ _, (heap3 w _ _ _).1, (heap3 w _ _ _).2.1, (heap3 w _ _ _).2.2⟩ ?_
  intro w1 hb
  obtain ⟨p, hp⟩ : ∃ p, w.heap.size = p := ⟨_, rfl⟩
  rw [hp] at hb
  simp only [hp]
  have HBX := Lib.hid hb
  clear hb
  have qf0 := cell_of_cells HBX.out.f (i := 0) rfl
  have qf1 := cell_of_cells HBX.out.f (i := 1) rfl
  have qf2 := cell_of_cells HBX.out.f (i := 2) rfl
  have qf3 := cell_of_cells HBX.out.f (i := 3) rfl
  have qf4 := cell_of_cells HBX.out.f (i := 4) rfl
  have qf5 := cell_of_cells HBX.out.f (i := 5) rfl
  have qc0 := cell_of_cells HBX.out.c (i := 0) rfl
  have qc1 := cell_of_cells HBX.out.c (i := 1) rfl
  have qc2 := cell_of_cells HBX.out.c (i := 2) rfl
  have qc3 := cell_of_cells HBX.out.c (i := 3) rfl
  have qc4 := cell_of_cells HBX.out.c (i := 4) rfl
  have qc5 := cell_of_cells HBX.out.c (i := 5) rfl
  have qc6 := cell_of_cells HBX.out.c (i := 6) rfl
  have qc7 := cell_of_cells HBX.out.c (i := 7) rfl
  have qs0 := cell_of_cells HBX.out.s (i := 0) rfl
  have qs1 := cell_of_cells HBX.out.s (i := 1) rfl
  have qs2 := cell_of_cells HBX.out.s (i := 2) rfl
  have qs3 := cell_of_cells HBX.out.s (i := 3) rfl
  have HA1 := HA.out; have HB1 := HB.out
  go_wp2_with fail
  go_at_call 63
  refine (HA.out _).mono ?_
  rintro e w5 ⟨rfl, hb5⟩
  clear HA1 HB1 qf0 qf1 qf2 qf3 qf4 qf5 qc0 qc1 qc2 qc3 qc4 qc5 qc6 qc7 qs0 qs1 qs2 qs3
  replace HBX := Lib.hid (HBX.out.later hb5)
  clear hb5
  cases b1 with
  | false =>
    go_wp2
    go_ret
    exact ⟨_, rfl, ⟨(by intro h; cases h), fun h => by cases (HI.out.1 h).2.2.2.1⟩, HBX.out.below⟩
  | true =>
    have qf0 := cell_of_cells HBX.out.f (i := 0) rfl
    have qf1 := cell_of_cells HBX.out.f (i := 1) rfl
    have qf2 := cell_of_cells HBX.out.f (i := 2) rfl
    have qf3 := cell_of_cells HBX.out.f (i := 3) rfl
    have qf4 := cell_of_cells HBX.out.f (i := 4) rfl
    have qf5 := cell_of_cells HBX.out.f (i := 5) rfl
    have qc0 := cell_of_cells HBX.out.c (i := 0) rfl
    have qc1 := cell_of_cells HBX.out.c (i := 1) rfl
    have qc2 := cell_of_cells HBX.out.c (i := 2) rfl
    have qc3 := cell_of_cells HBX.out.c (i := 3) rfl
    have qc4 := cell_of_cells HBX.out.c (i := 4) rfl
    have qc5 := cell_of_cells HBX.out.c (i := 5) rfl
    have qc6 := cell_of_cells HBX.out.c (i := 6) rfl
    have qc7 := cell_of_cells HBX.out.c (i := 7) rfl
    have qs0 := cell_of_cells HBX.out.s (i := 0) rfl
    have qs1 := cell_of_cells HBX.out.s (i := 1) rfl
    have qs2 := cell_of_cells HBX.out.s (i := 2) rfl
    have qs3 := cell_of_cells HBX.out.s (i := 3) rfl
    go_wp2_with fail
    go_at_call 63
    refine (HB.out _).mono ?_
    rintro e w6 ⟨rfl, hb6⟩
    clear qf0 qf1 qf2 qf3 qf4 qf5 qc0 qc1 qc2 qc3 qc4 qc5 qc6 qc7 qs0 qs1 qs2 qs3
    replace HBX := Lib.hid (HBX.out.later hb6)
    clear hb6
    go_wp2
    go_ret
    cases b2 with
    | false => exact ⟨_, rfl, ⟨(by intro h; cases h), fun h => by cases (HI.out.1 h).2.2.2.2⟩, HBX.out.below⟩
    | true => exact ⟨_, rfl, ⟨fun h => HI.out.2 ⟨by simp, ⟨HP.out.1, HP.out.2⟩, by simp, by simp, by simp⟩, fun _ => by simp⟩, HBX.out.below⟩
set_option maxRecDepth 100000 in
theorem finstr_6 (hA : ∃ b1, refB W R ar an true = b1 ∧ ∀ w, Calls Tryd.prog 63 #[.agg #[.int .i64 W, .int .i64 R, .slice a1 nc c1, .slice a2 ns c2, .slice a3 na c3, .slice a4 nk c4], .agg #[.int .i64 ar, .int .u64 an], .bool true] w fun e w' => e = .returned (.bool b1) ∧ Below w.heap.size w w')
    (hB : ∃ b2, refB W R br bn false = b2 ∧ ∀ w, Calls Tryd.prog 63 #[.agg #[.int .i64 W, .int .i64 R, .slice a1 nc c1, .slice a2 ns c2, .slice a3 na c3, .slice a4 nk c4], .agg #[.int .i64 br, .int .u64 bn], .bool false] w fun e w' => e = .returned (.bool b2) ∧ Below w.heap.size w w') (ho : o ≤ 255) (hT : ShpOk w) (p0 : Prop) (hp0 : p0 ↔ (o = 0 ∧ (0 ≤ n ∧ n < (ns : Int)) ∧ (0 ≤ d ∧ d < R) ∧ refB W R ar an true = true ∧ refB W R br bn false = true)) (h0 : 0 < w.heap.size) :
    Calls Tryd.prog 46 #[.agg #[.int .i64 W, .int .i64 R, .slice a1 nc c1, .slice a2 ns c2, .slice a3 na c3, .slice a4 nk c4], .agg #[.int .u8 6, .int .u8 (o : Int), .int .i64 d, .int .i64 n, .int .i64 ar, .int .u64 an, .int .i64 br, .int .u64 bn]] w (BoolPost p0 w) := by
  obtain ⟨b1, e1, hA⟩ := hA
  obtain ⟨b2, e2, hB⟩ := hB
  rw [e1, e2] at hp0
  obtain ⟨s0, s1, s2, s3⟩ := hT 6 (by omega)
  replace s0 : w.cell? ⟨0, 24, none⟩ = some (.bool true) := s0
  replace s1 : w.cell? ⟨0, 25, none⟩ = some (.bool true) := s1
  replace s2 : w.cell? ⟨0, 26, none⟩ = some (.bool false) := s2
  replace s3 : w.cell? ⟨0, 27, none⟩ = some (.int .i64 3) := s3
  have HA := Lib.hid hA; have HB := Lib.hid hB; have H0 := Lib.hid hT
  have hix := fun w => index5_3 (.int .i64 1) (.int .i64 na) (.int .i64 nc) (.int .i64 ns) (.int .i64 nk) w
  have HI := Lib.hid hp0
  clear hA hB e1 e2 hT hp0
  by_cases ho0 : o = 0
  case neg =>
    have g : ((o : Int) != 0) = true := by rw [bne_iff_ne]; omega
    go_enter Tryd.func46, Tryd.ntmps46
    go_wp2
    go_ret
    exact ⟨_, rfl, ⟨(by intro h; cases h), fun h => by (have hh := HI.out.1 h; exfalso; omega)⟩, below3 w _ _ _⟩
  subst ho0
  by_cases hn0 : 0 ≤ n
  case neg =>
    have g : decide (n < 0) = true := decide_eq_true (by omega)
    have HH := Lib.hid hn0
    clear hn0
    go_enter Tryd.func46, Tryd.ntmps46
    go_wp2
    go_ret
    exact ⟨_, rfl, ⟨(by intro h; cases h), fun h => by (have hh := HI.out.1 h; have hk := HH.out; exfalso; omega)⟩, below3 w _ _ _⟩
  have g0 : decide (n < 0) = false := decide_eq_false (by omega)
  by_cases hn1 : n < (ns : Int)
  case neg =>
    have g : decide ((ns : Int) ≤ n) = true := decide_eq_true (by omega)
    have HH := Lib.hid hn1
    clear hn1
    go_enter Tryd.func46, Tryd.ntmps46
    go_wp2
    go_ret
    exact ⟨_, rfl, ⟨(by intro h; cases h), fun h => by (have hh := HI.out.1 h; have hk := HH.out; exfalso; omega)⟩, below3 w _ _ _⟩
  have g1 : decide ((ns : Int) ≤ n) = false := decide_eq_false (by omega)
  by_cases hd0 : 0 ≤ d
  case neg =>
    have g : decide (d < 0) = true := decide_eq_true (by omega)
    have HH := Lib.hid hd0
    clear hd0
    go_enter Tryd.func46, Tryd.ntmps46
    go_wp2
    go_ret
    exact ⟨_, rfl, ⟨(by intro h; cases h), fun h => by (have hh := HI.out.1 h; have hk := HH.out; exfalso; omega)⟩, below3 w _ _ _⟩
  have g2 : decide (d < 0) = false := decide_eq_false (by omega)
  by_cases hd1 : d < R
  case neg =>
    have g : decide (R ≤ d) = true := decide_eq_true (by omega)
    have HH := Lib.hid hd1
    clear hd1
    go_enter Tryd.func46, Tryd.ntmps46
    go_wp2
    go_ret
    exact ⟨_, rfl, ⟨(by intro h; cases h), fun h => by (have hh := HI.out.1 h; have hk := HH.out; exfalso; omega)⟩, below3 w _ _ _⟩
  have g3 : decide (R ≤ d) = false := decide_eq_false (by omega)
  have HP := Lib.hid (And.intro hn0 (And.intro hn1 (And.intro hd0 hd1)))
  clear hn0 hn1 hd0 hd1
  go_enter Tryd.func46, Tryd.ntmps46
  go_upto_region 14 with fail
  refine wp_abs (fun wx => Bx w wx w.heap.size #[.int .i64 W, .int .i64 R, .slice a1 nc c1, .slice a2 ns c2, .slice a3 na c3, .slice a4 nk c4] #[.int .u8 6, .int .u8 0, .int .i64 d, .int .i64 n, .int .i64 ar, .int .u64 an, .int .i64 br, .int .u64 bn] #[.bool true, .bool true, .bool false, .int .i64 3]) ⟨below3 w _ _ _, (heap3 w _ _ _).1, (heap3 w _ _ _).2.1, (heap3 w _ _ _).2.2⟩ ?_
  intro w1 hb
  obtain ⟨p, hp⟩ : ∃ p, w.heap.size = p := ⟨_, rfl⟩
  rw [hp] at hb
  simp only [hp]
  have HBX := Lib.hid hb
  clear hb
  have qf0 := cell_of_cells HBX.out.f (i := 0) rfl
  have qf1 := cell_of_cells HBX.out.f (i := 1) rfl
  have qf2 := cell_of_cells HBX.out.f (i := 2) rfl
  have qf3 := cell_of_cells HBX.out.f (i := 3) rfl
  have qf4 := cell_of_cells HBX.out.f (i := 4) rfl
  have qf5 := cell_of_cells HBX.out.f (i := 5) rfl
  have qc0 := cell_of_cells HBX.out.c (i := 0) rfl
  have qc1 := cell_of_cells HBX.out.c (i := 1) rfl
  have qc2 := cell_of_cells HBX.out.c (i := 2) rfl
  have qc3 := cell_of_cells HBX.out.c (i := 3) rfl
  have qc4 := cell_of_cells HBX.out.c (i := 4) rfl
  have qc5 := cell_of_cells HBX.out.c (i := 5) rfl
  have qc6 := cell_of_cells HBX.out.c (i := 6) rfl
  have qc7 := cell_of_cells HBX.out.c (i := 7) rfl
  have qs0 := cell_of_cells HBX.out.s (i := 0) rfl
  have qs1 := cell_of_cells HBX.out.s (i := 1) rfl
  have qs2 := cell_of_cells HBX.out.s (i := 2) rfl
  have qs3 := cell_of_cells HBX.out.s (i := 3) rfl
  have HA1 := HA.out; have HB1 := HB.out
  go_wp2_with fail
  go_at_call 63
  refine (HA.out _).mono ?_
  rintro e w5 ⟨rfl, hb5⟩
  clear HA1 HB1 qf0 qf1 qf2 qf3 qf4 qf5 qc0 qc1 qc2 qc3 qc4 qc5 qc6 qc7 qs0 qs1 qs2 qs3
  replace HBX := Lib.hid (HBX.out.later hb5)
  clear hb5
  cases b1 with
  | false =>
    go_wp2
    go_ret
    exact ⟨_, rfl, ⟨(by intro h; cases h), fun h => by cases (HI.out.1 h).2.2.2.1⟩, HBX.out.below⟩
  | true =>
    have qf0 := cell_of_cells HBX.out.f (i := 0) rfl
    have qf1 := cell_of_cells HBX.out.f (i := 1) rfl
    have qf2 := cell_of_cells HBX.out.f (i := 2) rfl
    have qf3 := cell_of_cells HBX.out.f (i := 3) rfl
    have qf4 := cell_of_cells HBX.out.f (i := 4) rfl
    have qf5 := cell_of_cells HBX.out.f (i := 5) rfl
    have qc0 := cell_of_cells HBX.out.c (i := 0) rfl
    have qc1 := cell_of_cells HBX.out.c (i := 1) rfl
    have qc2 := cell_of_cells HBX.out.c (i := 2) rfl
    have qc3 := cell_of_cells HBX.out.c (i := 3) rfl
    have qc4 := cell_of_cells HBX.out.c (i := 4) rfl
    have qc5 := cell_of_cells HBX.out.c (i := 5) rfl
    have qc6 := cell_of_cells HBX.out.c (i := 6) rfl
    have qc7 := cell_of_cells HBX.out.c (i := 7) rfl
    have qs0 := cell_of_cells HBX.out.s (i := 0) rfl
    have qs1 := cell_of_cells HBX.out.s (i := 1) rfl
    have qs2 := cell_of_cells HBX.out.s (i := 2) rfl
    have qs3 := cell_of_cells HBX.out.s (i := 3) rfl
    go_wp2_with fail
    go_at_call 63
    refine (HB.out _).mono ?_
    rintro e w6 ⟨rfl, hb6⟩
    clear qf0 qf1 qf2 qf3 qf4 qf5 qc0 qc1 qc2 qc3 qc4 qc5 qc6 qc7 qs0 qs1 qs2 qs3
    replace HBX := Lib.hid (HBX.out.later hb6)
    clear hb6
    go_wp2
    go_ret
    cases b2 with
    | false => exact ⟨_, rfl, ⟨(by intro h; cases h), fun h => by cases (HI.out.1 h).2.2.2.2⟩, HBX.out.below⟩
    | true => exact ⟨_, rfl, ⟨fun h => HI.out.2 ⟨by simp, ⟨HP.out.1, HP.out.2.1⟩, HP.out.2.2, by simp, by simp⟩, fun _ => by simp⟩, HBX.out.below⟩
set_option maxRecDepth 100000 in
theorem finstr_7 (hA : ∃ b1, refB W R ar an false = b1 ∧ ∀ w, Calls Tryd.prog 63 #[.agg #[.int .i64 W, .int .i64 R, .slice a1 nc c1, .slice a2 ns c2, .slice a3 na c3, .slice a4 nk c4], .agg #[.int .i64 ar, .int .u64 an], .bool false] w fun e w' => e = .returned (.bool b1) ∧ Below w.heap.size w w')
    (hB : ∃ b2, refB W R br bn false = b2 ∧ ∀ w, Calls Tryd.prog 63 #[.agg #[.int .i64 W, .int .i64 R, .slice a1 nc c1, .slice a2 ns c2, .slice a3 na c3, .slice a4 nk c4], .agg #[.int .i64 br, .int .u64 bn], .bool false] w fun e w' => e = .returned (.bool b2) ∧ Below w.heap.size w w') (ho : o ≤ 255) (hT : ShpOk w) (p0 : Prop) (hp0 : p0 ↔ (o = 0 ∧ (0 ≤ n ∧ n < (nk : Int)) ∧ (d = 0) ∧ refB W R ar an false = true ∧ refB W R br bn false = true)) (h0 : 0 < w.heap.size) :
    Calls Tryd.prog 46 #[.agg #[.int .i64 W, .int .i64 R, .slice a1 nc c1, .slice a2 ns c2, .slice a3 na c3, .slice a4 nk c4], .agg #[.int .u8 7, .int .u8 (o : Int), .int .i64 d, .int .i64 n, .int .i64 ar, .int .u64 an, .int .i64 br, .int .u64 bn]] w (BoolPost p0 w) := by
  obtain ⟨b1, e1, hA⟩ := hA
  obtain ⟨b2, e2, hB⟩ := hB
  rw [e1, e2] at hp0
  obtain ⟨s0, s1, s2, s3⟩ := hT 7 (by omega)
  replace s0 : w.cell? ⟨0, 28, none⟩ = some (.bool false) := s0
  replace s1 : w.cell? ⟨0, 29, none⟩ = some (.bool false) := s1
  replace s2 : w.cell? ⟨0, 30, none⟩ = some (.bool false) := s2
  replace s3 : w.cell? ⟨0, 31, none⟩ = some (.int .i64 4) := s3
  have HA := Lib.hid hA; have HB := Lib.hid hB; have H0 := Lib.hid hT
  have hix := fun w => index5_4 (.int .i64 1) (.int .i64 na) (.int .i64 nc) (.int .i64 ns) (.int .i64 nk) w
  have HI := Lib.hid hp0
  clear hA hB e1 e2 hT hp0
  by_cases ho0 : o = 0
  case neg =>
    have g : ((o : Int) != 0) = true := by rw [bne_iff_ne]; omega
    go_enter Tryd.func46, Tryd.ntmps46
    go_wp2
    go_ret
    exact ⟨_, rfl, ⟨(by intro h; cases h), fun h => by (have hh := HI.out.1 h; exfalso; omega)⟩, below3 w _ _ _⟩
  subst ho0
  by_cases hn0 : 0 ≤ n
  case neg =>
    have g : decide (n < 0) = true := decide_eq_true (by omega)
    have HH := Lib.hid hn0
    clear hn0
    go_enter Tryd.func46, Tryd.ntmps46
    go_wp2
    go_ret
    exact ⟨_, rfl, ⟨(by intro h; cases h), fun h => by (have hh := HI.out.1 h; have hk := HH.out; exfalso; omega)⟩, below3 w _ _ _⟩
  have g0 : decide (n < 0) = false := decide_eq_false (by omega)
  by_cases hn1 : n < (nk : Int)
  case neg =>
    have g : decide ((nk : Int) ≤ n) = true := decide_eq_true (by omega)
    have HH := Lib.hid hn1
    clear hn1
    go_enter Tryd.func46, Tryd.ntmps46
    go_wp2
    go_ret
    exact ⟨_, rfl, ⟨(by intro h; cases h), fun h => by (have hh := HI.out.1 h; have hk := HH.out; exfalso; omega)⟩, below3 w _ _ _⟩
  have g1 : decide ((nk : Int) ≤ n) = false := decide_eq_false (by omega)
  by_cases hd0 : d = 0
  case neg =>
    have g : (d != 0) = true := by rw [bne_iff_ne]; omega
    have HH := Lib.hid hd0
    clear hd0
    go_enter Tryd.func46, Tryd.ntmps46
    go_wp2
    go_ret
    exact ⟨_, rfl, ⟨(by intro h; cases h), fun h => by (have hh := HI.out.1 h; have hk := HH.out; exfalso; omega)⟩, below3 w _ _ _⟩
  have g2 : (d != 0) = false := by rw [bne_eq_false_iff_eq]; omega
  subst hd0
  clear g2
  have HP := Lib.hid (And.intro hn0 hn1)
  clear hn0 hn1
  go_enter Tryd.func46, Tryd.ntmps46
  go_upto_region 14 with fail
  refine wp_abs (fun wx => Bx w wx w.heap.size #[.int .i64 W, .int .i64 R, .slice a1 nc c1, .slice a2 ns c2, .slice a3 na c3, .slice a4 nk c4] #[.int .u8 7, .int .u8 0, .int .i64 0, .int .i64 n, .int .i64 ar, .int .u64 an, .int .i64 br, .int .u64 bn] #[.bool false, .bool false, .bool false, .int .i64 4]) ⟨below3 w _ _ _, (heap3 w _ _ _).1, (heap3 w _ _ _).2.1, (heap3 w _ _ _).2.2⟩ ?_
  intro w1 hb
  obtain ⟨p, hp⟩ : ∃ p, w.heap.size = p := ⟨_, rfl⟩
  rw [hp] at hb
  simp only [hp]
  have HBX := Lib.hid hb
  clear hb
  have qf0 := cell_of_cells HBX.out.f (i := 0) rfl
  have qf1 := cell_of_cells HBX.out.f (i := 1) rfl
  have qf2 := cell_of_cells HBX.out.f (i := 2) rfl
  have qf3 := cell_of_cells HBX.out.f (i := 3) rfl
  have qf4 := cell_of_cells HBX.out.f (i := 4) rfl
  have qf5 := cell_of_cells HBX.out.f (i := 5) rfl
  have qc0 := cell_of_cells HBX.out.c (i := 0) rfl
  have qc1 := cell_of_cells HBX.out.c (i := 1) rfl
  have qc2 := cell_of_cells HBX.out.c (i := 2) rfl
  have qc3 := cell_of_cells HBX.out.c (i := 3) rfl
  have qc4 := cell_of_cells HBX.out.c (i := 4) rfl
  have qc5 := cell_of_cells HBX.out.c (i := 5) rfl
  have qc6 := cell_of_cells HBX.out.c (i := 6) rfl
  have qc7 := cell_of_cells HBX.out.c (i := 7) rfl
  have qs0 := cell_of_cells HBX.out.s (i := 0) rfl
  have qs1 := cell_of_cells HBX.out.s (i := 1) rfl
  have qs2 := cell_of_cells HBX.out.s (i := 2) rfl
  have qs3 := cell_of_cells HBX.out.s (i := 3) rfl
  have HA1 := HA.out; have HB1 := HB.out
  go_wp2_with fail
  go_at_call 63
  refine (HA.out _).mono ?_
  rintro e w5 ⟨rfl, hb5⟩
  clear HA1 HB1 qf0 qf1 qf2 qf3 qf4 qf5 qc0 qc1 qc2 qc3 qc4 qc5 qc6 qc7 qs0 qs1 qs2 qs3
  replace HBX := Lib.hid (HBX.out.later hb5)
  clear hb5
  cases b1 with
  | false =>
    go_wp2
    go_ret
    exact ⟨_, rfl, ⟨(by intro h; cases h), fun h => by cases (HI.out.1 h).2.2.2.1⟩, HBX.out.below⟩
  | true =>
    have qf0 := cell_of_cells HBX.out.f (i := 0) rfl
    have qf1 := cell_of_cells HBX.out.f (i := 1) rfl
    have qf2 := cell_of_cells HBX.out.f (i := 2) rfl
    have qf3 := cell_of_cells HBX.out.f (i := 3) rfl
    have qf4 := cell_of_cells HBX.out.f (i := 4) rfl
    have qf5 := cell_of_cells HBX.out.f (i := 5) rfl
    have qc0 := cell_of_cells HBX.out.c (i := 0) rfl
    have qc1 := cell_of_cells HBX.out.c (i := 1) rfl
    have qc2 := cell_of_cells HBX.out.c (i := 2) rfl
    have qc3 := cell_of_cells HBX.out.c (i := 3) rfl
    have qc4 := cell_of_cells HBX.out.c (i := 4) rfl
    have qc5 := cell_of_cells HBX.out.c (i := 5) rfl
    have qc6 := cell_of_cells HBX.out.c (i := 6) rfl
    have qc7 := cell_of_cells HBX.out.c (i := 7) rfl
    have qs0 := cell_of_cells HBX.out.s (i := 0) rfl
    have qs1 := cell_of_cells HBX.out.s (i := 1) rfl
    have qs2 := cell_of_cells HBX.out.s (i := 2) rfl
    have qs3 := cell_of_cells HBX.out.s (i := 3) rfl
    go_wp2_with fail
    go_at_call 63
    refine (HB.out _).mono ?_
    rintro e w6 ⟨rfl, hb6⟩
    clear qf0 qf1 qf2 qf3 qf4 qf5 qc0 qc1 qc2 qc3 qc4 qc5 qc6 qc7 qs0 qs1 qs2 qs3
    replace HBX := Lib.hid (HBX.out.later hb6)
    clear hb6
    go_wp2
    go_ret
    cases b2 with
    | false => exact ⟨_, rfl, ⟨(by intro h; cases h), fun h => by cases (HI.out.1 h).2.2.2.2⟩, HBX.out.below⟩
    | true => exact ⟨_, rfl, ⟨fun h => HI.out.2 ⟨by simp, ⟨HP.out.1, HP.out.2⟩, by simp, by simp, by simp⟩, fun _ => by simp⟩, HBX.out.below⟩
set_option maxRecDepth 100000 in
theorem finstr_8 (hA : ∃ b1, refB W R ar an true = b1 ∧ ∀ w, Calls Tryd.prog 63 #[.agg #[.int .i64 W, .int .i64 R, .slice a1 nc c1, .slice a2 ns c2, .slice a3 na c3, .slice a4 nk c4], .agg #[.int .i64 ar, .int .u64 an], .bool true] w fun e w' => e = .returned (.bool b1) ∧ Below w.heap.size w w')
    (hB : ∃ b2, refB W R br bn false = b2 ∧ ∀ w, Calls Tryd.prog 63 #[.agg #[.int .i64 W, .int .i64 R, .slice a1 nc c1, .slice a2 ns c2, .slice a3 na c3, .slice a4 nk c4], .agg #[.int .i64 br, .int .u64 bn], .bool false] w fun e w' => e = .returned (.bool b2) ∧ Below w.heap.size w w') (ho : o ≤ 255) (hT : ShpOk w) (p0 : Prop) (hp0 : p0 ↔ (o = 0 ∧ (0 ≤ n ∧ n < (nk : Int)) ∧ (d = 0) ∧ refB W R ar an true = true ∧ refB W R br bn false = true)) (h0 : 0 < w.heap.size) :
    Calls Tryd.prog 46 #[.agg #[.int .i64 W, .int .i64 R, .slice a1 nc c1, .slice a2 ns c2, .slice a3 na c3, .slice a4 nk c4], .agg #[.int .u8 8, .int .u8 (o : Int), .int .i64 d, .int .i64 n, .int .i64 ar, .int .u64 an, .int .i64 br, .int .u64 bn]] w (BoolPost p0 w) := by
  obtain ⟨b1, e1, hA⟩ := hA
  obtain ⟨b2, e2, hB⟩ := hB
  rw [e1, e2] at hp0
  obtain ⟨s0, s1, s2, s3⟩ := hT 8 (by omega)
  replace s0 : w.cell? ⟨0, 32, none⟩ = some (.bool false) := s0
  replace s1 : w.cell? ⟨0, 33, none⟩ = some (.bool true) := s1
  replace s2 : w.cell? ⟨0, 34, none⟩ = some (.bool false) := s2
  replace s3 : w.cell? ⟨0, 35, none⟩ = some (.int .i64 4) := s3
  have HA := Lib.hid hA; have HB := Lib.hid hB; have H0 := Lib.hid hT
  have hix := fun w => index5_4 (.int .i64 1) (.int .i64 na) (.int .i64 nc) (.int .i64 ns) (.int .i64 nk) w
  have HI := Lib.hid hp0
  clear hA hB e1 e2 hT hp0
  by_cases ho0 : o = 0
  case neg =>
    have g : ((o : Int) != 0) = true := by rw [bne_iff_ne]; omega
    go_enter Tryd.func46, Tryd.ntmps46
    go_wp2
    go_ret
    exact ⟨_, rfl, ⟨(by intro h; cases h), fun h => by (have hh := HI.out.1 h; exfalso; omega)⟩, below3 w _ _ _⟩
  subst ho0
  by_cases hn0 : 0 ≤ n
  case neg =>
    have g : decide (n < 0) = true := decide_eq_true (by omega)
    have HH := Lib.hid hn0
    clear hn0
    go_enter Tryd.func46, Tryd.ntmps46
    go_wp2
    go_ret
    exact ⟨_, rfl, ⟨(by intro h; cases h), fun h => by (have hh := HI.out.1 h; have hk := HH.out; exfalso; omega)⟩, below3 w _ _ _⟩
  have g0 : decide (n < 0) = false := decide_eq_false (by omega)
  by_cases hn1 : n < (nk : Int)
  case neg =>
    have g : decide ((nk : Int) ≤ n) = true := decide_eq_true (by omega)
    have HH := Lib.hid hn1
    clear hn1
    go_enter Tryd.func46, Tryd.ntmps46
    go_wp2
    go_ret
    exact ⟨_, rfl, ⟨(by intro h; cases h), fun h => by (have hh := HI.out.1 h; have hk := HH.out; exfalso; omega)⟩, below3 w _ _ _⟩
  have g1 : decide ((nk : Int) ≤ n) = false := decide_eq_false (by omega)
  by_cases hd0 : d = 0
  case neg =>
    have g : (d != 0) = true := by rw [bne_iff_ne]; omega
    have HH := Lib.hid hd0
    clear hd0
    go_enter Tryd.func46, Tryd.ntmps46
    go_wp2
    go_ret
    exact ⟨_, rfl, ⟨(by intro h; cases h), fun h => by (have hh := HI.out.1 h; have hk := HH.out; exfalso; omega)⟩, below3 w _ _ _⟩
  have g2 : (d != 0) = false := by rw [bne_eq_false_iff_eq]; omega
  subst hd0
  clear g2
  have HP := Lib.hid (And.intro hn0 hn1)
  clear hn0 hn1
  go_enter Tryd.func46, Tryd.ntmps46
  go_upto_region 14 with fail
  refine wp_abs (fun wx => Bx w wx w.heap.size #[.int .i64 W, .int .i64 R, .slice a1 nc c1, .slice a2 ns c2, .slice a3 na c3, .slice a4 nk c4] #[.int .u8 8, .int .u8 0, .int .i64 0, .int .i64 n, .int .i64 ar, .int .u64 an, .int .i64 br, .int .u64 bn] #[.bool false, .bool true, .bool false, .int .i64 4]) ⟨below3 w _ _ _, (heap3 w _ _ _).1, (heap3 w _ _ _).2.1, (heap3 w _ _ _).2.2⟩ ?_
  intro w1 hb
  obtain ⟨p, hp⟩ : ∃ p, w.heap.size = p := ⟨_, rfl⟩
  rw [hp] at hb
  simp only [hp]
  have HBX := Lib.hid hb
  clear hb
  have qf0 := cell_of_cells HBX.out.f (i := 0) rfl
  have qf1 := cell_of_cells HBX.out.f (i := 1) rfl
  have qf2 := cell_of_cells HBX.out.f (i := 2) rfl
  have qf3 := cell_of_cells HBX.out.f (i := 3) rfl
  have qf4 := cell_of_cells HBX.out.f (i := 4) rfl
  have qf5 := cell_of_cells HBX.out.f (i := 5) rfl
  have qc0 := cell_of_cells HBX.out.c (i := 0) rfl
  have qc1 := cell_of_cells HBX.out.c (i := 1) rfl
  have qc2 := cell_of_cells HBX.out.c (i := 2) rfl
  have qc3 := cell_of_cells HBX.out.c (i := 3) rfl
  have qc4 := cell_of_cells HBX.out.c (i := 4) rfl
  have qc5 := cell_of_cells HBX.out.c (i := 5) rfl
  have qc6 := cell_of_cells HBX.out.c (i := 6) rfl
  have qc7 := cell_of_cells HBX.out.c (i := 7) rfl
  have qs0 := cell_of_cells HBX.out.s (i := 0) rfl
  have qs1 := cell_of_cells HBX.out.s (i := 1) rfl
  have qs2 := cell_of_cells HBX.out.s (i := 2) rfl
  have qs3 := cell_of_cells HBX.out.s (i := 3) rfl
  have HA1 := HA.out; have HB1 := HB.out
  go_wp2_with fail
  go_at_call 63
  refine (HA.out _).mono ?_
  rintro e w5 ⟨rfl, hb5⟩
  clear HA1 HB1 qf0 qf1 qf2 qf3 qf4 qf5 qc0 qc1 qc2 qc3 qc4 qc5 qc6 qc7 qs0 qs1 qs2 qs3
  replace HBX := Lib.hid (HBX.out.later hb5)
  clear hb5
  cases b1 with
  | false =>
    go_wp2
    go_ret
    exact ⟨_, rfl, ⟨(by intro h; cases h), fun h => by cases (HI.out.1 h).2.2.2.1⟩, HBX.out.below⟩
  | true =>
    have qf0 := cell_of_cells HBX.out.f (i := 0) rfl
    have qf1 := cell_of_cells HBX.out.f (i := 1) rfl
    have qf2 := cell_of_cells HBX.out.f (i := 2) rfl
    have qf3 := cell_of_cells HBX.out.f (i := 3) rfl
    have qf4 := cell_of_cells HBX.out.f (i := 4) rfl
    have qf5 := cell_of_cells HBX.out.f (i := 5) rfl
    have qc0 := cell_of_cells HBX.out.c (i := 0) rfl
    have qc1 := cell_of_cells HBX.out.c (i := 1) rfl
    have qc2 := cell_of_cells HBX.out.c (i := 2) rfl
    have qc3 := cell_of_cells HBX.out.c (i := 3) rfl
    have qc4 := cell_of_cells HBX.out.c (i := 4) rfl
    have qc5 := cell_of_cells HBX.out.c (i := 5) rfl
    have qc6 := cell_of_cells HBX.out.c (i := 6) rfl
    have qc7 := cell_of_cells HBX.out.c (i := 7) rfl
    have qs0 := cell_of_cells HBX.out.s (i := 0) rfl
    have qs1 := cell_of_cells HBX.out.s (i := 1) rfl
    have qs2 := cell_of_cells HBX.out.s (i := 2) rfl
    have qs3 := cell_of_cells HBX.out.s (i := 3) rfl
    go_wp2_with fail
    go_at_call 63
    refine (HB.out _).mono ?_
    rintro e w6 ⟨rfl, hb6⟩
    clear qf0 qf1 qf2 qf3 qf4 qf5 qc0 qc1 qc2 qc3 qc4 qc5 qc6 qc7 qs0 qs1 qs2 qs3
    replace HBX := Lib.hid (HBX.out.later hb6)
    clear hb6
    go_wp2
    go_ret
    cases b2 with
    | false => exact ⟨_, rfl, ⟨(by intro h; cases h), fun h => by cases (HI.out.1 h).2.2.2.2⟩, HBX.out.below⟩
    | true => exact ⟨_, rfl, ⟨fun h => HI.out.2 ⟨by simp, ⟨HP.out.1, HP.out.2⟩, by simp, by simp, by simp⟩, fun _ => by simp⟩, HBX.out.below⟩
set_option maxRecDepth 100000 in
theorem finstr_9 (hA : ∃ b1, refB W R ar an false = b1 ∧ ∀ w, Calls Tryd.prog 63 #[.agg #[.int .i64 W, .int .i64 R, .slice a1 nc c1, .slice a2 ns c2, .slice a3 na c3, .slice a4 nk c4], .agg #[.int .i64 ar, .int .u64 an], .bool false] w fun e w' => e = .returned (.bool b1) ∧ Below w.heap.size w w')
    (hB : ∃ b2, refB W R br bn false = b2 ∧ ∀ w, Calls Tryd.prog 63 #[.agg #[.int .i64 W, .int .i64 R, .slice a1 nc c1, .slice a2 ns c2, .slice a3 na c3, .slice a4 nk c4], .agg #[.int .i64 br, .int .u64 bn], .bool false] w fun e w' => e = .returned (.bool b2) ∧ Below w.heap.size w w') (ho : o ≤ 255) (hT : ShpOk w) (p0 : Prop) (hp0 : p0 ↔ (o = 0 ∧ (0 ≤ n ∧ n < 1) ∧ (d = 0) ∧ refB W R ar an false = true ∧ refB W R br bn false = true)) (h0 : 0 < w.heap.size) :
    Calls Tryd.prog 46 #[.agg #[.int .i64 W, .int .i64 R, .slice a1 nc c1, .slice a2 ns c2, .slice a3 na c3, .slice a4 nk c4], .agg #[.int .u8 9, .int .u8 (o : Int), .int .i64 d, .int .i64 n, .int .i64 ar, .int .u64 an, .int .i64 br, .int .u64 bn]] w (BoolPost p0 w) := by
  obtain ⟨b1, e1, hA⟩ := hA
  obtain ⟨b2, e2, hB⟩ := hB
  rw [e1, e2] at hp0
  obtain ⟨s0, s1, s2, s3⟩ := hT 9 (by omega)
  replace s0 : w.cell? ⟨0, 36, none⟩ = some (.bool false) := s0
  replace s1 : w.cell? ⟨0, 37, none⟩ = some (.bool false) := s1
  replace s2 : w.cell? ⟨0, 38, none⟩ = some (.bool false) := s2
  replace s3 : w.cell? ⟨0, 39, none⟩ = some (.int .i64 0) := s3
  have HA := Lib.hid hA; have HB := Lib.hid hB; have H0 := Lib.hid hT
  have hix := fun w => index5_0 (.int .i64 1) (.int .i64 na) (.int .i64 nc) (.int .i64 ns) (.int .i64 nk) w
  have HI := Lib.hid hp0
  clear hA hB e1 e2 hT hp0
  by_cases ho0 : o = 0
  case neg =>
    have g : ((o : Int) != 0) = true := by rw [bne_iff_ne]; omega
    go_enter Tryd.func46, Tryd.ntmps46
    go_wp2
    go_ret
    exact ⟨_, rfl, ⟨(by intro h; cases h), fun h => by (have hh := HI.out.1 h; exfalso; omega)⟩, below3 w _ _ _⟩
  subst ho0
  by_cases hn0 : 0 ≤ n
  case neg =>
    have g : decide (n < 0) = true := decide_eq_true (by omega)
    have HH := Lib.hid hn0
    clear hn0
    go_enter Tryd.func46, Tryd.ntmps46
    go_wp2
    go_ret
    exact ⟨_, rfl, ⟨(by intro h; cases h), fun h => by (have hh := HI.out.1 h; have hk := HH.out; exfalso; omega)⟩, below3 w _ _ _⟩
  have g0 : decide (n < 0) = false := decide_eq_false (by omega)
  by_cases hn1 : n < 1
  case neg =>
    have g : decide (1 ≤ n) = true := decide_eq_true (by omega)
    have HH := Lib.hid hn1
    clear hn1
    go_enter Tryd.func46, Tryd.ntmps46
    go_wp2
    go_ret
    exact ⟨_, rfl, ⟨(by intro h; cases h), fun h => by (have hh := HI.out.1 h; have hk := HH.out; exfalso; omega)⟩, below3 w _ _ _⟩
  have g1 : decide (1 ≤ n) = false := decide_eq_false (by omega)
  by_cases hd0 : d = 0
  case neg =>
    have g : (d != 0) = true := by rw [bne_iff_ne]; omega
    have HH := Lib.hid hd0
    clear hd0
    go_enter Tryd.func46, Tryd.ntmps46
    go_wp2
    go_ret
    exact ⟨_, rfl, ⟨(by intro h; cases h), fun h => by (have hh := HI.out.1 h; have hk := HH.out; exfalso; omega)⟩, below3 w _ _ _⟩
  have g2 : (d != 0) = false := by rw [bne_eq_false_iff_eq]; omega
  subst hd0
  clear g2
  have HP := Lib.hid (And.intro hn0 hn1)
  clear hn0 hn1
  go_enter Tryd.func46, Tryd.ntmps46
  go_upto_region 14 with fail
  refine wp_abs (fun wx => Bx w wx w.heap.size #[.int .i64 W, .int .i64 R, .slice a1 nc c1, .slice a2 ns c2, .slice a3 na c3, .slice a4 nk c4] #[.int .u8 9, .int .u8 0, .int .i64 0, .int .i64 n, .int .i64 ar, .int .u64 an, .int .i64 br, .int .u64 bn] #[.bool false, .bool false, .bool false, .int .i64 0]) ⟨below3 w _ _ _, (heap3 w _ _ _).1, (heap3 w _ _ _).2.1, (heap3 w _ _ _).2.2⟩ ?_
  intro w1 hb
  obtain ⟨p, hp⟩ : ∃ p, w.heap.size = p := ⟨_, rfl⟩
  rw [hp] at hb
  simp only [hp]
  have HBX := Lib.hid hb
  clear hb
  have qf0 := cell_of_cells HBX.out.f (i := 0) rfl
  have qf1 := cell_of_cells HBX.out.f (i := 1) rfl
  have qf2 := cell_of_cells HBX.out.f (i := 2) rfl
  have qf3 := cell_of_cells HBX.out.f (i := 3) rfl
  have qf4 := cell_of_cells HBX.out.f (i := 4) rfl
  have qf5 := cell_of_cells HBX.out.f (i := 5) rfl
  have qc0 := cell_of_cells HBX.out.c (i := 0) rfl
  have qc1 := cell_of_cells HBX.out.c (i := 1) rfl
  have qc2 := cell_of_cells HBX.out.c (i := 2) rfl
  have qc3 := cell_of_cells HBX.out.c (i := 3) rfl
  have qc4 := cell_of_cells HBX.out.c (i := 4) rfl
  have qc5 := cell_of_cells HBX.out.c (i := 5) rfl
  have qc6 := cell_of_cells HBX.out.c (i := 6) rfl
  have qc7 := cell_of_cells HBX.out.c (i := 7) rfl
  have qs0 := cell_of_cells HBX.out.s (i := 0) rfl
  have qs1 := cell_of_cells HBX.out.s (i := 1) rfl
  have qs2 := cell_of_cells HBX.out.s (i := 2) rfl
  have qs3 := cell_of_cells HBX.out.s (i := 3) rfl
  have HA1 := HA.out; have HB1 := HB.out
  go_wp2_with fail
  go_at_call 63
  refine (HA.out _).mono ?_
  rintro e w5 ⟨rfl, hb5⟩
  clear HA1 HB1 qf0 qf1 qf2 qf3 qf4 qf5 qc0 qc1 qc2 qc3 qc4 qc5 qc6 qc7 qs0 qs1 qs2 qs3
  replace HBX := Lib.hid (HBX.out.later hb5)
  clear hb5
  cases b1 with
  | false =>
    go_wp2
    go_ret
    exact ⟨_, rfl, ⟨(by intro h; cases h), fun h => by cases (HI.out.1 h).2.2.2.1⟩, HBX.out.below⟩
  | true =>
    have qf0 := cell_of_cells HBX.out.f (i := 0) rfl
    have qf1 := cell_of_cells HBX.out.f (i := 1) rfl
    have qf2 := cell_of_cells HBX.out.f (i := 2) rfl
    have qf3 := cell_of_cells HBX.out.f (i := 3) rfl
    have qf4 := cell_of_cells HBX.out.f (i := 4) rfl
    have qf5 := cell_of_cells HBX.out.f (i := 5) rfl
    have qc0 := cell_of_cells HBX.out.c (i := 0) rfl
    have qc1 := cell_of_cells HBX.out.c (i := 1) rfl
    have qc2 := cell_of_cells HBX.out.c (i := 2) rfl
    have qc3 := cell_of_cells HBX.out.c (i := 3) rfl
    have qc4 := cell_of_cells HBX.out.c (i := 4) rfl
    have qc5 := cell_of_cells HBX.out.c (i := 5) rfl
    have qc6 := cell_of_cells HBX.out.c (i := 6) rfl
    have qc7 := cell_of_cells HBX.out.c (i := 7) rfl
    have qs0 := cell_of_cells HBX.out.s (i := 0) rfl
    have qs1 := cell_of_cells HBX.out.s (i := 1) rfl
    have qs2 := cell_of_cells HBX.out.s (i := 2) rfl
    have qs3 := cell_of_cells HBX.out.s (i := 3) rfl
    go_wp2_with fail
    go_at_call 63
    refine (HB.out _).mono ?_
    rintro e w6 ⟨rfl, hb6⟩
    clear qf0 qf1 qf2 qf3 qf4 qf5 qc0 qc1 qc2 qc3 qc4 qc5 qc6 qc7 qs0 qs1 qs2 qs3
    replace HBX := Lib.hid (HBX.out.later hb6)
    clear hb6
    go_wp2
    go_ret
    cases b2 with
    | false => exact ⟨_, rfl, ⟨(by intro h; cases h), fun h => by cases (HI.out.1 h).2.2.2.2⟩, HBX.out.below⟩
    | true => exact ⟨_, rfl, ⟨fun h => HI.out.2 ⟨by simp, ⟨HP.out.1, HP.out.2⟩, by simp, by simp, by simp⟩, fun _ => by simp⟩, HBX.out.below⟩
theorem finstr_10 (k : Nat) (hk : 10 ≤ k) (hk2 : k ≤ 255) (p0 : Prop) (hp0 : ¬ p0) :
    Calls Tryd.prog 46 #[.agg #[.int .i64 W, .int .i64 R, .slice a1 nc c1, .slice a2 ns c2, .slice a3 na c3, .slice a4 nk c4], .agg #[.int .u8 (k : Int), .int .u8 (o : Int), .int .i64 d, .int .i64 n, .int .i64 ar, .int .u64 an, .int .i64 br, .int .u64 bn]] w (BoolPost p0 w) := by
  have g : decide ((10 : Int) ≤ (k : Int)) = true := decide_eq_true (by omega)
  have g2 : wrap64 (k : Int) = (k : Int) := (by unfold wrap64; omega)
  have HI := Lib.hid hp0
  clear hp0
  go_enter Tryd.func46, Tryd.ntmps46
  go_wp2
  go_ret
  exact ⟨_, rfl, ⟨(by intro h; cases h), fun h => absurd h HI.out⟩, below2 w _ _⟩
/-- flat.instr. -/
theorem finstr_any (f : FlatD) (hW1 : 1 ≤ f.W) (hW2 : f.W ≤ 64) (c : CodeD) (hc : c.Ok) (hT : ShpOk w) :
    Calls Tryd.prog 46 #[.agg #[.int .i64 f.W, .int .i64 f.R, .slice a1 nc c1, .slice a2 ns c2, .slice a3 na c3, .slice a4 nk c4], c.val] w (BoolPost (InstrOk f.W f.R na nc ns nk c) w) := by
  obtain ⟨k, o, d, n, ar, an, br, bn⟩ := c
  obtain ⟨h1, h2, h3, h4⟩ := hc
  simp only at h1 h2 h3 h4
  unfold CodeD.val
  simp only
  by_cases hk : k < 10
  · have h0 : 0 < w.heap.size := by
      have h1 := (hT 0 (by omega)).1
      by_cases h : 0 < w.heap.size
      · exact h
      · have : w.heap[0]? = none := Array.getElem?_eq_none (by omega)
        unfold World.cell? at h1
        simp [this] at h1
    have hks : k = 0 ∨ k = 1 ∨ k = 2 ∨ k = 3 ∨ k = 4 ∨ k = 5 ∨ k = 6 ∨ k = 7 ∨ k = 8 ∨ k = 9 := by omega
    rcases hks with rfl | rfl | rfl | rfl | rfl | rfl | rfl | rfl | rfl | rfl
    · exact finstr_0 ⟨_, rfl, fun w => fref_any f _ _ _ _ hW1 hW2 ar an h3 true w⟩ ⟨_, rfl, fun w => fref_any f _ _ _ _ hW1 hW2 br bn h4 false w⟩ h2 hT _ (by simp [InstrOk, kD, kA, kN, mostN, hasB2, kB]) h0
    · exact finstr_1 ⟨_, rfl, fun w => fref_any f _ _ _ _ hW1 hW2 ar an h3 true w⟩ ⟨_, rfl, fun w => fref_any f _ _ _ _ hW1 hW2 br bn h4 (decide (aryN o = 2)) w⟩ h2 hT _ (by simp [InstrOk, kD, kA, kN, mostN, hasB2]) h0
    · exact finstr_2 ⟨_, rfl, fun w => fref_any f _ _ _ _ hW1 hW2 ar an h3 true w⟩ ⟨_, rfl, fun w => fref_any f _ _ _ _ hW1 hW2 br bn h4 false w⟩ h2 hT _ (by simp [InstrOk, kD, kA, kN, mostN, hasB2, kB]) h0
    · exact finstr_3 ⟨_, rfl, fun w => fref_any f _ _ _ _ hW1 hW2 ar an h3 true w⟩ ⟨_, rfl, fun w => fref_any f _ _ _ _ hW1 hW2 br bn h4 true w⟩ h2 hT _ (by simp [InstrOk, kD, kA, kN, mostN, hasB2, kB]) h0
    · exact finstr_4 ⟨_, rfl, fun w => fref_any f _ _ _ _ hW1 hW2 ar an h3 false w⟩ ⟨_, rfl, fun w => fref_any f _ _ _ _ hW1 hW2 br bn h4 false w⟩ h2 hT _ (by simp [InstrOk, kD, kA, kN, mostN, hasB2, kB]) h0
    · exact finstr_5 ⟨_, rfl, fun w => fref_any f _ _ _ _ hW1 hW2 ar an h3 true w⟩ ⟨_, rfl, fun w => fref_any f _ _ _ _ hW1 hW2 br bn h4 false w⟩ h2 hT _ (by simp [InstrOk, kD, kA, kN, mostN, hasB2, kB]) h0
    · exact finstr_6 ⟨_, rfl, fun w => fref_any f _ _ _ _ hW1 hW2 ar an h3 true w⟩ ⟨_, rfl, fun w => fref_any f _ _ _ _ hW1 hW2 br bn h4 false w⟩ h2 hT _ (by simp [InstrOk, kD, kA, kN, mostN, hasB2, kB]) h0
    · exact finstr_7 ⟨_, rfl, fun w => fref_any f _ _ _ _ hW1 hW2 ar an h3 false w⟩ ⟨_, rfl, fun w => fref_any f _ _ _ _ hW1 hW2 br bn h4 false w⟩ h2 hT _ (by simp [InstrOk, kD, kA, kN, mostN, hasB2, kB]) h0
    · exact finstr_8 ⟨_, rfl, fun w => fref_any f _ _ _ _ hW1 hW2 ar an h3 true w⟩ ⟨_, rfl, fun w => fref_any f _ _ _ _ hW1 hW2 br bn h4 false w⟩ h2 hT _ (by simp [InstrOk, kD, kA, kN, mostN, hasB2, kB]) h0
    · exact finstr_9 ⟨_, rfl, fun w => fref_any f _ _ _ _ hW1 hW2 ar an h3 false w⟩ ⟨_, rfl, fun w => fref_any f _ _ _ _ hW1 hW2 br bn h4 false w⟩ h2 hT _ (by simp [InstrOk, kD, kA, kN, mostN, hasB2, kB]) h0
  · refine finstr_10 k (by omega) h1 _ fun h => ?_
    have := h.1
    simp only at this
    omega
end
end Go.Proofs.YtiklidgcmheofaaDoor
