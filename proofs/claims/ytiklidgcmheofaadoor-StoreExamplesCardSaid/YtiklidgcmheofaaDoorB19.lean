/- FlR, FlS: joined by wip/bundle.py. -/
import Derived.Test.YtiklidgcmheofaaDoorB1
import Derived.Test.YtiklidgcmheofaaDoorB2
import Derived.Test.YtiklidgcmheofaaDoorB3
import Derived.Test.YtiklidgcmheofaaDoorB4
import Derived.Test.YtiklidgcmheofaaDoorB5
import Derived.Test.YtiklidgcmheofaaDoorB6
import Derived.Test.YtiklidgcmheofaaDoorB7
import Derived.Test.YtiklidgcmheofaaDoorB8
import Derived.Test.YtiklidgcmheofaaDoorB9
import Derived.Test.YtiklidgcmheofaaDoorB14
import Derived.Test.YtiklidgcmheofaaDoorB15
import Derived.Test.YtiklidgcmheofaaDoorB16
import Derived.Test.YtiklidgcmheofaaDoorB17
import Derived.BigGuardPart
import Derived.BigQuiet
namespace Go.Proofs.YtiklidgcmheofaaDoor
open Go.RowKit Go.Maps
set_option maxHeartbeats 12800000
section
variable {W R : Int} {a1 a2 a3 a4 : Option Addr} {nc ns na nk c1 c2 c3 c4 o an bn : Nat} {d n ar br : Int} {w : World}
theorem fields_results {tmps : Array Value} {p : Nat} {w : World} {x0 x1 x2 x3 x4 z : Value} (t4 : tmps.getD 4 undef = .pointer (some ⟨p, 0, none⟩)) (t5 : tmps.getD 5 undef = z)
    (d0 : w.cell? ⟨p, 0, none⟩ = some x0) (d1 : w.cell? ⟨p, 1, none⟩ = some x1) (d2 : w.cell? ⟨p, 2, none⟩ = some x2) (d3 : w.cell? ⟨p, 3, none⟩ = some x3) (d4 : w.cell? ⟨p, 4, none⟩ = some x4) :
    (results Tryd.f43 tmps).run Tryd.prog w = .ok (.tuple #[.agg #[x0, x1, x2, x3, x4], z]) w := by
  have t4' : tmps[4]?.getD undef = .pointer (some ⟨p, 0, none⟩) := by simpa using t4
  have t5' : tmps[5]?.getD undef = z := by simpa using t5
  unfold results
  rw [Tryd.results43]
  simp [go_sem, t4', t5', d0, d1, d2, d3, d4]
theorem fields_end {x y : Obj} {x0 x1 x2 x3 x4 z : Value} {tmps : Array Value} {ds : List Deferred} {Q : Ending → World → Prop} (t4 : tmps.getD 4 undef = .pointer (some ⟨w.heap.size + 1 + 1, 0, none⟩)) (t5 : tmps.getD 5 undef = z) (hd : ds = [])
    (hQ : Q (.returned (.tuple #[.agg #[x0, x1, x2, x3, x4], z])) (((w.alloc x).alloc y).alloc (.cells #[x0, x1, x2, x3, x4] 102))) :
    bodyPost Tryd.prog Tryd.f43 Q .ret { tmps := tmps, defers := ds } (((w.alloc x).alloc y).alloc (.cells #[x0, x1, x2, x3, x4] 102)) := by
  have h := (heap3 w x y (.cells #[x0, x1, x2, x3, x4] 102)).2.2
  exact bodyPost_ret (fields_results t4 t5 (cell_of_cells h (i := 0) rfl) (cell_of_cells h (i := 1) rfl) (cell_of_cells h (i := 2) rfl) (cell_of_cells h (i := 3) rfl) (cell_of_cells h (i := 4) rfl)) hd hQ
theorem fields_endD {x y : Obj} {x0 x1 x2 x3 x4 z : Value} {tmps : Array Value} {ds : List Deferred} {Q : Ending → World → Prop} (t4 : tmps.getD 4 undef = .pointer (some ⟨w.heap.size + 1 + 1, 0, none⟩)) (t5 : tmps.getD 5 undef = z) (hd : ds = [])
    (hQ : Q (.returned (.tuple #[.agg #[x0, x1, x2, x3, x4], z])) (((w.alloc x).alloc y).alloc (.cells #[x0, x1, x2, x3, x4] 102)).drew) :
    bodyPost Tryd.prog Tryd.f43 Q .ret { tmps := tmps, defers := ds } (((w.alloc x).alloc y).alloc (.cells #[x0, x1, x2, x3, x4] 102)).drew := by
  have h := (heap3 w x y (.cells #[x0, x1, x2, x3, x4] 102)).2.2
  exact bodyPost_ret (fields_results t4 t5 (cell_of_cells h (i := 0) rfl) (cell_of_cells h (i := 1) rfl) (cell_of_cells h (i := 2) rfl) (cell_of_cells h (i := 3) rfl) (cell_of_cells h (i := 4) rfl)) hd hQ
/-- What Fields gives. -/
def FieldsPost (p : Prop) (x0 x1 x2 x3 : Bool) (x4 : Int) (w : World) : Ending → World → Prop := fun e w' => Below w.heap.size w w' ∧
  ((p ∧ e = .returned (.tuple #[.agg #[.bool x0, .bool x1, .bool x2, .bool x3, .int .i64 x4], .bool true])) ∨ (¬ p ∧ ∃ y0 y1 y2 y3 : Bool, ∃ y4 : Int, e = .returned (.tuple #[.agg #[.bool y0, .bool y1, .bool y2, .bool y3, .int .i64 y4], .bool false])))
theorem fields_0 {p0 : Prop} (hp : p0) : Calls Tryd.prog 43 #[.agg #[.int .i64 W, .int .i64 R, .slice a1 nc c1, .slice a2 ns c2, .slice a3 na c3, .slice a4 nk c4], .agg #[.int .u8 0, .int .u8 o, .int .i64 d, .int .i64 n, .int .i64 ar, .int .u64 an, .int .i64 br, .int .u64 bn]] w (FieldsPost p0 true false true false 0 w) := by
  have HP := Lib.hid hp
  clear hp
  go_enter Tryd.func43, Tryd.ntmps43
  go_wp2
  exact fields_end rfl rfl rfl ⟨below3 w _ _ _, .inl ⟨HP.out, rfl⟩⟩
theorem fields_2 {p0 : Prop} (hp : p0) : Calls Tryd.prog 43 #[.agg #[.int .i64 W, .int .i64 R, .slice a1 nc c1, .slice a2 ns c2, .slice a3 na c3, .slice a4 nk c4], .agg #[.int .u8 2, .int .u8 o, .int .i64 d, .int .i64 n, .int .i64 ar, .int .u64 an, .int .i64 br, .int .u64 bn]] w (FieldsPost p0 true true true false (na : Int) w) := by
  have HP := Lib.hid hp
  clear hp
  go_enter Tryd.func43, Tryd.ntmps43
  go_wp2
  exact fields_end rfl rfl rfl ⟨below3 w _ _ _, .inl ⟨HP.out, rfl⟩⟩
theorem fields_3 {p0 : Prop} (hp : p0) : Calls Tryd.prog 43 #[.agg #[.int .i64 W, .int .i64 R, .slice a1 nc c1, .slice a2 ns c2, .slice a3 na c3, .slice a4 nk c4], .agg #[.int .u8 3, .int .u8 o, .int .i64 d, .int .i64 n, .int .i64 ar, .int .u64 an, .int .i64 br, .int .u64 bn]] w (FieldsPost p0 false true true true (na : Int) w) := by
  have HP := Lib.hid hp
  clear hp
  go_enter Tryd.func43, Tryd.ntmps43
  go_wp2
  exact fields_end rfl rfl rfl ⟨below3 w _ _ _, .inl ⟨HP.out, rfl⟩⟩
theorem fields_4 {p0 : Prop} (hp : p0) : Calls Tryd.prog 43 #[.agg #[.int .i64 W, .int .i64 R, .slice a1 nc c1, .slice a2 ns c2, .slice a3 na c3, .slice a4 nk c4], .agg #[.int .u8 4, .int .u8 o, .int .i64 d, .int .i64 n, .int .i64 ar, .int .u64 an, .int .i64 br, .int .u64 bn]] w (FieldsPost p0 true true false false (nc : Int) w) := by
  have HP := Lib.hid hp
  clear hp
  go_enter Tryd.func43, Tryd.ntmps43
  go_wp2
  exact fields_end rfl rfl rfl ⟨below3 w _ _ _, .inl ⟨HP.out, rfl⟩⟩
theorem fields_5 {p0 : Prop} (hp : p0) : Calls Tryd.prog 43 #[.agg #[.int .i64 W, .int .i64 R, .slice a1 nc c1, .slice a2 ns c2, .slice a3 na c3, .slice a4 nk c4], .agg #[.int .u8 5, .int .u8 o, .int .i64 d, .int .i64 n, .int .i64 ar, .int .u64 an, .int .i64 br, .int .u64 bn]] w (FieldsPost p0 false true true false (nc : Int) w) := by
  have HP := Lib.hid hp
  clear hp
  go_enter Tryd.func43, Tryd.ntmps43
  go_wp2
  exact fields_end rfl rfl rfl ⟨below3 w _ _ _, .inl ⟨HP.out, rfl⟩⟩
theorem fields_6 {p0 : Prop} (hp : p0) : Calls Tryd.prog 43 #[.agg #[.int .i64 W, .int .i64 R, .slice a1 nc c1, .slice a2 ns c2, .slice a3 na c3, .slice a4 nk c4], .agg #[.int .u8 6, .int .u8 o, .int .i64 d, .int .i64 n, .int .i64 ar, .int .u64 an, .int .i64 br, .int .u64 bn]] w (FieldsPost p0 true true true false (ns : Int) w) := by
  have HP := Lib.hid hp
  clear hp
  go_enter Tryd.func43, Tryd.ntmps43
  go_wp2
  exact fields_end rfl rfl rfl ⟨below3 w _ _ _, .inl ⟨HP.out, rfl⟩⟩
theorem fields_7 {p0 : Prop} (hp : p0) : Calls Tryd.prog 43 #[.agg #[.int .i64 W, .int .i64 R, .slice a1 nc c1, .slice a2 ns c2, .slice a3 na c3, .slice a4 nk c4], .agg #[.int .u8 7, .int .u8 o, .int .i64 d, .int .i64 n, .int .i64 ar, .int .u64 an, .int .i64 br, .int .u64 bn]] w (FieldsPost p0 false true false false (nk : Int) w) := by
  have HP := Lib.hid hp
  clear hp
  go_enter Tryd.func43, Tryd.ntmps43
  go_wp2
  exact fields_end rfl rfl rfl ⟨below3 w _ _ _, .inl ⟨HP.out, rfl⟩⟩
theorem fields_8 {p0 : Prop} (hp : p0) : Calls Tryd.prog 43 #[.agg #[.int .i64 W, .int .i64 R, .slice a1 nc c1, .slice a2 ns c2, .slice a3 na c3, .slice a4 nk c4], .agg #[.int .u8 8, .int .u8 o, .int .i64 d, .int .i64 n, .int .i64 ar, .int .u64 an, .int .i64 br, .int .u64 bn]] w (FieldsPost p0 false true true false (nk : Int) w) := by
  have HP := Lib.hid hp
  clear hp
  go_enter Tryd.func43, Tryd.ntmps43
  go_wp2
  exact fields_end rfl rfl rfl ⟨below3 w _ _ _, .inl ⟨HP.out, rfl⟩⟩
theorem fields_9 {p0 : Prop} (hp : p0) : Calls Tryd.prog 43 #[.agg #[.int .i64 W, .int .i64 R, .slice a1 nc c1, .slice a2 ns c2, .slice a3 na c3, .slice a4 nk c4], .agg #[.int .u8 9, .int .u8 o, .int .i64 d, .int .i64 n, .int .i64 ar, .int .u64 an, .int .i64 br, .int .u64 bn]] w (FieldsPost p0 false false false false 0 w) := by
  have HP := Lib.hid hp
  clear hp
  go_enter Tryd.func43, Tryd.ntmps43
  go_wp2
  exact fields_end rfl rfl rfl ⟨below3 w _ _ _, .inl ⟨HP.out, rfl⟩⟩
theorem fields_10 {k : Nat} (hk : 10 ≤ k) {p0 : Prop} (hp : ¬ p0) (x0 x1 x2 x3 : Bool) (x4 : Int) : Calls Tryd.prog 43 #[.agg #[.int .i64 W, .int .i64 R, .slice a1 nc c1, .slice a2 ns c2, .slice a3 na c3, .slice a4 nk c4], .agg #[.int .u8 k, .int .u8 o, .int .i64 d, .int .i64 n, .int .i64 ar, .int .u64 an, .int .i64 br, .int .u64 bn]] w (FieldsPost p0 x0 x1 x2 x3 x4 w) := by
  have HP := Lib.hid hp
  have g0 : ((k : Int) == 0) = false := by rw [beq_eq_false_iff_ne]; omega
  have g1 : ((k : Int) == 1) = false := by rw [beq_eq_false_iff_ne]; omega
  have g2 : ((k : Int) == 2) = false := by rw [beq_eq_false_iff_ne]; omega
  have g3 : ((k : Int) == 3) = false := by rw [beq_eq_false_iff_ne]; omega
  have g4 : ((k : Int) == 4) = false := by rw [beq_eq_false_iff_ne]; omega
  have g5 : ((k : Int) == 5) = false := by rw [beq_eq_false_iff_ne]; omega
  have g6 : ((k : Int) == 6) = false := by rw [beq_eq_false_iff_ne]; omega
  have g7 : ((k : Int) == 7) = false := by rw [beq_eq_false_iff_ne]; omega
  have g8 : ((k : Int) == 8) = false := by rw [beq_eq_false_iff_ne]; omega
  have g9 : ((k : Int) == 9) = false := by rw [beq_eq_false_iff_ne]; omega
  clear hp hk
  go_enter Tryd.func43, Tryd.ntmps43
  go_wp2
  exact fields_end rfl rfl rfl ⟨below3 w _ _ _, .inr ⟨HP.out, _, _, _, _, _, rfl⟩⟩
theorem fields_1 (ho : o ≤ 255) {p0 : Prop} (hp : p0 ↔ (2 ≤ o ∧ o ≤ 20)) : Calls Tryd.prog 43 #[.agg #[.int .i64 W, .int .i64 R, .slice a1 nc c1, .slice a2 ns c2, .slice a3 na c3, .slice a4 nk c4], .agg #[.int .u8 1, .int .u8 o, .int .i64 d, .int .i64 n, .int .i64 ar, .int .u64 an, .int .i64 br, .int .u64 bn]] w (FieldsPost p0 true false true (decide (aryN o = 2)) 0 w) := by
  have har := fun w => rarity_any (o : Int) (by omega) (by omega) w
  obtain ⟨m, hm⟩ : ∃ m : Int, (if 21 < (o : Int) then 0 else (aryN (o : Int).toNat : Int)) = m := ⟨_, rfl⟩
  obtain ⟨e1, he1⟩ : ∃ e1 : Int, (if 21 < (o : Int) then 3 else 0) = e1 := ⟨_, rfl⟩
  simp only [hm, he1] at har
  obtain ⟨tb, htb⟩ : ∃ tb, (m == 2) = tb := ⟨_, rfl⟩
  have HAR := Lib.hid har; have HM := Lib.hid (And.intro hm htb); have HP := Lib.hid hp
  clear har hm hp
  by_cases h21 : 21 < o
  · obtain rfl : e1 = 3 := by rw [← he1, if_pos (by omega)]
    have HN := Lib.hid (show ¬ p0 from fun h => by have := HP.out.1 h; omega)
    clear he1 h21
    go_enter Tryd.func43, Tryd.ntmps43
    go_wp2_with (go_at_call 59; refine (HAR.out _).mono ?_; rintro e w5 ⟨rfl, rfl⟩)
    go_region
    all_goals
      go_wp2
      exact fields_endD rfl rfl rfl ⟨below_drewN (below3 w _ _ _) 1, .inr ⟨HN.out, _, _, _, _, _, rfl⟩⟩
  · obtain rfl : e1 = 0 := by rw [← he1, if_neg (by omega)]
    by_cases h2 : 2 ≤ o
    · have g2 : decide ((2 : Int) ≤ (o : Int)) = true := decide_eq_true (by omega)
      by_cases h20 : o ≤ 20
      · have g3 : decide ((o : Int) ≤ 20) = true := decide_eq_true (by omega)
        have hte : tb = decide (aryN o = 2) := by
          rw [← htb, ← HM.out.1, if_neg (by omega), Int.toNat_natCast, Bool.eq_iff_iff]
          simp only [beq_iff_eq, decide_eq_true_eq]
          omega
        rw [← hte]
        have HY := Lib.hid (HP.out.2 ⟨h2, h20⟩)
        clear he1 h21 h2 h20 hte
        go_enter Tryd.func43, Tryd.ntmps43
        go_wp2_with (go_at_call 59; refine (HAR.out _).mono ?_; rintro e w5 ⟨rfl, rfl⟩)
        go_region
        all_goals
          go_wp2
          exact fields_endD rfl rfl rfl ⟨below_drewN (below3 w _ _ _) 1, .inl ⟨HY.out, rfl⟩⟩
      · have g3 : decide ((o : Int) ≤ 20) = false := decide_eq_false (by omega)
        have HN := Lib.hid (show ¬ p0 from fun h => by have := HP.out.1 h; omega)
        clear he1 h21 h2 h20
        go_enter Tryd.func43, Tryd.ntmps43
        go_wp2_with (go_at_call 59; refine (HAR.out _).mono ?_; rintro e w5 ⟨rfl, rfl⟩)
        go_region
        all_goals
          go_wp2
          exact fields_endD rfl rfl rfl ⟨below_drewN (below3 w _ _ _) 1, .inr ⟨HN.out, _, _, _, _, _, rfl⟩⟩
    · have g2 : decide ((2 : Int) ≤ (o : Int)) = false := decide_eq_false (by omega)
      have HN := Lib.hid (show ¬ p0 from fun h => by have := HP.out.1 h; omega)
      clear he1 h21 h2
      go_enter Tryd.func43, Tryd.ntmps43
      go_wp2_with (go_at_call 59; refine (HAR.out _).mono ?_; rintro e w5 ⟨rfl, rfl⟩)
      go_region
      all_goals
        go_wp2
        exact fields_endD rfl rfl rfl ⟨below_drewN (below3 w _ _ _) 1, .inr ⟨HN.out, _, _, _, _, _, rfl⟩⟩
/-- An instruction has a kind, and an operator if it is one. -/
def FieldOk (c : CodeD) : Prop := c.k < 10 ∧ (c.k = 1 → 2 ≤ c.o ∧ c.o ≤ 20)
def mostR (na nc ns nk k : Nat) : Int := if kN k = 0 then 0 else mostN na nc ns nk (kN k)
theorem fields_any (f : FlatD) (c : CodeD) (hc : c.Ok) : Calls Tryd.prog 43 #[.agg #[.int .i64 f.W, .int .i64 f.R, .slice a1 nc c1, .slice a2 ns c2, .slice a3 na c3, .slice a4 nk c4], c.val] w (FieldsPost (FieldOk c) (kD c.k) (decide (kN c.k ≠ 0)) (kA c.k) (hasB2 c.k c.o) (mostR na nc ns nk c.k) w) := by
  obtain ⟨k, o, d, n, ar, an, br, bn⟩ := c
  obtain ⟨h1, h2, h3, h4⟩ := hc
  simp only at h1 h2 h3 h4
  unfold CodeD.val
  simp only
  by_cases hk : k < 10
  · have hks : k = 0 ∨ k = 1 ∨ k = 2 ∨ k = 3 ∨ k = 4 ∨ k = 5 ∨ k = 6 ∨ k = 7 ∨ k = 8 ∨ k = 9 := by omega
    rcases hks with rfl | rfl | rfl | rfl | rfl | rfl | rfl | rfl | rfl | rfl
    · exact fields_0 (by simp [FieldOk])
    · exact fields_1 h2 (by simp [FieldOk])
    · exact fields_2 (by simp [FieldOk])
    · exact fields_3 (by simp [FieldOk])
    · exact fields_4 (by simp [FieldOk])
    · exact fields_5 (by simp [FieldOk])
    · exact fields_6 (by simp [FieldOk])
    · exact fields_7 (by simp [FieldOk])
    · exact fields_8 (by simp [FieldOk])
    · exact fields_9 (by simp [FieldOk])
  · exact fields_10 (by omega) (fun h => hk h.1) _ _ _ _ _
end
end Go.Proofs.YtiklidgcmheofaaDoor
namespace Go.Proofs.YtiklidgcmheofaaDoor
open Go.RowKit Go.Maps
set_option maxHeartbeats 12800000
noncomputable def rcheckRest (id : Nat) : Code := (Tryd.f21.body.bind (tailAt id)).getD .skip
section
variable {w wr : World} {W R : Int} {ch st : List ByteArray} {ars : List Int} {cs : List CodeD} {a1 a2 a3 a4 : Option Addr} {nc ns na nk c1 c2 c3 c4 p : Nat} {P : Prop}
/-- What makes an instruction valid, once it has a kind. -/
theorem instr_iff (c : CodeD) : InstrOk W R na nc ns nk c ↔ (FieldOk c ∧ ((c.k ≠ 1 → c.o = 0) ∧ (kD c.k = true → 0 ≤ c.d ∧ c.d < R) ∧ (kD c.k = false → c.d = 0) ∧ (decide (kN c.k ≠ 0) = true → 0 ≤ c.n ∧ c.n < mostR na nc ns nk c.k) ∧ (decide (kN c.k ≠ 0) = false → c.n = 0)) ∧ refB W R c.ar c.an (kA c.k) = true ∧ refB W R c.br c.bn (hasB2 c.k c.o) = true) := by
  unfold InstrOk FieldOk mostR
  have hm : kN c.k = 0 → mostN na nc ns nk (kN c.k) = 1 := fun h => by rw [h]; rfl
  constructor
  · rintro ⟨h1, h2, h3, h4, h5⟩
    refine ⟨⟨by omega, fun h => by omega⟩, ⟨fun h => by omega, fun h => ?_, fun h => ?_, fun h => ?_, fun h => ?_⟩, h4, h5⟩
    · rcases h3 with ⟨-, h3⟩ | ⟨h3, -⟩
      · exact h3
      · rw [h] at h3; cases h3
    · rcases h3 with ⟨h3, -⟩ | ⟨-, h3⟩
      · rw [h] at h3; cases h3
      · exact h3
    · rw [if_neg (by simpa using h)]; exact h2
    · have h0 : kN c.k = 0 := by simpa using h
      rw [hm h0] at h2
      omega
  · rintro ⟨⟨h1, h2⟩, ⟨h3, h4, h5, h6, h7⟩, h8, h9⟩
    refine ⟨?_, ?_, ?_, h8, h9⟩
    · by_cases hk : c.k = 1
      · exact .inl ⟨hk, h2 hk⟩
      · exact .inr ⟨hk, h1, h3 hk⟩
    · by_cases h0 : kN c.k = 0
      · have := h7 (by simpa using h0)
        rw [hm h0]; omega
      · have := h6 (by simpa using h0)
        rwa [if_neg h0] at this
    · cases hd : kD c.k with
      | true => exact .inl ⟨rfl, h4 hd⟩
      | false => exact .inr ⟨rfl, h5 hd⟩
theorem FlIn.rref (h : FlIn w W R ch st ars cs a1 a2 a3 a4 nc ns na nk c1 c2 c3 c4 P) (r : Int) (q : Nat) (hq : q < 18446744073709551616) (has : Bool) (wx : World) :
    Calls Tryd.prog 44 #[.agg #[.int .i64 W, .int .i64 R, .slice a1 nc c1, .slice a2 ns c2, .slice a3 na c3, .slice a4 nk c4], .agg #[.int .i64 r, .int .u64 q], .bool has] wx fun e w' => e = .returned (.bool (refB W R r q has)) ∧ Below wx.heap.size wx w' :=
  ref_any ⟨W, R, ch, st, ars, cs⟩ _ _ _ _ h.wid.1.1 h.wid.1.2 r q hq has wx
theorem FlIn.rfields (_h : FlIn w W R ch st ars cs a1 a2 a3 a4 nc ns na nk c1 c2 c3 c4 P) {c : CodeD} (hc : c.Ok) (wx : World) :
    Calls Tryd.prog 43 #[.agg #[.int .i64 W, .int .i64 R, .slice a1 nc c1, .slice a2 ns c2, .slice a3 na c3, .slice a4 nk c4], c.val] wx (FieldsPost (FieldOk c) (kD c.k) (decide (kN c.k ≠ 0)) (kA c.k) (hasB2 c.k c.o) (mostR na nc ns nk c.k) wx) :=
  fields_any ⟨W, R, ch, st, ars, cs⟩ c hc
noncomputable def rcheckRegion : Code := (Tryd.f21.body.bind (regionIn 13)).getD .skip
set_option maxRecDepth 100000 in
/-- The great condition, where the fields are as they should be. -/
theorem rcheck_pos {u0 u2 u3 u4 u8 u9 u10 u11 u12 u13 u14 u15 u16 u17 u18 u19 u20 u21 u22 u23 u24 u25 u26 u27 u28 u29 u30 u31 u32 u33 u34 u35 u36 u37 u38 u39 u40 u41 u42 u43 u44 u45 u46 u47 u48 u49 u50 u51 u52 u53 u54 u55 u56 u57 u58 u59 u60 u61 u62 u63 u64 u65 u66 u67 u68 u69 u70 u71 u72 u73 u74 u75 u76 u77 u78 u79 u80 u81 u82 u83 u84 u85 u86 u87 u88 u89 u90 u91 u92 u93 u94 u95 u96 u97 u98 u99 u100 u101 u102 u103 u104 u105 u106 u107 u108 u109 u110 u111 u112 u113 u114 u115 u116 u117 u118 u119 u120 u121 u122 u123 u124 u125 u126 u127 u128 u129 u130 u131 u132 u133 u134 u135 u136 u137 u138 u139 u140 u141 u142 u143 u144 u145 u146 u147 u148 u149 u150 u151 u152 u153 u154 u155 u156 u157 u158 u159 u160 u161 u162 u163 u164 u165 u166 u167 u168 u169 u170 u171 u172 u173 u174 u175 u176 u177 u178 u179 u180 u181 u182 u183 u184 u185 u186 u187 u188 u189 u190 u191 u192 : Value} {Q : Exit → Act → World → Prop} {c : CodeD} {g pu : Nat} {bD bN bA bB rA rB : Bool} {m : Int}
    (hra : ∀ wx, Calls Tryd.prog 44 #[.agg #[.int .i64 W, .int .i64 R, .slice a1 nc c1, .slice a2 ns c2, .slice a3 na c3, .slice a4 nk c4], .agg #[.int .i64 c.ar, .int .u64 c.an], .bool bA] wx fun e w' => e = .returned (.bool rA) ∧ Below wx.heap.size wx w')
    (hrb : ∀ wx, Calls Tryd.prog 44 #[.agg #[.int .i64 W, .int .i64 R, .slice a1 nc c1, .slice a2 ns c2, .slice a3 na c3, .slice a4 nk c4], .agg #[.int .i64 c.br, .int .u64 c.bn], .bool bB] wx fun e w' => e = .returned (.bool rB) ∧ Below wx.heap.size wx w')
    (hii : InstrOk W R na nc ns nk c ↔ ((c.k ≠ 1 → c.o = 0) ∧ (bD = true → 0 ≤ c.d ∧ c.d < R) ∧ (bD = false → c.d = 0) ∧ (bN = true → 0 ≤ c.n ∧ c.n < m) ∧ (bN = false → c.n = 0)) ∧ rA = true ∧ rB = true)
    (hx : FBx w wr p #[.int .i64 W, .int .i64 R, .slice a1 nc c1, .slice a2 ns c2, .slice a3 na c3, .slice a4 nk c4]) (hc : wr.heap[g]? = some (.cells #[.int .u8 c.k, .int .u8 c.o, .int .i64 c.d, .int .i64 c.n, .int .i64 c.ar, .int .u64 c.an, .int .i64 c.br, .int .u64 c.bn] 100 (0, 0))) (hu : wr.heap[pu]? = some (.cells #[.bool bD, .bool bN, .bool bA, .bool bB, .int .i64 m] 102 (0, 0)))
    (hQ : ∀ (v96 v97 v98 v99 v100 v101 v102 v103 v104 v105 v106 v107 v108 v109 v110 v111 v112 v113 v114 v115 v116 v117 v118 v119 v120 v121 v122 v123 v124 v125 v126 v127 v128 v129 v130 v131 v132 v133 v134 v135 v136 v137 v138 v139 v140 v141 v142 v143 v144 v145 v146 v147 v148 v149 v150 v151 v152 v153 v154 v155 v156 v157 v158 v159 v160 v161 v162 v163 v164 v165 v166 v167 v168 v169 v170 v171 v172 v173 v174 v175 v176 : Value) (bad : Bool) (w' : World), (bad = false ↔ InstrOk W R na nc ns nk c) → FBx w w' p #[.int .i64 W, .int .i64 R, .slice a1 nc c1, .slice a2 ns c2, .slice a3 na c3, .slice a4 nk c4] → Q .normal ⟨(List.toArray (u0 :: .pointer (some ⟨p, 0, none⟩) :: u2 :: u3 :: u4 :: .pointer (some ⟨g, 0, none⟩) :: .pointer (some ⟨pu, 0, none⟩) :: .bool true :: u8 :: u9 :: u10 :: u11 :: u12 :: u13 :: u14 :: u15 :: u16 :: u17 :: u18 :: u19 :: u20 :: u21 :: u22 :: u23 :: u24 :: u25 :: u26 :: u27 :: u28 :: u29 :: u30 :: u31 :: u32 :: u33 :: u34 :: u35 :: u36 :: u37 :: u38 :: u39 :: u40 :: u41 :: u42 :: u43 :: u44 :: u45 :: u46 :: u47 :: u48 :: u49 :: u50 :: u51 :: u52 :: u53 :: u54 :: u55 :: u56 :: u57 :: u58 :: u59 :: u60 :: u61 :: u62 :: u63 :: u64 :: u65 :: u66 :: u67 :: u68 :: u69 :: u70 :: u71 :: u72 :: u73 :: u74 :: u75 :: u76 :: u77 :: u78 :: u79 :: u80 :: u81 :: u82 :: u83 :: u84 :: u85 :: u86 :: u87 :: u88 :: u89 :: u90 :: u91 :: u92 :: u93 :: u94 :: u95 :: v96 :: v97 :: v98 :: v99 :: v100 :: v101 :: v102 :: v103 :: v104 :: v105 :: v106 :: v107 :: v108 :: v109 :: v110 :: v111 :: v112 :: v113 :: v114 :: v115 :: v116 :: v117 :: v118 :: v119 :: v120 :: v121 :: v122 :: v123 :: v124 :: v125 :: v126 :: v127 :: v128 :: v129 :: v130 :: v131 :: v132 :: v133 :: v134 :: v135 :: v136 :: v137 :: v138 :: v139 :: v140 :: v141 :: v142 :: v143 :: v144 :: v145 :: v146 :: v147 :: v148 :: v149 :: v150 :: v151 :: v152 :: v153 :: v154 :: v155 :: v156 :: v157 :: v158 :: v159 :: v160 :: v161 :: v162 :: v163 :: v164 :: v165 :: v166 :: v167 :: v168 :: v169 :: v170 :: v171 :: v172 :: v173 :: v174 :: v175 :: v176 :: .bool bad :: u178 :: u179 :: u180 :: u181 :: u182 :: u183 :: u184 :: u185 :: u186 :: u187 :: u188 :: u189 :: u190 :: u191 :: u192 :: [])), []⟩ w')
    (hV : (c.k ≠ 1 → c.o = 0) ∧ (bD = true → 0 ≤ c.d ∧ c.d < R) ∧ (bD = false → c.d = 0) ∧ (bN = true → 0 ≤ c.n ∧ c.n < m) ∧ (bN = false → c.n = 0)) :
    Code.wp Tryd.prog rcheckRegion Q ⟨(List.toArray (u0 :: .pointer (some ⟨p, 0, none⟩) :: u2 :: u3 :: u4 :: .pointer (some ⟨g, 0, none⟩) :: .pointer (some ⟨pu, 0, none⟩) :: .bool true :: u8 :: u9 :: u10 :: u11 :: u12 :: u13 :: u14 :: u15 :: u16 :: u17 :: u18 :: u19 :: u20 :: u21 :: u22 :: u23 :: u24 :: u25 :: u26 :: u27 :: u28 :: u29 :: u30 :: u31 :: u32 :: u33 :: u34 :: u35 :: u36 :: u37 :: u38 :: u39 :: u40 :: u41 :: u42 :: u43 :: u44 :: u45 :: u46 :: u47 :: u48 :: u49 :: u50 :: u51 :: u52 :: u53 :: u54 :: u55 :: u56 :: u57 :: u58 :: u59 :: u60 :: u61 :: u62 :: u63 :: u64 :: u65 :: u66 :: u67 :: u68 :: u69 :: u70 :: u71 :: u72 :: u73 :: u74 :: u75 :: u76 :: u77 :: u78 :: u79 :: u80 :: u81 :: u82 :: u83 :: u84 :: u85 :: u86 :: u87 :: u88 :: u89 :: u90 :: u91 :: u92 :: u93 :: u94 :: u95 :: u96 :: u97 :: u98 :: u99 :: u100 :: u101 :: u102 :: u103 :: u104 :: u105 :: u106 :: u107 :: u108 :: u109 :: u110 :: u111 :: u112 :: u113 :: u114 :: u115 :: u116 :: u117 :: u118 :: u119 :: u120 :: u121 :: u122 :: u123 :: u124 :: u125 :: u126 :: u127 :: u128 :: u129 :: u130 :: u131 :: u132 :: u133 :: u134 :: u135 :: u136 :: u137 :: u138 :: u139 :: u140 :: u141 :: u142 :: u143 :: u144 :: u145 :: u146 :: u147 :: u148 :: u149 :: u150 :: u151 :: u152 :: u153 :: u154 :: u155 :: u156 :: u157 :: u158 :: u159 :: u160 :: u161 :: u162 :: u163 :: u164 :: u165 :: u166 :: u167 :: u168 :: u169 :: u170 :: u171 :: u172 :: u173 :: u174 :: u175 :: u176 :: u177 :: u178 :: u179 :: u180 :: u181 :: u182 :: u183 :: u184 :: u185 :: u186 :: u187 :: u188 :: u189 :: u190 :: u191 :: u192 :: [])), []⟩ wr := by
  have HRA := Lib.hid hra; have HRB := Lib.hid hrb; have HII := Lib.hid hii; have HX := Lib.hid hx; have HC := Lib.hid hc; have HU := Lib.hid hu; have HQ := Lib.hid hQ
  have HV := Lib.hid hV
  obtain ⟨v1, v2, v3, v4, v5⟩ := hV
  clear hra hrb hii hx hc hu hQ
  have hd : (bD = true ∧ decide (c.d < 0) = false ∧ decide (R ≤ c.d) = false) ∨ (bD = false ∧ (c.d != 0) = false) := by
    cases bD with
    | true => exact .inl ⟨rfl, decide_eq_false (by have := v2 rfl; omega), decide_eq_false (by have := v2 rfl; omega)⟩
    | false => exact .inr ⟨rfl, by rw [bne_eq_false_iff_eq]; exact v3 rfl⟩
  have hn : (bN = true ∧ decide (c.n < 0) = false ∧ decide (m ≤ c.n) = false) ∨ (bN = false ∧ (c.n != 0) = false) := by
    cases bN with
    | true => exact .inl ⟨rfl, decide_eq_false (by have := v4 rfl; omega), decide_eq_false (by have := v4 rfl; omega)⟩
    | false => exact .inr ⟨rfl, by rw [bne_eq_false_iff_eq]; exact v5 rfl⟩
  have hk : ((c.k : Int) != 1) = false ∨ (((c.k : Int) != 1) = true ∧ ((c.o : Int) != 0) = false) := by
    by_cases h : c.k = 1
    · exact .inl (by rw [bne_eq_false_iff_eq]; omega)
    · exact .inr ⟨by rw [bne_iff_ne]; omega, by rw [bne_eq_false_iff_eq]; have := v1 h; omega⟩
  clear v1 v2 v3 v4 v5
  conv => arg 2; whnf
  conv => arg 2; arg 2; simp only [List.append_eq, List.cons_append, List.nil_append]
  have q0 := cell_of_cells HX.out.f (i := 0) rfl
  have q1 := cell_of_cells HX.out.f (i := 1) rfl
  have q2 := cell_of_cells HX.out.f (i := 2) rfl
  have q3 := cell_of_cells HX.out.f (i := 3) rfl
  have q4 := cell_of_cells HX.out.f (i := 4) rfl
  have q5 := cell_of_cells HX.out.f (i := 5) rfl
  have e0 := cell_of_cells HC.out (i := 0) rfl
  have e1 := cell_of_cells HC.out (i := 1) rfl
  have e2 := cell_of_cells HC.out (i := 2) rfl
  have e3 := cell_of_cells HC.out (i := 3) rfl
  have e4 := cell_of_cells HC.out (i := 4) rfl
  have e5 := cell_of_cells HC.out (i := 5) rfl
  have e6 := cell_of_cells HC.out (i := 6) rfl
  have e7 := cell_of_cells HC.out (i := 7) rfl
  have z0 := cell_of_cells HU.out (i := 0) rfl
  have z1 := cell_of_cells HU.out (i := 1) rfl
  have z2 := cell_of_cells HU.out (i := 2) rfl
  have z3 := cell_of_cells HU.out (i := 3) rfl
  have z4 := cell_of_cells HU.out (i := 4) rfl
  rcases hd with ⟨rfl, d1, d2⟩ | ⟨rfl, d1⟩ <;> rcases hn with ⟨rfl, n1, n2⟩ | ⟨rfl, n1⟩ <;> rcases hk with k1 | ⟨k1, k2⟩
  all_goals
    go_wp2_with fail
    go_at_call 44
    refine (HRA.out _).mono ?_
    rintro e w7 ⟨rfl, hb7⟩
    clear q0 q1 q2 q3 q4 q5 e0 e1 e2 e3 e4 e5 e6 e7 z0 z1 z2 z3 z4
    replace HX := Lib.hid (HX.out.later hb7)
    replace HC := Lib.hid ((hb7.block g (Array.getElem?_eq_some_iff.1 HC.out).1).trans HC.out)
    replace HU := Lib.hid ((hb7.block pu (Array.getElem?_eq_some_iff.1 HU.out).1).trans HU.out)
    clear hb7
    cases rA with
    | false =>
      go_wp2
      exact HQ.out _ _ _ _ _ _ _ _ _ _ _ _ _ _ _ _ _ _ _ _ _ _ _ _ _ _ _ _ _ _ _ _ _ _ _ _ _ _ _ _ _ _ _ _ _ _ _ _ _ _ _ _ _ _ _ _ _ _ _ _ _ _ _ _ _ _ _ _ _ _ _ _ _ _ _ _ _ _ _ _ _ true _ ⟨(by intro h; cases h), fun h => by cases (HII.out.1 h).2.1⟩ HX.out
    | true =>
      have q0 := cell_of_cells HX.out.f (i := 0) rfl
      have q1 := cell_of_cells HX.out.f (i := 1) rfl
      have q2 := cell_of_cells HX.out.f (i := 2) rfl
      have q3 := cell_of_cells HX.out.f (i := 3) rfl
      have q4 := cell_of_cells HX.out.f (i := 4) rfl
      have q5 := cell_of_cells HX.out.f (i := 5) rfl
      have e0 := cell_of_cells HC.out (i := 0) rfl
      have e1 := cell_of_cells HC.out (i := 1) rfl
      have e2 := cell_of_cells HC.out (i := 2) rfl
      have e3 := cell_of_cells HC.out (i := 3) rfl
      have e4 := cell_of_cells HC.out (i := 4) rfl
      have e5 := cell_of_cells HC.out (i := 5) rfl
      have e6 := cell_of_cells HC.out (i := 6) rfl
      have e7 := cell_of_cells HC.out (i := 7) rfl
      have z0 := cell_of_cells HU.out (i := 0) rfl
      have z1 := cell_of_cells HU.out (i := 1) rfl
      have z2 := cell_of_cells HU.out (i := 2) rfl
      have z3 := cell_of_cells HU.out (i := 3) rfl
      have z4 := cell_of_cells HU.out (i := 4) rfl
      go_wp2_with fail
      go_at_call 44
      refine (HRB.out _).mono ?_
      rintro e w8 ⟨rfl, hb8⟩
      clear q0 q1 q2 q3 q4 q5 e0 e1 e2 e3 e4 e5 e6 e7 z0 z1 z2 z3 z4
      replace HX := Lib.hid (HX.out.later hb8)
      clear hb8 HC HU
      cases rB with
      | false =>
        go_wp2
        exact HQ.out _ _ _ _ _ _ _ _ _ _ _ _ _ _ _ _ _ _ _ _ _ _ _ _ _ _ _ _ _ _ _ _ _ _ _ _ _ _ _ _ _ _ _ _ _ _ _ _ _ _ _ _ _ _ _ _ _ _ _ _ _ _ _ _ _ _ _ _ _ _ _ _ _ _ _ _ _ _ _ _ _ true _ ⟨(by intro h; cases h), fun h => by cases (HII.out.1 h).2.2⟩ HX.out
      | true =>
        go_wp2
        exact HQ.out _ _ _ _ _ _ _ _ _ _ _ _ _ _ _ _ _ _ _ _ _ _ _ _ _ _ _ _ _ _ _ _ _ _ _ _ _ _ _ _ _ _ _ _ _ _ _ _ _ _ _ _ _ _ _ _ _ _ _ _ _ _ _ _ _ _ _ _ _ _ _ _ _ _ _ _ _ _ _ _ _ false _ ⟨fun _ => HII.out.2 ⟨HV.out, by simp, by simp⟩, fun _ => by simp⟩ HX.out
set_option maxRecDepth 100000 in
/-- The great condition, where a field is not as it should be. -/
theorem rcheck_neg {u0 u2 u3 u4 u8 u9 u10 u11 u12 u13 u14 u15 u16 u17 u18 u19 u20 u21 u22 u23 u24 u25 u26 u27 u28 u29 u30 u31 u32 u33 u34 u35 u36 u37 u38 u39 u40 u41 u42 u43 u44 u45 u46 u47 u48 u49 u50 u51 u52 u53 u54 u55 u56 u57 u58 u59 u60 u61 u62 u63 u64 u65 u66 u67 u68 u69 u70 u71 u72 u73 u74 u75 u76 u77 u78 u79 u80 u81 u82 u83 u84 u85 u86 u87 u88 u89 u90 u91 u92 u93 u94 u95 u96 u97 u98 u99 u100 u101 u102 u103 u104 u105 u106 u107 u108 u109 u110 u111 u112 u113 u114 u115 u116 u117 u118 u119 u120 u121 u122 u123 u124 u125 u126 u127 u128 u129 u130 u131 u132 u133 u134 u135 u136 u137 u138 u139 u140 u141 u142 u143 u144 u145 u146 u147 u148 u149 u150 u151 u152 u153 u154 u155 u156 u157 u158 u159 u160 u161 u162 u163 u164 u165 u166 u167 u168 u169 u170 u171 u172 u173 u174 u175 u176 u177 u178 u179 u180 u181 u182 u183 u184 u185 u186 u187 u188 u189 u190 u191 u192 : Value} {Q : Exit → Act → World → Prop} {c : CodeD} {g pu : Nat} {bD bN bA bB rA rB : Bool} {m : Int}
    (_hra : ∀ wx, Calls Tryd.prog 44 #[.agg #[.int .i64 W, .int .i64 R, .slice a1 nc c1, .slice a2 ns c2, .slice a3 na c3, .slice a4 nk c4], .agg #[.int .i64 c.ar, .int .u64 c.an], .bool bA] wx fun e w' => e = .returned (.bool rA) ∧ Below wx.heap.size wx w')
    (_hrb : ∀ wx, Calls Tryd.prog 44 #[.agg #[.int .i64 W, .int .i64 R, .slice a1 nc c1, .slice a2 ns c2, .slice a3 na c3, .slice a4 nk c4], .agg #[.int .i64 c.br, .int .u64 c.bn], .bool bB] wx fun e w' => e = .returned (.bool rB) ∧ Below wx.heap.size wx w')
    (hii : InstrOk W R na nc ns nk c ↔ ((c.k ≠ 1 → c.o = 0) ∧ (bD = true → 0 ≤ c.d ∧ c.d < R) ∧ (bD = false → c.d = 0) ∧ (bN = true → 0 ≤ c.n ∧ c.n < m) ∧ (bN = false → c.n = 0)) ∧ rA = true ∧ rB = true)
    (hx : FBx w wr p #[.int .i64 W, .int .i64 R, .slice a1 nc c1, .slice a2 ns c2, .slice a3 na c3, .slice a4 nk c4]) (hc : wr.heap[g]? = some (.cells #[.int .u8 c.k, .int .u8 c.o, .int .i64 c.d, .int .i64 c.n, .int .i64 c.ar, .int .u64 c.an, .int .i64 c.br, .int .u64 c.bn] 100 (0, 0))) (hu : wr.heap[pu]? = some (.cells #[.bool bD, .bool bN, .bool bA, .bool bB, .int .i64 m] 102 (0, 0)))
    (hQ : ∀ (v96 v97 v98 v99 v100 v101 v102 v103 v104 v105 v106 v107 v108 v109 v110 v111 v112 v113 v114 v115 v116 v117 v118 v119 v120 v121 v122 v123 v124 v125 v126 v127 v128 v129 v130 v131 v132 v133 v134 v135 v136 v137 v138 v139 v140 v141 v142 v143 v144 v145 v146 v147 v148 v149 v150 v151 v152 v153 v154 v155 v156 v157 v158 v159 v160 v161 v162 v163 v164 v165 v166 v167 v168 v169 v170 v171 v172 v173 v174 v175 v176 : Value) (bad : Bool) (w' : World), (bad = false ↔ InstrOk W R na nc ns nk c) → FBx w w' p #[.int .i64 W, .int .i64 R, .slice a1 nc c1, .slice a2 ns c2, .slice a3 na c3, .slice a4 nk c4] → Q .normal ⟨(List.toArray (u0 :: .pointer (some ⟨p, 0, none⟩) :: u2 :: u3 :: u4 :: .pointer (some ⟨g, 0, none⟩) :: .pointer (some ⟨pu, 0, none⟩) :: .bool true :: u8 :: u9 :: u10 :: u11 :: u12 :: u13 :: u14 :: u15 :: u16 :: u17 :: u18 :: u19 :: u20 :: u21 :: u22 :: u23 :: u24 :: u25 :: u26 :: u27 :: u28 :: u29 :: u30 :: u31 :: u32 :: u33 :: u34 :: u35 :: u36 :: u37 :: u38 :: u39 :: u40 :: u41 :: u42 :: u43 :: u44 :: u45 :: u46 :: u47 :: u48 :: u49 :: u50 :: u51 :: u52 :: u53 :: u54 :: u55 :: u56 :: u57 :: u58 :: u59 :: u60 :: u61 :: u62 :: u63 :: u64 :: u65 :: u66 :: u67 :: u68 :: u69 :: u70 :: u71 :: u72 :: u73 :: u74 :: u75 :: u76 :: u77 :: u78 :: u79 :: u80 :: u81 :: u82 :: u83 :: u84 :: u85 :: u86 :: u87 :: u88 :: u89 :: u90 :: u91 :: u92 :: u93 :: u94 :: u95 :: v96 :: v97 :: v98 :: v99 :: v100 :: v101 :: v102 :: v103 :: v104 :: v105 :: v106 :: v107 :: v108 :: v109 :: v110 :: v111 :: v112 :: v113 :: v114 :: v115 :: v116 :: v117 :: v118 :: v119 :: v120 :: v121 :: v122 :: v123 :: v124 :: v125 :: v126 :: v127 :: v128 :: v129 :: v130 :: v131 :: v132 :: v133 :: v134 :: v135 :: v136 :: v137 :: v138 :: v139 :: v140 :: v141 :: v142 :: v143 :: v144 :: v145 :: v146 :: v147 :: v148 :: v149 :: v150 :: v151 :: v152 :: v153 :: v154 :: v155 :: v156 :: v157 :: v158 :: v159 :: v160 :: v161 :: v162 :: v163 :: v164 :: v165 :: v166 :: v167 :: v168 :: v169 :: v170 :: v171 :: v172 :: v173 :: v174 :: v175 :: v176 :: .bool bad :: u178 :: u179 :: u180 :: u181 :: u182 :: u183 :: u184 :: u185 :: u186 :: u187 :: u188 :: u189 :: u190 :: u191 :: u192 :: [])), []⟩ w')
    (hV : ¬ ((c.k ≠ 1 → c.o = 0) ∧ (bD = true → 0 ≤ c.d ∧ c.d < R) ∧ (bD = false → c.d = 0) ∧ (bN = true → 0 ≤ c.n ∧ c.n < m) ∧ (bN = false → c.n = 0))) :
    Code.wp Tryd.prog rcheckRegion Q ⟨(List.toArray (u0 :: .pointer (some ⟨p, 0, none⟩) :: u2 :: u3 :: u4 :: .pointer (some ⟨g, 0, none⟩) :: .pointer (some ⟨pu, 0, none⟩) :: .bool true :: u8 :: u9 :: u10 :: u11 :: u12 :: u13 :: u14 :: u15 :: u16 :: u17 :: u18 :: u19 :: u20 :: u21 :: u22 :: u23 :: u24 :: u25 :: u26 :: u27 :: u28 :: u29 :: u30 :: u31 :: u32 :: u33 :: u34 :: u35 :: u36 :: u37 :: u38 :: u39 :: u40 :: u41 :: u42 :: u43 :: u44 :: u45 :: u46 :: u47 :: u48 :: u49 :: u50 :: u51 :: u52 :: u53 :: u54 :: u55 :: u56 :: u57 :: u58 :: u59 :: u60 :: u61 :: u62 :: u63 :: u64 :: u65 :: u66 :: u67 :: u68 :: u69 :: u70 :: u71 :: u72 :: u73 :: u74 :: u75 :: u76 :: u77 :: u78 :: u79 :: u80 :: u81 :: u82 :: u83 :: u84 :: u85 :: u86 :: u87 :: u88 :: u89 :: u90 :: u91 :: u92 :: u93 :: u94 :: u95 :: u96 :: u97 :: u98 :: u99 :: u100 :: u101 :: u102 :: u103 :: u104 :: u105 :: u106 :: u107 :: u108 :: u109 :: u110 :: u111 :: u112 :: u113 :: u114 :: u115 :: u116 :: u117 :: u118 :: u119 :: u120 :: u121 :: u122 :: u123 :: u124 :: u125 :: u126 :: u127 :: u128 :: u129 :: u130 :: u131 :: u132 :: u133 :: u134 :: u135 :: u136 :: u137 :: u138 :: u139 :: u140 :: u141 :: u142 :: u143 :: u144 :: u145 :: u146 :: u147 :: u148 :: u149 :: u150 :: u151 :: u152 :: u153 :: u154 :: u155 :: u156 :: u157 :: u158 :: u159 :: u160 :: u161 :: u162 :: u163 :: u164 :: u165 :: u166 :: u167 :: u168 :: u169 :: u170 :: u171 :: u172 :: u173 :: u174 :: u175 :: u176 :: u177 :: u178 :: u179 :: u180 :: u181 :: u182 :: u183 :: u184 :: u185 :: u186 :: u187 :: u188 :: u189 :: u190 :: u191 :: u192 :: [])), []⟩ wr := by
  have HII := Lib.hid hii; have HX := Lib.hid hx; have HC := Lib.hid hc; have HU := Lib.hid hu; have HQ := Lib.hid hQ; have HV := Lib.hid hV
  clear _hra _hrb hii hx hc hu hQ hV
  conv => arg 2; whnf
  conv => arg 2; arg 2; simp only [List.append_eq, List.cons_append, List.nil_append]
  have q0 := cell_of_cells HX.out.f (i := 0) rfl
  have q1 := cell_of_cells HX.out.f (i := 1) rfl
  have q2 := cell_of_cells HX.out.f (i := 2) rfl
  have q3 := cell_of_cells HX.out.f (i := 3) rfl
  have q4 := cell_of_cells HX.out.f (i := 4) rfl
  have q5 := cell_of_cells HX.out.f (i := 5) rfl
  have e0 := cell_of_cells HC.out (i := 0) rfl
  have e1 := cell_of_cells HC.out (i := 1) rfl
  have e2 := cell_of_cells HC.out (i := 2) rfl
  have e3 := cell_of_cells HC.out (i := 3) rfl
  have e4 := cell_of_cells HC.out (i := 4) rfl
  have e5 := cell_of_cells HC.out (i := 5) rfl
  have e6 := cell_of_cells HC.out (i := 6) rfl
  have e7 := cell_of_cells HC.out (i := 7) rfl
  have z0 := cell_of_cells HU.out (i := 0) rfl
  have z1 := cell_of_cells HU.out (i := 1) rfl
  have z2 := cell_of_cells HU.out (i := 2) rfl
  have z3 := cell_of_cells HU.out (i := 3) rfl
  have z4 := cell_of_cells HU.out (i := 4) rfl
  cases bD <;> cases bN
  all_goals
    go_wp2_with fail
    all_goals
      first
        | exact HQ.out _ _ _ _ _ _ _ _ _ _ _ _ _ _ _ _ _ _ _ _ _ _ _ _ _ _ _ _ _ _ _ _ _ _ _ _ _ _ _ _ _ _ _ _ _ _ _ _ _ _ _ _ _ _ _ _ _ _ _ _ _ _ _ _ _ _ _ _ _ _ _ _ _ _ _ _ _ _ _ _ _ true _ ⟨(by intro h; cases h), fun h => absurd (HII.out.1 h).1 HV.out⟩ HX.out
        | (exfalso
           apply HV.out
           refine ⟨fun _ => ?_, fun _ => ?_, fun _ => ?_, fun _ => ?_, fun _ => ?_⟩ <;> first | omega | (exfalso; simp at *; done))
set_option maxRecDepth 100000 in
theorem rcheck_rest8 {u0 u2 u3 u4 u5 u6 u7 u8 u9 u10 u11 u12 u13 u14 u15 u16 u17 u18 u19 u20 u21 u22 u23 u24 u25 u26 u27 u28 u29 u30 u31 u32 u33 u34 u35 u36 u37 u38 u39 u40 u41 u42 u43 u44 u45 u46 u47 u48 u49 u50 u51 u52 u53 u54 u55 u56 u57 u58 u59 u60 u61 u62 u63 u64 u65 u66 u67 u68 u69 u70 u71 u72 u73 u74 u75 u76 u77 u78 u79 u80 u81 u82 u83 u84 u85 u86 u87 u88 u89 u90 u91 u92 u93 u94 u95 u96 u97 u98 u99 u100 u101 u102 u103 u104 u105 u106 u107 u108 u109 u110 u111 u112 u113 u114 u115 u116 u117 u118 u119 u120 u121 u122 u123 u124 u125 u126 u127 u128 u129 u130 u131 u132 u133 u134 u135 u136 u137 u138 u139 u140 u141 u142 u143 u144 u145 u146 u147 u148 u149 u150 u151 u152 u153 u154 u155 u156 u157 u158 u159 u160 u161 u162 u163 u164 u165 u166 u167 u168 u169 u170 u171 u172 u173 u174 u175 u176 u177 u178 u179 u180 u181 u182 u183 u184 u185 u186 u187 u188 u189 u190 u191 u192 : Value} (hin : FlIn w W R ch st ars cs a1 a2 a3 a4 nc ns na nk c1 c2 c3 c4 P) (hx : FBx w wr p #[.int .i64 W, .int .i64 R, .slice a1 nc c1, .slice a2 ns c2, .slice a3 na c3, .slice a4 nk c4]) (hars : ∀ n ∈ ars, 1 ≤ n ∧ n ≤ 64) :
    Code.wp Tryd.prog (rcheckRest 8) (bodyPost Tryd.prog Tryd.f21 (ErrPost P w)) ⟨(List.toArray (u0 :: .pointer (some ⟨p, 0, none⟩) :: u2 :: u3 :: u4 :: u5 :: u6 :: u7 :: u8 :: u9 :: u10 :: u11 :: u12 :: u13 :: u14 :: u15 :: u16 :: u17 :: u18 :: u19 :: u20 :: u21 :: u22 :: u23 :: u24 :: u25 :: u26 :: u27 :: u28 :: u29 :: u30 :: u31 :: u32 :: u33 :: u34 :: u35 :: u36 :: u37 :: u38 :: u39 :: u40 :: u41 :: u42 :: u43 :: u44 :: u45 :: u46 :: u47 :: u48 :: u49 :: u50 :: u51 :: u52 :: u53 :: u54 :: u55 :: u56 :: u57 :: u58 :: u59 :: u60 :: u61 :: u62 :: u63 :: u64 :: u65 :: u66 :: u67 :: u68 :: u69 :: u70 :: u71 :: u72 :: u73 :: u74 :: u75 :: u76 :: u77 :: u78 :: u79 :: u80 :: u81 :: u82 :: u83 :: u84 :: u85 :: u86 :: u87 :: u88 :: u89 :: u90 :: u91 :: u92 :: u93 :: u94 :: u95 :: u96 :: u97 :: u98 :: u99 :: u100 :: u101 :: u102 :: u103 :: u104 :: u105 :: u106 :: u107 :: u108 :: u109 :: u110 :: u111 :: u112 :: u113 :: u114 :: u115 :: u116 :: u117 :: u118 :: u119 :: u120 :: u121 :: u122 :: u123 :: u124 :: u125 :: u126 :: u127 :: u128 :: u129 :: u130 :: u131 :: u132 :: u133 :: u134 :: u135 :: u136 :: u137 :: u138 :: u139 :: u140 :: u141 :: u142 :: u143 :: u144 :: u145 :: u146 :: u147 :: u148 :: u149 :: u150 :: u151 :: u152 :: u153 :: u154 :: u155 :: u156 :: u157 :: u158 :: u159 :: u160 :: u161 :: u162 :: u163 :: u164 :: u165 :: u166 :: u167 :: u168 :: u169 :: u170 :: u171 :: u172 :: u173 :: u174 :: u175 :: u176 :: u177 :: u178 :: u179 :: u180 :: u181 :: u182 :: u183 :: u184 :: u185 :: u186 :: u187 :: u188 :: u189 :: u190 :: u191 :: u192 :: [])), []⟩ wr := by
  have bk := hin.few.2.2
  have HI := Lib.hid hin; have HX := Lib.hid hx; have HA := Lib.hid hars
  clear hin hx hars
  conv => arg 2; whnf
  go_wp2
  go_loopw [4] (fun i wx => ∃ j : Nat, j ≤ nk ∧ i = .int .i64 j ∧ (∀ c ∈ cs.take j, InstrOk W R na nc ns nk c) ∧ FBx w wx p #[.int .i64 W, .int .i64 R, .slice a1 nc c1, .slice a2 ns c2, .slice a3 na c3, .slice a4 nk c4]) (fun i _ => nk - (intOf i).toNat)
  case atStart => exact ⟨0, Nat.zero_le _, rfl, by simp, HX.out⟩
  case round =>
    obtain ⟨j, hj, rfl, hcj, hbx⟩ := hrel
    replace HX := Lib.hid hbx
    obtain ⟨ak, n', cap', e, hl', hm', hx⟩ := HI.out.of.codes.later hbx.below
    simp only [Value.slice.injEq] at e
    obtain ⟨rfl, rfl, rfl⟩ := e
    have HCJ := Lib.hid hcj
    clear hcj hbx
    by_cases hlt : j < nk
    · obtain ⟨b, off, c, rfl, hck, hcok, d0, d1, d2, d3, d4, d5, d6, d7⟩ := hx j hlt
      have HCK := Lib.hid (And.intro hck hcok)
      have hlt' : (j : Int) < (nk : Int) := by omega
      have j0 : (0 : Int) ≤ (j : Int) := by omega
      clear hx hck hcok hl' hm'
      have q0 := cell_of_cells HX.out.f (i := 0) rfl
      have q1 := cell_of_cells HX.out.f (i := 1) rfl
      have q2 := cell_of_cells HX.out.f (i := 2) rfl
      have q3 := cell_of_cells HX.out.f (i := 3) rfl
      have q4 := cell_of_cells HX.out.f (i := 4) rfl
      have q5 := cell_of_cells HX.out.f (i := 5) rfl
      go_upto_region 12 with fail
      refine wp_abs (fun wx => FBx w wx p #[.int .i64 W, .int .i64 R, .slice a1 nc c1, .slice a2 ns c2, .slice a3 na c3, .slice (some ⟨b, off, none⟩) nk c4] ∧ wx.heap[wr.heap.size]? = some (.cells #[.int .u8 c.k, .int .u8 c.o, .int .i64 c.d, .int .i64 c.n, .int .i64 c.ar, .int .u64 c.an, .int .i64 c.br, .int .u64 c.bn] 100 (0, 0))) ⟨HX.out.later (below_new _ _), heap_alloc_new _ _⟩ ?_
      rintro w2 ⟨hx2, hcb⟩
      obtain ⟨g, hg⟩ : ∃ g, wr.heap.size = g := ⟨_, rfl⟩
      rw [hg] at hcb
      clear q0 q1 q2 q3 q4 q5 d0 d1 d2 d3 d4 d5 d6 d7
      replace HX := Lib.hid hx2
      have HCB := Lib.hid hcb
      clear hx2
      have q0 := cell_of_cells HX.out.f (i := 0) rfl
      have q1 := cell_of_cells HX.out.f (i := 1) rfl
      have q2 := cell_of_cells HX.out.f (i := 2) rfl
      have q3 := cell_of_cells HX.out.f (i := 3) rfl
      have q4 := cell_of_cells HX.out.f (i := 4) rfl
      have q5 := cell_of_cells HX.out.f (i := 5) rfl
      have e0 := cell_of_cells hcb (i := 0) rfl
      have e1 := cell_of_cells hcb (i := 1) rfl
      have e2 := cell_of_cells hcb (i := 2) rfl
      have e3 := cell_of_cells hcb (i := 3) rfl
      have e4 := cell_of_cells hcb (i := 4) rfl
      have e5 := cell_of_cells hcb (i := 5) rfl
      have e6 := cell_of_cells hcb (i := 6) rfl
      have e7 := cell_of_cells hcb (i := 7) rfl
      have hfl := HI.out.rfields HCK.out.2 w2
      unfold CodeD.val at hfl
      have HFL := Lib.hid hfl
      clear hfl hcb
      go_wp2_with fail
      go_at_call 43
      refine HFL.out.mono ?_
      rintro e w5 ⟨hb5, he⟩
      clear q0 q1 q2 q3 q4 q5 e0 e1 e2 e3 e4 e5 e6 e7 HFL
      replace HX := Lib.hid (HX.out.later hb5)
      have hcb := (hb5.block g (Array.getElem?_eq_some_iff.1 HCB.out).1).trans HCB.out
      clear hb5 hg HCB
      rcases he with ⟨hok, rfl⟩ | ⟨hbad, y0, y1, y2, y3, y4, rfl⟩
      · obtain ⟨m, hm⟩ : ∃ m, mostR na nc ns nk c.k = m := ⟨_, rfl⟩
        obtain ⟨bD, hbD⟩ : ∃ b, kD c.k = b := ⟨_, rfl⟩
        obtain ⟨bN, hbN⟩ : ∃ b, decide (kN c.k ≠ 0) = b := ⟨_, rfl⟩
        obtain ⟨bA, hbA⟩ : ∃ b, kA c.k = b := ⟨_, rfl⟩
        obtain ⟨bB, hbB⟩ : ∃ b, hasB2 c.k c.o = b := ⟨_, rfl⟩
        have hii := instr_iff (W := W) (R := R) (na := na) (nc := nc) (ns := ns) (nk := nk) c
        have hra := HI.out.rref c.ar c.an HCK.out.2.2.2.1 (kA c.k)
        have hrb := HI.out.rref c.br c.bn HCK.out.2.2.2.2 (hasB2 c.k c.o)
        rw [hm, hbD, hbN, hbA, hbB] at hii ⊢
        rw [hbA] at hra
        rw [hbB] at hrb
        obtain ⟨rA, hrA⟩ : ∃ b, refB W R c.ar c.an bA = b := ⟨_, rfl⟩
        obtain ⟨rB, hrB⟩ : ∃ b, refB W R c.br c.bn bB = b := ⟨_, rfl⟩
        rw [hrA, hrB] at hii
        rw [hrA] at hra
        rw [hrB] at hrb
        have HRA := Lib.hid hra; have HRB := Lib.hid hrb
        have hno : ¬ InstrOk W R na nc ns nk c → ¬ P := fun h1 h => h1 (by
          have h1 := (HI.out.iff.2 h).codes c (List.mem_of_getElem? HCK.out.1)
          have h2 := HI.out.lens
          simp only at h1
          rwa [h2.1, h2.2.1, h2.2.2.1, h2.2.2.2] at h1)
        have HNO := Lib.hid hno
        have HII := Lib.hid (show InstrOk W R na nc ns nk c ↔ (((c.k ≠ 1 → c.o = 0) ∧ (bD = true → 0 ≤ c.d ∧ c.d < R) ∧ (bD = false → c.d = 0) ∧ (bN = true → 0 ≤ c.n ∧ c.n < m) ∧ (bN = false → c.n = 0)) ∧ rA = true ∧ rB = true) from ⟨fun h => (hii.1 h).2, fun h => hii.2 ⟨hok, h⟩⟩)
        clear hm hbD hbN hbA hbB hii hra hrb hrA hrB hno hok
        go_upto_region 13 with fail
        refine wp_abs (fun wx => FBx w wx p #[.int .i64 W, .int .i64 R, .slice a1 nc c1, .slice a2 ns c2, .slice a3 na c3, .slice (some ⟨b, off, none⟩) nk c4] ∧ wx.heap[g]? = some (.cells #[.int .u8 c.k, .int .u8 c.o, .int .i64 c.d, .int .i64 c.n, .int .i64 c.ar, .int .u64 c.an, .int .i64 c.br, .int .u64 c.bn] 100 (0, 0)) ∧ wx.heap[w5.heap.size]? = some (.cells #[.bool bD, .bool bN, .bool bA, .bool bB, .int .i64 m] 102 (0, 0))) ⟨HX.out.later (below_new _ _), ((below_new w5 _).block g (Array.getElem?_eq_some_iff.1 hcb).1).trans hcb, heap_alloc_new _ _⟩ ?_
        rintro w6 ⟨hx6, hc6, hu6⟩
        obtain ⟨pu, hpu⟩ : ∃ pu, w5.heap.size = pu := ⟨_, rfl⟩
        rw [hpu] at hu6
        replace HX := Lib.hid hx6
        have HC := Lib.hid hc6; have HU := Lib.hid hu6
        clear hx6 hc6 hu6 hcb
        simp only [hpu]
        clear hpu
        have HNB := Lib.hid (show ¬ InstrOk W R na nc ns nk c → ¬ P from HNO.out)
        by_cases hV : (c.k ≠ 1 → c.o = 0) ∧ (bD = true → 0 ≤ c.d ∧ c.d < R) ∧ (bD = false → c.d = 0) ∧ (bN = true → 0 ≤ c.n ∧ c.n < m) ∧ (bN = false → c.n = 0)
        · refine rcheck_pos HRA.out HRB.out HII.out HX.out HC.out HU.out ?_ hV
          intro v96 v97 v98 v99 v100 v101 v102 v103 v104 v105 v106 v107 v108 v109 v110 v111 v112 v113 v114 v115 v116 v117 v118 v119 v120 v121 v122 v123 v124 v125 v126 v127 v128 v129 v130 v131 v132 v133 v134 v135 v136 v137 v138 v139 v140 v141 v142 v143 v144 v145 v146 v147 v148 v149 v150 v151 v152 v153 v154 v155 v156 v157 v158 v159 v160 v161 v162 v163 v164 v165 v166 v167 v168 v169 v170 v171 v172 v173 v174 v175 v176 bad w9 hbd hx9
          replace HX := Lib.hid hx9
          have HBD := Lib.hid hbd
          clear hx9 hbd hV HC HU HRA HRB
          cases bad with
          | true =>
            go_wp2
            go_ret
            exact ErrPost.bad (HNB.out (fun h => by cases HBD.out.2 h)) HX.out.below
          | false =>
            go_wp2
            refine ⟨⟨j + 1, by omega, by go_num, fun x hxm => ?_, HX.out⟩, by simp [intOf]; omega⟩
            rw [List.take_add_one, HCK.out.1] at hxm
            rcases List.mem_append.1 hxm with hxm | hxm
            · exact HCJ.out x hxm
            · obtain rfl : x = c := by simpa using hxm
              exact HBD.out.1 (by simp)
        · refine rcheck_neg HRA.out HRB.out HII.out HX.out HC.out HU.out ?_ hV
          intro v96 v97 v98 v99 v100 v101 v102 v103 v104 v105 v106 v107 v108 v109 v110 v111 v112 v113 v114 v115 v116 v117 v118 v119 v120 v121 v122 v123 v124 v125 v126 v127 v128 v129 v130 v131 v132 v133 v134 v135 v136 v137 v138 v139 v140 v141 v142 v143 v144 v145 v146 v147 v148 v149 v150 v151 v152 v153 v154 v155 v156 v157 v158 v159 v160 v161 v162 v163 v164 v165 v166 v167 v168 v169 v170 v171 v172 v173 v174 v175 v176 bad w9 hbd hx9
          replace HX := Lib.hid hx9
          have HBD := Lib.hid (show bad = true from by cases bad with | true => rfl | false => exact absurd (HII.out.1 (hbd.1 rfl)).1 hV)
          have HN := Lib.hid (HNB.out (fun h => hV (HII.out.1 h).1))
          obtain rfl := HBD.out
          clear hx9 hbd hV HC HU HRA HRB
          go_wp2
          go_ret
          exact ErrPost.bad HN.out HX.out.below
      · have HNO := Lib.hid (fun (h : P) => by
          have h1 := (HI.out.iff.2 h).codes c (List.mem_of_getElem? HCK.out.1)
          exact hbad ((instr_iff c).1 h1).1)
        clear hbad hcb
        go_upto_region 13 with fail
        conv => arg 2; arg 2; simp only [List.append_eq, List.cons_append, List.nil_append]
        go_wp2
        go_ret
        exact ErrPost.bad HNO.out (HX.out.later (below_new _ _)).below
    · obtain rfl : j = nk := by omega
      rw [List.take_of_length_le (by have := HI.out.lens; omega)] at HCJ
      have hfew := HI.out.few
      obtain ⟨b, off, c, rfl, hck, hcok, d0, -⟩ := hx (j - 1) (by omega)
      obtain ⟨m, rfl⟩ : ∃ m, j = m + 1 := ⟨j - 1, by omega⟩
      rw [Nat.add_sub_cancel] at hck d0
      have HCK := Lib.hid (And.intro hck hcok)
      have m0 : (m : Int) < ((m + 1 : Nat) : Int) := by omega
      have m1 : (0 : Int) ≤ (m : Int) := by omega
      have m2 : m + 1 ≤ 4096 := hfew.2.2
      have HM := Lib.hid hl'
      clear hx hck hcok hl' hm' hfew
      have q0 := cell_of_cells HX.out.f (i := 0) rfl
      have q1 := cell_of_cells HX.out.f (i := 1) rfl
      have q2 := cell_of_cells HX.out.f (i := 2) rfl
      have q3 := cell_of_cells HX.out.f (i := 3) rfl
      have q4 := cell_of_cells HX.out.f (i := 4) rfl
      have q5 := cell_of_cells HX.out.f (i := 5) rfl
      have hlast : ∀ c', cs[cs.length - 1]? = some c' → c' = c := fun c' h => by
        have h2 := HI.out.lens.2.2.2
        rw [h2, Nat.add_sub_cancel, HCK.out.1] at h
        exact (Option.some.inj h).symm
      have HLA := Lib.hid hlast
      clear hlast
      have hfin : (c.k = 9 ∨ c.k = 7) → P := fun hk => HI.out.iff.1 ⟨HI.out.wid.1, HI.out.wid.2, HI.out.names.1, HI.out.names.2, by have := HI.out.lens; have := HI.out.few; show ars.length ≤ 32; omega, by have := HI.out.lens; have := HI.out.few; show 1 ≤ cs.length ∧ cs.length ≤ 4096; omega, HA.out, fun c' hc' => by
        have h2 := HI.out.lens
        simp only
        rw [h2.1, h2.2.1, h2.2.2.1, h2.2.2.2]
        exact HCJ.out c' hc', fun c' h => by rw [HLA.out c' h]; exact hk⟩
      have hbad : ¬ (c.k = 9 ∨ c.k = 7) → ¬ P := fun hk h => hk ((HI.out.iff.2 h).last c (by have h2 := HI.out.lens.2.2.2; show cs[cs.length - 1]? = some c; rw [h2, Nat.add_sub_cancel]; exact HCK.out.1))
      have HFIN := Lib.hid (And.intro hfin hbad)
      clear hfin hbad
      obtain ⟨kk, hkk⟩ : ∃ kk, c.k = kk := ⟨_, rfl⟩
      rw [hkk] at d0 HFIN
      clear hkk
      by_cases h9 : kk = 9
      · have g1 : ((kk : Int) != 9) = false := by rw [bne_eq_false_iff_eq]; omega
        have H9 := Lib.hid h9
        clear h9
        go_wp2
        go_ret
        exact ErrPost.good (HFIN.out.1 (.inl H9.out)) HX.out.below
      · have g1 : ((kk : Int) != 9) = true := by rw [bne_iff_ne]; omega
        by_cases h7 : kk = 7
        · have g2 : ((kk : Int) != 7) = false := by rw [bne_eq_false_iff_eq]; omega
          have H7 := Lib.hid h7
          clear h9 h7
          go_wp2
          go_ret
          exact ErrPost.good (HFIN.out.1 (.inr H7.out)) HX.out.below
        · have g2 : ((kk : Int) != 7) = true := by rw [bne_iff_ne]; omega
          have HNO := Lib.hid (HFIN.out.2 (by omega))
          clear h9 h7
          go_wp2
          go_ret
          exact ErrPost.bad HNO.out HX.out.below
end
end Go.Proofs.YtiklidgcmheofaaDoor
