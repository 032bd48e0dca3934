/- GraphA, StM, StN, StL, StNa, StNb, StEa: joined by wip/bundle.py. -/
import Derived.Test.YtiklidgcmheofaaDoorB1
import Derived.Test.YtiklidgcmheofaaDoorB2
import Derived.Test.YtiklidgcmheofaaDoorB3
import Derived.Test.YtiklidgcmheofaaDoorB4
import Derived.Test.YtiklidgcmheofaaDoorB5
import Derived.Test.YtiklidgcmheofaaDoorB6
import Derived.Test.YtiklidgcmheofaaDoorB7
import Derived.Test.YtiklidgcmheofaaDoorB8
import Derived.Test.YtiklidgcmheofaaDoorB9
import Derived.Test.YtiklidgcmheofaaDoorB10
import Derived.Test.YtiklidgcmheofaaDoorB11
import Derived.Test.YtiklidgcmheofaaDoorB12
import Derived.Test.YtiklidgcmheofaaDoorB13
import Derived.Test.YtiklidgcmheofaaDoorB14
import Derived.Test.YtiklidgcmheofaaDoorB15
import Derived.Test.YtiklidgcmheofaaDoorB16
import Derived.Test.YtiklidgcmheofaaDoorB17
import Derived.Test.YtiklidgcmheofaaDoorB18
import Derived.Test.YtiklidgcmheofaaDoorB19
import Derived.Test.YtiklidgcmheofaaDoorB20
import Derived.BigQuiet
import Derived.Deep.QuietTactic
import Derived.Deep.RegionHeld3
import Derived.StillTailTactics
import Derived.Laws.BitsAllLaws
import Derived.Lib.Hide
import Derived.WalkKit
import Derived.WalkSpells
import Derived.WalkLawsBesides
import Derived.ProofKit
import Derived.Maps.Keyed
import Derived.DeepKeys4
import Derived.Laws.CopyOwn
import Derived.Deep.RegionLaw
import Derived.Deep.Slices
import Derived.Deep.Fields
import Derived.ChangeSame
import Derived.OpenShut
import Derived.Deep.DeepCutAuto
import Derived.Deep.CutBlock
import Derived.Deep.OwnRows
import Derived.Maps.RangeWalk
import Derived.Deep.DrawnRows
import Derived.Outline
import Derived.Deep.Upon
import Derived.WideKeyArr2
import Derived.Lib.AppendZeros
import Derived.BigRegion
import Derived.StillTail
import Derived.Lib.TrailingZeros
import Derived.RangeFuncRecord
import Derived.RangeFuncNested
import Derived.RangeFuncCalls
import Derived.RangeFuncLeaves
import Derived.OwnWalkIn
import Derived.TacticsInMore
import Derived.LoopNIn
import Derived.LoopIn
import Derived.Laws.EntriesVeiled
import Derived.OrdersHeld
import Derived.Laws.IdiomStrings
import Derived.BigGuardPart
import Derived.Lib.LaidTab
namespace Go.Proofs.YtiklidgcmheofaaDoor
open Go.RowKit Go.Maps
set_option maxHeartbeats 400000
section
variable {w w' : World} {base : Nat} {F I : List Nat} {gb W room : Nat} {L : List PNode}
end
end Go.Proofs.YtiklidgcmheofaaDoor
namespace Go.Proofs.YtiklidgcmheofaaDoor
open Go.RowKit Go.Maps
set_option maxHeartbeats 400000
theorem new_bad (W most : Int) (h : ¬ newOk W most) (w : World) :
    Calls Tryd.prog 9 #[.int .i64 W, .int .i64 most] w fun e w' => e = .returned (.tuple #[.pointer none, .int .i64 3]) ∧ w = w' := by
  by_cases hW : 1 ≤ W ∧ W ≤ 64
  · have hc := chk_in hW.1 hW.2
    by_cases h0 : most < 0
    · go_enter Tryd.func9, Tryd.ntmps9
      go_wp2_with (go_at_call 28; refine (check_any _ _).mono ?_; rintro e w' ⟨rfl, rfl⟩)
      go_ret2
      exact ⟨rfl, rfl⟩
    · have h2 : 1048576 < most := by unfold newOk at h; omega
      clear h
      go_enter Tryd.func9, Tryd.ntmps9
      go_wp2_with (go_at_call 28; refine (check_any _ _).mono ?_; rintro e w' ⟨rfl, rfl⟩)
      go_ret2
      exact ⟨rfl, rfl⟩
  · have hc := chk_out hW
    clear h
    go_enter Tryd.func9, Tryd.ntmps9
    go_wp2_with (go_at_call 28; refine (check_any _ _).mono ?_; rintro e w' ⟨rfl, rfl⟩)
    go_ret2
    exact ⟨rfl, rfl⟩
end Go.Proofs.YtiklidgcmheofaaDoor
namespace Go.Proofs.YtiklidgcmheofaaDoor
open Go.RowKit Go.Maps
set_option maxHeartbeats 400000
end Go.Proofs.YtiklidgcmheofaaDoor
namespace Go.Proofs.YtiklidgcmheofaaDoor
open Go.RowKit
variable {P : Program}
end Go.Proofs.YtiklidgcmheofaaDoor
namespace Go.Proofs.YtiklidgcmheofaaDoor
open Go.RowKit Go.Maps
set_option maxHeartbeats 3200000
section
variable {w0 wr w w' : World} {ts : List Thing} {k : IntKind} {E Es T sb : Nat} {hd : Value} {y : Lay} {regs : List Int} {arrs : List (List Int)}
end
section
variable {w : World} {F I : List Nat} {gb W room sb : Nat} {L : List PNode} {y : Lay} {regs : List Int} {arrs : List (List Int)}
end
section
variable {w0 wr : World} {ts : List Thing} {F I : List Nat} {gb W room sb : Nat} {L : List PNode} {y : Lay} {regs : List Int} {arrs : List (List Int)}
/-- Ref of what is no register and no number. -/
theorem sref_out {w : World} (hs : StG w gb sb y regs arrs) (r : Int) (q : Nat) (hr : ¬ (-1 ≤ r ∧ r < (regs.length : Int))) :
    Calls Tryd.prog 12 #[.pointer (some ⟨sb, 0, none⟩), .agg #[.int .i64 r, .int .u64 q]] w fun e w' => e = .returned (.tuple #[.int .i64 0, .int .i64 3]) ∧ Below w.heap.size w w' := by
  have hb := (Lab.nil (Below.refl _ w)).alloc #[.int .i64 r, .int .u64 q] 42
  obtain ⟨p, hp⟩ : ∃ p, w.heap.size = p := ⟨_, rfl⟩
  have HS := Lib.hid hs; have HB := Lib.hid hb; have HP := Lib.hid hp
  obtain ⟨ar, nr, cr, hrv, hnr, -⟩ := hs.regs
  rw [hnr] at hr
  have hr2 : r < -1 ∨ (-1 ≤ r ∧ (nr : Int) ≤ r) := by omega
  have HRV := Lib.hid hrv
  clear hs hb hrv hnr hr
  go_enter Tryd.func12, Tryd.ntmps12
  go_upto_region 3 with fail
  refine wp_abs (fun wx => Lab w wx [Thing.box w.heap.size 42 #[.int .i64 r, .int .u64 q]]) HB.out ?_
  intro w1 hl
  rw [hp] at hl
  obtain ⟨e0, e1⟩ := cells2S hl.head
  have hs1 := HS.out.later hl.below
  have d1 := hs1.c1
  rw [HRV.out] at d1
  have HL := Lib.hid hl
  clear hl hs1
  rcases hr2 with h | ⟨h1, h2⟩
  · have g : decide (r < -1) = true := decide_eq_true h
    clear h
    go_quiet (fail)
    go_wp2
    go_ret2
    exact ⟨rfl, below_drewN HL.out.below _⟩
  · have g : decide (r < -1) = false := decide_eq_false (by omega)
    have g1 : decide ((nr : Int) ≤ r) = true := decide_eq_true h2
    clear h1 h2
    go_quiet (fail)
    go_wp2
    go_ret2
    exact ⟨rfl, below_drewN HL.out.below _⟩
end
end Go.Proofs.YtiklidgcmheofaaDoor
namespace Go.Proofs.YtiklidgcmheofaaDoor
open Go.RowKit Go.Maps
set_option maxHeartbeats 3200000
section
variable {w0 wr w : World} {ts : List Thing} {F I : List Nat} {gb W room sb : Nat} {L : List PNode} {y : Lay} {regs : List Int} {arrs : List (List Int)}
/-- Set of what is no register, or no term. -/
theorem sset_bad (hs : StG w gb sb y regs arrs) (hg : Gr w 0 F I gb W room L) (r t : Int) (hb : ¬ ((0 ≤ r ∧ r < (regs.length : Int)) ∧ 0 ≤ t ∧ t < (L.length : Int))) :
    Calls Tryd.prog 24 #[.pointer (some ⟨sb, 0, none⟩), .int .i64 r, .int .i64 t] w fun e w' => e = .returned (.int .i64 3) ∧ w = w' := by
  have his := is_any hs hg t
  obtain ⟨ar, nr, cr, hrv, hnr, -⟩ := hs.regs
  obtain ⟨d0, d1, d2, -, -⟩ := hs
  rw [hrv] at d1
  rw [hnr] at hb
  by_cases h0 : 0 ≤ r
  · have g0 : decide (r < 0) = false := decide_eq_false (by omega)
    by_cases h1 : r < (nr : Int)
    · have g1 : decide ((nr : Int) ≤ r) = false := decide_eq_false (by omega)
      rw [decide_eq_false (fun h => hb ⟨⟨h0, h1⟩, h⟩)] at his
      have HIS := Lib.hid his
      clear his hb h0 h1 hrv hnr hg
      go_enter Tryd.func24, Tryd.ntmps24
      go_wp2_with (go_at_call 35; refine HIS.out.mono ?_; rintro e w5 ⟨rfl, rfl⟩)
      go_ret
      exact ⟨rfl, rfl⟩
    · have g1 : decide ((nr : Int) ≤ r) = true := decide_eq_true (by omega)
      clear his hb h0 h1 hrv hnr hg
      go_enter Tryd.func24, Tryd.ntmps24
      go_wp2
      go_ret
      exact ⟨rfl, rfl⟩
  · have g0 : decide (r < 0) = true := decide_eq_true (by omega)
    clear his hb h0 hrv hnr hg
    go_enter Tryd.func24, Tryd.ntmps24
    go_wp2
    go_ret
    exact ⟨rfl, rfl⟩
/-- Set. -/
theorem Lab.sset (h : Lab w0 wr (Thing.graph F I gb W room L :: Thing.gst gb sb y regs arrs :: ts)) (hy : arrs.length = y.vs.length) (r t : Nat) (hr : r < regs.length) (ht : t < L.length) :
    Calls Tryd.prog 24 #[.pointer (some ⟨sb, 0, none⟩), .int .i64 r, .int .i64 t] wr fun e w' => e = .returned (.int .i64 0) ∧ Lab w0 w' (Thing.graph F I gb W room L :: Thing.gst gb sb y (regs.set r t) arrs :: ts) := by
  have hs := Lab.st_read hy h.swap
  have his := is_any hs h.gr (t : Int)
  rw [decide_eq_true (by omega)] at his
  have ho := Lab.st_open h.swap
  have hrow : wr.ownsRow 0 3 1 y.rv regs.length (regs.map (Value.int .i64)) := ho.second
  obtain ⟨a, cap, hrv, ha⟩ := row_shape hrow
  obtain ⟨g, rfl⟩ := ha (by omega)
  obtain ⟨d0, d1, d2, -, -⟩ := hs
  rw [hrv] at d1 hrow
  have hcell := World.ownsRow.cellAt hrow r (by omega)
  have hfz := World.ownsRow.frozenAt hrow r
  rw [List.getElem?_map, List.getElem?_eq_getElem hr] at hcell
  obtain ⟨x, hx⟩ : ∃ x, regs[r] = x := ⟨_, rfl⟩
  rw [hx] at hcell
  simp only [Option.map_some] at hcell
  obtain ⟨n, hn⟩ : ∃ n, regs.length = n := ⟨_, rfl⟩
  have hrn : (r : Int) < (n : Int) := by omega
  have r0 : (0 : Int) ≤ (r : Int) := by omega
  have g0 : decide ((r : Int) < 0) = false := decide_eq_false (by omega)
  have g1 : decide ((n : Int) ≤ (r : Int)) = false := decide_eq_false (by omega)
  rw [hn] at d1
  have HO := Lib.hid ho; have HIS := Lib.hid his; have HRV := Lib.hid (And.intro hrv hn)
  clear h hy hr ht his ho hrow hrv hx ha hn
  go_enter Tryd.func24, Tryd.ntmps24
  go_wp2_with (go_at_call 35; refine HIS.out.mono ?_; rintro e w5 ⟨rfl, rfl⟩)
  go_ret
  have h2 := HO.out.swap
  unfold Thing.numsK at h2
  rw [HRV.out.1] at h2
  have h3 := (Lab.row_set h2 r (.int .i64 t)).swap
  have e1 : (regs.map (Value.int .i64)).set r (.int .i64 (t : Int)) = (regs.set r (t : Int)).map (Value.int .i64) := by rw [List.map_set]
  rw [e1] at h3
  refine ⟨rfl, Lab.swap ?_⟩
  have h4 := Lab.st_shut (k := .i64) (E := 3) (regs := regs.set r (t : Int)) (rv := .slice (some ⟨g, 0, none⟩) regs.length cap) (by unfold Thing.numsK; rw [List.length_set]; exact h3)
  rw [← HRV.out.1] at h4
  exact h4
end
end Go.Proofs.YtiklidgcmheofaaDoor
namespace Go.Proofs.YtiklidgcmheofaaDoor
open Go.RowKit Go.Maps
set_option maxHeartbeats 3200000
attribute [local go_sem] Oper.semAt_some
section
variable {w0 wr : World} {ts : List Thing} {a b c d e f g h i j k l : Thing}
end
section
variable {P : Program} {w0 w : World} {ts : List Thing}
theorem bodyPostM_none {fn : Func} {R : Ending → World → Prop} {tmps : Array Value} {v : Value} (hr : (results fn tmps).run P w = .ok v w) (hR : R (.returned v) w) : bodyPostM Fence.wide 0 P fn R .ret { tmps := tmps, defers := [] } w := ⟨v, hr, hR⟩
end
section
variable {W room n x i t : Nat} {L L1 : List PNode} {xs : List Int}
end
section
variable {w0 wr w : World} {ts : List Thing} {F I : List Nat} {gb W room sb n x a : Nat} {L : List PNode} {y : Lay} {regs : List Int} {arrs : List (List Int)}
end
end Go.Proofs.YtiklidgcmheofaaDoor
namespace Go.Proofs.YtiklidgcmheofaaDoor
open Go.RowKit Go.Maps
set_option maxHeartbeats 3200000
section
variable {w0 wr w : World} {ts : List Thing} {F I : List Nat} {gb W room sb : Nat} {L : List PNode} {y : Lay} {regs : List Int} {arrs : List (List Int)}
/-- Inside of what is no array, or no term. -/
theorem sinside_bad (hs : StG w gb sb y regs arrs) (hg : Gr w 0 F I gb W room L) (a t : Int) (hb : ¬ ((0 ≤ a ∧ a < (arrs.length : Int)) ∧ 0 ≤ t ∧ t < (L.length : Int))) :
    Calls Tryd.prog 19 #[.pointer (some ⟨sb, 0, none⟩), .int .i64 a, .int .i64 t] w fun e w' => e = .returned (.tuple #[.int .i64 0, .int .i64 3]) ∧ w = w' := by
  have hm := smay_any hs hg a t
  rw [if_neg hb] at hm
  have HM := Lib.hid hm
  clear hm hb hs hg
  go_enter Tryd.func19, Tryd.ntmps19
  go_wp2_with (go_at_call 34; refine HM.out.mono ?_; rintro e w5 ⟨rfl, rfl⟩)
  go_ret2
  exact ⟨rfl, rfl⟩
/-- Load of what is no array, or no term. -/
theorem Lab.sload_bad (hy : arrs.length = y.vs.length) (a x : Int) (hb : ¬ ((0 ≤ a ∧ a < (arrs.length : Int)) ∧ 0 ≤ x ∧ x < (L.length : Int)))
    (h : Lab w0 wr (Thing.graph F I gb W room L :: Thing.gst gb sb y regs arrs :: ts)) :
    Calls Tryd.prog 14 #[.pointer (some ⟨sb, 0, none⟩), .int .i64 a, .int .i64 x] wr fun e w' => e = .returned (.tuple #[.int .i64 0, .int .i64 3]) ∧ Lab w0 w' (Thing.graph F I gb W room L :: Thing.gst gb sb y regs arrs :: ts) := by
  have h0 := (((h.alloc #[.pointer (some ⟨sb, 0, none⟩)] 34).alloc #[.int .i64 a] 3).alloc #[.int .i64 0] 3).alloc #[.int .i64 0] 31
  simp only [World.size_alloc] at h0
  obtain ⟨q, hq⟩ : ∃ q, wr.heap.size = q := ⟨_, rfl⟩
  rw [hq] at h0
  have HB := Lib.hid h0; have HY := Lib.hid hy; have HX := Lib.hid hb
  clear h0 h hy hb
  refine calls_of_marks Tryd.func14 rfl ?_
  simp only [Tryd.ntmps14, List.size_toArray, List.length_cons, List.length_nil, Nat.reduceAdd, Nat.reduceSub, Array.replicate_succ, Array.replicate_zero, List.push_toArray, List.append_toArray, List.nil_append, List.cons_append]
  go_upto_region 1 with fail
  refine wp_abs (fun wx => Lab w0 wx (Thing.box (q + 1 + 1 + 1) 31 #[.int .i64 0] :: Thing.box (q + 1 + 1) 3 #[.int .i64 0] :: Thing.box (q + 1) 3 #[.int .i64 a] :: Thing.box q 34 #[.pointer (some ⟨sb, 0, none⟩)] :: Thing.graph F I gb W room L :: Thing.gst gb sb y regs arrs :: ts)) HB.out ?_
  intro w1 hl
  have hm := smay_any (Lab.st_read HY.out hl.rot6) hl.rot5.gr a x
  rw [if_neg HX.out] at hm
  have k0 := (hl.boxc (b := q) (T := 34) (v := .pointer (some ⟨sb, 0, none⟩)) (by simp)).1
  have k1 := (hl.boxc (b := q + 1) (T := 3) (v := .int .i64 a) (by simp)).1
  have HM := Lib.hid hm; have HL := Lib.hid hl
  clear hm HB HX HY hq hl
  go_wp2_with fail
  go_at_call 34
  refine HM.out.mono ?_
  rintro e w5 ⟨rfl, rfl⟩
  obtain ⟨c6, f6⟩ := HL.out.boxc (b := q + 1 + 1) (T := 3) (v := .int .i64 0) (by simp)
  obtain ⟨c7, f7⟩ := HL.out.boxc (b := q + 1 + 1 + 1) (T := 31) (v := .int .i64 0) (by simp)
  clear HM
  go_wp2
  have h9 : Lab w0 _ (Thing.box (q + 1 + 1 + 1) 31 #[.int .i64 3] :: Thing.box (q + 1 + 1) 3 #[.int .i64 0] :: _) := ((HL.out.swap.store 0 (.int .i64 0)).swap.store 0 (.int .i64 3))
  obtain ⟨d6, -⟩ := h9.boxc (b := q + 1 + 1) (T := 3) (v := .int .i64 0) (by simp)
  obtain ⟨d7, -⟩ := h9.boxc (b := q + 1 + 1 + 1) (T := 31) (v := .int .i64 3) (by simp)
  exact bodyPostM_none (load_results rfl rfl d6 d7) ⟨rfl, h9.drop.drop.drop.drop⟩
/-- Put into what is no array, or at no term. -/
theorem Lab.sput_bad (hy : arrs.length = y.vs.length) (a x t : Int) (hb : ¬ ((0 ≤ a ∧ a < (arrs.length : Int)) ∧ 0 ≤ x ∧ x < (L.length : Int)))
    (h : Lab w0 wr (Thing.graph F I gb W room L :: Thing.gst gb sb y regs arrs :: ts)) :
    Calls Tryd.prog 13 #[.pointer (some ⟨sb, 0, none⟩), .int .i64 a, .int .i64 x, .int .i64 t] wr fun e w' => e = .returned (.int .i64 3) ∧ Lab w0 w' (Thing.graph F I gb W room L :: Thing.gst gb sb y regs arrs :: ts) := by
  have h0 := ((h.alloc #[.pointer (some ⟨sb, 0, none⟩)] 34).alloc #[.int .i64 t] 3).alloc #[.int .i64 0] 31
  simp only [World.size_alloc] at h0
  obtain ⟨q, hq⟩ : ∃ q, wr.heap.size = q := ⟨_, rfl⟩
  rw [hq] at h0
  have HB := Lib.hid h0; have HY := Lib.hid hy; have HX := Lib.hid hb
  clear h0 h hy hb
  refine calls_of_marks Tryd.func13 rfl ?_
  simp only [Tryd.ntmps13, List.size_toArray, List.length_cons, List.length_nil, Nat.reduceAdd, Nat.reduceSub, Array.replicate_succ, Array.replicate_zero, List.push_toArray, List.append_toArray, List.nil_append, List.cons_append]
  go_upto_region 1 with fail
  refine wp_abs (fun wx => Lab w0 wx (Thing.box (q + 1 + 1) 31 #[.int .i64 0] :: Thing.box (q + 1) 3 #[.int .i64 t] :: Thing.box q 34 #[.pointer (some ⟨sb, 0, none⟩)] :: Thing.graph F I gb W room L :: Thing.gst gb sb y regs arrs :: ts)) HB.out ?_
  intro w1 hl
  have hm := smay_any (Lab.st_read HY.out hl.rot5) hl.rot4.gr a x
  rw [if_neg HX.out] at hm
  have k0 := (hl.boxc (b := q) (T := 34) (v := .pointer (some ⟨sb, 0, none⟩)) (by simp)).1
  have HM := Lib.hid hm; have HL := Lib.hid hl
  clear hm HB HX HY hq hl
  go_wp2_with fail
  go_at_call 34
  refine HM.out.mono ?_
  rintro e w5 ⟨rfl, rfl⟩
  obtain ⟨c8, f8⟩ := HL.out.boxc (b := q + 1 + 1) (T := 31) (v := .int .i64 0) (by simp)
  clear HM
  go_wp2
  have h9 : Lab w0 _ (Thing.box (q + 1 + 1) 31 #[.int .i64 3] :: _) := HL.out.store 0 (.int .i64 3)
  obtain ⟨d8, -⟩ := h9.boxc (b := q + 1 + 1) (T := 31) (v := .int .i64 3) (by simp)
  exact bodyPostM_none (put_results rfl d8) ⟨rfl, h9.drop.drop.drop⟩
/-- New without a graph. -/
theorem snew_nil (f0 f1 v1 v2 v3 v4 : Value) (h0 : ∃ x, f0 = .int .i64 x) (w : World) :
    Calls Tryd.prog 10 #[.pointer none, .agg #[f0, f1, v1, v2, v3, v4]] w fun e w' => e = .returned (.tuple #[.pointer none, .int .i64 1]) ∧ Below w.heap.size w w' := by
  obtain ⟨x, rfl⟩ := h0
  have hb := ((Lab.nil (Below.refl w.heap.size w)).alloc #[.int .i64 x, f1, v1, v2, v3, v4] 26).below
  have HB := Lib.hid hb
  clear hb
  go_enter Tryd.func10, Tryd.ntmps10
  go_wp2
  go_ret2
  exact ⟨rfl, HB.out⟩
set_option maxRecDepth 100000 in
/-- New of an invalid program, or of one of another width. -/
theorem Lab.snew_bad (f : FlatD) {v1 v2 v3 v4 : Value} (hf : FlatOf w0 f v1 v2 v3 v4) (hT : ShpOk w0) (hbad : ¬ (FlatOk f ∧ (W : Int) = f.W))
    (h : Lab w0 wr (Thing.graph F I gb W room L :: ts)) :
    Calls Tryd.prog 10 #[.pointer (some ⟨gb, 0, none⟩), .agg #[.int .i64 f.W, .int .i64 f.R, v1, v2, v3, v4]] wr fun e w' => e = .returned (.tuple #[.pointer none, .int .i64 2]) ∧ Lab w0 w' (Thing.graph F I gb W room L :: ts) := by
  have hb := h.alloc #[.int .i64 f.W, .int .i64 f.R, v1, v2, v3, v4] 26
  obtain ⟨q, hq⟩ : ∃ q, wr.heap.size = q := ⟨_, rfl⟩
  rw [hq] at hb
  have HB := Lib.hid hb; have HF := Lib.hid (And.intro hf hT)
  clear hf hT h hb
  go_enter Tryd.func10, Tryd.ntmps10
  go_upto_region 3 with fail
  refine wp_abs (fun wx => Lab w0 wx (Thing.box q 26 #[.int .i64 f.W, .int .i64 f.R, v1, v2, v3, v4] :: Thing.graph F I gb W room L :: ts)) HB.out ?_
  intro w1 hl
  have hrow : w1.heap[q]? = some (.cells #[.int .i64 f.W, .int .i64 f.R, v1, v2, v3, v4] 26 (0, 0)) := hl.head
  have q0 := cell_of_cells hrow (i := 0) rfl
  have q1 := cell_of_cells hrow (i := 1) rfl
  have q2 := cell_of_cells hrow (i := 2) rfl
  have q3 := cell_of_cells hrow (i := 3) rfl
  have q4 := cell_of_cells hrow (i := 4) rfl
  have q5 := cell_of_cells hrow (i := 5) rfl
  have hbw : Below w0.heap.size w0 w1.drew := (hl.drewN 1).below
  have hchk := fcheck_any f v1 v2 v3 v4 (HF.out.1.later hbw) (HF.out.2.later hbw)
  have HL1 := Lib.hid hl
  by_cases hok : FlatOk f
  · have hC : Calls Tryd.prog 29 #[.agg #[.int .i64 f.W, .int .i64 f.R, v1, v2, v3, v4]] w1.drew fun e w' => e = .returned (.int .i64 0) ∧ Below w1.heap.size w1 w' := hchk.mono (by
      rintro e w' ⟨qv, rfl, hq | hq, hbb⟩
      · rw [hq.2]
        exact ⟨rfl, (below_drewN (Below.refl _ _) 1).trans hbb⟩
      · exact absurd hok hq.1)
    have g0 : decide (f.W = (W : Int)) = false := decide_eq_false (fun e => hbad ⟨hok, e.symm⟩)
    have g1 : (f.W == (W : Int)) = false := by rw [beq_eq_false_iff_ne]; exact fun e => hbad ⟨hok, e.symm⟩
    have HC := Lib.hid hC
    clear hl hchk hrow HB hq hok hbad hbw hC
    go_region_held3 (fun w' => w'.cell? ⟨q, 0, none⟩ = some (.int .i64 f.W) ∧ w'.cell? ⟨q, 1, none⟩ = some (.int .i64 f.R) ∧ w'.cell? ⟨q, 2, none⟩ = some v1 ∧ w'.cell? ⟨q, 3, none⟩ = some v2 ∧ w'.cell? ⟨q, 4, none⟩ = some v3 ∧ w'.cell? ⟨q, 5, none⟩ = some v4) (first | exact ⟨by assumption, by assumption, by assumption, by assumption, by assumption, by assumption⟩ | go_keep)
      (first
        | (go_at_call 29; refine HC.out.mono ?_; rintro e w5 ⟨rfl, hb5⟩; have p0 := cell_later hb5 q0; have p1 := cell_later hb5 q1; have p2 := cell_later hb5 q2; have p3 := cell_later hb5 q3; have p4 := cell_later hb5 q4; have p5 := cell_later hb5 q5; have HL5 := Lib.hid (HL1.out.later hb5); clear hb5)
        | (go_at_call 30; refine (width_any HL5.out.swap.gr).mono ?_; rintro e w6 ⟨rfl, rfl⟩))
    all_goals
      go_wp2
      go_ret2
      exact ⟨rfl, HL5.out.drop⟩
  · have hC : Calls Tryd.prog 29 #[.agg #[.int .i64 f.W, .int .i64 f.R, v1, v2, v3, v4]] w1.drew fun e w' => e = .returned (.int .i64 2) ∧ Below w1.heap.size w1 w' := hchk.mono (by
      rintro e w' ⟨qv, rfl, hq | hq, hbb⟩
      · exact absurd hq.1 hok
      · rw [hq.2]
        exact ⟨rfl, (below_drewN (Below.refl _ _) 1).trans hbb⟩)
    have HC := Lib.hid hC
    clear hl hchk hrow HB hq hok hbad hbw hC
    refine wp_region_held_drew (S := fun w' => w'.cell? ⟨q, 0, none⟩ = some (.int .i64 f.W) ∧ w'.cell? ⟨q, 1, none⟩ = some (.int .i64 f.R) ∧ w'.cell? ⟨q, 2, none⟩ = some v1 ∧ w'.cell? ⟨q, 3, none⟩ = some v2 ∧ w'.cell? ⟨q, 4, none⟩ = some v3 ∧ w'.cell? ⟨q, 5, none⟩ = some v4) (by kernel_rfl) ⟨q0, q1, q2, q3, q4, q5⟩ (fun hS => ?_)
    refine takeD 0 14 (v := ?v0) rfl (by kernel_rfl) (by kernel_rfl) (by kernel_rfl) rfl (fun _ _ _ h => h) (Or.inl ⟨by rfl, ?hy0⟩) hS ?_
    case hy0 =>
      intro w hSw
      try dsimp only at hSw
      go_simp
      try with_reducible rfl
    simp only [List.setIfInBounds_toArray, List.set_cons_zero, List.set_cons_succ]
    refine wpAnyH_ready (rs := [1]) (by kernel_rfl) (by simp) ?_
    refine AllReadyH.cons rfl (fun K hK => ?_) AllReadyH.nil
    go_simp
    go_at_call 29
    refine HC.out.mono ?_
    rintro e w5 ⟨rfl, hb5⟩
    have HL5 := Lib.hid (HL1.out.later hb5)
    refine hK.out _ _ ⟨cell_later hb5 q0, cell_later hb5 q1, cell_later hb5 q2, cell_later hb5 q3, cell_later hb5 q4, cell_later hb5 q5⟩ (fun hS => ?_)
    clear hK K hb5 q0 q1 q2 q3 q4 q5
    refine takeD 2 16 (v := ?v2) rfl (by kernel_rfl) (by kernel_rfl) (by kernel_rfl) rfl (fun _ _ _ h => h) (Or.inl ⟨by rfl, ?hy2⟩) hS ?_
    case hy2 =>
      intro w hSw
      try dsimp only at hSw
      go_simp
      try with_reducible rfl
    simp only [List.setIfInBounds_toArray, List.set_cons_zero, List.set_cons_succ]
    refine takeD 3 17 (v := ?v3) rfl (by kernel_rfl) (by kernel_rfl) (by kernel_rfl) rfl (fun _ _ _ h => h) (Or.inl ⟨by rfl, ?hy3⟩) hS ?_
    case hy3 =>
      intro w hSw
      try dsimp only at hSw
      go_simp
      try with_reducible rfl
    simp only [List.setIfInBounds_toArray, List.set_cons_zero, List.set_cons_succ]
    refine takeD 4 18 (v := undef) rfl (by kernel_rfl) (by kernel_rfl) (by kernel_rfl) rfl (fun _ _ _ h => h) (Or.inr ⟨by rfl, rfl⟩) hS ?_
    simp only [List.setIfInBounds_toArray, List.set_cons_zero, List.set_cons_succ]
    refine takeD 5 19 (v := undef) rfl (by kernel_rfl) (by kernel_rfl) (by kernel_rfl) rfl (fun _ _ _ h => h) (Or.inr ⟨by rfl, rfl⟩) hS ?_
    simp only [List.setIfInBounds_toArray, List.set_cons_zero, List.set_cons_succ]
    refine takeD 6 20 (v := undef) rfl (by kernel_rfl) (by kernel_rfl) (by kernel_rfl) rfl (fun _ _ _ h => h) (Or.inr ⟨by rfl, rfl⟩) hS ?_
    simp only [List.setIfInBounds_toArray, List.set_cons_zero, List.set_cons_succ]
    refine takeD 7 21 (v := undef) rfl (by kernel_rfl) (by kernel_rfl) (by kernel_rfl) rfl (fun _ _ _ h => h) (Or.inr ⟨by rfl, rfl⟩) hS ?_
    simp only [List.setIfInBounds_toArray, List.set_cons_zero, List.set_cons_succ]
    refine takeD 8 22 (v := undef) rfl (by kernel_rfl) (by kernel_rfl) (by kernel_rfl) rfl (fun _ _ _ h => h) (Or.inr ⟨by rfl, rfl⟩) hS ?_
    simp only [List.setIfInBounds_toArray, List.set_cons_zero, List.set_cons_succ]
    refine takeD 9 23 (v := ?v9) rfl (by kernel_rfl) (by kernel_rfl) (by kernel_rfl) rfl (fun _ _ _ h => h) (Or.inl ⟨by rfl, ?hy9⟩) hS ?_
    case hy9 =>
      intro w hSw
      try dsimp only at hSw
      go_simp
      try with_reducible rfl
    simp only [List.setIfInBounds_toArray, List.set_cons_zero, List.set_cons_succ]
    refine wpAnyH_done (by kernel_rfl) ?_ _
    clear hS
    go_wp2
    go_ret2
    exact ⟨rfl, HL5.out.drop⟩
end
end Go.Proofs.YtiklidgcmheofaaDoor
namespace Go.Proofs.YtiklidgcmheofaaDoor
open Go.RowKit Go.Maps
set_option maxHeartbeats 3200000
/-- A store that is whole. -/
structure StIn (W : Nat) (L : List PNode) (arrs : List (List Int)) (k : Nat) : Prop where
  ok : GOk W L
  each : ∀ xs ∈ arrs, (1 ≤ xs.length ∧ xs.length ≤ 64) ∧ ∀ e ∈ xs, (0 : Int) ≤ e ∧ e < (L.length : Int)
  few : phi W L ≤ k
section
variable {w0 wr w : World} {ts : List Thing} {F I : List Nat} {gb W room sb k nR : Nat} {L : List PNode} {y : Lay} {regs : List Int} {arrs : List (List Int)}
theorem StIn.next {L' : List PNode} {k' : Nat} (h : StIn W L arrs k) (hok : GOk W L') (hp : L <+: L') (hph : phi W L' ≤ k') : StIn W L' arrs k' :=
  ⟨hok, fun xs hx => ⟨(h.each xs hx).1, fun e he => ⟨((h.each xs hx).2 e he).1, by have h1 := ((h.each xs hx).2 e he).2; have h2 := hp.length_le; omega⟩⟩, hph⟩
theorem nat_lt {a : Int} {n : Nat} (h : 0 ≤ a ∧ a < (n : Int)) : ∃ m : Nat, a = (m : Int) ∧ m < n := ⟨a.toNat, by omega, by omega⟩
/-- Ref. -/
theorem Lab.ref_u (hI : StIn W L arrs k) (hk : k + 1 < room) (hy : arrs.length = y.vs.length) (hn : regs.length = nR) (h : Lab w0 wr (Thing.graph F I gb W room L :: Thing.gst gb sb y regs arrs :: ts)) (r : Int) :
    Calls Tryd.prog 12 #[.pointer (some ⟨sb, 0, none⟩), .agg #[.int .i64 r, .int .u64 0]] wr fun e w' => ∃ (v : Int) (L' : List PNode) (F' I' : List Nat), e = .returned (.tuple #[.int .i64 v, .int .i64 (if -1 ≤ r ∧ r < (nR : Int) then 0 else 3)]) ∧ StIn W L' arrs (k + 1) ∧ Lab w0 w' (Thing.graph F' I' gb W room L' :: Thing.gst gb sb y regs arrs :: ts) := by
  by_cases h1 : -1 ≤ r ∧ r < (nR : Int)
  · rw [if_pos h1]
    by_cases h2 : r = -1
    · subst h2
      obtain ⟨L', z, k1, k2, k3, -, -⟩ := got_const (room := room) hI.ok 0 (by have := hI.few; omega)
      have hc := Lab.sref_num h hy 0 (by decide) k1
      refine hc.mono ?_
      rintro e w' ⟨F', I', rfl, hl⟩
      exact ⟨_, L', F', I', rfl, hI.next k2.ok k2.pre (by have := hI.few; omega), hl⟩
    · obtain ⟨m, rfl, hm⟩ := nat_lt (a := r) (n := nR) ⟨by omega, h1.2⟩
      obtain ⟨t, ht⟩ : ∃ t, regs[m]? = some t := ⟨_, List.getElem?_eq_getElem (by omega)⟩
      have hc := sref_reg (Lab.st_read hy h.swap) m 0 ht
      refine hc.mono ?_
      rintro e w' ⟨rfl, hb⟩
      exact ⟨_, L, F, I, rfl, hI.next hI.ok (List.prefix_refl _) (by have := hI.few; omega), h.later hb⟩
  · rw [if_neg h1]
    have hc := sref_out (Lab.st_read hy h.swap) r 0 (by rw [hn]; exact h1)
    refine hc.mono ?_
    rintro e w' ⟨rfl, hb⟩
    exact ⟨_, L, F, I, rfl, hI.next hI.ok (List.prefix_refl _) (by have := hI.few; omega), h.later hb⟩
/-- Node. -/
theorem node_u (h : Lab w0 wr (Thing.graph F I gb W room L :: ts)) (t : Int) :
    Calls Tryd.prog 23 #[.pointer (some ⟨gb, 0, none⟩), .int .i64 t] wr fun e w' => ∃ (a b : Int) (va : Option Addr) (m c : Nat), e = .returned (.tuple #[.agg #[.int .u8 a, .int .u64 b, .slice va m c], .int .i64 (if 0 ≤ t ∧ t < (L.length : Int) then 0 else 3)]) ∧ Below wr.heap.size wr w' := by
  by_cases h1 : 0 ≤ t ∧ t < (L.length : Int)
  · rw [if_pos h1]
    obtain ⟨m, rfl, hm⟩ := nat_lt h1
    refine (node_at h.gr m _ (List.getElem?_eq_getElem hm)).mono ?_
    rintro e w' ⟨va, rfl, ho, hb⟩
    obtain ⟨a1, m1, c1, rfl⟩ := ho.val
    exact ⟨_, _, a1, m1, c1, rfl, hb⟩
  · rw [if_neg h1]
    refine (node_out h.gr t (by omega)).mono ?_
    rintro e w' ⟨rfl, hb⟩
    exact ⟨0, 0, none, 0, 0, rfl, hb⟩
/-- Inside. -/
theorem Lab.inside_u (hI : StIn W L arrs k) (hk : k + 1 < room) (hy : arrs.length = y.vs.length) (h : Lab w0 wr (Thing.graph F I gb W room L :: Thing.gst gb sb y regs arrs :: ts)) (a x : Int) :
    Calls Tryd.prog 19 #[.pointer (some ⟨sb, 0, none⟩), .int .i64 a, .int .i64 x] wr fun e w' => ∃ (v : Int) (L' : List PNode) (F' I' : List Nat), e = .returned (.tuple #[.int .i64 v, .int .i64 (if (0 ≤ a ∧ a < (arrs.length : Int)) ∧ 0 ≤ x ∧ x < (L.length : Int) then 0 else 3)]) ∧ StIn W L' arrs (k + 1) ∧ (x < (L'.length : Int) ↔ x < (L.length : Int)) ∧ Lab w0 w' (Thing.graph F' I' gb W room L' :: Thing.gst gb sb y regs arrs :: ts) := by
  by_cases h1 : (0 ≤ a ∧ a < (arrs.length : Int)) ∧ 0 ≤ x ∧ x < (L.length : Int)
  · rw [if_pos h1]
    obtain ⟨m, rfl, hm⟩ := nat_lt h1.1
    obtain ⟨n, rfl, hn⟩ := nat_lt h1.2
    have ha : arrs[m]? = some arrs[m] := List.getElem?_eq_getElem hm
    have hin := hI.each _ (List.mem_of_getElem? ha)
    refine (Lab.sinside h hy hI.ok m ha n hn hin.1.2 (by have := hI.few; omega)).mono ?_
    rintro e w' ⟨L', t, F', I', rfl, hg, hp, hl⟩
    exact ⟨_, L', F', I', rfl, hI.next hg.ok hg.pre (by have := hI.few; omega), ⟨fun _ => h1.2.2, fun _ => by have := hg.pre.length_le; omega⟩, hl⟩
  · rw [if_neg h1]
    refine (sinside_bad (Lab.st_read hy h.swap) h.gr a x h1).mono ?_
    rintro e w' ⟨rfl, rfl⟩
    exact ⟨_, L, F, I, rfl, hI.next hI.ok (List.prefix_refl _) (by have := hI.few; omega), Iff.rfl, h⟩
/-- Load. -/
theorem Lab.load_u (hI : StIn W L arrs k) (hk : k + 128 < room) (hy : arrs.length = y.vs.length) (h : Lab w0 wr (Thing.graph F I gb W room L :: Thing.gst gb sb y regs arrs :: ts)) (a x : Int) :
    Calls Tryd.prog 14 #[.pointer (some ⟨sb, 0, none⟩), .int .i64 a, .int .i64 x] wr fun e w' => ∃ (v : Int) (L' : List PNode) (F' I' : List Nat), e = .returned (.tuple #[.int .i64 v, .int .i64 (if (0 ≤ a ∧ a < (arrs.length : Int)) ∧ 0 ≤ x ∧ x < (L.length : Int) then 0 else 3)]) ∧ StIn W L' arrs (k + 128) ∧ (x < (L'.length : Int) ↔ x < (L.length : Int)) ∧ Lab w0 w' (Thing.graph F' I' gb W room L' :: Thing.gst gb sb y regs arrs :: ts) := by
  by_cases h1 : (0 ≤ a ∧ a < (arrs.length : Int)) ∧ 0 ≤ x ∧ x < (L.length : Int)
  · rw [if_pos h1]
    obtain ⟨m, rfl, hm⟩ := nat_lt h1.1
    obtain ⟨n, rfl, hn⟩ := nat_lt h1.2
    have ha : arrs[m]? = some arrs[m] := List.getElem?_eq_getElem hm
    have hin := hI.each _ (List.mem_of_getElem? ha)
    refine (Lab.sload hy ha rfl hin.1.1 hin.1.2 hin.2 hI.ok hn (by have := hI.few; omega) h).mono ?_
    rintro e w' ⟨L', t, F', I', rfl, hg, hl⟩
    exact ⟨_, L', F', I', rfl, hI.next hg.got.ok hg.got.pre (by have := hI.few; have := hg.room; omega), ⟨fun _ => h1.2.2, fun _ => by have := hg.got.pre.length_le; omega⟩, hl⟩
  · rw [if_neg h1]
    refine (Lab.sload_bad hy a x h1 h).mono ?_
    rintro e w' ⟨rfl, hl⟩
    exact ⟨_, L, F, I, rfl, hI.next hI.ok (List.prefix_refl _) (by have := hI.few; omega), Iff.rfl, hl⟩
/-- Set. -/
theorem Lab.set_u (hy : arrs.length = y.vs.length) (hn : regs.length = nR) (h : Lab w0 wr (Thing.graph F I gb W room L :: Thing.gst gb sb y regs arrs :: ts)) (r t : Int) :
    Calls Tryd.prog 24 #[.pointer (some ⟨sb, 0, none⟩), .int .i64 r, .int .i64 t] wr fun e w' => e = .returned (.int .i64 (if (0 ≤ r ∧ r < (nR : Int)) ∧ 0 ≤ t ∧ t < (L.length : Int) then 0 else 3)) ∧ ∃ regs', Lab w0 w' (Thing.graph F I gb W room L :: Thing.gst gb sb y regs' arrs :: ts) := by
  by_cases h1 : (0 ≤ r ∧ r < (nR : Int)) ∧ 0 ≤ t ∧ t < (L.length : Int)
  · rw [if_pos h1]
    obtain ⟨m, rfl, hm⟩ := nat_lt h1.1
    obtain ⟨n, rfl, hn2⟩ := nat_lt h1.2
    refine (Lab.sset h hy m n (by omega) hn2).mono ?_
    rintro e w' ⟨rfl, hl⟩
    exact ⟨rfl, _, hl⟩
  · rw [if_neg h1]
    refine (sset_bad (Lab.st_read hy h.swap) h.gr r t (by rw [hn]; exact h1)).mono ?_
    rintro e w' ⟨rfl, rfl⟩
    exact ⟨rfl, _, h⟩
/-- Put of a term at itself. -/
theorem Lab.put_u (hI : StIn W L arrs k) (hk : k + 128 < room) (hy : arrs.length = y.vs.length) (h : Lab w0 wr (Thing.graph F I gb W room L :: Thing.gst gb sb y regs arrs :: ts)) (a t : Int) :
    Calls Tryd.prog 13 #[.pointer (some ⟨sb, 0, none⟩), .int .i64 a, .int .i64 t, .int .i64 t] wr fun e w' => e = .returned (.int .i64 (if (0 ≤ a ∧ a < (arrs.length : Int)) ∧ 0 ≤ t ∧ t < (L.length : Int) then 0 else 3)) ∧ Lab w0 w' ts := by
  by_cases h1 : (0 ≤ a ∧ a < (arrs.length : Int)) ∧ 0 ≤ t ∧ t < (L.length : Int)
  · rw [if_pos h1]
    obtain ⟨m, rfl, hm⟩ := nat_lt h1.1
    obtain ⟨n, rfl, hn⟩ := nat_lt h1.2
    have ha : arrs[m]? = some arrs[m] := List.getElem?_eq_getElem hm
    have hin := hI.each _ (List.mem_of_getElem? ha)
    refine (Lab.sput hy ha rfl hin.1.1 hin.1.2 hin.2 hI.ok hn hn (by have := hI.few; omega) h).mono ?_
    rintro e w' ⟨L', ys, y', F', I', rfl, -, -, hl⟩
    exact ⟨rfl, hl.drop.drop⟩
  · rw [if_neg h1]
    refine (Lab.sput_bad hy a t t h1 h).mono ?_
    rintro e w' ⟨rfl, hl⟩
    exact ⟨rfl, hl.drop.drop⟩
theorem want_any (b : Bool) (w : World) : Calls Tryd.prog 22 #[.bool b] w fun e w' => e = .returned (.int .i64 (if b = true then 0 else 3)) ∧ w = w' := by
  cases b
  all_goals
    go_enter Tryd.func22, Tryd.ntmps22
    go_wp2
    go_ret
    exact ⟨rfl, rfl⟩
end
end Go.Proofs.YtiklidgcmheofaaDoor
namespace Go.Proofs.YtiklidgcmheofaaDoor
open Go.RowKit Go.Maps
set_option maxHeartbeats 3200000
section
variable {w : World}
set_option maxRecDepth 100000 in
theorem serr_nograph (f : FlatD) (v1 v2 v3 v4 : Value) (width reg array t : Int) (hf : FlatOf w f v1 v2 v3 v4) (hT : ShpOk w) (hN : ¬ newOk width 20000) :
    Calls Tryd.prog 5 #[.agg #[.int .i64 f.W, .int .i64 f.R, v1, v2, v3, v4], .int .i64 width, .int .i64 reg, .int .i64 array, .int .i64 t] w fun e w' => e = .returned (.bool true) ∧ Below w.heap.size w w' := by
  have hb0 := (Lab.nil (Below.refl w.heap.size w)).alloc #[.int .i64 f.W, .int .i64 f.R, v1, v2, v3, v4] 26
  have cells : ∀ (wx : World) (us : List Thing), Lab w wx us → Thing.box w.heap.size 26 #[.int .i64 f.W, .int .i64 f.R, v1, v2, v3, v4] ∈ us → wx.cell? ⟨w.heap.size, 0, none⟩ = some (.int .i64 f.W) ∧ wx.cell? ⟨w.heap.size, 1, none⟩ = some (.int .i64 f.R) ∧ wx.cell? ⟨w.heap.size, 2, none⟩ = some v1 ∧ wx.cell? ⟨w.heap.size, 3, none⟩ = some v2 ∧ wx.cell? ⟨w.heap.size, 4, none⟩ = some v3 ∧ wx.cell? ⟨w.heap.size, 5, none⟩ = some v4 := fun wx us hx hm => by
    have r : wx.heap[w.heap.size]? = some (.cells #[.int .i64 f.W, .int .i64 f.R, v1, v2, v3, v4] 26 (0, 0)) := hx.holds _ hm
    exact ⟨cell_of_cells r (i := 0) rfl, cell_of_cells r (i := 1) rfl, cell_of_cells r (i := 2) rfl, cell_of_cells r (i := 3) rfl, cell_of_cells r (i := 4) rfl, cell_of_cells r (i := 5) rfl⟩
  obtain ⟨q, hq⟩ : ∃ q, w.heap.size = q := ⟨_, rfl⟩
  rw [hq] at hb0 cells
  have hck := fun (wx : World) (hx : Below w.heap.size w wx) => rcheck25_any f v1 v2 v3 v4 (hf.later hx) (hT.later hx)
  have HN := Lib.hid hN
  clear hN
  by_cases hok : FlatOk f
  · have hk : ∀ wx, Below w.heap.size w wx → Calls Tryd.prog 21 #[.agg #[.int .i64 f.W, .int .i64 f.R, v1, v2, v3, v4]] wx fun e w' => e = .returned (.int .i64 0) ∧ Below wx.heap.size wx w' := fun wx hx => (hck wx hx).mono (by
      rintro e w' ⟨qv, rfl, hq | hq, hbb⟩
      · rw [hq.2]; exact ⟨rfl, hbb⟩
      · exact absurd hok hq.1)
    have HK := Lib.hid hk
    clear hck hk
    have HB := Lib.hid hb0; have HC := Lib.hid cells; have HT := Lib.hid hT; have HF := Lib.hid hf
    clear hb0 cells hT hf
    clear hok
    go_enter Tryd.func5, Tryd.ntmps5
    go_upto_region 1 with fail
    refine wp_abs (fun wx => Lab w wx [Thing.box q 26 #[.int .i64 f.W, .int .i64 f.R, v1, v2, v3, v4]]) HB.out ?_
    intro w1 hl1
    obtain ⟨q0, q1, q2, q3, q4, q5⟩ := HC.out _ _ hl1 (by simp)
    have HCK := Lib.hid (HK.out w1 hl1.below); have HL1 := Lib.hid hl1
    clear hl1 HB hq
    go_wp2_with fail
    go_at_call 21
    refine HCK.out.mono ?_
    rintro e w2 ⟨rfl, hb2⟩
    have hl2 := HL1.out.later hb2
    clear HCK HL1 hb2 q0 q1 q2 q3 q4 q5
    obtain ⟨q0, q1, q2, q3, q4, q5⟩ := HC.out _ _ hl2 (by simp)
    have HL2 := Lib.hid hl2
    clear hl2
    go_wp2_with fail
    go_at_call 9
    refine (new_bad width 20000 HN.out _).mono ?_
    rintro e w3 ⟨rfl, rfl⟩
    go_wp2_with fail
    go_at_call 10
    refine (snew_nil _ _ _ _ _ _ ⟨_, rfl⟩ _).mono ?_
    rintro e w4 ⟨rfl, hb4⟩
    have HL := Lib.hid (HL2.out.later hb4)
    clear hb4 HL2 q0 q1 q2 q3 q4 q5
    go_wp2_with fail
    go_at_call 8
    refine (awake30_any (HT.out.later HL.out.below)).mono ?_
    rintro e w9 ⟨rfl, hb9⟩
    have HB9 := Lib.hid hb9
    clear hb9
    go_wp2
    go_ret
    exact ⟨rfl, HL.out.below.trans (HB9.out.mono HL.out.below.size)⟩
  · have hk : ∀ wx, Below w.heap.size w wx → Calls Tryd.prog 21 #[.agg #[.int .i64 f.W, .int .i64 f.R, v1, v2, v3, v4]] wx fun e w' => e = .returned (.int .i64 2) ∧ Below wx.heap.size wx w' := fun wx hx => (hck wx hx).mono (by
      rintro e w' ⟨qv, rfl, hq | hq, hbb⟩
      · exact absurd hq.1 hok
      · rw [hq.2]; exact ⟨rfl, hbb⟩)
    have HK := Lib.hid hk
    clear hck hk
    have HB := Lib.hid hb0; have HC := Lib.hid cells; have HT := Lib.hid hT; have HF := Lib.hid hf
    clear hb0 cells hT hf
    clear hok
    go_enter Tryd.func5, Tryd.ntmps5
    go_upto_region 1 with fail
    refine wp_abs (fun wx => Lab w wx [Thing.box q 26 #[.int .i64 f.W, .int .i64 f.R, v1, v2, v3, v4]]) HB.out ?_
    intro w1 hl1
    obtain ⟨q0, q1, q2, q3, q4, q5⟩ := HC.out _ _ hl1 (by simp)
    have HCK := Lib.hid (HK.out w1 hl1.below); have HL1 := Lib.hid hl1
    clear hl1 HB hq
    go_wp2_with fail
    go_at_call 21
    refine HCK.out.mono ?_
    rintro e w2 ⟨rfl, hb2⟩
    have hl2 := HL1.out.later hb2
    clear HCK HL1 hb2 q0 q1 q2 q3 q4 q5
    obtain ⟨q0, q1, q2, q3, q4, q5⟩ := HC.out _ _ hl2 (by simp)
    have HL2 := Lib.hid hl2
    clear hl2
    go_wp2_with fail
    go_at_call 9
    refine (new_bad width 20000 HN.out _).mono ?_
    rintro e w3 ⟨rfl, rfl⟩
    go_wp2_with fail
    go_at_call 10
    refine (snew_nil _ _ _ _ _ _ ⟨_, rfl⟩ _).mono ?_
    rintro e w4 ⟨rfl, hb4⟩
    have HL := Lib.hid (HL2.out.later hb4)
    clear hb4 HL2 q0 q1 q2 q3 q4 q5
    go_wp2_with fail
    go_at_call 8
    refine (awake30_any (HT.out.later HL.out.below)).mono ?_
    rintro e w9 ⟨rfl, hb9⟩
    have HB9 := Lib.hid hb9
    clear hb9
    go_wp2
    go_ret
    exact ⟨rfl, HL.out.below.trans (HB9.out.mono HL.out.below.size)⟩
set_option maxRecDepth 100000 in
theorem serr_nostore (f : FlatD) (v1 v2 v3 v4 : Value) (width reg array t : Int) (hf : FlatOf w f v1 v2 v3 v4) (hT : ShpOk w) (hN : newOk width 20000) (hbad : ¬ (FlatOk f ∧ width = f.W)) :
    Calls Tryd.prog 5 #[.agg #[.int .i64 f.W, .int .i64 f.R, v1, v2, v3, v4], .int .i64 width, .int .i64 reg, .int .i64 array, .int .i64 t] w fun e w' => e = .returned (.bool true) ∧ Below w.heap.size w w' := by
  have hb0 := (Lab.nil (Below.refl w.heap.size w)).alloc #[.int .i64 f.W, .int .i64 f.R, v1, v2, v3, v4] 26
  have cells : ∀ (wx : World) (us : List Thing), Lab w wx us → Thing.box w.heap.size 26 #[.int .i64 f.W, .int .i64 f.R, v1, v2, v3, v4] ∈ us → wx.cell? ⟨w.heap.size, 0, none⟩ = some (.int .i64 f.W) ∧ wx.cell? ⟨w.heap.size, 1, none⟩ = some (.int .i64 f.R) ∧ wx.cell? ⟨w.heap.size, 2, none⟩ = some v1 ∧ wx.cell? ⟨w.heap.size, 3, none⟩ = some v2 ∧ wx.cell? ⟨w.heap.size, 4, none⟩ = some v3 ∧ wx.cell? ⟨w.heap.size, 5, none⟩ = some v4 := fun wx us hx hm => by
    have r : wx.heap[w.heap.size]? = some (.cells #[.int .i64 f.W, .int .i64 f.R, v1, v2, v3, v4] 26 (0, 0)) := hx.holds _ hm
    exact ⟨cell_of_cells r (i := 0) rfl, cell_of_cells r (i := 1) rfl, cell_of_cells r (i := 2) rfl, cell_of_cells r (i := 3) rfl, cell_of_cells r (i := 4) rfl, cell_of_cells r (i := 5) rfl⟩
  obtain ⟨q, hq⟩ : ∃ q, w.heap.size = q := ⟨_, rfl⟩
  rw [hq] at hb0 cells
  have hck := fun (wx : World) (hx : Below w.heap.size w wx) => rcheck25_any f v1 v2 v3 v4 (hf.later hx) (hT.later hx)
  have hsb : ∀ (wr : World) (gb : Nat) (F : List Nat) (ts : List Thing), Lab w wr (Thing.graph F [] gb width.toNat 20000 [] :: ts) → _ := fun wr gb F ts h => Lab.snew_bad f hf hT (fun h => hbad ⟨h.1, by have := hN.1; omega⟩) h
  have HSB := Lib.hid hsb; have HN := Lib.hid hN
  clear hsb hN
  by_cases hok : FlatOk f
  · have hk : ∀ wx, Below w.heap.size w wx → Calls Tryd.prog 21 #[.agg #[.int .i64 f.W, .int .i64 f.R, v1, v2, v3, v4]] wx fun e w' => e = .returned (.int .i64 0) ∧ Below wx.heap.size wx w' := fun wx hx => (hck wx hx).mono (by
      rintro e w' ⟨qv, rfl, hq | hq, hbb⟩
      · rw [hq.2]; exact ⟨rfl, hbb⟩
      · exact absurd hok hq.1)
    have HK := Lib.hid hk
    clear hck hk
    have g0 : decide (width = f.W) = false := decide_eq_false (fun e => hbad ⟨hok, e⟩)
    have g1 : (width == f.W) = false := by rw [beq_eq_false_iff_ne]; exact fun e => hbad ⟨hok, e⟩
    have HB := Lib.hid hb0; have HC := Lib.hid cells; have HT := Lib.hid hT; have HF := Lib.hid hf
    clear hb0 cells hT hf
    clear hok hbad
    go_enter Tryd.func5, Tryd.ntmps5
    go_upto_region 1 with fail
    refine wp_abs (fun wx => Lab w wx [Thing.box q 26 #[.int .i64 f.W, .int .i64 f.R, v1, v2, v3, v4]]) HB.out ?_
    intro w1 hl1
    obtain ⟨q0, q1, q2, q3, q4, q5⟩ := HC.out _ _ hl1 (by simp)
    have HCK := Lib.hid (HK.out w1 hl1.below); have HL1 := Lib.hid hl1
    clear hl1 HB hq
    go_wp2_with fail
    go_at_call 21
    refine HCK.out.mono ?_
    rintro e w2 ⟨rfl, hb2⟩
    have hl2 := HL1.out.later hb2
    clear HCK HL1 hb2 q0 q1 q2 q3 q4 q5
    obtain ⟨q0, q1, q2, q3, q4, q5⟩ := HC.out _ _ hl2 (by simp)
    have hng := hl2.new_graph width 20000 HN.out
    have HNG := Lib.hid hng
    clear hng hl2
    go_wp2_with fail
    go_at_call 9
    refine HNG.out.mono ?_
    rintro e w3 ⟨gb, F, rfl, hl3⟩
    have HS := Lib.hid (HSB.out w3 gb F _ hl3)
    clear q0 q1 q2 q3 q4 q5 HNG
    obtain ⟨q0, q1, q2, q3, q4, q5⟩ := HC.out _ _ hl3 (by simp)
    clear hl3
    go_wp2_with fail
    go_at_call 10
    refine HS.out.mono ?_
    rintro e w4 ⟨rfl, hl4⟩
    clear q0 q1 q2 q3 q4 q5
    obtain ⟨q0, q1, q2, q3, q4, q5⟩ := HC.out _ _ hl4 (by simp)
    have HL := Lib.hid hl4
    clear hl4
    go_wp2_with fail
    go_at_call 8
    refine (awake30_any (HT.out.later HL.out.below)).mono ?_
    rintro e w9 ⟨rfl, hb9⟩
    have HB9 := Lib.hid hb9
    clear hb9
    go_wp2
    go_ret
    exact ⟨rfl, HL.out.below.trans (HB9.out.mono HL.out.below.size)⟩
  · have hk : ∀ wx, Below w.heap.size w wx → Calls Tryd.prog 21 #[.agg #[.int .i64 f.W, .int .i64 f.R, v1, v2, v3, v4]] wx fun e w' => e = .returned (.int .i64 2) ∧ Below wx.heap.size wx w' := fun wx hx => (hck wx hx).mono (by
      rintro e w' ⟨qv, rfl, hq | hq, hbb⟩
      · exact absurd hq.1 hok
      · rw [hq.2]; exact ⟨rfl, hbb⟩)
    have HK := Lib.hid hk
    clear hck hk
    have HB := Lib.hid hb0; have HC := Lib.hid cells; have HT := Lib.hid hT; have HF := Lib.hid hf
    clear hb0 cells hT hf
    clear hok hbad
    go_enter Tryd.func5, Tryd.ntmps5
    go_upto_region 1 with fail
    refine wp_abs (fun wx => Lab w wx [Thing.box q 26 #[.int .i64 f.W, .int .i64 f.R, v1, v2, v3, v4]]) HB.out ?_
    intro w1 hl1
    obtain ⟨q0, q1, q2, q3, q4, q5⟩ := HC.out _ _ hl1 (by simp)
    have HCK := Lib.hid (HK.out w1 hl1.below); have HL1 := Lib.hid hl1
    clear hl1 HB hq
    go_wp2_with fail
    go_at_call 21
    refine HCK.out.mono ?_
    rintro e w2 ⟨rfl, hb2⟩
    have hl2 := HL1.out.later hb2
    clear HCK HL1 hb2 q0 q1 q2 q3 q4 q5
    obtain ⟨q0, q1, q2, q3, q4, q5⟩ := HC.out _ _ hl2 (by simp)
    have hng := hl2.new_graph width 20000 HN.out
    have HNG := Lib.hid hng
    clear hng hl2
    go_wp2_with fail
    go_at_call 9
    refine HNG.out.mono ?_
    rintro e w3 ⟨gb, F, rfl, hl3⟩
    have HS := Lib.hid (HSB.out w3 gb F _ hl3)
    clear q0 q1 q2 q3 q4 q5 HNG
    obtain ⟨q0, q1, q2, q3, q4, q5⟩ := HC.out _ _ hl3 (by simp)
    clear hl3
    go_wp2_with fail
    go_at_call 10
    refine HS.out.mono ?_
    rintro e w4 ⟨rfl, hl4⟩
    clear q0 q1 q2 q3 q4 q5
    obtain ⟨q0, q1, q2, q3, q4, q5⟩ := HC.out _ _ hl4 (by simp)
    have HL := Lib.hid hl4
    clear hl4
    go_wp2_with fail
    go_at_call 8
    refine (awake30_any (HT.out.later HL.out.below)).mono ?_
    rintro e w9 ⟨rfl, hb9⟩
    have HB9 := Lib.hid hb9
    clear hb9
    go_wp2
    go_ret
    exact ⟨rfl, HL.out.below.trans (HB9.out.mono HL.out.below.size)⟩
end
end Go.Proofs.YtiklidgcmheofaaDoor
