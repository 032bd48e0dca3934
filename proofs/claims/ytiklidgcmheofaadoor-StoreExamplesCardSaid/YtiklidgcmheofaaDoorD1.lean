/- StM, StN, StL, StNa, StNc, StLX: joined by wip/bundle.py. -/
import Derived.Test.YtiklidgcmheofaaDoorB1
import Derived.Test.YtiklidgcmheofaaDoorB2
import Derived.Test.YtiklidgcmheofaaDoorB3
import Derived.Test.YtiklidgcmheofaaDoorB4
import Derived.Test.YtiklidgcmheofaaDoorB5
import Derived.Test.YtiklidgcmheofaaDoorB6
import Derived.Test.YtiklidgcmheofaaDoorB7
import Derived.Test.YtiklidgcmheofaaDoorB8
import Derived.Test.YtiklidgcmheofaaDoorB9
import Derived.Test.YtiklidgcmheofaaDoorB10
import Derived.Test.YtiklidgcmheofaaDoorB11
import Derived.Test.YtiklidgcmheofaaDoorB12
import Derived.Test.YtiklidgcmheofaaDoorB13
import Derived.Test.YtiklidgcmheofaaDoorB14
import Derived.Test.YtiklidgcmheofaaDoorB15
import Derived.Test.YtiklidgcmheofaaDoorB16
import Derived.Test.YtiklidgcmheofaaDoorB17
import Derived.Test.YtiklidgcmheofaaDoorB18
import Derived.Test.YtiklidgcmheofaaDoorB19
import Derived.Test.YtiklidgcmheofaaDoorB20
import Derived.BigQuiet
import Derived.Deep.RegionHeld3
import Derived.StillTailTactics
import Derived.Laws.BitsAllLaws
import Derived.Lib.Hide
import Derived.WalkKit
import Derived.WalkSpells
import Derived.WalkLawsBesides
import Derived.Deep.QuietTactic
import Derived.ProofKit
import Derived.Maps.Keyed
import Derived.DeepKeys4
import Derived.Laws.CopyOwn
import Derived.Deep.RegionLaw
import Derived.Deep.Slices
import Derived.Deep.Fields
import Derived.ChangeSame
import Derived.OpenShut
import Derived.Deep.DeepCutAuto
import Derived.Deep.CutBlock
import Derived.Deep.OwnRows
import Derived.Maps.RangeWalk
import Derived.Deep.DrawnRows
import Derived.Outline
import Derived.Deep.Upon
import Derived.WideKeyArr2
import Derived.Lib.AppendZeros
import Derived.BigRegion
import Derived.StillTail
import Derived.Lib.TrailingZeros
import Derived.RangeFuncRecord
import Derived.RangeFuncNested
import Derived.RangeFuncCalls
import Derived.RangeFuncLeaves
import Derived.OwnWalkIn
import Derived.TacticsInMore
import Derived.LoopNIn
import Derived.LoopIn
import Derived.Laws.EntriesVeiled
import Derived.OrdersHeld
import Derived.Laws.IdiomStrings
import Derived.Lib.LaidTab
namespace Go.Proofs.YtiklidgcmheofaaDoor
open Go.RowKit Go.Maps
set_option maxHeartbeats 3200000
section
variable {w0 wr w w' : World} {ts : List Thing} {k : IntKind} {E Es T sb : Nat} {hd : Value} {y : Lay} {regs : List Int} {arrs : List (List Int)}
end
section
variable {w : World} {F I : List Nat} {gb W room sb : Nat} {L : List PNode} {y : Lay} {regs : List Int} {arrs : List (List Int)}
end
section
variable {w0 wr : World} {ts : List Thing} {F I : List Nat} {gb W room sb : Nat} {L : List PNode} {y : Lay} {regs : List Int} {arrs : List (List Int)}
/-- Ref of what is no register and no number. -/
theorem sref_out {w : World} (hs : StG w gb sb y regs arrs) (r : Int) (q : Nat) (hr : ¬ (-1 ≤ r ∧ r < (regs.length : Int))) :
    Calls Tryd.prog 12 #[.pointer (some ⟨sb, 0, none⟩), .agg #[.int .i64 r, .int .u64 q]] w fun e w' => e = .returned (.tuple #[.int .i64 0, .int .i64 3]) ∧ Below w.heap.size w w' := by
  have hb := (Lab.nil (Below.refl _ w)).alloc #[.int .i64 r, .int .u64 q] 42
  obtain ⟨p, hp⟩ : ∃ p, w.heap.size = p := ⟨_, rfl⟩
  have HS := Lib.hid hs; have HB := Lib.hid hb; have HP := Lib.hid hp
  obtain ⟨ar, nr, cr, hrv, hnr, -⟩ := hs.regs
  rw [hnr] at hr
  have hr2 : r < -1 ∨ (-1 ≤ r ∧ (nr : Int) ≤ r) := by omega
  have HRV := Lib.hid hrv
  clear hs hb hrv hnr hr
  go_enter Tryd.func12, Tryd.ntmps12
  go_upto_region 3 with fail
  refine wp_abs (fun wx => Lab w wx [Thing.box w.heap.size 42 #[.int .i64 r, .int .u64 q]]) HB.out ?_
  intro w1 hl
  rw [hp] at hl
  obtain ⟨e0, e1⟩ := cells2S hl.head
  have hs1 := HS.out.later hl.below
  have d1 := hs1.c1
  rw [HRV.out] at d1
  have HL := Lib.hid hl
  clear hl hs1
  rcases hr2 with h | ⟨h1, h2⟩
  · have g : decide (r < -1) = true := decide_eq_true h
    clear h
    go_quiet (fail)
    go_wp2
    go_ret2
    exact ⟨rfl, below_drewN HL.out.below _⟩
  · have g : decide (r < -1) = false := decide_eq_false (by omega)
    have g1 : decide ((nr : Int) ≤ r) = true := decide_eq_true h2
    clear h1 h2
    go_quiet (fail)
    go_wp2
    go_ret2
    exact ⟨rfl, below_drewN HL.out.below _⟩
end
end Go.Proofs.YtiklidgcmheofaaDoor
namespace Go.Proofs.YtiklidgcmheofaaDoor
open Go.RowKit Go.Maps
set_option maxHeartbeats 3200000
section
variable {w0 wr w : World} {ts : List Thing} {F I : List Nat} {gb W room sb : Nat} {L : List PNode} {y : Lay} {regs : List Int} {arrs : List (List Int)}
/-- Set of what is no register, or no term. -/
theorem sset_bad (hs : StG w gb sb y regs arrs) (hg : Gr w 0 F I gb W room L) (r t : Int) (hb : ¬ ((0 ≤ r ∧ r < (regs.length : Int)) ∧ 0 ≤ t ∧ t < (L.length : Int))) :
    Calls Tryd.prog 24 #[.pointer (some ⟨sb, 0, none⟩), .int .i64 r, .int .i64 t] w fun e w' => e = .returned (.int .i64 3) ∧ w = w' := by
  have his := is_any hs hg t
  obtain ⟨ar, nr, cr, hrv, hnr, -⟩ := hs.regs
  obtain ⟨d0, d1, d2, -, -⟩ := hs
  rw [hrv] at d1
  rw [hnr] at hb
  by_cases h0 : 0 ≤ r
  · have g0 : decide (r < 0) = false := decide_eq_false (by omega)
    by_cases h1 : r < (nr : Int)
    · have g1 : decide ((nr : Int) ≤ r) = false := decide_eq_false (by omega)
      rw [decide_eq_false (fun h => hb ⟨⟨h0, h1⟩, h⟩)] at his
      have HIS := Lib.hid his
      clear his hb h0 h1 hrv hnr hg
      go_enter Tryd.func24, Tryd.ntmps24
      go_wp2_with (go_at_call 35; refine HIS.out.mono ?_; rintro e w5 ⟨rfl, rfl⟩)
      go_ret
      exact ⟨rfl, rfl⟩
    · have g1 : decide ((nr : Int) ≤ r) = true := decide_eq_true (by omega)
      clear his hb h0 h1 hrv hnr hg
      go_enter Tryd.func24, Tryd.ntmps24
      go_wp2
      go_ret
      exact ⟨rfl, rfl⟩
  · have g0 : decide (r < 0) = true := decide_eq_true (by omega)
    clear his hb h0 hrv hnr hg
    go_enter Tryd.func24, Tryd.ntmps24
    go_wp2
    go_ret
    exact ⟨rfl, rfl⟩
/-- Set. -/
theorem Lab.sset (h : Lab w0 wr (Thing.graph F I gb W room L :: Thing.gst gb sb y regs arrs :: ts)) (hy : arrs.length = y.vs.length) (r t : Nat) (hr : r < regs.length) (ht : t < L.length) :
    Calls Tryd.prog 24 #[.pointer (some ⟨sb, 0, none⟩), .int .i64 r, .int .i64 t] wr fun e w' => e = .returned (.int .i64 0) ∧ Lab w0 w' (Thing.graph F I gb W room L :: Thing.gst gb sb y (regs.set r t) arrs :: ts) := by
  have hs := Lab.st_read hy h.swap
  have his := is_any hs h.gr (t : Int)
  rw [decide_eq_true (by omega)] at his
  have ho := Lab.st_open h.swap
  have hrow : wr.ownsRow 0 3 1 y.rv regs.length (regs.map (Value.int .i64)) := ho.second
  obtain ⟨a, cap, hrv, ha⟩ := row_shape hrow
  obtain ⟨g, rfl⟩ := ha (by omega)
  obtain ⟨d0, d1, d2, -, -⟩ := hs
  rw [hrv] at d1 hrow
  have hcell := World.ownsRow.cellAt hrow r (by omega)
  have hfz := World.ownsRow.frozenAt hrow r
  rw [List.getElem?_map, List.getElem?_eq_getElem hr] at hcell
  obtain ⟨x, hx⟩ : ∃ x, regs[r] = x := ⟨_, rfl⟩
  rw [hx] at hcell
  simp only [Option.map_some] at hcell
  obtain ⟨n, hn⟩ : ∃ n, regs.length = n := ⟨_, rfl⟩
  have hrn : (r : Int) < (n : Int) := by omega
  have r0 : (0 : Int) ≤ (r : Int) := by omega
  have g0 : decide ((r : Int) < 0) = false := decide_eq_false (by omega)
  have g1 : decide ((n : Int) ≤ (r : Int)) = false := decide_eq_false (by omega)
  rw [hn] at d1
  have HO := Lib.hid ho; have HIS := Lib.hid his; have HRV := Lib.hid (And.intro hrv hn)
  clear h hy hr ht his ho hrow hrv hx ha hn
  go_enter Tryd.func24, Tryd.ntmps24
  go_wp2_with (go_at_call 35; refine HIS.out.mono ?_; rintro e w5 ⟨rfl, rfl⟩)
  go_ret
  have h2 := HO.out.swap
  unfold Thing.numsK at h2
  rw [HRV.out.1] at h2
  have h3 := (Lab.row_set h2 r (.int .i64 t)).swap
  have e1 : (regs.map (Value.int .i64)).set r (.int .i64 (t : Int)) = (regs.set r (t : Int)).map (Value.int .i64) := by rw [List.map_set]
  rw [e1] at h3
  refine ⟨rfl, Lab.swap ?_⟩
  have h4 := Lab.st_shut (k := .i64) (E := 3) (regs := regs.set r (t : Int)) (rv := .slice (some ⟨g, 0, none⟩) regs.length cap) (by unfold Thing.numsK; rw [List.length_set]; exact h3)
  rw [← HRV.out.1] at h4
  exact h4
end
end Go.Proofs.YtiklidgcmheofaaDoor
namespace Go.Proofs.YtiklidgcmheofaaDoor
open Go.RowKit Go.Maps
set_option maxHeartbeats 3200000
attribute [local go_sem] Oper.semAt_some
section
variable {w0 wr : World} {ts : List Thing} {a b c d e f g h i j k l : Thing}
end
section
variable {P : Program} {w0 w : World} {ts : List Thing}
theorem bodyPostM_none {fn : Func} {R : Ending → World → Prop} {tmps : Array Value} {v : Value} (hr : (results fn tmps).run P w = .ok v w) (hR : R (.returned v) w) : bodyPostM Fence.wide 0 P fn R .ret { tmps := tmps, defers := [] } w := ⟨v, hr, hR⟩
end
section
variable {W room n x i t : Nat} {L L1 : List PNode} {xs : List Int}
end
section
variable {w0 wr w : World} {ts : List Thing} {F I : List Nat} {gb W room sb n x a : Nat} {L : List PNode} {y : Lay} {regs : List Int} {arrs : List (List Int)}
end
end Go.Proofs.YtiklidgcmheofaaDoor
namespace Go.Proofs.YtiklidgcmheofaaDoor
open Go.RowKit Go.Maps
set_option maxHeartbeats 3200000
section
variable {w0 wr w : World} {ts : List Thing} {F I : List Nat} {gb W room sb : Nat} {L : List PNode} {y : Lay} {regs : List Int} {arrs : List (List Int)}
/-- Load of what is no array, or no term. -/
theorem Lab.sload_bad (hy : arrs.length = y.vs.length) (a x : Int) (hb : ¬ ((0 ≤ a ∧ a < (arrs.length : Int)) ∧ 0 ≤ x ∧ x < (L.length : Int)))
    (h : Lab w0 wr (Thing.graph F I gb W room L :: Thing.gst gb sb y regs arrs :: ts)) :
    Calls Tryd.prog 14 #[.pointer (some ⟨sb, 0, none⟩), .int .i64 a, .int .i64 x] wr fun e w' => e = .returned (.tuple #[.int .i64 0, .int .i64 3]) ∧ Lab w0 w' (Thing.graph F I gb W room L :: Thing.gst gb sb y regs arrs :: ts) := by
  have h0 := (((h.alloc #[.pointer (some ⟨sb, 0, none⟩)] 34).alloc #[.int .i64 a] 3).alloc #[.int .i64 0] 3).alloc #[.int .i64 0] 31
  simp only [World.size_alloc] at h0
  obtain ⟨q, hq⟩ : ∃ q, wr.heap.size = q := ⟨_, rfl⟩
  rw [hq] at h0
  have HB := Lib.hid h0; have HY := Lib.hid hy; have HX := Lib.hid hb
  clear h0 h hy hb
  refine calls_of_marks Tryd.func14 rfl ?_
  simp only [Tryd.ntmps14, List.size_toArray, List.length_cons, List.length_nil, Nat.reduceAdd, Nat.reduceSub, Array.replicate_succ, Array.replicate_zero, List.push_toArray, List.append_toArray, List.nil_append, List.cons_append]
  go_upto_region 1 with fail
  refine wp_abs (fun wx => Lab w0 wx (Thing.box (q + 1 + 1 + 1) 31 #[.int .i64 0] :: Thing.box (q + 1 + 1) 3 #[.int .i64 0] :: Thing.box (q + 1) 3 #[.int .i64 a] :: Thing.box q 34 #[.pointer (some ⟨sb, 0, none⟩)] :: Thing.graph F I gb W room L :: Thing.gst gb sb y regs arrs :: ts)) HB.out ?_
  intro w1 hl
  have hm := smay_any (Lab.st_read HY.out hl.rot6) hl.rot5.gr a x
  rw [if_neg HX.out] at hm
  have k0 := (hl.boxc (b := q) (T := 34) (v := .pointer (some ⟨sb, 0, none⟩)) (by simp)).1
  have k1 := (hl.boxc (b := q + 1) (T := 3) (v := .int .i64 a) (by simp)).1
  have HM := Lib.hid hm; have HL := Lib.hid hl
  clear hm HB HX HY hq hl
  go_wp2_with fail
  go_at_call 34
  refine HM.out.mono ?_
  rintro e w5 ⟨rfl, rfl⟩
  obtain ⟨c6, f6⟩ := HL.out.boxc (b := q + 1 + 1) (T := 3) (v := .int .i64 0) (by simp)
  obtain ⟨c7, f7⟩ := HL.out.boxc (b := q + 1 + 1 + 1) (T := 31) (v := .int .i64 0) (by simp)
  clear HM
  go_wp2
  have h9 : Lab w0 _ (Thing.box (q + 1 + 1 + 1) 31 #[.int .i64 3] :: Thing.box (q + 1 + 1) 3 #[.int .i64 0] :: _) := ((HL.out.swap.store 0 (.int .i64 0)).swap.store 0 (.int .i64 3))
  obtain ⟨d6, -⟩ := h9.boxc (b := q + 1 + 1) (T := 3) (v := .int .i64 0) (by simp)
  obtain ⟨d7, -⟩ := h9.boxc (b := q + 1 + 1 + 1) (T := 31) (v := .int .i64 3) (by simp)
  exact bodyPostM_none (load_results rfl rfl d6 d7) ⟨rfl, h9.drop.drop.drop.drop⟩
/-- New without a graph. -/
theorem snew_nil (f0 f1 v1 v2 v3 v4 : Value) (h0 : ∃ x, f0 = .int .i64 x) (w : World) :
    Calls Tryd.prog 10 #[.pointer none, .agg #[f0, f1, v1, v2, v3, v4]] w fun e w' => e = .returned (.tuple #[.pointer none, .int .i64 1]) ∧ Below w.heap.size w w' := by
  obtain ⟨x, rfl⟩ := h0
  have hb := ((Lab.nil (Below.refl w.heap.size w)).alloc #[.int .i64 x, f1, v1, v2, v3, v4] 26).below
  have HB := Lib.hid hb
  clear hb
  go_enter Tryd.func10, Tryd.ntmps10
  go_wp2
  go_ret2
  exact ⟨rfl, HB.out⟩
end
end Go.Proofs.YtiklidgcmheofaaDoor
namespace Go.Proofs.YtiklidgcmheofaaDoor
open Go.RowKit Go.Maps
set_option maxHeartbeats 3200000
theorem smay_nil (a t : Int) (w : World) : Calls Tryd.prog 34 #[.pointer none, .int .i64 a, .int .i64 t] w fun e w' => e = .returned (.int .i64 1) ∧ w = w' := by
  go_enter Tryd.func34, Tryd.ntmps34
  go_wp2
  go_ret
  exact ⟨rfl, rfl⟩
theorem sref_nil (r : Int) (w : World) : Calls Tryd.prog 12 #[.pointer none, .agg #[.int .i64 r, .int .u64 0]] w fun e w' => e = .returned (.tuple #[.int .i64 0, .int .i64 1]) ∧ Below w.heap.size w w' := by
  have hb := ((Lab.nil (Below.refl w.heap.size w)).alloc #[.int .i64 r, .int .u64 0] 42).below
  have HB := Lib.hid hb
  clear hb
  go_enter Tryd.func12, Tryd.ntmps12
  go_wp2
  go_ret2
  exact ⟨rfl, HB.out⟩
theorem sset_nil (r t : Int) (w : World) : Calls Tryd.prog 24 #[.pointer none, .int .i64 r, .int .i64 t] w fun e w' => e = .returned (.int .i64 1) ∧ w = w' := by
  go_enter Tryd.func24, Tryd.ntmps24
  go_wp2
  go_ret
  exact ⟨rfl, rfl⟩
theorem scopy_nil (w : World) : Calls Tryd.prog 27 #[.pointer none] w fun e w' => e = .returned (.pointer none) ∧ w = w' := by
  go_enter Tryd.func27, Tryd.ntmps27
  go_wp2
  go_ret
  exact ⟨rfl, rfl⟩
theorem sinside_nil (a t : Int) (w : World) : Calls Tryd.prog 19 #[.pointer none, .int .i64 a, .int .i64 t] w fun e w' => e = .returned (.tuple #[.int .i64 0, .int .i64 1]) ∧ w = w' := by
  go_enter Tryd.func19, Tryd.ntmps19
  go_wp2_with (go_at_call 34; refine (smay_nil a t _).mono ?_; rintro e w5 ⟨rfl, rfl⟩)
  go_ret2
  exact ⟨rfl, rfl⟩
section
variable {w0 wr : World} {ts : List Thing}
theorem Lab.sload_nil (a x : Int) (h : Lab w0 wr ts) : Calls Tryd.prog 14 #[.pointer none, .int .i64 a, .int .i64 x] wr fun e w' => e = .returned (.tuple #[.int .i64 0, .int .i64 1]) ∧ Lab w0 w' ts := by
  have h0 := (((h.alloc #[.pointer none] 34).alloc #[.int .i64 a] 3).alloc #[.int .i64 0] 3).alloc #[.int .i64 0] 31
  simp only [World.size_alloc] at h0
  obtain ⟨q, hq⟩ : ∃ q, wr.heap.size = q := ⟨_, rfl⟩
  rw [hq] at h0
  have HB := Lib.hid h0
  clear h0 h
  refine calls_of_marks Tryd.func14 rfl ?_
  simp only [Tryd.ntmps14, List.size_toArray, List.length_cons, List.length_nil, Nat.reduceAdd, Nat.reduceSub, Array.replicate_succ, Array.replicate_zero, List.push_toArray, List.append_toArray, List.nil_append, List.cons_append]
  go_upto_region 1 with fail
  refine wp_abs (fun wx => Lab w0 wx (Thing.box (q + 1 + 1 + 1) 31 #[.int .i64 0] :: Thing.box (q + 1 + 1) 3 #[.int .i64 0] :: Thing.box (q + 1) 3 #[.int .i64 a] :: Thing.box q 34 #[.pointer none] :: ts)) HB.out ?_
  intro w1 hl
  have k0 := (hl.boxc (b := q) (T := 34) (v := .pointer none) (by simp)).1
  have k1 := (hl.boxc (b := q + 1) (T := 3) (v := .int .i64 a) (by simp)).1
  have HL := Lib.hid hl
  clear HB hq hl
  go_wp2_with fail
  go_at_call 34
  refine (smay_nil _ _ _).mono ?_
  rintro e w5 ⟨rfl, rfl⟩
  obtain ⟨c6, f6⟩ := HL.out.boxc (b := q + 1 + 1) (T := 3) (v := .int .i64 0) (by simp)
  obtain ⟨c7, f7⟩ := HL.out.boxc (b := q + 1 + 1 + 1) (T := 31) (v := .int .i64 0) (by simp)
  go_wp2
  have h9 : Lab w0 _ (Thing.box (q + 1 + 1 + 1) 31 #[.int .i64 1] :: Thing.box (q + 1 + 1) 3 #[.int .i64 0] :: _) := ((HL.out.swap.store 0 (.int .i64 0)).swap.store 0 (.int .i64 1))
  obtain ⟨d6, -⟩ := h9.boxc (b := q + 1 + 1) (T := 3) (v := .int .i64 0) (by simp)
  obtain ⟨d7, -⟩ := h9.boxc (b := q + 1 + 1 + 1) (T := 31) (v := .int .i64 1) (by simp)
  exact bodyPostM_none (load_results rfl rfl d6 d7) ⟨rfl, h9.drop.drop.drop.drop⟩
theorem Lab.sput_nil (a x t : Int) (h : Lab w0 wr ts) : Calls Tryd.prog 13 #[.pointer none, .int .i64 a, .int .i64 x, .int .i64 t] wr fun e w' => e = .returned (.int .i64 1) ∧ Lab w0 w' ts := by
  have h0 := ((h.alloc #[.pointer none] 34).alloc #[.int .i64 t] 3).alloc #[.int .i64 0] 31
  simp only [World.size_alloc] at h0
  obtain ⟨q, hq⟩ : ∃ q, wr.heap.size = q := ⟨_, rfl⟩
  rw [hq] at h0
  have HB := Lib.hid h0
  clear h0 h
  refine calls_of_marks Tryd.func13 rfl ?_
  simp only [Tryd.ntmps13, List.size_toArray, List.length_cons, List.length_nil, Nat.reduceAdd, Nat.reduceSub, Array.replicate_succ, Array.replicate_zero, List.push_toArray, List.append_toArray, List.nil_append, List.cons_append]
  go_upto_region 1 with fail
  refine wp_abs (fun wx => Lab w0 wx (Thing.box (q + 1 + 1) 31 #[.int .i64 0] :: Thing.box (q + 1) 3 #[.int .i64 t] :: Thing.box q 34 #[.pointer none] :: ts)) HB.out ?_
  intro w1 hl
  have k0 := (hl.boxc (b := q) (T := 34) (v := .pointer none) (by simp)).1
  have HL := Lib.hid hl
  clear HB hq hl
  go_wp2_with fail
  go_at_call 34
  refine (smay_nil _ _ _).mono ?_
  rintro e w5 ⟨rfl, rfl⟩
  obtain ⟨c8, f8⟩ := HL.out.boxc (b := q + 1 + 1) (T := 31) (v := .int .i64 0) (by simp)
  go_wp2
  have h9 : Lab w0 _ (Thing.box (q + 1 + 1) 31 #[.int .i64 1] :: _) := HL.out.store 0 (.int .i64 1)
  obtain ⟨d8, -⟩ := h9.boxc (b := q + 1 + 1) (T := 31) (v := .int .i64 1) (by simp)
  exact bodyPostM_none (put_results rfl d8) ⟨rfl, h9.drop.drop.drop⟩
end
end Go.Proofs.YtiklidgcmheofaaDoor
namespace Go.Proofs.YtiklidgcmheofaaDoor
open Go.RowKit Go.Maps
set_option maxHeartbeats 12800000
section
variable {w : World}
set_option maxRecDepth 100000 in
theorem storeExamples_walk (hT : ShpOk w) : Calls Tryd.prog 6 #[] w fun e w' => e = .returned (.bool true) ∧ Below w.heap.size w w' := by
  have HT := Lib.hid hT
  clear hT
  go_enter Tryd.func6, Tryd.ntmps6
  go_wp2_with fail
  go_at_call 25
  refine (example_any w).mono ?_
  rintro e w1 ⟨v1, v2, v3, v4, rfl, hf, hb1⟩
  obtain ⟨vb, hvb⟩ : ∃ vb, w1.heap.size = vb := ⟨_, rfl⟩
  obtain ⟨w2, hw2⟩ : ∃ w2, w1.alloc (.cells #[.int .u64 3, .int .u64 0, .int .u64 1] 40) = w2 := ⟨_, rfl⟩
  have hb2 : Below w1.heap.size w1 w2 := by rw [← hw2]; exact below_new _ _
  have hvals : SliceOf w2 .u64 (.slice (some ⟨vb, 0, none⟩) 3 3) [3, 0, 1] := slice_of_box (T := 40) (xs := [3, 0, 1]) (by rw [← hw2, ← hvb]; exact heap_alloc_new w1 _)
  have HF := Lib.hid (And.intro (hf.later hb2) (And.intro (HT.out.later (hb1.trans (hb2.mono hb1.size))) (And.intro hvals (hb1.trans (hb2.mono hb1.size)))))
  clear hf hb1 hb2 hvals HT
  have hbg := Lab.bbegin (W := 2) (nR := 2) (vals := [3, 0, 1]) (vv := .slice (some ⟨vb, 0, none⟩) 3 3) HF.out.1 HF.out.2.1 exFlat_ok ⟨_, _, _, rfl⟩ (Lab.nil (Below.refl w2.heap.size w2))
  replace hbg : Calls Tryd.prog 16 #[.agg #[.int .i64 2, .int .i64 2, v1, v2, v3, v4], .slice (some ⟨vb, 0, none⟩) 3 3] w2 _ := hbg
  have HBG := Lib.hid hbg
  clear hbg
  go_wp2_with fail
  go_at_call 16
  refine HBG.out.mono ?_
  rintro e w3 ⟨bb, gb, sb, rb, zt, y, z, L, F, I, rfl, hB, hyl, hzl, hl3⟩
  clear HBG hvb hw2
  have hU : U64s [3, 0, 1] := by intro v hv; simp at hv; omega
  have HB := Lib.hid (And.intro hB (And.intro hyl (And.intro hzl hU)))
  obtain ⟨c0, c1, -, -, -, -, -⟩ := both_cells (hl3).fourth
  obtain ⟨L1, x, hg1, hp1, hv1⟩ := hl3.bvar hB.ok (by have := hB.phi; omega) 0 (by decide)
  replace hv1 : Calls Tryd.prog 11 #[.pointer (some ⟨gb, 0, none⟩), .int .i64 0] w3 _ := hv1
  have HV1 := Lib.hid hv1; have HG1 := Lib.hid (And.intro hg1 hp1)
  clear hv1 hg1 hp1 hl3 hB hyl hzl hU
  go_wp2_with fail
  go_at_call 11
  refine HV1.out.mono ?_
  rintro e w4 ⟨F4, I4, rfl, hl4⟩
  clear c0 c1 HV1
  obtain ⟨c0, c1, -, -, -, -, -⟩ := both_cells (hl4).fourth
  obtain ⟨L2, i, hg2, hp2, hv2⟩ := hl4.bvar HG1.out.1.ok (by have := HB.out.1.phi; have := HG1.out.2; omega) 2 (by decide)
  replace hv2 : Calls Tryd.prog 11 #[.pointer (some ⟨gb, 0, none⟩), .int .i64 2] w4 _ := hv2
  have HV2 := Lib.hid hv2; have HG2 := Lib.hid (And.intro hg2 hp2)
  clear hv2 hg2 hp2 hl4
  go_wp2_with fail
  go_at_call 11
  refine HV2.out.mono ?_
  rintro e w5 ⟨F5, I5, rfl, hl5⟩
  clear c0 c1 HV2
  obtain ⟨c0, c1, -, -, -, -, -⟩ := both_cells (hl5).fourth
  have hr0 := sref_reg (Lab.st_read (by rw [zerosL_len, HB.out.2.1]) hl5.swap) 0 0 (t := (zt : Int)) rfl
  replace hr0 : Calls Tryd.prog 12 #[.pointer (some ⟨sb, 0, none⟩), .agg #[.int .i64 0, .int .u64 0]] w5 _ := hr0
  have HR0 := Lib.hid hr0; have HL5 := Lib.hid hl5
  clear hr0 hl5
  go_wp2_with fail
  go_at_call 12
  refine HR0.out.mono ?_
  rintro e w6 ⟨rfl, hb6⟩
  have hl6 := HL5.out.later hb6
  clear c0 c1 HR0 HL5 hb6
  obtain ⟨c0, c1, -, -, -, -, -⟩ := both_cells (hl6).fourth
  obtain ⟨L3, five, k1, hg3, hp3, -, -⟩ := got_const (room := 20000) HG2.out.1.ok 5 (by have := HB.out.1.phi; have := HG1.out.2; have := HG2.out.2; omega)
  have hr5 := Lab.sref_num hl6 (by rw [zerosL_len, HB.out.2.1]) 5 (by decide) k1
  have HR5 := Lib.hid hr5; have HG3 := Lib.hid (And.intro hg3 (show phi 2 L3 ≤ 68 by have := HB.out.1.phi; have := HG1.out.2; have := HG2.out.2; omega))
  clear hr5 hg3 hp3 k1 hl6
  go_wp2_with fail
  go_at_call 12
  refine HR5.out.mono ?_
  rintro e w7 ⟨F7, I7, rfl, hl7⟩
  replace hl7 : Lab w2 w7 (bothTs F7 I7 gb 2 20000 L3 bb sb rb 2 y z (List.replicate 2 (zt : Int)) (List.replicate 2 0) (zerosL zt [3]) (zerosL 0 [3]) v1 v2 v3 v4 (.slice (some ⟨vb, 0, none⟩) 3 3) []) := hl7
  clear c0 c1 HR5
  obtain ⟨c0, c1, -, -, -, -, -⟩ := both_cells (hl7).fourth
  have hz3 : zt < L3.length := Nat.lt_of_lt_of_le HB.out.1.lt ((HG1.out.1.pre.trans HG2.out.1.pre).trans HG3.out.1.pre).length_le
  have hvz : val 2 [3, 0, 1] L3 zt = 0 := by rw [val_prefix ((HG1.out.1.pre.trans HG2.out.1.pre).trans HG3.out.1.pre) HB.out.1.lt]; exact HB.out.1.zero _
  have hi1 := Lab.bis HF.out.2.2.1 (by decide) HB.out.2.2.2 hl7 zt hz3 0
  rw [decide_eq_true hvz] at hi1
  have HI1 := Lib.hid hi1; have HL7 := Lib.hid hl7; have HZ3 := Lib.hid hz3
  clear hi1 hl7 hvz hz3
  go_wp2_with fail
  go_at_call 26
  refine HI1.out.mono ?_
  rintro e w8 ⟨rfl, hb8⟩
  have hl8 := HL7.out.later hb8
  have hi2 := Lab.bis HF.out.2.2.1 (by decide) HB.out.2.2.2 hl8 five HG3.out.1.lt 1
  rw [decide_eq_true (by rw [HG3.out.1.val]; rfl)] at hi2
  have HI2 := Lib.hid hi2; have HL8 := Lib.hid hl8
  clear hi2 hl8 hb8 HI1 HL7 c0 c1
  go_wp2_with fail
  go_at_call 26
  refine HI2.out.mono ?_
  rintro e w9 ⟨rfl, hb9⟩
  have hl9 := HL8.out.later hb9
  clear HL8 HI2 hb9
  obtain ⟨c0, c1, -, -, -, -, -⟩ := both_cells (hl9).fourth
  have hx3 : x < L3.length := Nat.lt_of_lt_of_le HG1.out.1.lt (HG2.out.1.pre.trans HG3.out.1.pre).length_le
  have hst := Lab.sset hl9 (by rw [zerosL_len, HB.out.2.1]) 0 x (by simp) hx3
  replace hst : Calls Tryd.prog 24 #[.pointer (some ⟨sb, 0, none⟩), .int .i64 0, .int .i64 x] w9 _ := hst
  have HST := Lib.hid hst; have HX3 := Lib.hid hx3
  clear hst hl9 hx3
  go_wp2_with fail
  go_at_call 24
  refine HST.out.mono ?_
  rintro e w10 ⟨rfl, hl10⟩
  replace hl10 : Lab w2 w10 (bothTs F7 I7 gb 2 20000 L3 bb sb rb 2 y z ((List.replicate 2 (zt : Int)).set 0 (x : Int)) (List.replicate 2 0) (zerosL zt [3]) (zerosL 0 [3]) v1 v2 v3 v4 (.slice (some ⟨vb, 0, none⟩) 3 3) []) := hl10
  clear c0 c1 HST
  obtain ⟨c0, c1, -, -, -, -, -⟩ := both_cells (hl10).fourth
  have hr0 := sref_reg (Lab.st_read (by rw [zerosL_len, HB.out.2.1]) hl10.swap) 0 0 (t := (x : Int)) rfl
  replace hr0 : Calls Tryd.prog 12 #[.pointer (some ⟨sb, 0, none⟩), .agg #[.int .i64 0, .int .u64 0]] w10 _ := hr0
  have HR0 := Lib.hid hr0; have HL10 := Lib.hid hl10
  clear hr0 hl10
  go_wp2_with fail
  go_at_call 12
  refine HR0.out.mono ?_
  rintro e w11 ⟨rfl, hb11⟩
  have hl11 := HL10.out.later hb11
  clear c0 c1 HR0 HL10 hb11
  obtain ⟨c0, c1, -, -, -, -, -⟩ := both_cells (hl11).fourth
  have hp03 := (HG1.out.1.pre.trans HG2.out.1.pre).trans HG3.out.1.pre
  have hrz : RelL 2 [3, 0, 1] L3 (List.replicate 3 (zt : Int)) (List.replicate 3 0) := (RelL.zeros 3 HB.out.1.lt (HB.out.1.zero _)).keep hp03
  have hi3 : i < L3.length := Nat.lt_of_lt_of_le HG2.out.1.lt HG3.out.1.pre.length_le
  have hput := Lab.sput (a := 0) (x := i) (t := x) (n := 3) (xs := List.replicate 3 (zt : Int)) (by rw [zerosL_len, HB.out.2.1]) rfl (by simp) (by decide) (by decide) hrz.mem HG3.out.1.ok hi3 HX3.out (by have := HG3.out.2; omega) hl11
  replace hput : Calls Tryd.prog 13 #[.pointer (some ⟨sb, 0, none⟩), .int .i64 0, .int .i64 i, .int .i64 x] w11 _ := hput
  have HPUT := Lib.hid hput; have HRZ := Lib.hid hrz; have HI3 := Lib.hid hi3
  clear hput hrz hp03 hl11 hi3
  go_wp2_with fail
  go_at_call 13
  refine HPUT.out.mono ?_
  rintro e w12 ⟨L4, ys, y', F12, I12, rfl, hinv, hyl, hl12⟩
  replace hl12 : Lab w2 w12 (bothTs F12 I12 gb 2 20000 L4 bb sb rb 2 y' z ((List.replicate 2 (zt : Int)).set 0 (x : Int)) (List.replicate 2 0) ((zerosL zt [3]).set 0 ys) (zerosL 0 [3]) v1 v2 v3 v4 (.slice (some ⟨vb, 0, none⟩) 3 3) []) := hl12
  clear c0 c1 HPUT
  have hvi : val 2 [3, 0, 1] L3 i = ((1 : Nat) : Int) := by rw [val_prefix HG3.out.1.pre HG2.out.1.lt]; exact HG2.out.1.val _
  have hvx : val 2 [3, 0, 1] L3 x = 3 := by rw [val_prefix (HG2.out.1.pre.trans HG3.out.1.pre) HG1.out.1.lt]; exact HG1.out.1.val _
  have hry := PutInv.rel (at' := 1) (by rw [List.length_replicate]; exact hinv) HRZ.out hvi
  rw [hvx] at hry
  replace hry : RelL 2 [3, 0, 1] L4 ys [0, 3, 0] := hry
  have hyl3 : ys.length = 3 := by rw [hinv.len]; simp
  have hi4 : i < L4.length := Nat.lt_of_lt_of_le HI3.out hinv.pre.length_le
  have hph4 : phi 2 L4 ≤ 80 := by have := hinv.room; have := HG3.out.2; omega
  have HRY := Lib.hid (And.intro hry (And.intro hyl (And.intro hyl3 (And.intro hph4 (And.intro (show val 2 [3, 0, 1] L4 i = ((1 : Nat) : Int) by rw [val_prefix hinv.pre HI3.out]; exact hvi) (And.intro hi4 (And.intro hinv.pre hinv.ok)))))))
  obtain ⟨L5, one, hg5, hp5, -, -, hn5⟩ := Lab.bnumber HF.out.2.2.1 (by decide) HB.out.2.2.2 hl12 hyl (by rw [zerosL_len, HB.out.2.2.1]) hinv.ok (by omega) 1 (by decide)
  replace hn5 : Calls Tryd.prog 18 #[.pointer (some ⟨bb, 0, none⟩), .int .u64 1] w12 _ := hn5
  have HN5 := Lib.hid hn5; have HG5 := Lib.hid (And.intro hg5 (show phi 2 L5 ≤ 81 by omega))
  clear hn5 hg5 hp5 hl12 hinv hyl hvi hvx hry hyl3 hi4 hph4
  go_wp2_with fail
  go_at_call 18
  refine HN5.out.mono ?_
  rintro e w13 ⟨F13, I13, rfl, hl13⟩
  clear HN5
  obtain ⟨c0, c1, -, -, -, -, -⟩ := both_cells (hl13).fourth
  have hld := Lab.sload (a := 0) (x := i) (n := 3) (xs := ys) HRY.out.2.1 rfl HRY.out.2.2.1 (by decide) (by decide) (HRY.out.1.keep HG5.out.1.pre).mem HG5.out.1.ok (Nat.lt_of_lt_of_le HRY.out.2.2.2.2.2.1 HG5.out.1.pre.length_le) (by have := HG5.out.2; omega) hl13
  replace hld : Calls Tryd.prog 14 #[.pointer (some ⟨sb, 0, none⟩), .int .i64 0, .int .i64 i] w13 _ := hld
  have HLD := Lib.hid hld
  clear hld hl13
  go_wp2_with fail
  go_at_call 14
  refine HLD.out.mono ?_
  rintro e w14 ⟨L6, t, F14, I14, rfl, hin6, hl14⟩
  replace hl14 : Lab w2 w14 (bothTs F14 I14 gb 2 20000 L6 bb sb rb 2 y' z ((List.replicate 2 (zt : Int)).set 0 (x : Int)) (List.replicate 2 0) ((zerosL zt [3]).set 0 ys) (zerosL 0 [3]) v1 v2 v3 v4 (.slice (some ⟨vb, 0, none⟩) 3 3) []) := hl14
  clear c0 c1 HLD
  obtain ⟨c0, c1, -, -, -, -, -⟩ := both_cells (hl14).fourth
  have hv6 : some (3 : Int) = some (val 2 [3, 0, 1] L6 t) := load_val2 (k := 1) HRY.out.1 HG5.out.1.pre (by decide) (by rw [val_prefix HG5.out.1.pre HRY.out.2.2.2.2.2.1]; exact HRY.out.2.2.2.2.1) hin6
  have hph6 : phi 2 L6 ≤ 90 := by have := hin6.room; have := HG5.out.2; omega
  have hp46 := HG5.out.1.pre.trans hin6.got.pre
  have ho6 : one < L6.length := Nat.lt_of_lt_of_le HG5.out.1.lt hin6.got.pre.length_le
  have hld := Lab.sload (a := 0) (x := one) (n := 3) (xs := ys) HRY.out.2.1 rfl HRY.out.2.2.1 (by decide) (by decide) (HRY.out.1.keep hp46).mem hin6.got.ok ho6 (by omega) hl14
  replace hld : Calls Tryd.prog 14 #[.pointer (some ⟨sb, 0, none⟩), .int .i64 0, .int .i64 one] w14 _ := hld
  have HLD := Lib.hid hld; have HV6 := Lib.hid (And.intro (Option.some.inj hv6).symm (And.intro hin6.got (And.intro hph6 hp46)))
  clear hld hl14 hv6 hph6 hp46 ho6 hin6
  go_wp2_with fail
  go_at_call 14
  refine HLD.out.mono ?_
  rintro e w15 ⟨L7, u, F15, I15, rfl, hin7, hl15⟩
  replace hl15 : Lab w2 w15 (bothTs F15 I15 gb 2 20000 L7 bb sb rb 2 y' z ((List.replicate 2 (zt : Int)).set 0 (x : Int)) (List.replicate 2 0) ((zerosL zt [3]).set 0 ys) (zerosL 0 [3]) v1 v2 v3 v4 (.slice (some ⟨vb, 0, none⟩) 3 3) []) := hl15
  clear c0 c1 HLD
  have hv7 : some (3 : Int) = some (val 2 [3, 0, 1] L7 u) := load_val2 (k := 1) HRY.out.1 HV6.out.2.2.2 (by decide) (by rw [val_prefix HV6.out.2.1.pre HG5.out.1.lt, HG5.out.1.val]) hin7
  have ht7 : t < L7.length := Nat.lt_of_lt_of_le HV6.out.2.1.lt hin7.got.pre.length_le
  have hvt : val 2 [3, 0, 1] L7 t = 3 := by rw [val_prefix hin7.got.pre HV6.out.2.1.lt]; exact HV6.out.1
  have hi1 := Lab.bis HF.out.2.2.1 (by decide) HB.out.2.2.2 hl15 t ht7 3
  rw [decide_eq_true hvt] at hi1
  have HI1 := Lib.hid hi1; have HL15 := Lib.hid hl15; have HU7 := Lib.hid (And.intro hin7.got (And.intro (Option.some.inj hv7).symm (show phi 2 L7 ≤ 100 by have := hin7.room; have := HV6.out.2.2.1; omega)))
  clear hi1 hl15 hin7 hv7 ht7 hvt
  go_wp2_with fail
  go_at_call 26
  refine HI1.out.mono ?_
  rintro e w16 ⟨rfl, hb16⟩
  have hl16 := HL15.out.later hb16
  have hi2 := Lab.bis HF.out.2.2.1 (by decide) HB.out.2.2.2 hl16 u HU7.out.1.lt 3
  rw [decide_eq_true HU7.out.2.1] at hi2
  have HI2 := Lib.hid hi2; have HL16 := Lib.hid hl16
  clear hi2 hl16 hb16 HI1 HL15
  go_wp2_with fail
  go_at_call 26
  refine HI2.out.mono ?_
  rintro e w17 ⟨rfl, hb17⟩
  have hl17 := HL16.out.later hb17
  clear HI2 HL16 hb17
  obtain ⟨c0, c1, -, -, -, -, -⟩ := both_cells (hl17).fourth
  have hp47 := HV6.out.2.2.2.trans HU7.out.1.pre
  have hi7 : i < L7.length := Nat.lt_of_lt_of_le HRY.out.2.2.2.2.2.1 hp47.length_le
  have hin := Lab.sinside hl17 HRY.out.2.1 HU7.out.1.ok 0 (xs := ys) rfl i hi7 (by rw [HRY.out.2.2.1]; decide) (by have := HU7.out.2.2; omega)
  replace hin : Calls Tryd.prog 19 #[.pointer (some ⟨sb, 0, none⟩), .int .i64 0, .int .i64 i] w17 _ := hin
  have HIN := Lib.hid hin; have HI7 := Lib.hid (And.intro hi7 hp47)
  clear hin hl17 hi7 hp47
  go_wp2_with fail
  go_at_call 19
  refine HIN.out.mono ?_
  rintro e w18 ⟨L8, tin, F18, I18, rfl, hg8, hp8, hl18⟩
  replace hl18 : Lab w2 w18 (bothTs F18 I18 gb 2 20000 L8 bb sb rb 2 y' z ((List.replicate 2 (zt : Int)).set 0 (x : Int)) (List.replicate 2 0) ((zerosL zt [3]).set 0 ys) (zerosL 0 [3]) v1 v2 v3 v4 (.slice (some ⟨vb, 0, none⟩) 3 3) []) := hl18
  clear c0 c1 HIN
  have HG8 := Lib.hid hg8; have HL18 := Lib.hid hl18
  clear hg8 hp8 hl18
  go_wp2
  go_loopw [16] (fun v wx => ∃ m : Nat, m ≤ 4 ∧ v = .int .u64 m ∧ Lab w2 wx (bothTs F18 I18 gb 2 20000 L8 bb sb rb 2 y' z ((List.replicate 2 (zt : Int)).set 0 (x : Int)) (List.replicate 2 0) ((zerosL zt [3]).set 0 ys) (zerosL 0 [3]) v1 v2 v3 v4 (.slice (some ⟨vb, 0, none⟩) 3 3) [])) (fun v _ => 4 - (intOf v).toNat)
  case atStart => exact ⟨0, by decide, rfl, HL18.out⟩
  case round =>
    clear HL18
    obtain ⟨m, hm, rfl, hl⟩ := hrel
    obtain ⟨c0, c1, -, -, -, -, -⟩ := both_cells (hl).fourth
    by_cases hlt : m < 4
    · have hlt' : (m : Int) < 4 := by omega
      have m0 : (0 : Int) ≤ (m : Int) := by omega
      obtain ⟨b3, hb3⟩ : ∃ b3, wr.heap.size = b3 := ⟨_, rfl⟩
      obtain ⟨wa, hwa⟩ : ∃ wa, wr.alloc (.cells #[.int .u64 0, .int .u64 0, .int .u64 m] 40) = wa := ⟨_, rfl⟩
      have hla := hl.later (show Below wr.heap.size wr wa by rw [← hwa]; exact below_new _ _)
      have hvs : SliceOf wa .u64 (.slice (some ⟨b3, 0, none⟩) 3 3) [0, 0, (m : Int)] := slice_of_box (T := 40) (xs := [0, 0, (m : Int)]) (by rw [← hwa, ← hb3]; exact heap_alloc_new wr _)
      have hu : U64s [0, 0, (m : Int)] := by intro v hv; simp at hv; omega
      have hev := eval_any hla.gr (tin : Int) [0, 0, (m : Int)] (.slice (some ⟨b3, 0, none⟩) 3 3) hvs (by simp) hu
      have e1 : evalR 2 [0, 0, (m : Int)] L8 (tin : Int) = (val 2 [0, 0, (m : Int)] L8 tin, 0) := by unfold evalR; rw [if_pos ⟨by omega, by have := HG8.out.lt; omega⟩, Int.toNat_natCast]
      rw [e1] at hev
      have hvi : val 2 [0, 0, (m : Int)] L7 i = (m : Int) := by
        rw [val_prefix HI7.out.2 HRY.out.2.2.2.2.2.1, val_prefix HRY.out.2.2.2.2.2.2.1 HI3.out, val_prefix HG3.out.1.pre HG2.out.1.lt, HG2.out.1.val]
        simp
        omega
      have hvin : val 2 [0, 0, (m : Int)] L8 tin = if (m : Int) < 3 then 1 else 0 := by
        rw [HG8.out.val, hvi, HRY.out.2.2.1]
        rfl
      rw [hvin] at hev
      replace hev : Calls Tryd.prog 15 #[.pointer (some ⟨gb, 0, none⟩), .int .i64 tin, .slice (some ⟨b3, 0, none⟩) 3 3] wa _ := hev
      have HLA := Lib.hid hla
      have c0 := cell_later (show Below wr.heap.size wr wa by rw [← hwa]; exact below_new _ _) c0
      by_cases h3 : (m : Int) < 3
      · rw [if_pos h3] at hev
        have g3 : decide ((m : Int) < 3) = true := decide_eq_true h3
        have HEV := Lib.hid hev
        clear hev hvs hla hl hu hvi hvin e1
        go_wp2_with fail
        go_at_call 15
        refine HEV.out.mono ?_
        rintro e w20 ⟨rfl, hb20⟩
        have HL20 := Lib.hid (HLA.out.later hb20)
        clear hb20 HEV c0 c1 hb3 hwa
        go_wp2
        go_roundw
        case rel => exact ⟨m + 1, by omega, by go_num, HL20.out⟩
        case measure => simp [intOf]; omega
      · rw [if_neg h3] at hev
        have g3 : decide ((m : Int) < 3) = false := decide_eq_false h3
        have HEV := Lib.hid hev
        clear hev hvs hla hl hu hvi hvin e1
        go_wp2_with fail
        go_at_call 15
        refine HEV.out.mono ?_
        rintro e w20 ⟨rfl, hb20⟩
        have HL20 := Lib.hid (HLA.out.later hb20)
        clear hb20 HEV c0 c1 hb3 hwa
        go_wp2
        go_roundw
        case rel => exact ⟨m + 1, by omega, by go_num, HL20.out⟩
        case measure => simp [intOf]; omega
    · obtain rfl : m = 4 := by omega
      have hro := sref_out (Lab.st_read HRY.out.2.1 hl.swap) 2 0 (by simp)
      replace hro : Calls Tryd.prog 12 #[.pointer (some ⟨sb, 0, none⟩), .agg #[.int .i64 2, .int .u64 0]] _ _ := hro
      have HRO := Lib.hid hro; have HL := Lib.hid hl
      clear hro hl
      go_wp2_with fail
      go_at_call 12
      refine HRO.out.mono ?_
      rintro e w21 ⟨rfl, hb21⟩
      have hl21 := HL.out.later hb21
      clear c0 c1 HL HRO hb21
      obtain ⟨c0, c1, -, -, -, -, -⟩ := both_cells (hl21).fourth
      have hlb := Lab.sload_bad HRY.out.2.1 1 (i : Int) (by simp [zerosL]) hl21
      replace hlb : Calls Tryd.prog 14 #[.pointer (some ⟨sb, 0, none⟩), .int .i64 1, .int .i64 i] w21 _ := hlb
      have HLB := Lib.hid hlb
      clear hlb hl21
      go_wp2_with fail
      go_at_call 14
      refine HLB.out.mono ?_
      rintro e w22 ⟨rfl, hl22⟩
      have HL22 := Lib.hid hl22
      clear c0 c1 HLB hl22
      go_wp2_with fail
      go_at_call 12
      refine (sref_nil _ _).mono ?_
      rintro e w23 ⟨rfl, hb23⟩
      have HL23 := Lib.hid (HL22.out.later hb23)
      clear hb23 HL22
      go_wp2_with fail
      go_at_call 14
      refine (Lab.sload_nil _ _ HL23.out).mono ?_
      rintro e w24 ⟨rfl, hl24⟩
      have HL24 := Lib.hid hl24
      clear hl24 HL23
      go_wp2_with fail
      go_at_call 19
      refine (sinside_nil _ _ _).mono ?_
      rintro e w25 ⟨rfl, rfl⟩
      go_wp2_with fail
      go_at_call 25
      refine (example_any _).mono ?_
      rintro e w26 ⟨p1, p2, p3, p4, rfl, -, hb26⟩
      have HL26 := Lib.hid (HL24.out.later hb26)
      clear hb26 HL24
      go_wp2_with fail
      go_at_call 10
      refine (snew_nil _ _ _ _ _ _ ⟨_, rfl⟩ _).mono ?_
      rintro e w27 ⟨rfl, hb27⟩
      have hl27 := HL26.out.later hb27
      clear hb27 HL26
      obtain ⟨c0, c1, -, -, -, -, -⟩ := both_cells (hl27).fourth
      have hsb := sset_bad (Lab.st_read HRY.out.2.1 hl27.swap) hl27.gr 2 (x : Int) (by simp)
      have HSB := Lib.hid hsb; have HL27 := Lib.hid hl27
      clear hsb hl27
      go_wp2_with fail
      go_at_call 24
      refine HSB.out.mono ?_
      rintro e w28 ⟨rfl, rfl⟩
      clear c0 c1 HSB
      go_wp2_with fail
      go_at_call 24
      refine (sset_nil _ _ _).mono ?_
      rintro e w28 ⟨rfl, rfl⟩
      go_wp2_with fail
      go_at_call 13
      refine (Lab.sput_nil _ _ _ HL27.out).mono ?_
      rintro e w29 ⟨rfl, hl29⟩
      have HL29 := Lib.hid hl29
      clear hl29 HL27
      go_wp2_with fail
      go_at_call 27
      refine (scopy_nil _).mono ?_
      rintro e w30 ⟨rfl, rfl⟩
      go_wp2_with fail
      go_at_call 8
      refine (awake30_any (HF.out.2.1.later HL29.out.below)).mono ?_
      rintro e w31 ⟨rfl, hb31⟩
      have HB31 := Lib.hid hb31
      clear hb31
      go_wp2
      go_ret
      have h1 := HL29.out.below.trans (HB31.out.mono HL29.out.below.size)
      exact ⟨rfl, HF.out.2.2.2.trans (h1.mono HF.out.2.2.2.size)⟩
end
end Go.Proofs.YtiklidgcmheofaaDoor
