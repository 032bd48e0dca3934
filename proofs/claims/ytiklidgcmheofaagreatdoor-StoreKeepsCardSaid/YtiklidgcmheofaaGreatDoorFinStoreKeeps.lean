/- The law StoreKeeps of the seat: called with whatever arguments, it returns true, and its arguments read as before. No condition. -/
import Derived.Test.YtiklidgcmheofaaGreatDoorB23
import Derived.Test.YtiklidgcmheofaaGreatDoorB22
import Derived.Test.YtiklidgcmheofaaGreatDoorB21
import Derived.Test.YtiklidgcmheofaaGreatDoorB20
import Derived.Test.YtiklidgcmheofaaGreatDoorB19
import Derived.Test.YtiklidgcmheofaaGreatDoorB18
import Derived.Test.YtiklidgcmheofaaGreatDoorB17
import Derived.Test.YtiklidgcmheofaaGreatDoorB16
import Derived.Test.YtiklidgcmheofaaGreatDoorB15
import Derived.Test.YtiklidgcmheofaaGreatDoorB14
import Derived.Test.YtiklidgcmheofaaGreatDoorB13
import Derived.Test.YtiklidgcmheofaaGreatDoorB12
import Derived.Test.YtiklidgcmheofaaGreatDoorB11
import Derived.Test.YtiklidgcmheofaaGreatDoorB10
import Derived.Test.YtiklidgcmheofaaGreatDoorB9
import Derived.Test.YtiklidgcmheofaaGreatDoorB8
import Derived.Test.YtiklidgcmheofaaGreatDoorB7
import Derived.Test.YtiklidgcmheofaaGreatDoorB6
import Derived.Test.YtiklidgcmheofaaGreatDoorB5
import Derived.Test.YtiklidgcmheofaaGreatDoorB4
import Derived.Test.YtiklidgcmheofaaGreatDoorB3
import Derived.Test.YtiklidgcmheofaaGreatDoorB2
import Derived.Test.YtiklidgcmheofaaGreatDoorB1
import Derived.Test.YtiklidgcmheofaaGreatDoorD1
import Derived.Test.YtiklidgcmheofaaGreatDoorCards
import Derived.Test.YtiklidgcmheofaaGreatDoorTie
import Derived.WalkKit
import Derived.ProofKit
import Derived.OpenShut
import Derived.ShutString
import Derived.ChangeOld
import Derived.Below
import Derived.Deep.DeepHandedRow
import Derived.Lib.LaidTab
namespace Go.Proofs.YtiklidgcmheofaaGreatDoor.storeKeeps
open Go.ChangeShapes Go.WideShapes Go.ChangeAt Go.RowKit
open Go.ChangeMaps (open_string shut_string)

theorem own : ownKnob Tryz.prog.godebug = none := by kernel_rfl
theorem laidOut : laidOutB Tryz.prog = true := by kernel_rfl
set_option maxRecDepth 100000 in
theorem walk (v0 : Value) (v1 : Value) (v2 : Value) (v3 : Value) {H : Type} {enc : TypeId × Value → H} {base : Nat} (w : World) (hT : ShpOk w) {d0 : DataW H} {p0 : List MemPlace} (h0 : DataW.Trod enc Tryz.prog w 0 (fun _ => true) true 26 v0 d0 p0) (o0 : Value.okWide Tryz.prog w .any base 26 v0) {d1 : DataW H} {p1 : List MemPlace} (h1 : DataW.Trod enc Tryz.prog w 0 (fun _ => true) true 27 v1 d1 p1) (o1 : Value.okWide Tryz.prog w .any base 27 v1) {d2 : DataW H} {p2 : List MemPlace} (h2 : DataW.Trod enc Tryz.prog w 0 (fun _ => true) true 28 v2 d2 p2) (o2 : Value.okWide Tryz.prog w .any base 28 v2) {d3 : DataW H} {p3 : List MemPlace} (h3 : DataW.Trod enc Tryz.prog w 0 (fun _ => true) true 28 v3 d3 p3) (o3 : Value.okWide Tryz.prog w .any base 28 v3) :
    Calls Tryz.prog 5 #[v0, v1, v2, v3] w fun e w' => e = .returned (.bool true) ∧ Below w.heap.size w w' := by
  obtain ⟨f, x1, x2, x3, x4, rfl, hf⟩ := flat_of_trod h0 o0
  obtain ⟨a1, n1, cap1, vs, rfl, hs1, hx1, hl1, hn1⟩ := ints_of_trod Tryz.underlying27 Tryz.underlying34 (by kernel_rfl) h1 o1
  obtain ⟨l, ha⟩ := acts_of_trod h2 o2
  obtain ⟨m, hb⟩ := acts_of_trod h3 o3
  exact storeKeeps_walk f x1 x2 x3 x4 _ _ _ hf hT vs hs1 (u64s_of hx1) l ha m hb

set_option maxRecDepth 100000 in
theorem shpOk {W : World} (h : laidMetH Tryz.prog Rows.storeKeepsRow.laid W) : ShpOk W := shp_of_laid h

set_option maxRecDepth 100000 in
theorem contract (H : Type) (enc : TypeId × Value → H) (W : World) (base : Nat) (args : Array Value) (ds gs : List (DataW H)) (before : List MemPlace)
    (hval0 : ∀ (j : Nat) t v, Tryz.f5.params[j]? = some t → args[j]? = some v → Value.okWide Tryz.prog W .any base t v)
    (hW : DataW.Whole enc Tryz.prog Tryz.f5.params.toList Rows.storeKeepsSpec.vars false W args.toList ds gs before) (hL : laidMetH Tryz.prog Rows.storeKeepsRow.laid W) :
    Calls Tryz.prog 5 args W fun e W' => ∃ v, e = .returned v ∧ Rows.storeKeepsSpec.post enc Tryz.prog Tryz.f5 false true false false W args v W' := by
  have hval : ∀ (j : Nat) t v, Tryz.f5.params[j]? = some t → args[j]? = some v → Value.okWide Tryz.prog W .any base t v := hval0
  have hW' := hW
  obtain ⟨p, q, hA0, hV, rfl, hfz, hnd⟩ := hW
  have hA : DataW.TrodAll enc Tryz.prog W 0 (fun _ => true) true Tryz.f5.params.toList args.toList ds p := hA0
  rw [Tryz.params5] at hA hval
  obtain ⟨v0, vs0, d0, ds0, p0, q0, hargs, rfl, rfl, h0, r0⟩ := trodAll_cons hA
  obtain ⟨v1, vs1, d1, ds1, p1, q1, rfl, rfl, rfl, h1, r1⟩ := trodAll_cons r0
  obtain ⟨v2, vs2, d2, ds2, p2, q2, rfl, rfl, rfl, h2, r2⟩ := trodAll_cons r1
  obtain ⟨v3, vs3, d3, ds3, p3, q3, rfl, rfl, rfl, h3, r3⟩ := trodAll_cons r2
  obtain ⟨rfl, rfl, rfl⟩ := trodAll_nil r3
  obtain rfl : args = #[v0, v1, v2, v3] := by cases args; simp_all
  obtain ⟨rfl, rfl⟩ := trodVars_none hV
  have lt0 : ∀ x ∈ p0, x.block < W.heap.size := by obtain ⟨m, hm⟩ := h0; exact DataW.trod_lt m _ _ _ hm
  have lt1 : ∀ x ∈ p1, x.block < W.heap.size := by obtain ⟨m, hm⟩ := h1; exact DataW.trod_lt m _ _ _ hm
  have lt2 : ∀ x ∈ p2, x.block < W.heap.size := by obtain ⟨m, hm⟩ := h2; exact DataW.trod_lt m _ _ _ hm
  have lt3 : ∀ x ∈ p3, x.block < W.heap.size := by obtain ⟨m, hm⟩ := h3; exact DataW.trod_lt m _ _ _ hm
  clear hA0 hval0
  refine (walk (enc := enc) (base := base) v0 v1 v2 v3 W (shpOk hL) h0 (hval 0 26 v0 rfl rfl) h1 (hval 1 27 v1 rfl rfl) h2 (hval 2 28 v2 rfl rfl) h3 (hval 3 28 v3 rfl rfl)).mono fun e W' ⟨he, bel⟩ => ?_
  subst he
  exact ⟨_, rfl, _, _, _, [], _, [], hW', trodAll_mk1 (shut_bool Tryz.underlying4 _), (trodAll_cons_mk (Below.trod laidOut (by kernel_rfl) (of_decide_eq_true (by kernel_rfl)) h0 bel lt0) (trodAll_cons_mk (Below.trod laidOut (by kernel_rfl) (of_decide_eq_true (by kernel_rfl)) h1 bel lt1) (trodAll_cons_mk (Below.trod laidOut (by kernel_rfl) (of_decide_eq_true (by kernel_rfl)) h2 bel lt2) (trodAll_cons_mk (Below.trod laidOut (by kernel_rfl) (of_decide_eq_true (by kernel_rfl)) h3 bel lt3) trodAll_mk0)))), rfl, bel.frame _, fun h => by cases h⟩

noncomputable def laidWorld (os : Os) : World :=
  { World.holding Tryz.prog os ⟨#[], #[], []⟩ with heap := (World.holding Tryz.prog os ⟨#[], #[], []⟩).heap.modify 0 fun
      | .cells _ t frozen => .cells #[.bool true, .bool true, .bool false, .int .i64 0, .bool true, .bool true, .bool true, .int .i64 0, .bool true, .bool true, .bool false, .int .i64 1, .bool false, .bool true, .bool true, .int .i64 1, .bool true, .bool false, .bool false, .int .i64 2, .bool false, .bool true, .bool false, .int .i64 2, .bool true, .bool true, .bool false, .int .i64 3, .bool false, .bool false, .bool false, .int .i64 4, .bool false, .bool true, .bool false, .int .i64 4, .bool false, .bool false, .bool false, .int .i64 0] t frozen
      | o => o }
set_option maxRecDepth 100000 in
theorem laid_met (os : Os) : laidMet Tryz.prog Rows.storeKeepsRow.laid ((laidWorld os).forCall (fun _ _ => 0) ⟨#[], #[.agg #[.int .i64 0, .int .i64 0, .slice none 0 0, .slice none 0 0, .slice none 0 0, .slice none 0 0], .slice none 0 0, .slice none 0 0, .slice none 0 0], []⟩).memory :=
  laidMet_of_run' 8 (by kernel_rfl) (by kernel_rfl)
set_option maxRecDepth 100000 in
theorem reads (os : Os) {H : Type} (enc : TypeId × Value → H) : ∃ places, DataW.whole enc Tryz.prog ((laidWorld os).forCall (fun _ _ => 0) ⟨#[], #[.agg #[.int .i64 0, .int .i64 0, .slice none 0 0, .slice none 0 0, .slice none 0 0, .slice none 0 0], .slice none 0 0, .slice none 0 0, .slice none 0 0], []⟩).memory Tryz.f5.params.toList Rows.storeKeepsSpec.vars false (#[.agg #[.int .i64 0, .int .i64 0, .slice none 0 0, .slice none 0 0, .slice none 0 0, .slice none 0 0], .slice none 0 0, .slice none 0 0, .slice none 0 0] : Array Value).toList 8 = some ([.agg [.lit (.int .i64 0), .lit (.int .i64 0), .nil, .nil, .nil, .nil], .nil, .nil, .nil], [], places) :=
  ⟨[], by kernel_rfl⟩

set_option maxRecDepth 100000 in
theorem lifted (os : Os) (started : os.Started) (H : Type) (enc : TypeId × Value → H) (F : Stop.Interp) :
    ReturnsInHanded {} Tryz.checked os 5 .any ((OpenSpec.ofChange Rows.storeKeepsSpec).preRow enc Tryz.prog Tryz.f5 Rows.storeKeepsRow.domain false Rows.storeKeepsRow.laid) (((OpenSpec.ofChange Rows.storeKeepsSpec).at F).post enc Tryz.prog Tryz.f5 false true false false) := by
  obtain ⟨places, hx⟩ := reads os enc
  refine returnsInHanded_of_row (C := Tryz.checked) (s := OpenSpec.ofChange Rows.storeKeepsSpec) own started (by kernel_rfl) Tryz.func5
    (witness_row_at (enc := enc) (C := Tryz.checked) false (laidWorld os) #[.agg #[.int .i64 0, .int .i64 0, .slice none 0 0, .slice none 0 0, .slice none 0 0, .slice none 0 0], .slice none 0 0, .slice none 0 0, .slice none 0 0] rfl (by kernel_rfl) (by kernel_rfl) (by kernel_rfl)
      (OpenSpec.preRow_of_cond 8 hx (by kernel_rfl) (fun k hk => by cases hk) (by kernel_rfl) (laid_met os))) ?_
  intro W base args ds gs before hval hW _ _ _ hL _ _
  exact contract H enc W base args ds gs before hval hW hL

theorem said : Rows.StoreKeepsSaid :=
  OpenClaim.holds_of_cond 5 Tryz.f5 rfl rfl rfl rfl rfl rfl rfl ⟨rfl, rfl, rfl, rfl, rfl⟩ rfl rfl rfl rfl rfl (by kernel_rfl) Tryz.func5 (by kernel_rfl)
    (of_decide_eq_true (by kernel_rfl)) (by unfold Func.isWrapper; first | (rw [if_pos (by decide +kernel)]; kernel_rfl) | (rw [if_neg (by decide +kernel)]; exact ⟨rfl, rfl⟩))
    (fun os started H enc _ F => by rw [OpenClaim.pre_eq_preRow]; exact lifted os started H enc F)

theorem plain (f : FuncId) (fn : Func) (hf : Tryz.pinned.checked.prog.funcNamed "weephole/weepholelaw30.StoreKeeps" = some f) (hfn : Tryz.pinned.checked.prog.funcs[f]? = some fn) :
    false = Tryz.pinned.checked.prog.looks [] ∧ ∀ (j : Nat) t, fn.params[j]? = some t → Tryz.pinned.checked.prog.wantsStandIn t = false := by
  obtain rfl : f = 5 := Option.some.inj ((show Tryz.prog.funcNamed "weephole/weepholelaw30.StoreKeeps" = some 5 by kernel_rfl).symm.trans hf) |>.symm
  obtain rfl : fn = Tryz.f5 := (Option.some.inj (Tryz.func5.symm.trans hfn)).symm
  refine ⟨by kernel_rfl, fun j t ht => ?_⟩
  rw [Tryz.params5] at ht
  have hm := Array.mem_of_getElem? ht
  simp only [List.mem_toArray, List.mem_cons, List.not_mem_nil, or_false] at hm
  rcases hm with rfl | rfl | rfl | rfl
  · exact (show Tryz.prog.wantsStandIn 26 = false by kernel_rfl)
  · exact (show Tryz.prog.wantsStandIn 27 = false by kernel_rfl)
  · exact (show Tryz.prog.wantsStandIn 28 = false by kernel_rfl)
  · exact (show Tryz.prog.wantsStandIn 28 = false by kernel_rfl)

theorem proved : Rows.StoreKeepsCardSaid :=
  Claim7.holds_tied_plain_at .later [] _ _ _ _ said (fun _ h => by cases h) (by kernel_rfl) (fun _ h => by cases h) storeKeeps_row_tie rfl ⟨rfl, rfl⟩ (by kernel_rfl) rfl plain (by kernel_rfl)
end Go.Proofs.YtiklidgcmheofaaGreatDoor.storeKeeps
