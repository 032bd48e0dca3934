/- The law TwinAgrees of the seat: called with whatever arguments, it returns true, and its arguments read as before. No condition. -/
import Derived.Test.YteamnchoddegpaaGreatDoorB1
import Derived.Test.YteamnchoddegpaaGreatDoorB2
import Derived.Test.YteamnchoddegpaaGreatDoorB3
import Derived.Test.YteamnchoddegpaaGreatDoorB4
import Derived.Test.YteamnchoddegpaaGreatDoorB5
import Derived.Test.YteamnchoddegpaaGreatDoorB6
import Derived.Test.YteamnchoddegpaaGreatDoorB7
import Derived.Test.YteamnchoddegpaaGreatDoorB8
import Derived.Test.YteamnchoddegpaaGreatDoorB9
import Derived.Test.YteamnchoddegpaaGreatDoorB10
import Derived.Test.YteamnchoddegpaaGreatDoorB11
import Derived.Test.YteamnchoddegpaaGreatDoorB12
import Derived.Test.YteamnchoddegpaaGreatDoorB13
import Derived.Test.YteamnchoddegpaaGreatDoorB14
import Derived.Test.YteamnchoddegpaaGreatDoorB15
import Derived.Test.YteamnchoddegpaaGreatDoorB16
import Derived.Test.YteamnchoddegpaaGreatDoorB17
import Derived.Test.YteamnchoddegpaaGreatDoorB18
import Derived.Test.YteamnchoddegpaaGreatDoorB19
import Derived.Test.YteamnchoddegpaaGreatDoorB20
import Derived.Test.YteamnchoddegpaaGreatDoorB21
import Derived.Test.YteamnchoddegpaaGreatDoorB22
import Derived.Test.YteamnchoddegpaaGreatDoorB23
import Derived.Test.YteamnchoddegpaaGreatDoorCards
import Derived.Test.YteamnchoddegpaaGreatDoorTie
import Derived.WalkKit
import Derived.ProofKit
import Derived.OpenShut
import Derived.ShutString
import Derived.ChangeOld
import Derived.Below
import Derived.Deep.DeepHandedRow
import Derived.Lib.LaidTab
namespace Go.Proofs.YteamnchoddegpaaGreatDoor.twinAgrees
open Go.ChangeShapes Go.WideShapes Go.ChangeAt Go.RowKit
open Go.ChangeMaps (open_string shut_string)

theorem own : ownKnob Tryz.prog.godebug = none := by kernel_rfl
theorem laidOut : laidOutB Tryz.prog = true := by kernel_rfl
set_option maxRecDepth 100000 in
theorem walk (a0 : Int) (v1 : Value) (a2 : Int) (v3 : Value) (a4 : Int) (v5 : Value) (a6 : Int) (v7 : Value) {H : Type} {enc : TypeId × Value → H} {base : Nat} (w : World) (hT : TabOk w) (_w0 : (Lit.int .i64 a0).wf = true) {d1 : DataW H} {p1 : List MemPlace} (h1 : DataW.Trod enc Tryz.prog w 0 (fun _ => true) true 22 v1 d1 p1) (o1 : Value.okWide Tryz.prog w .any base 22 v1) (_w2 : (Lit.int .i64 a2).wf = true) {d3 : DataW H} {p3 : List MemPlace} (h3 : DataW.Trod enc Tryz.prog w 0 (fun _ => true) true 23 v3 d3 p3) (o3 : Value.okWide Tryz.prog w .any base 23 v3) (_w4 : (Lit.int .i64 a4).wf = true) {d5 : DataW H} {p5 : List MemPlace} (h5 : DataW.Trod enc Tryz.prog w 0 (fun _ => true) true 24 v5 d5 p5) (o5 : Value.okWide Tryz.prog w .any base 24 v5) (w6 : (Lit.int .u8 a6).wf = true) {d7 : DataW H} {p7 : List MemPlace} (h7 : DataW.Trod enc Tryz.prog w 0 (fun _ => true) true 25 v7 d7 p7) (o7 : Value.okWide Tryz.prog w .any base 25 v7) :
    Calls Tryz.prog 5 #[.int .i64 a0, v1, .int .i64 a2, v3, .int .i64 a4, v5, .int .u8 a6, v7] w fun e w' => e = .returned (.bool true) ∧ Below w.heap.size w w' := by
  obtain ⟨rs, hr⟩ := raws_of_trod h1 o1
  obtain ⟨os, hv, hn⟩ := pairs_of_trod h3 o3
  obtain ⟨a5, n5, cap5, ls, rfl, hs5, hx5, hl5, hn5⟩ := ints_of_trod Tryz.underlying24 Tryz.underlying3 (by kernel_rfl) h5 o5
  obtain ⟨a7, n7, cap7, vs, rfl, hs7, hx7, hl7, hn7⟩ := ints_of_trod Tryz.underlying25 Tryz.underlying43 (by kernel_rfl) h7 o7
  have b6 := Go.bounds_u8 w6
  obtain ⟨t, rfl⟩ := Int.eq_ofNat_of_zero_le b6.1
  exact twinAgrees_walk a0 a2 a4 t (by omega) v1 v3 _ _ w hT rs hr os hv hn ls hs5 vs hs7 (u64s_of hx7)

theorem gTab : Tryz.prog.globalNamed "math/bits.deBruijn32tab" = some 0 := by kernel_rfl
theorem gTabType : (Tryz.prog.globals[0]?).map (·.type) = some 162 := by kernel_rfl
theorem cellsArr : Tryz.prog.cellsOf 162 = 32 := by kernel_rfl
theorem cellsOne : Tryz.prog.cellsOf 5 = 1 := by kernel_rfl
set_option maxRecDepth 100000 in
theorem table {W : World} (h : laidMetH Tryz.prog Rows.twinAgreesRow.laid W) : Lib.TabIs Tryz.prog W "math/bits.deBruijn32tab" .u8 [0, 1, 28, 2, 29, 14, 24, 3, 30, 22, 20, 15, 25, 17, 4, 8, 31, 27, 13, 23, 21, 19, 16, 7, 26, 12, 18, 6, 11, 5, 10, 9] :=
  Lib.tabIs_of_head (rest := []) gTab gTabType Tryz.underlying162 Tryz.underlying5 cellsOne cellsArr h
set_option maxRecDepth 100000 in
theorem tabOk {W : World} (h : laidMetH Tryz.prog Rows.twinAgreesRow.laid W) : TabOk W := fun j hj => by
  rw [(table h).cell gTab j hj]
  congr 2
  revert j
  decide

set_option maxRecDepth 100000 in
theorem contract (H : Type) (enc : TypeId × Value → H) (W : World) (base : Nat) (args : Array Value) (ds gs : List (DataW H)) (before : List MemPlace)
    (hval0 : ∀ (j : Nat) t v, Tryz.f5.params[j]? = some t → args[j]? = some v → Value.okWide Tryz.prog W .any base t v)
    (hW : DataW.Whole enc Tryz.prog Tryz.f5.params.toList Rows.twinAgreesSpec.vars false W args.toList ds gs before) (hL : laidMetH Tryz.prog Rows.twinAgreesRow.laid W) :
    Calls Tryz.prog 5 args W fun e W' => ∃ v, e = .returned v ∧ Rows.twinAgreesSpec.post enc Tryz.prog Tryz.f5 false true false false W args v W' := by
  have hval : ∀ (j : Nat) t v, Tryz.f5.params[j]? = some t → args[j]? = some v → Value.okWide Tryz.prog W .any base t v := hval0
  have hW' := hW
  obtain ⟨p, q, hA0, hV, rfl, hfz, hnd⟩ := hW
  have hA : DataW.TrodAll enc Tryz.prog W 0 (fun _ => true) true Tryz.f5.params.toList args.toList ds p := hA0
  rw [Tryz.params5] at hA hval
  obtain ⟨v0, vs0, d0, ds0, p0, q0, hargs, rfl, rfl, h0, r0⟩ := trodAll_cons hA
  obtain ⟨v1, vs1, d1, ds1, p1, q1, rfl, rfl, rfl, h1, r1⟩ := trodAll_cons r0
  obtain ⟨v2, vs2, d2, ds2, p2, q2, rfl, rfl, rfl, h2, r2⟩ := trodAll_cons r1
  obtain ⟨v3, vs3, d3, ds3, p3, q3, rfl, rfl, rfl, h3, r3⟩ := trodAll_cons r2
  obtain ⟨v4, vs4, d4, ds4, p4, q4, rfl, rfl, rfl, h4, r4⟩ := trodAll_cons r3
  obtain ⟨v5, vs5, d5, ds5, p5, q5, rfl, rfl, rfl, h5, r5⟩ := trodAll_cons r4
  obtain ⟨v6, vs6, d6, ds6, p6, q6, rfl, rfl, rfl, h6, r6⟩ := trodAll_cons r5
  obtain ⟨v7, vs7, d7, ds7, p7, q7, rfl, rfl, rfl, h7, r7⟩ := trodAll_cons r6
  obtain ⟨rfl, rfl, rfl⟩ := trodAll_nil r7
  obtain rfl : args = #[v0, v1, v2, v3, v4, v5, v6, v7] := by cases args; simp_all
  obtain ⟨rfl, rfl⟩ := trodVars_none hV
  obtain ⟨a0, rfl, rfl, rfl, w0⟩ := open_int Tryz.underlying3 (hval 0 3 v0 rfl rfl) h0
  have lt1 : ∀ x ∈ p1, x.block < W.heap.size := by obtain ⟨m, hm⟩ := h1; exact DataW.trod_lt m _ _ _ hm
  obtain ⟨a2, rfl, rfl, rfl, w2⟩ := open_int Tryz.underlying3 (hval 2 3 v2 rfl rfl) h2
  have lt3 : ∀ x ∈ p3, x.block < W.heap.size := by obtain ⟨m, hm⟩ := h3; exact DataW.trod_lt m _ _ _ hm
  obtain ⟨a4, rfl, rfl, rfl, w4⟩ := open_int Tryz.underlying3 (hval 4 3 v4 rfl rfl) h4
  have lt5 : ∀ x ∈ p5, x.block < W.heap.size := by obtain ⟨m, hm⟩ := h5; exact DataW.trod_lt m _ _ _ hm
  obtain ⟨a6, rfl, rfl, rfl, w6⟩ := open_int Tryz.underlying5 (hval 6 5 v6 rfl rfl) h6
  have lt7 : ∀ x ∈ p7, x.block < W.heap.size := by obtain ⟨m, hm⟩ := h7; exact DataW.trod_lt m _ _ _ hm
  clear hA0 hval0
  refine (walk (enc := enc) (base := base) a0 v1 a2 v3 a4 v5 a6 v7 W (tabOk hL) w0 h1 (hval 1 22 v1 rfl rfl) w2 h3 (hval 3 23 v3 rfl rfl) w4 h5 (hval 5 24 v5 rfl rfl) w6 h7 (hval 7 25 v7 rfl rfl)).mono fun e W' ⟨he, bel⟩ => ?_
  subst he
  exact ⟨_, rfl, _, _, _, [], _, [], hW', trodAll_mk1 (shut_bool Tryz.underlying4 _), (trodAll_cons_mk (shut_int Tryz.underlying3 w0) (trodAll_cons_mk (Below.trod laidOut (by kernel_rfl) (of_decide_eq_true (by kernel_rfl)) h1 bel lt1) (trodAll_cons_mk (shut_int Tryz.underlying3 w2) (trodAll_cons_mk (Below.trod laidOut (by kernel_rfl) (of_decide_eq_true (by kernel_rfl)) h3 bel lt3) (trodAll_cons_mk (shut_int Tryz.underlying3 w4) (trodAll_cons_mk (Below.trod laidOut (by kernel_rfl) (of_decide_eq_true (by kernel_rfl)) h5 bel lt5) (trodAll_cons_mk (shut_int Tryz.underlying5 w6) (trodAll_cons_mk (Below.trod laidOut (by kernel_rfl) (of_decide_eq_true (by kernel_rfl)) h7 bel lt7) trodAll_mk0)))))))), rfl, bel.frame _, fun h => by cases h⟩

noncomputable def laidWorld (os : Os) : World :=
  { World.holding Tryz.prog os ⟨#[], #[], []⟩ with heap := (World.holding Tryz.prog os ⟨#[], #[], []⟩).heap.modify 0 fun
      | .cells _ t frozen => .cells #[.int .u8 0, .int .u8 1, .int .u8 28, .int .u8 2, .int .u8 29, .int .u8 14, .int .u8 24, .int .u8 3, .int .u8 30, .int .u8 22, .int .u8 20, .int .u8 15, .int .u8 25, .int .u8 17, .int .u8 4, .int .u8 8, .int .u8 31, .int .u8 27, .int .u8 13, .int .u8 23, .int .u8 21, .int .u8 19, .int .u8 16, .int .u8 7, .int .u8 26, .int .u8 12, .int .u8 18, .int .u8 6, .int .u8 11, .int .u8 5, .int .u8 10, .int .u8 9] t frozen
      | o => o }
set_option maxRecDepth 100000 in
theorem laid_met (os : Os) : laidMet Tryz.prog Rows.twinAgreesRow.laid ((laidWorld os).forCall (fun _ _ => 0) ⟨#[], #[.int .i64 0, .slice none 0 0, .int .i64 0, .slice none 0 0, .int .i64 0, .slice none 0 0, .int .u8 0, .slice none 0 0], []⟩).memory :=
  laidMet_of_run' 8 (by kernel_rfl) (by kernel_rfl)
set_option maxRecDepth 100000 in
theorem reads (os : Os) {H : Type} (enc : TypeId × Value → H) : ∃ places, DataW.whole enc Tryz.prog ((laidWorld os).forCall (fun _ _ => 0) ⟨#[], #[.int .i64 0, .slice none 0 0, .int .i64 0, .slice none 0 0, .int .i64 0, .slice none 0 0, .int .u8 0, .slice none 0 0], []⟩).memory Tryz.f5.params.toList Rows.twinAgreesSpec.vars false (#[.int .i64 0, .slice none 0 0, .int .i64 0, .slice none 0 0, .int .i64 0, .slice none 0 0, .int .u8 0, .slice none 0 0] : Array Value).toList 8 = some ([.lit (.int .i64 0), .nil, .lit (.int .i64 0), .nil, .lit (.int .i64 0), .nil, .lit (.int .u8 0), .nil], [], places) :=
  ⟨[], by kernel_rfl⟩

set_option maxRecDepth 100000 in
theorem lifted (os : Os) (started : os.Started) (H : Type) (enc : TypeId × Value → H) (F : Stop.Interp) :
    ReturnsInHanded {} Tryz.checked os 5 .any ((OpenSpec.ofChange Rows.twinAgreesSpec).preRow enc Tryz.prog Tryz.f5 Rows.twinAgreesRow.domain false Rows.twinAgreesRow.laid) (((OpenSpec.ofChange Rows.twinAgreesSpec).at F).post enc Tryz.prog Tryz.f5 false true false false) := by
  obtain ⟨places, hx⟩ := reads os enc
  refine returnsInHanded_of_row (C := Tryz.checked) (s := OpenSpec.ofChange Rows.twinAgreesSpec) own started (by kernel_rfl) Tryz.func5
    (witness_row_at (enc := enc) (C := Tryz.checked) false (laidWorld os) #[.int .i64 0, .slice none 0 0, .int .i64 0, .slice none 0 0, .int .i64 0, .slice none 0 0, .int .u8 0, .slice none 0 0] rfl (by kernel_rfl) (by kernel_rfl) (by kernel_rfl)
      (OpenSpec.preRow_of_cond 8 hx (by kernel_rfl) (fun k hk => by cases hk) (by kernel_rfl) (laid_met os))) ?_
  intro W base args ds gs before hval hW _ _ _ hL _ _
  exact contract H enc W base args ds gs before hval hW hL

theorem said : Rows.TwinAgreesSaid :=
  OpenClaim.holds_of_cond 5 Tryz.f5 rfl rfl rfl rfl rfl rfl rfl ⟨rfl, rfl, rfl, rfl, rfl⟩ rfl rfl rfl rfl rfl (by kernel_rfl) Tryz.func5 (by kernel_rfl)
    (of_decide_eq_true (by kernel_rfl)) (by unfold Func.isWrapper; first | (rw [if_pos (by decide +kernel)]; kernel_rfl) | (rw [if_neg (by decide +kernel)]; exact ⟨rfl, rfl⟩))
    (fun os started H enc _ F => by rw [OpenClaim.pre_eq_preRow]; exact lifted os started H enc F)

theorem plain (f : FuncId) (fn : Func) (hf : Tryz.pinned.checked.prog.funcNamed "weephole/weepholelaw35.TwinAgrees" = some f) (hfn : Tryz.pinned.checked.prog.funcs[f]? = some fn) :
    true = Tryz.pinned.checked.prog.looks [] ∧ ∀ (j : Nat) t, fn.params[j]? = some t → Tryz.pinned.checked.prog.wantsStandIn t = false := by
  obtain rfl : f = 5 := Option.some.inj ((show Tryz.prog.funcNamed "weephole/weepholelaw35.TwinAgrees" = some 5 by kernel_rfl).symm.trans hf) |>.symm
  obtain rfl : fn = Tryz.f5 := (Option.some.inj (Tryz.func5.symm.trans hfn)).symm
  refine ⟨by kernel_rfl, fun j t ht => ?_⟩
  rw [Tryz.params5] at ht
  have hm := Array.mem_of_getElem? ht
  simp only [List.mem_toArray, List.mem_cons, List.not_mem_nil, or_false] at hm
  rcases hm with rfl | rfl | rfl | rfl | rfl | rfl | rfl | rfl
  · exact (show Tryz.prog.wantsStandIn 3 = false by kernel_rfl)
  · exact (show Tryz.prog.wantsStandIn 22 = false by kernel_rfl)
  · exact (show Tryz.prog.wantsStandIn 3 = false by kernel_rfl)
  · exact (show Tryz.prog.wantsStandIn 23 = false by kernel_rfl)
  · exact (show Tryz.prog.wantsStandIn 3 = false by kernel_rfl)
  · exact (show Tryz.prog.wantsStandIn 24 = false by kernel_rfl)
  · exact (show Tryz.prog.wantsStandIn 5 = false by kernel_rfl)
  · exact (show Tryz.prog.wantsStandIn 25 = false by kernel_rfl)

theorem proved : Rows.TwinAgreesCardSaid :=
  Claim7.holds_tied_plain_at .later [] _ _ _ _ said (fun _ h => by cases h) (by kernel_rfl) (fun _ h => by cases h) twinAgrees_row_tie rfl ⟨rfl, rfl⟩ (by kernel_rfl) rfl plain (by kernel_rfl)
end Go.Proofs.YteamnchoddegpaaGreatDoor.twinAgrees
