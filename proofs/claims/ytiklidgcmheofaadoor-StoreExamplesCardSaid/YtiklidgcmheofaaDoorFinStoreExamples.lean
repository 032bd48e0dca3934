/- The law StoreExamples of the seat: called with whatever arguments, it returns true, and its arguments read as before. No condition. -/
import Derived.Test.YtiklidgcmheofaaDoorB20
import Derived.Test.YtiklidgcmheofaaDoorB19
import Derived.Test.YtiklidgcmheofaaDoorB18
import Derived.Test.YtiklidgcmheofaaDoorB17
import Derived.Test.YtiklidgcmheofaaDoorB16
import Derived.Test.YtiklidgcmheofaaDoorB15
import Derived.Test.YtiklidgcmheofaaDoorB14
import Derived.Test.YtiklidgcmheofaaDoorB13
import Derived.Test.YtiklidgcmheofaaDoorB12
import Derived.Test.YtiklidgcmheofaaDoorB11
import Derived.Test.YtiklidgcmheofaaDoorB10
import Derived.Test.YtiklidgcmheofaaDoorB9
import Derived.Test.YtiklidgcmheofaaDoorB8
import Derived.Test.YtiklidgcmheofaaDoorB7
import Derived.Test.YtiklidgcmheofaaDoorB6
import Derived.Test.YtiklidgcmheofaaDoorB5
import Derived.Test.YtiklidgcmheofaaDoorB4
import Derived.Test.YtiklidgcmheofaaDoorB3
import Derived.Test.YtiklidgcmheofaaDoorB2
import Derived.Test.YtiklidgcmheofaaDoorB1
import Derived.Test.YtiklidgcmheofaaDoorD1
import Derived.Test.YtiklidgcmheofaaDoorCards
import Derived.Test.YtiklidgcmheofaaDoorTie
import Derived.WalkKit
import Derived.ProofKit
import Derived.OpenShut
import Derived.ShutString
import Derived.ChangeOld
import Derived.Below
import Derived.Deep.DeepHandedRow
import Derived.Lib.LaidTab
namespace Go.Proofs.YtiklidgcmheofaaDoor.storeExamples
open Go.ChangeShapes Go.WideShapes Go.ChangeAt Go.RowKit
open Go.ChangeMaps (open_string shut_string)

theorem own : ownKnob Tryd.prog.godebug = none := by kernel_rfl
set_option maxRecDepth 100000 in
theorem walk (w : World) (hT : ShpOk w) :
    Calls Tryd.prog 6 #[] w fun e w' => e = .returned (.bool true) ∧ Below w.heap.size w w' := by
  exact storeExamples_walk hT

set_option maxRecDepth 100000 in
theorem shpOk {W : World} (h : laidMetH Tryd.prog Rows.storeExamplesRow.laid W) : ShpOk W := shp_of_laid h

set_option maxRecDepth 100000 in
theorem contract (H : Type) (enc : TypeId × Value → H) (W : World) (base : Nat) (args : Array Value) (ds gs : List (DataW H)) (before : List MemPlace)
    (hval0 : ∀ (j : Nat) t v, Tryd.f6.params[j]? = some t → args[j]? = some v → Value.okWide Tryd.prog W .any base t v)
    (hW : DataW.Whole enc Tryd.prog Tryd.f6.params.toList Rows.storeExamplesSpec.vars false W args.toList ds gs before) (hL : laidMetH Tryd.prog Rows.storeExamplesRow.laid W) :
    Calls Tryd.prog 6 args W fun e W' => ∃ v, e = .returned v ∧ Rows.storeExamplesSpec.post enc Tryd.prog Tryd.f6 false true false false W args v W' := by
  have hval : ∀ (j : Nat) t v, Tryd.f6.params[j]? = some t → args[j]? = some v → Value.okWide Tryd.prog W .any base t v := hval0
  have hW' := hW
  obtain ⟨p, q, hA0, hV, rfl, hfz, hnd⟩ := hW
  have hA : DataW.TrodAll enc Tryd.prog W 0 (fun _ => true) true Tryd.f6.params.toList args.toList ds p := hA0
  rw [Tryd.params6] at hA hval
  obtain ⟨rfl, rfl, rfl⟩ := trodAll_none hA
  obtain ⟨rfl, rfl⟩ := trodVars_none hV
  clear hA0 hval0
  refine (walk  W (shpOk hL) ).mono fun e W' ⟨he, bel⟩ => ?_
  subst he
  exact ⟨_, rfl, _, _, _, [], _, [], hW', trodAll_mk1 (shut_bool Tryd.underlying4 _), trodAll_mk0, rfl, bel.frame _, fun h => by cases h⟩

noncomputable def laidWorld (os : Os) : World :=
  { World.holding Tryd.prog os ⟨#[], #[], []⟩ with heap := (World.holding Tryd.prog os ⟨#[], #[], []⟩).heap.modify 0 fun
      | .cells _ t frozen => .cells #[.bool true, .bool true, .bool false, .int .i64 0, .bool true, .bool true, .bool true, .int .i64 0, .bool true, .bool true, .bool false, .int .i64 1, .bool false, .bool true, .bool true, .int .i64 1, .bool true, .bool false, .bool false, .int .i64 2, .bool false, .bool true, .bool false, .int .i64 2, .bool true, .bool true, .bool false, .int .i64 3, .bool false, .bool false, .bool false, .int .i64 4, .bool false, .bool true, .bool false, .int .i64 4, .bool false, .bool false, .bool false, .int .i64 0] t frozen
      | o => o }
set_option maxRecDepth 100000 in
theorem laid_met (os : Os) : laidMet Tryd.prog Rows.storeExamplesRow.laid ((laidWorld os).forCall (fun _ _ => 0) ⟨#[], #[], []⟩).memory :=
  laidMet_of_run' 8 (by kernel_rfl) (by kernel_rfl)
set_option maxRecDepth 100000 in
theorem reads (os : Os) {H : Type} (enc : TypeId × Value → H) : ∃ places, DataW.whole enc Tryd.prog ((laidWorld os).forCall (fun _ _ => 0) ⟨#[], #[], []⟩).memory Tryd.f6.params.toList Rows.storeExamplesSpec.vars false (#[] : Array Value).toList 8 = some ([], [], places) :=
  ⟨[], by kernel_rfl⟩

set_option maxRecDepth 100000 in
theorem lifted (os : Os) (started : os.Started) (H : Type) (enc : TypeId × Value → H) (F : Stop.Interp) :
    ReturnsInHanded {} Tryd.checked os 6 .any ((OpenSpec.ofChange Rows.storeExamplesSpec).preRow enc Tryd.prog Tryd.f6 Rows.storeExamplesRow.domain false Rows.storeExamplesRow.laid) (((OpenSpec.ofChange Rows.storeExamplesSpec).at F).post enc Tryd.prog Tryd.f6 false true false false) := by
  obtain ⟨places, hx⟩ := reads os enc
  refine returnsInHanded_of_row (C := Tryd.checked) (s := OpenSpec.ofChange Rows.storeExamplesSpec) own started (by kernel_rfl) Tryd.func6
    (witness_row_at (enc := enc) (C := Tryd.checked) false (laidWorld os) #[] rfl (by kernel_rfl) (by kernel_rfl) (by kernel_rfl)
      (OpenSpec.preRow_of_cond 8 hx (by kernel_rfl) (fun k hk => by cases hk) (by kernel_rfl) (laid_met os))) ?_
  intro W base args ds gs before hval hW _ _ _ hL _ _
  exact contract H enc W base args ds gs before hval hW hL

theorem said : Rows.StoreExamplesSaid :=
  OpenClaim.holds_of_cond 6 Tryd.f6 rfl rfl rfl rfl rfl rfl rfl ⟨rfl, rfl, rfl, rfl, rfl⟩ rfl rfl rfl rfl rfl (by kernel_rfl) Tryd.func6 (by kernel_rfl)
    (of_decide_eq_true (by kernel_rfl)) (by unfold Func.isWrapper; first | (rw [if_pos (by decide +kernel)]; kernel_rfl) | (rw [if_neg (by decide +kernel)]; exact ⟨rfl, rfl⟩))
    (fun os started H enc _ F => by rw [OpenClaim.pre_eq_preRow]; exact lifted os started H enc F)

theorem plain (f : FuncId) (fn : Func) (hf : Tryd.pinned.checked.prog.funcNamed "weephole/weepholelaw30.StoreExamples" = some f) (hfn : Tryd.pinned.checked.prog.funcs[f]? = some fn) :
    false = Tryd.pinned.checked.prog.looks [] ∧ ∀ (j : Nat) t, fn.params[j]? = some t → Tryd.pinned.checked.prog.wantsStandIn t = false := by
  obtain rfl : f = 6 := Option.some.inj ((show Tryd.prog.funcNamed "weephole/weepholelaw30.StoreExamples" = some 6 by kernel_rfl).symm.trans hf) |>.symm
  obtain rfl : fn = Tryd.f6 := (Option.some.inj (Tryd.func6.symm.trans hfn)).symm
  refine ⟨by kernel_rfl, fun j t ht => ?_⟩
  rw [Tryd.params6] at ht
  have hm := Array.mem_of_getElem? ht
  simp only [List.mem_toArray, List.not_mem_nil] at hm


theorem proved : Rows.StoreExamplesCardSaid :=
  Claim7.holds_tied_plain_at .later [] _ _ _ _ said (fun _ h => by cases h) (by kernel_rfl) (fun _ h => by cases h) storeExamples_row_tie rfl ⟨rfl, rfl⟩ (by kernel_rfl) rfl plain (by kernel_rfl)
end Go.Proofs.YtiklidgcmheofaaDoor.storeExamples
