/- The law EvalLocal of the seat: called with whatever arguments, it returns true, and its arguments read as before. No condition. -/
import Derived.Test.YteofgmjejocleaaRows
import Derived.Test.YteofgmjejocleaaEvalK
import Derived.WalkKit
import Derived.ProofKit
import Derived.OpenShut
import Derived.ShutString
import Derived.ChangeOld
import Derived.Below
namespace Go.Proofs.Yteofgmjejocleaa.evalLocal
open Go.ChangeShapes Go.WideShapes Go.ChangeAt Go.RowKit
open Go.ChangeMaps (open_string shut_string)

theorem own : ownKnob Try.prog.godebug = none := by kernel_rfl
theorem laidOut : laidOutB Try.prog = true := by kernel_rfl
set_option maxRecDepth 100000 in
theorem walk (a0 : Int) (v1 : Value) (v2 : Value) (a3 : Int) (v4 : Value) (a5 : Int) {H : Type} {enc : TypeId × Value → H} {base : Nat} (w : World) (_w0 : (Lit.int .i64 a0).wf = true) {d1 : DataW H} {p1 : List MemPlace} (h1 : DataW.Trod enc Try.prog w 0 (fun _ => true) true 44 v1 d1 p1) (o1 : Value.okWide Try.prog w .any base 44 v1) {d2 : DataW H} {p2 : List MemPlace} (h2 : DataW.Trod enc Try.prog w 0 (fun _ => true) true 44 v2 d2 p2) (o2 : Value.okWide Try.prog w .any base 44 v2) (_w3 : (Lit.int .i64 a3).wf = true) {d4 : DataW H} {p4 : List MemPlace} (h4 : DataW.Trod enc Try.prog w 0 (fun _ => true) true 29 v4 d4 p4) (o4 : Value.okWide Try.prog w .any base 29 v4) (w5 : (Lit.int .u64 a5).wf = true) :
    Calls Try.prog 8 #[.int .i64 a0, v1, v2, .int .i64 a3, v4, .int .u64 a5] w fun e w' => e = .returned (.bool true) ∧ Below w.heap.size w w' := by
  obtain ⟨qs, hv, hq⟩ := asks_of_trod h1 o1
  obtain ⟨qs2, hv2, hq2⟩ := asks_of_trod h2 o2
  obtain ⟨a4, n4, cap4, vals, rfl, hs4, hx4, hl4, hn4⟩ := ints_of_trod Try.underlying29 Try.underlying25 (by kernel_rfl) h4 o4
  exact evalLocal_walk a0 a3 a5 v1 v2 _ qs qs2 hv hq (cap_of_trod Try.underlying44 h1 o1) hv2 hq2 vals hs4 (u64s_of hx4) (by omega) (cap_of_trod Try.underlying29 h4 o4) (Go.bounds_u64 w5)

set_option maxRecDepth 100000 in
theorem lifted (os : Os) (started : os.Started) (H : Type) (enc : TypeId × Value → H) :
    ReturnsInHanded {} Try.checked os 8 .any (Rows.evalLocalSpec.pre6 enc Try.prog Try.f8 Rows.evalLocalRow.domain false) (Rows.evalLocalSpec.post enc Try.prog Try.f8 false true false false) := by
  refine returnsInHanded_of_change (C := Try.checked) own started (by kernel_rfl) Try.func8
    (ChangeSpec.witness6 (enc := enc) (C := Try.checked) false ⟨#[], #[.int .i64 0, .slice none 0 0, .slice none 0 0, .int .i64 0, .slice none 0 0, .int .u64 0], []⟩ 8 (by kernel_rfl) (by kernel_rfl) (by kernel_rfl) (by kernel_rfl)) ?_
  intro W base args ds gs before hval0 hW hcnd _
  have hval : ∀ (j : Nat) t v, Try.f8.params[j]? = some t → args[j]? = some v → Value.okWide Try.prog W .any base t v := hval0
  have hW' := hW
  obtain ⟨p, q, hA0, hV, rfl, hfz, hnd⟩ := hW
  have hA : DataW.TrodAll enc Try.prog W 0 (fun _ => true) true Try.f8.params.toList args.toList ds p := hA0
  rw [Try.params8] at hA hval
  obtain ⟨v0, vs0, d0, ds0, p0, q0, hargs, rfl, rfl, h0, r0⟩ := trodAll_cons hA
  obtain ⟨v1, vs1, d1, ds1, p1, q1, rfl, rfl, rfl, h1, r1⟩ := trodAll_cons r0
  obtain ⟨v2, vs2, d2, ds2, p2, q2, rfl, rfl, rfl, h2, r2⟩ := trodAll_cons r1
  obtain ⟨v3, vs3, d3, ds3, p3, q3, rfl, rfl, rfl, h3, r3⟩ := trodAll_cons r2
  obtain ⟨v4, vs4, d4, ds4, p4, q4, rfl, rfl, rfl, h4, r4⟩ := trodAll_cons r3
  obtain ⟨v5, vs5, d5, ds5, p5, q5, rfl, rfl, rfl, h5, r5⟩ := trodAll_cons r4
  obtain ⟨rfl, rfl, rfl⟩ := trodAll_nil r5
  obtain rfl : args = #[v0, v1, v2, v3, v4, v5] := by cases args; simp_all
  obtain ⟨rfl, rfl⟩ := trodVars_none hV
  obtain ⟨a0, rfl, rfl, rfl, w0⟩ := open_int Try.underlying3 (hval 0 3 v0 rfl rfl) h0
  have lt1 : ∀ x ∈ p1, x.block < W.heap.size := by obtain ⟨m, hm⟩ := h1; exact DataW.trod_lt m _ _ _ hm
  have lt2 : ∀ x ∈ p2, x.block < W.heap.size := by obtain ⟨m, hm⟩ := h2; exact DataW.trod_lt m _ _ _ hm
  obtain ⟨a3, rfl, rfl, rfl, w3⟩ := open_int Try.underlying3 (hval 3 3 v3 rfl rfl) h3
  have lt4 : ∀ x ∈ p4, x.block < W.heap.size := by obtain ⟨m, hm⟩ := h4; exact DataW.trod_lt m _ _ _ hm
  obtain ⟨a5, rfl, rfl, rfl, w5⟩ := open_int Try.underlying25 (hval 5 25 v5 rfl rfl) h5
  clear hA0 hval0
  refine (walk (enc := enc) (base := base) a0 v1 v2 a3 v4 a5 W w0 h1 (hval 1 44 v1 rfl rfl) h2 (hval 2 44 v2 rfl rfl) w3 h4 (hval 4 29 v4 rfl rfl) w5).mono fun e W' ⟨he, bel⟩ => ?_
  subst he
  exact ⟨_, rfl, _, _, _, [], _, [], hW', trodAll_mk1 (shut_bool Try.underlying4 _), (trodAll_cons_mk (shut_int Try.underlying3 w0) (trodAll_cons_mk (Below.trod laidOut (by kernel_rfl) (of_decide_eq_true (by kernel_rfl)) h1 bel lt1) (trodAll_cons_mk (Below.trod laidOut (by kernel_rfl) (of_decide_eq_true (by kernel_rfl)) h2 bel lt2) (trodAll_cons_mk (shut_int Try.underlying3 w3) (trodAll_cons_mk (Below.trod laidOut (by kernel_rfl) (of_decide_eq_true (by kernel_rfl)) h4 bel lt4) (trodAll_cons_mk (shut_int Try.underlying25 w5) trodAll_mk0)))))), rfl, bel.frame _, fun h => by cases h⟩

theorem over : Rows.evalLocalRow.holds Try.pinned (OpenSpec.ofChange Rows.evalLocalSpec) :=
  OpenClaim.holds_of_wide 8 Try.f8 rfl rfl rfl rfl rfl rfl rfl ⟨rfl, rfl, rfl, rfl, rfl⟩ rfl rfl rfl rfl rfl (by kernel_rfl) Try.func8 (by kernel_rfl)
    (of_decide_eq_true (by kernel_rfl)) (by unfold Func.isWrapper; first | (rw [if_pos (by decide +kernel)]; kernel_rfl) | (rw [if_neg (by decide +kernel)]; exact ⟨rfl, rfl⟩))
    (fun os started H enc _ => lifted os started H enc)

theorem proved : Rows.EvalLocalSaid := over
end Go.Proofs.Yteofgmjejocleaa.evalLocal
