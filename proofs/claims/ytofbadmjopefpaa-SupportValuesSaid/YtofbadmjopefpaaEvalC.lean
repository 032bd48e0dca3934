/- Eval of package eval; the reference's values. -/
import Derived.Test.YtofbadmjopefpaaEvalB
import Derived.Test.YtofbadmjopefpaaBothA
namespace Go.Proofs.Ytofbadmjopefpaa
open Go.RowKit Go.Maps
set_option maxHeartbeats 800000

open Classical in
/-- What All returns. -/
noncomputable def allR (W : Nat) (vals : List Int) (L : List PNode) (ts : List Int) : List Int × Nat := if AllIn L ts then (allV W vals L ts, 0) else ([], 3)
theorem allR_in {W : Nat} {vals : List Int} {L : List PNode} {ts : List Int} (h : AllIn L ts) : allR W vals L ts = (allV W vals L ts, 0) := if_pos h
theorem allR_out {W : Nat} {vals : List Int} {L : List PNode} {ts : List Int} (h : ¬ AllIn L ts) : allR W vals L ts = ([], 3) := if_neg h
theorem all_any {w : World} {F I : List Nat} {gb W room : Nat} {L : List PNode} (h : Gr w 0 F I gb W room L) (ts vals : List Int) (v vv : Value) (hv : SliceOf w .i64 v ts) (hvv : SliceOf w .u64 vv vals) (hn : ts.length ≤ 1000000000) (hvl : vals.length ≤ 9223372036854775807) (hvu : U64s vals) :
    Calls Try.prog 41 #[.pointer (some ⟨gb, 0, none⟩), v, vv] w fun e w' => ∃ a m c, e = .returned (.tuple #[.slice a m c, .int .i64 (allR W vals L ts).2]) ∧ OwnInts w' w.heap.size 42 .u64 (.slice a m c) (allR W vals L ts).1 ∧ Below w.heap.size w w' := by
  by_cases hin : AllIn L ts
  · rw [allR_in hin]
    exact all_ok h ts vals v vv hv hvv hn hvl hvu hin
  · rw [allR_out hin]
    refine (all_bad h ts v vv hv (by obtain ⟨a, n, c, e, _⟩ := hvv; exact ⟨a, n, c, e⟩) (by omega) hin).mono ?_
    rintro e w' ⟨rfl, hb⟩
    exact ⟨none, 0, 0, rfl, OwnInts.nil _ _ _ _, hb⟩
/-- What Eval returns. -/
def evalR (W : Nat) (vals : List Int) (L : List PNode) (t : Int) : Int × Nat := if 0 ≤ t ∧ t < (L.length : Int) then (val W vals L t.toNat, 0) else (0, 3)
theorem allIn_one {L : List PNode} {t : Int} : AllIn L [t] ↔ 0 ≤ t ∧ t < (L.length : Int) := by simp [AllIn]
theorem eval_any {w : World} {F I : List Nat} {gb W room : Nat} {L : List PNode} (h : Gr w 0 F I gb W room L) (t : Int) (vals : List Int) (vv : Value) (hvv : SliceOf w .u64 vv vals) (hvl : vals.length ≤ 9223372036854775807) (hvu : U64s vals) :
    Calls Try.prog 28 #[.pointer (some ⟨gb, 0, none⟩), .int .i64 t, vv] w fun e w' => e = .returned (.tuple #[.int .u64 (evalR W vals L t).1, .int .i64 (evalR W vals L t).2]) ∧ Below w.heap.size w w' := by
  obtain ⟨av, nv, cv, rfl, -, -⟩ := hvv.parts
  have hb1 := below_new w (.cells #[.int .i64 t] 3)
  have hall := all_any (h.later hb1) [t] vals _ _ (sliceOf_new w .i64 3 [t] 1) (hvv.below hb1) (by simp) hvl hvu
  have HB1 := Lib.hid hb1
  by_cases hin : 0 ≤ t ∧ t < (L.length : Int)
  · have hr : evalR W vals L t = (val W vals L t.toNat, 0) := if_pos hin
    rw [allR_in (allIn_one.2 hin)] at hall
    rw [hr]
    have HALL := Lib.hid hall
    clear hall hr hb1 h hvv hin
    go_enter Try.func28, Try.ntmps28
    go_wp2_with fail
    go_at_call 41
    refine HALL.out.mono ?_
    rintro e w2 ⟨a, m, c, rfl, ho, hb2⟩
    obtain ⟨a', n', c', e', hl', hcell⟩ := ho.slice.parts
    simp only [Value.slice.injEq] at e'
    obtain ⟨rfl, rfl, rfl⟩ := e'
    obtain rfl : m = 1 := by rw [← hl']; rfl
    obtain ⟨b, off, q, rfl, hc, hq⟩ := hcell 0 (by omega)
    obtain rfl : val W vals L t.toNat = q := by simpa [allV] using hq
    rw [Nat.add_zero] at hc
    have HB2 := Lib.hid (HB1.out.trans (hb2.mono HB1.out.size))
    clear ho hb2 hcell hq hl'
    go_wp2
    go_ret2
    exact ⟨rfl, HB2.out⟩
  · have hr : evalR W vals L t = (0, 3) := if_neg hin
    rw [allR_out (fun h => hin (allIn_one.1 h))] at hall
    rw [hr]
    have HALL := Lib.hid hall
    clear hall hr hb1 h hvv hin
    go_enter Try.func28, Try.ntmps28
    go_wp2_with fail
    go_at_call 41
    refine HALL.out.mono ?_
    rintro e w2 ⟨a, m, c, rfl, ho, hb2⟩
    have HB2 := Lib.hid (HB1.out.trans (hb2.mono HB1.out.size))
    clear ho hb2
    go_wp2
    go_ret2
    exact ⟨rfl, HB2.out⟩
theorem eval_nil (w : World) (t : Int) (vv : Value) (hv : ∃ a n c, vv = .slice a n c) : Calls Try.prog 28 #[.pointer none, .int .i64 t, vv] w fun e w' => e = .returned (.tuple #[.int .u64 0, .int .i64 1]) ∧ Below w.heap.size w w' := by
  obtain ⟨a, n, c, rfl⟩ := hv
  have HB := Lib.hid (below_new w (.cells #[.int .i64 t] 3))
  go_enter Try.func28, Try.ntmps28
  go_wp2_with fail
  go_at_call 41
  refine (all_nil _ _ _ ⟨a, n, c, rfl⟩).mono ?_
  rintro e w2 ⟨rfl, hb⟩
  have HB2 := Lib.hid (HB.out.trans (hb.mono HB.out.size))
  clear hb
  go_wp2
  go_ret2
  exact ⟨rfl, HB2.out⟩
end Go.Proofs.Ytofbadmjopefpaa
