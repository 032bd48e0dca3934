/- Package subst: what it defers. -/
import Derived.Test.YtcpgiadhmmmafaaSubA
import Derived.Defers
import Derived.Recover
namespace Go.Proofs.Ytcpgiadhmmmafaa
open Go.RowKit Go.Maps
set_option maxHeartbeats 1600000

/-- The deferred closure, of a frame that returns. -/
theorem catch_idle (p q : Addr) (w : World) :
    CallsD Try.prog 61 #[.pointer (some p), .pointer (some q)] .returning w fun e u' w' => e = .returned (.tuple #[]) ∧ u' = .returning ∧ w' = w := by
  refine callsD_of_wpS Try.func61 rfl fun c₀ cs hu => ?_
  apply wpS_seq
  apply wpS_region
  simp [wpOpsS, go_sem, recoverD, hu, Try.ntmps61, Exit.thenS]
  refine wpS_of_wp ?_
  go_wp2
  cases c₀
  simp_all [bodyPostS, results, Try.results61]
noncomputable def catchRest : Code := (Try.f61.body.bind fun c => match c with | .seq _ b => some b | _ => none).getD .skip
set_option maxRecDepth 100000 in
theorem catch_rest (p q : Addr) (x y : Int) (f : Nat) (w : World) (hp : w.cell? p = some (.int .i64 x)) (hq : w.cell? q = some (.int .i64 y)) (hz : w.frozen? p = false) (hz2 : w.frozen? q = false) (hpq : p ≠ q) (hpl : p.block < w.heap.size) (hql : q.block < w.heap.size) (Q : Exit → Act → World → Prop)
    (hQ : ∀ t w2, Below w.heap.size w w2 → Q .normal ⟨t, []⟩ ((w2.setCell p (.int .i64 0)).setCell q (.int .i64 f)).drew) :
    Code.wp Try.prog catchRest Q ⟨#[.pointer (some p), .pointer (some q), undef, undef, undef, .iface 134 (.agg #[.int .i64 f]), undef, undef, undef, undef, undef, undef, undef], []⟩ w := by
  have HQ := Lib.hid hQ
  clear hQ
  have hne : ∀ w, (binOp BinOp.eql 20 (.iface 134 (.agg #[.int .i64 f])) .nilIface).run Try.prog w = .ok (.bool false) w := fun _ => by rfl
  have hta : ∀ w, (Instr.typeAssert (.iface 134 (.agg #[.int .i64 f])) 20 134 true).run Try.prog w = .ok (.tuple #[.agg #[.int .i64 f], .bool true]) w := fun _ => by kernel_rfl
  conv => arg 2; whnf
  go_upto_region 7 with fail
  refine wp_abs (fun w2 => Below w.heap.size w w2 ∧ w2.heap[w.heap.size]? = some (.cells #[.int .i64 f] 134 (0, 0))) ⟨below_new w _, heap_alloc_new w _⟩ ?_
  rintro w2 ⟨hb, hx⟩
  have c0 : w2.cell? ⟨w.heap.size, 0, none⟩ = some (.int .i64 f) := by rw [cell_of_row w2 _ 0 _ _ _ hx]; rfl
  have c1 := cell_later hb hp
  have c2 := cell_later hb hq
  have z1 : w2.frozen? p = false := by rw [← hz]; unfold World.frozen?; rw [hb.block _ hpl]
  have z2 : w2.frozen? q = false := by rw [← hz2]; unfold World.frozen?; rw [hb.block _ hql]
  have n1 : p.block ≠ w.heap.size := by omega
  have n2 : q.block ≠ w.heap.size := by omega
  clear hp hq hz hz2 hne hta
  go_region_held3 (fun w' => w'.cell? ⟨w.heap.size, 0, none⟩ = some (.int .i64 f)) (first | exact c0 | assumption | go_keep) (fail)
  go_wp2
  exact HQ.out _ _ hb
/-- The deferred closure, of a frame that panics. -/
theorem catch_full (p q : Addr) (x y : Int) (f : Nat) (older : List PanicEntry) (w : World) (hp : w.cell? p = some (.int .i64 x)) (hq : w.cell? q = some (.int .i64 y)) (hz : w.frozen? p = false) (hz2 : w.frozen? q = false) (hpq : p ≠ q) (hpl : p.block < w.heap.size) (hql : q.block < w.heap.size) :
    CallsD Try.prog 61 #[.pointer (some p), .pointer (some q)] (.panicking ({ v := .iface 134 (.agg #[.int .i64 f]), recovered := false } :: older)) w fun e u' w' =>
      e = .returned (.tuple #[]) ∧ u' = .panicking ({ v := .iface 134 (.agg #[.int .i64 f]), recovered := true } :: older) ∧ ∃ w2, Below w.heap.size w w2 ∧ w' = ((w2.setCell p (.int .i64 0)).setCell q (.int .i64 f)).drew := by
  refine callsD_of_wpS Try.func61 rfl fun c₀ cs hu => ?_
  simp only [Try.ntmps61, List.size_toArray, List.length_cons, List.length_nil, Nat.reduceAdd, Nat.reduceSub, Array.replicate_succ, Array.replicate_zero, List.push_toArray, List.append_toArray, List.nil_append, List.cons_append]
  apply wpS_seq
  apply wpS_region
  simp [wpOpsS, go_sem, recoverD, hu, Exit.thenS]
  refine wpS_of_wp (catch_rest p q x y f w hp hq hz hz2 hpq hpl hql _ fun t w2 hb => ?_)
  simp [bodyPostS, results, Try.results61]
  exact ⟨w2, hb, rfl⟩
end Go.Proofs.Ytcpgiadhmmmafaa
