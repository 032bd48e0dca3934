/- A loop over a map that stays as it is. -/
import Derived.Test.YtofbadmjopefpaaMap
import Derived.Maps.RangeRun
import Derived.Maps.RangeWalk
import Derived.Below
namespace Go.Proofs.Ytofbadmjopefpaa
open Go.RowKit Go.Maps Go.ChangeMaps
set_option maxHeartbeats 400000

theorem perm_born : ∀ {l : List MapEntry} {e : MapEntry}, (l.map (·.born)).Nodup → e ∈ l → l.Perm (e :: l.filter fun x => !(x.born == e.born))
  | [], _, _, h => by cases h
  | x :: l, e, hn, h => by
    simp only [List.map_cons, List.nodup_cons] at hn
    rcases List.mem_cons.1 h with rfl | h
    · have hf : l.filter (fun x => !(x.born == e.born)) = l := by
        rw [List.filter_eq_self]
        intro y hy
        have : y.born ≠ e.born := fun he => hn.1 (List.mem_map.2 ⟨y, hy, he⟩)
        simpa using this
      rw [List.filter_cons, if_neg (by simp), hf]
    · have hne : x.born ≠ e.born := fun he => hn.1 (List.mem_map.2 ⟨e, h, he.symm⟩)
      rw [List.filter_cons, if_pos (by simpa using hne)]
      exact ((perm_born hn.2 h).cons x).trans (List.Perm.swap e x _)
/-- A loop over block mb is under way, its iterator in block r: d has come. -/
def MapRng (w : World) (mb r : Nat) (m d : List (Value × Value)) : Prop :=
  ∃ es clock seen, w.heap[mb]? = some (.map es clock) ∧ (es.toList.map (·.born)).Nodup ∧ (∀ e ∈ es.toList, e.born < clock) ∧ w.heap[r]? = some (.mapIter (some mb) clock seen clock) ∧
    (d ++ (leftOf es seen).toList.map fun e => (e.key, e.val)).Perm m
/-- How much is to come. -/
def rngLeft (w : World) (mb r : Nat) : Nat :=
  match w.heap[mb]?, w.heap[r]? with
  | some (.map es _), some (.mapIter _ _ seen _) => (leftOf es seen).size
  | _, _ => 0
theorem below_new' (w : World) (o : Obj) : Below w.heap.size w (w.alloc o) := (Below.refl _ _).alloc (Nat.le_refl _) o
section
variable {P : Program} {K : TypeId} {w w' : World} {mb r : Nat} {m d : List (Value × Value)}
theorem MapRng.keep (h : MapRng w mb r m d) (h1 : w'.heap[mb]? = w.heap[mb]?) (h2 : w'.heap[r]? = w.heap[r]?) : MapRng w' mb r m d ∧ rngLeft w' mb r = rngLeft w mb r := by
  refine ⟨?_, by unfold rngLeft; rw [h1, h2]⟩
  obtain ⟨es, clock, seen, a, b, c, e, f⟩ := h
  exact ⟨es, clock, seen, h1.trans a, b, c, h2.trans e, f⟩
theorem MapRng.lt (h : MapRng w mb r m d) : mb < w.heap.size ∧ r < w.heap.size := by
  obtain ⟨es, clock, seen, a, b, c, e, f⟩ := h
  exact ⟨(Array.getElem?_eq_some_iff.1 a).1, (Array.getElem?_eq_some_iff.1 e).1⟩
/-- 'range m'. -/
theorem wpList_range_map {ops : Array Oper} {rest : List Oper} {o : Oper} {a : Act} {Q : Exit → Act → World → Prop} (hg : o.guard = none) (x : Operand) (T E : TypeId) (hop : o.op = Op.range T x) (hT : P.underlying T = some (.map K E)) (hx : a.eval x = .map (some mb)) (h : MapIs P K w mb m)
    (hK : ∀ w', MapRng w' mb w.heap.size m [] → Below w.heap.size w w' → w'.heap.size = w.heap.size + 1 → wpList P ops Q rest (a.put o.dst (.pointer (some ⟨w.heap.size, 0, none⟩))) w') : wpList P ops Q (o :: rest) a w := by
  obtain ⟨es, clock, h1, h2, h3, h4, h5, h6⟩ := h
  have hlt := (Array.getElem?_eq_some_iff.1 h1).1
  have hrun := run_range_map (P := P) w T K E mb es clock hT h1
  refine wpList_plain hg fun K' hK' => ?_
  unfold Oper.wp
  simp [execOp, hop, hx, hrun, Result.andThen]
  refine hK' _ _ (hK _ ⟨es, clock, #[], (heap_alloc_old w _ hlt).trans h1, h5, h6, heap_alloc_new w _, ?_⟩ (below_new' w _) (by simp))
  have hl : leftOf es #[] = es := by unfold leftOf; simp
  rw [hl]
  exact h3
theorem MapRng.next (h : MapRng w mb r m d) (ty : TypeId) :
    (d.Perm m ∧ (Instr.next (.pointer (some ⟨r, 0, none⟩)) false ty).run P w = .ok (.tuple #[.bool false]) w) ∨
    ∃ k v w', (∃ l, (d ++ (k, v) :: l).Perm m) ∧ (Instr.next (.pointer (some ⟨r, 0, none⟩)) false ty).run P w = .ok (.tuple #[.bool true, k, v]) w' ∧ MapRng w' mb r m (d ++ [(k, v)]) ∧ rngLeft w' mb r < rngLeft w mb r ∧ But r w w' ∧
      (Instr.entry (.pointer (some ⟨r, 0, none⟩))).run P w' = .ok (.tuple #[k, v]) w' := by
  obtain ⟨es, clock, seen, h1, h2, h3, h4, h5⟩ := h
  have hne : mb ≠ r := by rintro rfl; rw [h1] at h4; cases h4
  rcases run_next_at (P := P) w ty r mb clock clock seen es clock h4 h1 h3 (Nat.le_refl _) with ⟨h0, hrun⟩ | ⟨e, he, w1, hal, hrun⟩
  · left
    refine ⟨?_, hrun⟩
    have : (leftOf es seen).toList = [] := by
      have := Array.eq_empty_of_size_eq_zero h0
      rw [this]
    rw [this] at h5
    simpa using h5
  · right
    obtain ⟨hem, hes⟩ := mem_left he
    have hr1 : w1.heap[r]? = some (.mapIter (some mb) clock seen clock) := by rcases hal with rfl | rfl <;> exact h4
    have hb1 : w1.heap[mb]? = some (.map es clock) := by rcases hal with rfl | rfl <;> exact h1
    have hset := MapKept.heap_set (o' := .mapIter (some mb) clock (seen.push e.born) clock) hr1
    have hb' : (setBlock w1 r (.mapIter (some mb) clock (seen.push e.born) clock)).heap[mb]? = some (.map es clock) := (hset.2 mb hne).trans hb1
    have hleft : (leftOf es (seen.push e.born)).toList = (leftOf es seen).toList.filter fun x => !(x.born == e.born) := by
      unfold leftOf
      simp only [Array.toList_filter, List.filter_filter]
      refine List.filter_congr fun x _ => ?_
      rw [contains_push]
      cases seen.contains x.born <;> cases (x.born == e.born) <;> rfl
    have hnl : ((leftOf es seen).toList.map (·.born)).Nodup := by
      refine h2.sublist (List.Sublist.map _ ?_)
      unfold leftOf
      rw [Array.toList_filter]
      exact List.filter_sublist
    have hp := perm_born hnl he
    refine ⟨e.key, e.val, _, ⟨((leftOf es (seen.push e.born)).toList.map fun e => (e.key, e.val)), ?_⟩, hrun, ⟨es, clock, seen.push e.born, hb', h2, h3, hset.1, ?_⟩, ?_, ?_, run_entry_at _ r mb clock seen es clock e hset.1 hb' hem h2⟩
    · rw [hleft]
      exact ((hp.map fun e => (e.key, e.val)).append_left d).symm.trans h5
    · rw [List.append_assoc, hleft]
      exact ((hp.map fun e => (e.key, e.val)).append_left d).symm.trans h5
    · have e1 : rngLeft w mb r = (leftOf es seen).size := by unfold rngLeft; rw [h1, h4]
      have e2 : rngLeft (setBlock w1 r (.mapIter (some mb) clock (seen.push e.born) clock)) mb r = (leftOf es (seen.push e.born)).size := by unfold rngLeft; rw [hb', show (setBlock w1 r (.mapIter (some mb) clock (seen.push e.born) clock)).heap[r]? = _ from hset.1]
      rw [e1, e2]
      exact left_shrinks es seen e he
    · rcases hal with rfl | rfl
      · exact ⟨rfl, rfl, rfl, by simp [setBlock], fun i hi => hset.2 i hi⟩
      · exact ⟨rfl, rfl, rfl, by simp [setBlock], fun i hi => hset.2 i hi⟩
/-- The step. -/
theorem wpList_next_map {ops : Array Oper} {rest : List Oper} {o : Oper} {a : Act} {Q : Exit → Act → World → Prop} (hg : o.guard = none) (x : Operand) (hop : o.op = Op.next x false) (hx : a.eval x = .pointer (some ⟨r, 0, none⟩)) (h : MapRng w mb r m d)
    (hDone : d.Perm m → wpList P ops Q rest (a.put o.dst (.tuple #[.bool false])) w)
    (hMore : ∀ k v w', (∃ l, (d ++ (k, v) :: l).Perm m) → MapRng w' mb r m (d ++ [(k, v)]) → rngLeft w' mb r < rngLeft w mb r → But r w w' → (Instr.entry (.pointer (some ⟨r, 0, none⟩))).run P w' = .ok (.tuple #[k, v]) w' → wpList P ops Q rest (a.put o.dst (.tuple #[.bool true, k, v])) w') :
    wpList P ops Q (o :: rest) a w := by
  refine wpList_plain hg fun K' hK' => ?_
  unfold Oper.wp
  rcases h.next (P := P) o.type with ⟨h0, hrun⟩ | ⟨k, v, w', h1, hrun, h2, h3, h4, h5⟩
  · simp [execOp, hop, hx, hrun, Result.andThen]
    exact hK' _ _ (hDone h0)
  · simp [execOp, hop, hx, hrun, Result.andThen]
    exact hK' _ _ (hMore k v w' h1 h2 h3 h4 h5)
theorem MapIs.perm {m' : List (Value × Value)} (h : MapIs P K w mb m) (hp : m.Perm m') : MapIs P K w mb m' := by
  obtain ⟨es, clock, h1, h2, h3, h4, h5, h6⟩ := h
  exact ⟨es, clock, h1, h2, h3.trans hp, ((hp.map (·.1)).nodup_iff).1 h4, h5, h6⟩
end
end Go.Proofs.Ytofbadmjopefpaa
