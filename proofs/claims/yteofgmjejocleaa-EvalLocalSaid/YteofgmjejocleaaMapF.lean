/- Maps in memory whose keys are integers, told as a function of the key. -/
import Derived.Test.YteofgmjejocleaaEvalT
import Derived.Maps.RangeWalk
namespace Go.Proofs.Yteofgmjejocleaa
open Go.RowKit Go.Maps
set_option maxHeartbeats 400000

section
variable {P : Program} {K : TypeId} {w : World} {mb : Nat} {m : List (Value × Value)}
/-- A store at a key that is there. -/
theorem MapIs.put_old {T E : TypeId} (h : MapIs P K w mb m) (KL : Keyed P K) (hT : P.underlying T = some (.map K E)) {k : Value} {l : Lit} (hk : keyOf P K k = some l) {v0 : Value} (hm : (k, v0) ∈ m) (v : Value) :
    (Instr.mapUpdate T (.map (some mb)) k v).run P w = .ok () (mapW P T mb k v w) ∧ (∃ m', MapIs P K (mapW P T mb k v w) mb m' ∧ m'.length = m.length ∧ ∀ p, p ∈ m' ↔ p = (k, v) ∨ (p ∈ m ∧ p.1 ≠ k)) ∧ But mb w (mapW P T mb k v w) := by
  obtain ⟨es, clock, h1, h2, h3, h4, h5, h6⟩ := h
  rcases KL.find w hk es.toList h2 with ⟨_, hno⟩ | ⟨j, e, hf, hj, hek⟩
  · obtain ⟨e, he, hee⟩ := List.mem_map.1 (h3.mem_iff.2 hm)
    exact absurd (Prod.mk.inj hee).1 (hno e he)
  · have hjl : j < es.toList.length := (List.getElem?_eq_some_iff.1 hj).1
    have hje : es[j]? = some e := by rw [← Array.getElem?_toList]; exact hj
    have hst := KL.stays w hk
    have hr : (Instr.mapUpdate T (.map (some mb)) k v).run P w = .ok () { w with heap := w.heap.setIfInBounds mb (.map (es.modify j fun e => { e with key := k, val := v }) clock) } := by
      simp [Instr.mapUpdate, run_underlying hT, MapKept.run_getObj_map h1, KL.check w _ hk, hf, MapKept.run_setObj_map _ h1, Result.andThen, hje, hek, hst]
    have hw : mapW P T mb k v w = { w with heap := w.heap.setIfInBounds mb (.map (es.modify j fun e => { e with key := k, val := v }) clock) } := by unfold mapW; rw [hr]
    rw [hw]
    -- the entries, one turned
    have hlist : (es.modify j fun e => { e with key := k, val := v }).toList = es.toList.set j { e with key := k, val := v } := by
      apply List.ext_getElem?
      intro i
      rw [Array.getElem?_toList, Array.getElem?_modify, List.getElem?_set]
      by_cases hi : j = i
      · subst hi
        rw [if_pos rfl, if_pos rfl, if_pos hjl, hje]; rfl
      · rw [if_neg hi, if_neg hi, Array.getElem?_toList]
    have hkeys : (es.toList.set j { e with key := k, val := v }).map (·.key) = es.toList.map (·.key) := by
      apply List.ext_getElem?
      intro i
      rw [List.getElem?_map, List.getElem?_map, List.getElem?_set]
      by_cases hi : j = i
      · subst hi
        rw [if_pos rfl, if_pos hjl, hj]; simp [hek]
      · rw [if_neg hi]
    have hborn : (es.toList.set j { e with key := k, val := v }).map (·.born) = es.toList.map (·.born) := by
      apply List.ext_getElem?
      intro i
      rw [List.getElem?_map, List.getElem?_map, List.getElem?_set]
      by_cases hi : j = i
      · subst hi
        rw [if_pos rfl, if_pos hjl, hj]; rfl
      · rw [if_neg hi]
    have hnd : (es.toList.map (·.key)).Nodup := by
      have := (h3.map (·.1)).nodup_iff.2 h4
      rw [List.map_map] at this
      exact this
    refine ⟨hr, ⟨(es.toList.set j { e with key := k, val := v }).map fun e => (e.key, e.val), ⟨_, clock, ?_, ?_, by rw [hlist], ?_, by rw [hlist, hborn]; exact h5, ?_⟩, ?_, fun p => ?_⟩, But.set _ _ _⟩
    · have := (Array.getElem?_eq_some_iff.1 h1).1
      simp [this]
    · intro x hx
      rw [hlist] at hx
      have hxk : x.key ∈ es.toList.map (·.key) := by rw [← hkeys]; exact List.mem_map.2 ⟨x, hx, rfl⟩
      obtain ⟨y, hy, hyx⟩ := List.mem_map.1 hxk
      rw [← hyx]; exact h2 y hy
    · rw [List.map_map]
      show ((es.toList.set j { e with key := k, val := v }).map (·.key)).Nodup
      rw [hkeys]; exact hnd
    · intro x hx
      rw [hlist] at hx
      have hxb : x.born ∈ es.toList.map (·.born) := by rw [← hborn]; exact List.mem_map.2 ⟨x, hx, rfl⟩
      obtain ⟨y, hy, hyx⟩ := List.mem_map.1 hxb
      rw [← hyx]; exact h6 y hy
    · rw [List.length_map, List.length_set]
      have := h3.length_eq
      simpa using this
    · constructor
      · intro hp
        obtain ⟨x, hx, rfl⟩ := List.mem_map.1 hp
        obtain ⟨i, hi, hxi⟩ := List.getElem_of_mem hx
        have hxi' : (es.toList.set j { e with key := k, val := v })[i]? = some x := by rw [List.getElem?_eq_getElem hi, hxi]
        rw [List.getElem?_set] at hxi'
        by_cases hij : j = i
        · rw [if_pos hij, if_pos (by rw [List.length_set] at hi; omega)] at hxi'
          left
          simp only [Option.some.injEq] at hxi'
          rw [← hxi']
        · rw [if_neg hij] at hxi'
          right
          refine ⟨h3.mem_iff.1 (List.mem_map.2 ⟨x, List.mem_of_getElem? hxi', rfl⟩), ?_⟩
          intro hk2
          have a1 : (es.toList.map (·.key))[i]? = some k := by rw [List.getElem?_map, hxi']; simp only [Option.map_some]; rw [← hk2]
          have a2 : (es.toList.map (·.key))[j]? = some k := by rw [List.getElem?_map, hj]; simp only [Option.map_some]; rw [← hek]
          obtain ⟨l1, e1⟩ := List.getElem?_eq_some_iff.1 a1
          obtain ⟨l2, e2⟩ := List.getElem?_eq_some_iff.1 a2
          exact hij ((List.getElem_inj hnd).1 (e2.trans e1.symm))
      · rintro (rfl | ⟨hp, hne⟩)
        · refine List.mem_map.2 ⟨{ e with key := k, val := v }, List.mem_of_getElem? (i := j) ?_, rfl⟩
          rw [List.getElem?_set, if_pos rfl, if_pos hjl]
        · obtain ⟨x, hx, rfl⟩ := List.mem_map.1 (h3.mem_iff.2 hp)
          obtain ⟨i, hi, hxi⟩ := List.getElem_of_mem hx
          refine List.mem_map.2 ⟨x, List.mem_of_getElem? (i := i) ?_, rfl⟩
          rw [List.getElem?_set]
          by_cases hij : j = i
          · subst hij
            rw [List.getElem?_eq_getElem hi, hxi] at hj
            simp only [Option.some.injEq] at hj
            rw [← hj] at hek
            exact absurd hek hne
          · rw [if_neg hij, List.getElem?_eq_getElem hi, hxi]
/-- A map, as a function of its keys, and how many there are. -/
def MapF (P : Program) (K : TypeId) (kd : IntKind) (w : World) (mb : Nat) (f : Int → Option Value) (c : Nat) : Prop :=
  ∃ m, MapIs P K w mb m ∧ m.length = c ∧ (∀ p ∈ m, ∃ k v, p = (Value.int kd k, v) ∧ f k = some v) ∧ ∀ k v, f k = some v → (Value.int kd k, v) ∈ m
variable {kd : IntKind} {f : Int → Option Value} {c : Nat}
theorem MapF.block {w' : World} (h : MapF P K kd w mb f c) (hb : w'.heap[mb]? = w.heap[mb]?) : MapF P K kd w' mb f c := by
  obtain ⟨m, h1, h2⟩ := h
  exact ⟨m, h1.block hb, h2⟩
theorem MapF.lt (h : MapF P K kd w mb f c) : mb < w.heap.size := by
  obtain ⟨m, h1, h2⟩ := h
  exact h1.lt
theorem MapF.new (P : Program) (K : TypeId) (kd : IntKind) (w : World) : MapF P K kd (w.alloc (.map #[] 0)) w.heap.size (fun _ => none) 0 := ⟨[], MapIs.new w, rfl, by simp, by simp⟩
theorem MapF.congr {g : Int → Option Value} (h : MapF P K kd w mb f c) (e : ∀ k, f k = g k) : MapF P K kd w mb g c := by
  obtain rfl : f = g := funext e
  exact h
theorem MapF.hit {T E : TypeId} (h : MapF P K kd w mb f c) (hK : P.underlying K = some (.int kd)) (hT : P.underlying T = some (.map K E)) {k : Int} {v : Value} (hw : (Lit.int kd k).wf = true) (hf : f k = some v) (b : Bool) :
    (Instr.lookup T (.map (some mb)) (.int kd k) b).run P w = .ok (if b then .tuple #[v, .bool true] else v) w := by
  obtain ⟨m, h1, h2, h3, h4⟩ := h
  exact h1.lookup_hit (int_keyed hK) hT (keyOf_int_mk hK hw) (h4 k v hf) b
theorem MapF.miss {T E : TypeId} (h : MapF P K kd w mb f c) (hK : P.underlying K = some (.int kd)) (hT : P.underlying T = some (.map K E)) {z : Value} (hz : (zeroValue E).run P w = .ok z w) {k : Int} (hw : (Lit.int kd k).wf = true) (hf : f k = none) (b : Bool) :
    (Instr.lookup T (.map (some mb)) (.int kd k) b).run P w = .ok (if b then .tuple #[z, .bool false] else z) w := by
  obtain ⟨m, h1, h2, h3, h4⟩ := h
  refine h1.lookup_miss (int_keyed hK) hT hz (keyOf_int_mk hK hw) (fun v hm => ?_) b
  obtain ⟨k', v', e, he⟩ := h3 _ hm
  simp only [Prod.mk.injEq, Value.int.injEq, true_and] at e
  rw [e.1] at hf
  rw [hf] at he; cases he
theorem MapF.put {T E : TypeId} (h : MapF P K kd w mb f c) (hK : P.underlying K = some (.int kd)) (hT : P.underlying T = some (.map K E)) {k : Int} (hw : (Lit.int kd k).wf = true) (v : Value) :
    (Instr.mapUpdate T (.map (some mb)) (.int kd k) v).run P w = .ok () (mapW P T mb (.int kd k) v w) ∧ MapF P K kd (mapW P T mb (.int kd k) v w) mb (fun j => if j = k then some v else f j) (if (f k).isSome then c else c + 1) ∧ But mb w (mapW P T mb (.int kd k) v w) := by
  obtain ⟨m, h1, h2, h3, h4⟩ := h
  cases hf : f k with
  | some v0 =>
    obtain ⟨hr, ⟨m', g1, g2, g3⟩, hb⟩ := h1.put_old (int_keyed hK) hT (keyOf_int_mk hK hw) (h4 k v0 hf) v
    refine ⟨hr, ⟨m', g1, by rw [g2, h2]; rfl, fun p hp => ?_, fun j u hj => ?_⟩, hb⟩
    · rcases (g3 p).1 hp with rfl | ⟨hpm, hne⟩
      · exact ⟨k, v, rfl, if_pos rfl⟩
      · obtain ⟨j, u, rfl, hj⟩ := h3 p hpm
        refine ⟨j, u, rfl, ?_⟩
        show (if j = k then some v else f j) = some u
        rw [if_neg (fun e => hne (by simp [e]))]; exact hj
    · replace hj : (if j = k then some v else f j) = some u := hj
      by_cases e : j = k
      · rw [if_pos e] at hj
        simp only [Option.some.injEq] at hj
        rw [e, ← hj]; exact (g3 _).2 (.inl rfl)
      · rw [if_neg e] at hj
        exact (g3 _).2 (.inr ⟨h4 j u hj, fun h => e (by simpa using h)⟩)
  | none =>
    obtain ⟨hr, g1, hb⟩ := h1.put_new (int_keyed hK) hT (keyOf_int_mk hK hw) (fun u hm => by
      obtain ⟨k', v', e, he⟩ := h3 _ hm
      simp only [Prod.mk.injEq, Value.int.injEq, true_and] at e
      rw [e.1, he] at hf; cases hf) v
    refine ⟨hr, ⟨_, g1, by rw [List.length_append, h2]; rfl, fun p hp => ?_, fun j u hj => ?_⟩, hb⟩
    · rcases List.mem_append.1 hp with hp | hp
      · obtain ⟨j, u, rfl, hj⟩ := h3 p hp
        refine ⟨j, u, rfl, ?_⟩
        show (if j = k then some v else f j) = some u
        rw [if_neg (fun e => by rw [e, hf] at hj; cases hj)]; exact hj
      · simp at hp; subst hp
        exact ⟨k, v, rfl, if_pos rfl⟩
    · replace hj : (if j = k then some v else f j) = some u := hj
      by_cases e : j = k
      · rw [if_pos e] at hj
        simp only [Option.some.injEq] at hj
        rw [e, ← hj]; simp
      · rw [if_neg e] at hj
        exact List.mem_append_left _ (h4 j u hj)
theorem MapF.len {T E : TypeId} (h : MapF P K kd w mb f c) (hT : P.underlying T = some (.map K E)) (ty : TypeId) : (Builtin.len_ #[T] ty #[.map (some mb)]).run P w = .ok (.int .i64 c) w := by
  obtain ⟨m, h1, h2, _⟩ := h
  rw [← h2]; exact h1.len hT ty
end
/-- A map of integers' keys. -/
def Thing.mapf (K : TypeId) (kd : IntKind) (mb : Nat) (f : Int → Option Value) (c : Nat) : Thing := ⟨[mb], [], fun w => MapF Try.prog K kd w mb f c, fun _ _ h hk => h.block (hk mb (.inl (by simp)))⟩
section
variable {w0 wr w' : World} {ts : List Thing} {K T E : TypeId} {kd : IntKind} {mb c : Nat} {f g : Int → Option Value}
theorem Lab.mapf (h : Lab w0 wr (Thing.mapf K kd mb f c :: ts)) : MapF Try.prog K kd wr mb f c := h.head
theorem Lab.mapf2 {s : Thing} (h : Lab w0 wr (s :: Thing.mapf K kd mb f c :: ts)) : MapF Try.prog K kd wr mb f c := h.second
theorem Lab.mapf3 {s t : Thing} (h : Lab w0 wr (s :: t :: Thing.mapf K kd mb f c :: ts)) : MapF Try.prog K kd wr mb f c := h.third
theorem Lab.mapf4 {s t u : Thing} (h : Lab w0 wr (s :: t :: u :: Thing.mapf K kd mb f c :: ts)) : MapF Try.prog K kd wr mb f c := h.fourth
theorem Lab.new_map (h : Lab w0 wr ts) (K : TypeId) (kd : IntKind) : Lab w0 (wr.alloc (.map #[] 0)) (Thing.mapf K kd wr.heap.size (fun _ => none) 0 :: ts) := by
  refine h.new (s := Thing.mapf K kd wr.heap.size _ 0) (below_new wr _) (MapF.new _ _ _ _) (fun k hk => by simp [Thing.mapf] at hk; omega) (fun k hk => by simp [Thing.mapf] at hk) (fun k hk => ?_)
  rcases hk with hk | hk
  · simp [Thing.mapf] at hk; simp; omega
  · simp [Thing.mapf] at hk
/-- A store into the first map. -/
theorem Lab.mput (h : Lab w0 wr (Thing.mapf K kd mb f c :: ts)) (hK : Try.prog.underlying K = some (.int kd)) (hT : Try.prog.underlying T = some (.map K E)) {k : Int} (hw : (Lit.int kd k).wf = true) (v : Value) :
    (Instr.mapUpdate T (.map (some mb)) (.int kd k) v).run Try.prog wr = .ok () (mapW Try.prog T mb (.int kd k) v wr) ∧ Lab w0 (mapW Try.prog T mb (.int kd k) v wr) (Thing.mapf K kd mb (fun j => if j = k then some v else f j) (if (f k).isSome then c else c + 1) :: ts) := by
  obtain ⟨hr, hm, hb⟩ := h.mapf.put hK hT hw v
  refine ⟨hr, h.turn (s' := Thing.mapf K kd mb _ _) ⟨hb.os, hb.tape, hb.output, by rw [hb.size]; exact Nat.le_refl _, fun k hk hn => hb.block k (by simpa [Thing.mapf] using hn)⟩ hm (fun k hk => .inl hk) (fun k hk => .inl hk) (fun k hk => ?_)⟩
  rw [hb.size]
  exact h.high (Thing.mapf K kd mb f c) (by simp) k hk
theorem Lab.mapf_congr (h : Lab w0 wr (Thing.mapf K kd mb f c :: ts)) (e : ∀ k, f k = g k) : Lab w0 wr (Thing.mapf K kd mb g c :: ts) := h.say (s' := Thing.mapf K kd mb g c) rfl (fun _ hk => hk) fun hh => MapF.congr hh e
end
end Go.Proofs.Yteofgmjejocleaa
