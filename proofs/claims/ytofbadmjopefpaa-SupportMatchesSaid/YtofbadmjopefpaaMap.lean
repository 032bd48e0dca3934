/- Maps in memory: what a map's block holds, told as a list of pairs with distinct keys, in whatever order. -/
import Derived.WalkKit
import Derived.WalkSpells
import Derived.Maps.Keyed
namespace Go.Proofs.Ytofbadmjopefpaa
open Go.RowKit Go.Maps
set_option maxHeartbeats 400000

/-- Block mb is a map of these pairs. -/
def MapIs (P : Program) (K : TypeId) (w : World) (mb : Nat) (m : List (Value × Value)) : Prop :=
  ∃ es clock, w.heap[mb]? = some (.map es clock) ∧ (∀ e ∈ es.toList, ∃ l, keyOf P K e.key = some l) ∧ (es.toList.map fun e => (e.key, e.val)).Perm m ∧
    (m.map (·.1)).Nodup ∧ (es.toList.map (·.born)).Nodup ∧ ∀ e ∈ es.toList, e.born < clock
section
variable {P : Program} {K : TypeId} {w : World} {mb : Nat} {m : List (Value × Value)}
theorem MapIs.block {w' : World} (h : MapIs P K w mb m) (hb : w'.heap[mb]? = w.heap[mb]?) : MapIs P K w' mb m := by
  obtain ⟨es, c, h1, h2⟩ := h
  exact ⟨es, c, by rw [hb, h1], h2⟩
theorem MapIs.lt (h : MapIs P K w mb m) : mb < w.heap.size := by
  obtain ⟨es, c, h1, h2⟩ := h
  exact (Array.getElem?_eq_some_iff.1 h1).1
theorem MapIs.below {w' : World} (h : MapIs P K w mb m) (hb : Below w.heap.size w w') : MapIs P K w' mb m := h.block (hb.block _ h.lt)
theorem MapIs.new (w : World) : MapIs P K (w.alloc (.map #[] 0)) w.heap.size [] :=
  ⟨#[], 0, heap_alloc_new w _, by simp, by simp, by simp, by simp, by simp⟩
theorem pair_unique {k v v' : Value} : ∀ {m : List (Value × Value)}, (m.map (·.1)).Nodup → (k, v) ∈ m → (k, v') ∈ m → v = v' := by
  intro m
  induction m with
  | nil => intro _ h; cases h
  | cons p m ih =>
    intro hn h h'
    simp only [List.map_cons, List.nodup_cons] at hn
    rcases List.mem_cons.1 h with h1 | h1 <;> rcases List.mem_cons.1 h' with h2 | h2
    · rw [← h1] at h2; exact ((Prod.mk.inj h2).2).symm
    · exact absurd (List.mem_map.2 ⟨_, h2, by rw [← h1]⟩) hn.1
    · exact absurd (List.mem_map.2 ⟨_, h1, by rw [← h2]⟩) hn.1
    · exact ih hn.2 h1 h2
/-- A key that is there. -/
theorem MapIs.lookup_hit {T E : TypeId} (h : MapIs P K w mb m) (KL : Keyed P K) (hT : P.underlying T = some (.map K E)) {k v : Value} {l : Lit} (hk : keyOf P K k = some l) (hm : (k, v) ∈ m) (c : Bool) :
    (Instr.lookup T (.map (some mb)) k c).run P w = .ok (if c then .tuple #[v, .bool true] else v) w := by
  obtain ⟨es, clock, h1, h2, h3, h4, h5, h6⟩ := h
  rcases KL.find w hk es.toList h2 with ⟨_, hno⟩ | ⟨j, e, hf, hj, hek⟩
  · obtain ⟨e, he, hee⟩ := List.mem_map.1 (h3.mem_iff.2 hm)
    exact absurd (Prod.mk.inj hee).1 (hno e he)
  · have hv : e.val = v := pair_unique h4 (h3.mem_iff.1 (List.mem_map.2 ⟨e, List.mem_of_getElem? hj, by rw [hek]⟩)) hm
    cases c <;> simp [Instr.lookup, run_underlying hT, MapKept.run_getObj_map h1, KL.check w _ hk, hf, Result.andThen, hv]
/-- A key that is not there. -/
theorem MapIs.lookup_miss {T E : TypeId} (h : MapIs P K w mb m) (KL : Keyed P K) (hT : P.underlying T = some (.map K E)) {z : Value} (hz : (zeroValue E).run P w = .ok z w) {k : Value} {l : Lit} (hk : keyOf P K k = some l) (hm : ∀ v, (k, v) ∉ m) (c : Bool) :
    (Instr.lookup T (.map (some mb)) k c).run P w = .ok (if c then .tuple #[z, .bool false] else z) w := by
  obtain ⟨es, clock, h1, h2, h3, h4, h5, h6⟩ := h
  rcases KL.find w hk es.toList h2 with ⟨hf, hno⟩ | ⟨j, e, hf, hj, hek⟩
  · cases c <;> simp [Instr.lookup, run_underlying hT, MapKept.run_getObj_map h1, KL.check w _ hk, hf, hz, Result.andThen]
  · exact absurd (h3.mem_iff.1 (List.mem_map.2 ⟨e, List.mem_of_getElem? hj, by rw [hek]⟩)) (hm e.val)
end
/-- The world behind 'm[k] = v'. -/
def mapW (P : Program) (T : TypeId) (mb : Nat) (k v : Value) (w : World) : World :=
  match (Instr.mapUpdate T (.map (some mb)) k v).run P w with
  | .ok _ w' => w'
  | .halt _ w' => w'
/-- w' is w but for block b. -/
structure But (b : Nat) (w w' : World) : Prop where
  os : w'.os = w.os
  tape : w'.tape = w.tape
  output : w'.output = w.output
  size : w'.heap.size = w.heap.size
  block : ∀ k, k ≠ b → w'.heap[k]? = w.heap[k]?
theorem But.set (b : Nat) (w : World) (o : Obj) : But b w { w with heap := w.heap.setIfInBounds b o } :=
  ⟨rfl, rfl, rfl, by simp, fun k hk => by simp [Ne.symm hk]⟩
theorem But.cell {b : Nat} {w w' : World} (h : But b w w') {a : Addr} (ha : a.block ≠ b) : w'.cell? a = w.cell? a := World.cell?_of_block (h.block _ ha)
theorem But.frozen {b : Nat} {w w' : World} (h : But b w w') {a : Addr} (ha : a.block ≠ b) : w'.frozen? a = w.frozen? a := World.frozen?_of_block (h.block _ ha)
theorem But.below {b B : Nat} {w0 w w' : World} (h : But b w w') (hb : B ≤ b) (h0 : Below B w0 w) : Below B w0 w' :=
  h0.trans ⟨h.os, h.tape, h.output, by rw [h.size]; exact Nat.le_refl _, fun k hk => h.block k (by omega)⟩
section
variable {P : Program} {K : TypeId} {w : World} {mb : Nat} {m : List (Value × Value)}
theorem MapIs.put_new {T E : TypeId} (h : MapIs P K w mb m) (KL : Keyed P K) (hT : P.underlying T = some (.map K E)) {k : Value} {l : Lit} (hk : keyOf P K k = some l) (hm : ∀ v, (k, v) ∉ m) (v : Value) :
    (Instr.mapUpdate T (.map (some mb)) k v).run P w = .ok () (mapW P T mb k v w) ∧ MapIs P K (mapW P T mb k v w) mb (m ++ [(k, v)]) ∧ But mb w (mapW P T mb k v w) := by
  obtain ⟨es, clock, h1, h2, h3, h4, h5, h6⟩ := h
  rcases KL.find w hk es.toList h2 with ⟨hf, hno⟩ | ⟨j, e, hf, hj, hek⟩
  · have hr : (Instr.mapUpdate T (.map (some mb)) k v).run P w = .ok () { w with heap := w.heap.setIfInBounds mb (.map (es.push ⟨k, v, clock⟩) (clock + 1)) } := by
      simp [Instr.mapUpdate, run_underlying hT, MapKept.run_getObj_map h1, KL.check w _ hk, hf, MapKept.run_setObj_map _ h1, Result.andThen]
    have hw : mapW P T mb k v w = { w with heap := w.heap.setIfInBounds mb (.map (es.push ⟨k, v, clock⟩) (clock + 1)) } := by unfold mapW; rw [hr]
    rw [hw]
    refine ⟨hr, ⟨es.push ⟨k, v, clock⟩, clock + 1, ?_, ?_, ?_, ?_, ?_, ?_⟩, But.set _ _ _⟩
    · have := (Array.getElem?_eq_some_iff.1 h1).1
      simp [this]
    · intro e he
      simp only [Array.toList_push, List.mem_append, List.mem_singleton] at he
      rcases he with he | rfl
      · exact h2 e he
      · exact ⟨l, hk⟩
    · simp only [Array.toList_push, List.map_append, List.map_cons, List.map_nil]
      exact h3.append_right _
    · rw [List.map_append, List.nodup_append]
      refine ⟨h4, by simp, ?_⟩
      intro a ha b hb hab
      simp at hb
      subst hb
      subst hab
      obtain ⟨p, hp, hp2⟩ := List.mem_map.1 ha
      exact hm p.2 (by rw [← hp2]; exact hp)
    · simp only [Array.toList_push, List.map_append, List.map_cons, List.map_nil, List.nodup_append]
      refine ⟨h5, by simp, ?_⟩
      intro a ha b hb hab
      simp at hb
      obtain ⟨e, he, rfl⟩ := List.mem_map.1 ha
      have := h6 e he
      omega
    · intro e he
      simp only [Array.toList_push, List.mem_append, List.mem_singleton] at he
      rcases he with he | rfl
      · have := h6 e he; omega
      · simp
  · exact absurd (h3.mem_iff.1 (List.mem_map.2 ⟨e, List.mem_of_getElem? hj, by rw [hek]⟩)) (hm e.val)
theorem MapIs.len {T E : TypeId} (h : MapIs P K w mb m) (hT : P.underlying T = some (.map K E)) (ty : TypeId) : (Builtin.len_ #[T] ty #[.map (some mb)]).run P w = .ok (.int .i64 m.length) w := by
  obtain ⟨es, clock, h1, h2, h3, h4, h5, h6⟩ := h
  have hl : es.size = m.length := by have := h3.length_eq; simpa using this
  simp [Builtin.len_, run_underlying hT, MapKept.run_getObj_map h1, goInt, hl]
end
end Go.Proofs.Ytofbadmjopefpaa
