/- Own slices of integers beside a graph: what each leaves of the other. -/
import Derived.Test.YteofgmjejocleaaGraphI
namespace Go.Proofs.Yteofgmjejocleaa
open Go.RowKit Go.Maps
set_option maxHeartbeats 400000

section
variable {w w' : World} {base base' : Nat} {F I : List Nat} {gb W room : Nat} {L : List PNode}
theorem owns_keep {E size n : Nat} {v : Value} {xs : List Value} (h : w.ownsRow base E size v n xs) (hw : ∀ k, v.ownBlock = some k → w'.heap[k]? = w.heap[k]?) : w'.ownsRow base E size v n xs := by
  refine ⟨h.1, ?_⟩
  rcases h.2 with hn | ⟨g, cap, cur, rfl, hb, hg, r⟩
  · exact .inl hn
  · exact .inr ⟨g, cap, cur, rfl, hb, by rw [hw g rfl, hg], r⟩
theorem OwnInts.keep {E : Nat} {k : IntKind} {v : Value} {xs : List Int} (h : OwnInts w base E k v xs) (hw : ∀ k, v.ownBlock = some k → w'.heap[k]? = w.heap[k]?) : OwnInts w' base E k v xs := owns_keep h hw
/-- No block of another type is one that a graph's call may write. -/
theorem Gr.not_of (h : Gr w base F I gb W room L) {k E : Nat} {arr : Array Value} {fr : Nat × Nat} (h1 : E ≠ 79) (h2 : E ≠ 62) (hk : w.heap[k]? = some (.cells arr E fr)) : k ∉ F := by
  obtain ⟨sv, mb, cells, rfl, _, _, h3, h4, _, h6⟩ := h.mem
  intro hm
  simp only [List.mem_cons] at hm
  rcases hm with rfl | rfl | hm
  · rw [h3] at hk; simp at hk; exact h1 hk.2.1.symm
  · obtain ⟨es, c, h7, _⟩ := h6
    rw [h7] at hk; simp at hk
  · have hk' : sv.ownBlock = some k := by simpa using hm
    rcases h4.2 with ⟨rfl, _⟩ | ⟨g, cap, cur, rfl, hb, hg, _⟩
    · simp [Value.ownBlock] at hk'
    · simp [Value.ownBlock] at hk'
      subst hk'
      rw [hg] at hk; simp at hk; exact h2 hk.2.1.symm
theorem Gr.not_own (h : Gr w base F I gb W room L) {E size n : Nat} {v : Value} {xs : List Value} (h1 : E ≠ 79) (h2 : E ≠ 62) (ho : w.ownsRow base' E size v n xs) : ∀ b, v.ownBlock = some b → b ∉ F := by
  intro b hb
  rcases ho.2 with ⟨rfl, _⟩ | ⟨g, cap, cur, rfl, _, hg, _⟩
  · simp [Value.ownBlock] at hb
  · simp only [Value.ownBlock, Option.some.injEq] at hb
    subst hb
    exact h.not_of h1 h2 hg
/-- A graph's call leaves an own row of another type. -/
theorem Touch.owns (ht : Touch F w w') (h : Gr w base F I gb W room L) {E size n : Nat} {v : Value} {xs : List Value} (h1 : E ≠ 79) (h2 : E ≠ 62) (ho : w.ownsRow base' E size v n xs) : w'.ownsRow base' E size v n xs :=
  owns_keep ho fun k hk => ht.block k (ho.lt k hk).2 (h.not_own h1 h2 ho k hk)
theorem Touch.ints (ht : Touch F w w') (h : Gr w base F I gb W room L) {v : Value} {xs : List Int} (ho : OwnInts w base' 3 .i64 v xs) : OwnInts w' base' 3 .i64 v xs :=
  Touch.owns ht h (by decide) (by decide) ho
theorem IntsAt.touch {v : Value} {xs : List Int} (hv : IntsAt w v xs) (ht : Touch F w w') (h : Gr w base F I gb W room L) : IntsAt w' v xs :=
  hv.ints fun k _ _ hk => ht.block k (Array.getElem?_eq_some_iff.1 hk).1 (h.not_ints hk)
/-- The blocks of the arguments are there: others may be left out. -/
theorem Gr.inI (h : Gr w base F I gb W room L) : Gr w base F (I.filter fun k => decide (k < w.heap.size)) gb W room L := by
  obtain ⟨sv, mb, cells, hF, h1, h2, h3, h4, h5, h6⟩ := h.mem
  refine ⟨h.wf, h.len, h.w1, h.w2, h.r2, sv, mb, cells, hF, h1, h2, h3, h4, ⟨h5.1, fun i n hn => ?_⟩, h6⟩
  obtain ⟨va, k1, k2, k3, k4, k5⟩ := h5.2 i n hn
  exact ⟨va, k1, k2, k3, k4, fun k hk => ⟨List.mem_filter.2 ⟨(k5 k hk).1, by simpa using (k5 k hk).2.lt⟩, (k5 k hk).2⟩⟩
/-- A write to a row that is no block of a graph's leaves the graph. -/
theorem Gr.beside (h : Gr w base F I gb W room L) {S : List Nat} (ht : Touch S w w') (hF : ∀ k, k ∈ S → k ∉ F) (hI : ∀ k, k ∈ S → k ∉ I) : Gr w' base F I gb W room L :=
  h.apart ht (fun k hk hm => hF k hm hk) (fun k hk _ hm => hI k hm hk)
end
section
variable {P : Program}
theorem srcOf_new (wr : World) (x : Value) (E : Nat) : SrcOf (wr.alloc (.cells #[x] E)) (.slice (some ⟨wr.heap.size, 0, none⟩) 1 1) 1 1 [x] := by
  refine ⟨_, _, rfl, rfl, fun _ => ⟨_, rfl, fun j u hu => ?_⟩⟩
  rw [Go.WideShapes.add_plain, World.cell?_alloc_at _ _ _ _ rfl, Nat.zero_add, ← hu]
  simp
/-- One element is appended to an own slice: what may have turned. -/
theorem wpList_append1_sep {ops : Array Oper} {rest : List Oper} {o : Oper} {a : Act} {Q : Exit → Act → World → Prop} (T E : Nat) (k : IntKind) (base : Nat) (wr : World) (v : Value) (xs : List Int) (q : Int) (bytes : Nat)
    (hown : OwnInts wr base E k v xs) (s x : Operand) (hgd : o.guard = none) (ho : o.op = .call { callee := .builtin .append, args := #[s, x], argTypes := #[T, T] })
    (ht : P.underlying T = some (.slice E)) (hi : (P.info? E).map (fun i => (i.zero, i.size, i.bytes)) = some (some (.int k 0), 1, bytes)) (hbt : bytes ≤ 1000)
    (hs : a.eval s = v) (hx : a.eval x = .slice (some ⟨wr.heap.size, 0, none⟩) 1 1) (hn : xs.length ≤ 999999999) (hbase : base ≤ wr.heap.size)
    (h : ∀ a' c' w', OwnInts w' base E k (.slice a' (xs.length + 1) c') (xs ++ [q]) → Touch v.ownBlock.toList wr w' → (∀ b, (Value.slice a' (xs.length + 1) c').ownBlock = some b → v.ownBlock = some b ∨ wr.heap.size ≤ b) →
      wpList P ops Q rest (a.put o.dst (.slice a' (xs.length + 1) c')) w') :
    wpList P ops Q (o :: rest) a (wr.alloc (.cells #[.int k q] E)) := by
  have hsrc := srcOf_new wr (.int k q) E
  have hown' : (wr.alloc (.cells #[.int k q] E)).ownsRow base E 1 v xs.length (xs.map (Value.int k)) := hown.alloc _
  have h1 : ∀ u ∈ [Value.int k q], u.oneCell' = true := by simp [Value.oneCell']
  obtain ⟨v', w', hr, h2, h3⟩ := run_append_src (P := P) (wr.alloc (.cells #[.int k q] E)) base T o.type E 1 bytes (.int k 0) ht hi rfl (by decide) hbt v _ xs.length 1 _ [.int k q] hown' hsrc h1 (by omega) (by simp; omega)
  have blk := append_block (P := P) (T := T) (ty := o.type) (bytes := bytes) (z := .int k 0) ht hi hbt hown' hsrc h1 (by decide) (by omega) hr
  obtain ⟨a', c', rfl⟩ : ∃ a' c', v' = .slice a' (xs.length + 1) c' := by
    rcases h2.2 with ⟨_, h0⟩ | ⟨g, cap, cur, rfl, _⟩
    · omega
    · exact ⟨_, _, rfl⟩
  refine wpList_plain hgd fun _ hK => ?_
  unfold Oper.wp execOp
  simp only [ho, resolve, invoke, builtin, Sem.run_bind, Sem.run_pure, Result.andThen_ok, List.map_toArray, List.map_cons, List.map_nil, hs, hx, hr]
  refine hK _ _ (h a' c' w' ?_ ?_ ?_)
  · unfold OwnInts
    rw [List.length_append, List.map_append]
    exact h2
  · refine ⟨h3.os, h3.tape, h3.output, by have := h3.size; simp at this; omega, fun b hb hn => ?_⟩
    rw [h3.block b (by simp; omega) (fun e => hn (by simp [← e])), heap_alloc_old _ _ hb]
  · intro b hb
    exact (blk b hb).imp id (fun h => by simp at h; omega)
end
end Go.Proofs.Yteofgmjejocleaa
