/- Own slices of nodes. -/
import Derived.Test.YteofgmjejocleaaLab
namespace Go.Proofs.Yteofgmjejocleaa
open Go.RowKit Go.Maps
set_option maxHeartbeats 400000

section
variable {P : Program}
theorem srcOf_news (wr : World) (news : List Value) (E size : Nat) (hl : news.length = size) : SrcOf (wr.alloc (.cells news.toArray E)) (.slice (some ⟨wr.heap.size, 0, none⟩) 1 1) 1 size news := by
  refine ⟨_, _, rfl, by omega, fun _ => ⟨_, rfl, fun j u hu => ?_⟩⟩
  rw [Go.WideShapes.add_plain, World.cell?_alloc_at _ _ _ _ rfl, Nat.zero_add, ← hu]
  simp
/-- One element, of whatever size, is appended to an own slice: what may have turned. -/
theorem wpList_append1_row {ops : Array Oper} {rest : List Oper} {o : Oper} {a : Act} {Q : Exit → Act → World → Prop} (T E size bytes : Nat) (wr : World) (v : Value) (n : Nat) (xs news : List Value)
    (hown : wr.ownsRow 0 E size v n xs) (s x : Operand) (hgd : o.guard = none) (ho : o.op = .call { callee := .builtin .append, args := #[s, x], argTypes := #[T, T] })
    (z : Value) (ht : P.underlying T = some (.slice E)) (hi : (P.info? E).map (fun i => (i.zero, i.size, i.bytes)) = some (some z, size, bytes)) (hzs : z.cells.size = size) (hsz : 0 < size) (hbt : bytes ≤ 1000)
    (hs : a.eval s = v) (hx : a.eval x = .slice (some ⟨wr.heap.size, 0, none⟩) 1 1) (hl : news.length = size) (h1 : ∀ u ∈ news, u.oneCell' = true) (hn : n ≤ 999999999)
    (h : ∀ a' c' w', w'.ownsRow 0 E size (.slice a' (n + 1) c') (n + 1) (xs ++ news) → Touch v.ownBlock.toList wr w' → (∀ b, (Value.slice a' (n + 1) c').ownBlock = some b → v.ownBlock = some b ∨ wr.heap.size ≤ b) →
      wpList P ops Q rest (a.put o.dst (.slice a' (n + 1) c')) w') :
    wpList P ops Q (o :: rest) a (wr.alloc (.cells news.toArray E)) := by
  have hsrc := srcOf_news wr news E size hl
  have hown' : (wr.alloc (.cells news.toArray E)).ownsRow 0 E size v n xs := hown.alloc _
  obtain ⟨v', w', hr, h2, h3⟩ := run_append_src (P := P) (wr.alloc (.cells news.toArray E)) 0 T o.type E size bytes z ht hi hzs hsz hbt v _ n 1 _ news hown' hsrc h1 (by omega) (Nat.zero_le _)
  have blk := append_block (P := P) (T := T) (ty := o.type) (bytes := bytes) (z := z) ht hi hbt hown' hsrc h1 (by decide) (by omega) hr
  obtain ⟨a', c', rfl⟩ : ∃ a' c', v' = .slice a' (n + 1) c' := by
    rcases h2.2 with ⟨_, h0⟩ | ⟨g, cap, cur, rfl, _⟩
    · omega
    · exact ⟨_, _, rfl⟩
  refine wpList_plain hgd fun _ hK => ?_
  unfold Oper.wp execOp
  simp only [ho, resolve, invoke, builtin, Sem.run_bind, Sem.run_pure, Result.andThen_ok, List.map_toArray, List.map_cons, List.map_nil, hs, hx, hr]
  refine hK _ _ (h a' c' w' h2 ?_ ?_)
  · refine ⟨h3.os, h3.tape, h3.output, by have := h3.size; simp at this; omega, fun b hb hn => ?_⟩
    rw [h3.block b (by simp; omega) (fun e => hn (by simp [← e])), heap_alloc_old _ _ hb]
  · intro b hb
    exact (blk b hb).imp id (fun h => by simp at h; omega)
end
section
variable {w0 wr w' : World} {s s' u : Thing} {ts : List Thing}
/-- The first thing turns, and takes the second one in. -/
theorem Lab.absorb (h : Lab w0 wr (s :: u :: ts)) (ht : Touch s.W wr w') (hs : s'.holds w') (hW : ∀ k, k ∈ s'.W → k ∈ s.W ∨ wr.heap.size ≤ k) (hR : ∀ k, k ∈ s'.R → k ∈ s.R ∨ k ∈ u.W ∨ wr.heap.size ≤ k) (hz : ∀ k, k ∈ s'.W ∨ k ∈ s'.R → k < w'.heap.size) : Lab w0 w' (s' :: ts) := by
  have hp := List.pairwise_cons.1 h.apart
  have hq := List.pairwise_cons.1 hp.2
  refine ⟨ht.below h.below h.size (h.low s (by simp)), fun t hm => ?_, fun t hm k hk => ?_, fun t hm k hk => ?_, ?_⟩
  · rcases List.mem_cons.1 hm with rfl | hm
    · exact hs
    · exact t.keep _ _ (h.holds t (by simp [hm])) fun k hk => ht.block k (h.high t (by simp [hm]) k hk) fun hsW => hk.elim (fun hw => ((hp.1 t (by simp [hm])).1 k hsW).1 hw) (fun hr => ((hp.1 t (by simp [hm])).1 k hsW).2 hr)
  · rcases List.mem_cons.1 hm with rfl | hm
    · exact (hW k hk).elim (h.low s (by simp) k) (fun hl => Nat.le_trans h.size hl)
    · exact h.low t (by simp [hm]) k hk
  · rcases List.mem_cons.1 hm with rfl | hm
    · exact hz k hk
    · exact Nat.lt_of_lt_of_le (h.high t (by simp [hm]) k hk) ht.size
  · rw [List.pairwise_cons]
    refine ⟨fun t hm => ⟨fun k hk => ⟨fun htW => ?_, fun htR => ?_⟩, fun k hk htW => ?_⟩, hq.2⟩
    · exact (hW k hk).elim (fun hs => ((hp.1 t (by simp [hm])).1 k hs).1 htW) (fun hl => by have := h.high t (by simp [hm]) k (.inl htW); omega)
    · exact (hW k hk).elim (fun hs => ((hp.1 t (by simp [hm])).1 k hs).2 htR) (fun hl => by have := h.high t (by simp [hm]) k (.inr htR); omega)
    · rcases hR k hk with hs | hu | hl
      · exact (hp.1 t (by simp [hm])).2 k hs htW
      · exact ((hq.1 t hm).1 k hu).1 htW
      · have := h.high t (by simp [hm]) k (.inl htW); omega
end
theorem cap_of_trod {H : Type} {enc : TypeId × Value → H} {P : Program} {w : World} {base t e : Nat} {v : Value} {d : DataW H} {p : List MemPlace} (ht : P.underlying t = some (.slice e))
    (h : DataW.Trod enc P w 0 (fun _ => true) true t v d p) (o : Value.okWide P w .any base t v) : ∀ a n c, v = .slice a n c → n ≤ c := by
  intro a n c hv
  rcases slice_of_trod ht h o with h0 | ⟨ad, n', cap, _, _, h1, h2, _⟩
  · rw [hv] at h0
    simp only [Value.slice.injEq] at h0
    omega
  · rw [hv] at h1
    simp only [Value.slice.injEq] at h1
    omega
theorem AskV.slice {w : World} {x0 x1 x2 x3 va : Value} {a : PAsk} (h : AskV w (.agg #[x0, x1, x2, x3, va]) a) : SliceOf w .i64 va a.2.2.2.2 := by
  obtain ⟨va', he, hs⟩ := h
  simp only [Value.agg.injEq] at he
  have h' := Array.toList_inj.2 he
  simp only [List.cons.injEq, and_true] at h'
  obtain ⟨_, _, _, _, rfl⟩ := h'
  exact hs
/-- A slice of nodes. -/
def Thing.nodes (I : List Nat) (v : Value) (L : List PNode) : Thing :=
  ⟨v.ownBlock.toList, I, fun w => ∃ cells, w.ownsRow 0 62 3 v L.length cells ∧ NodeRow w I cells L,
    fun _ _ ⟨cells, h, hn⟩ hk => ⟨cells, owns_keep h fun k hm => hk k (.inl (by simp [hm])), hn.keep fun k hm _ => hk k (.inr hm)⟩⟩
section
variable {w0 wr w' : World} {ts : List Thing} {I : List Nat} {v : Value} {L : List PNode}
theorem Lab.nil_nodes (h : Lab w0 wr ts) : Lab w0 wr (Thing.nodes [] (.slice none 0 0) [] :: ts) :=
  h.new (s := Thing.nodes [] (.slice none 0 0) []) (Below.refl _ _) ⟨[], World.ownsRow_nil _ _ _ _, NodeRow.nil _ _⟩ (fun k hk => by simp [Thing.nodes, Value.ownBlock] at hk) (fun k hk => by simp [Thing.nodes] at hk) (fun k hk => by simp [Thing.nodes, Value.ownBlock] at hk)
theorem Lab.val_nodes (h : Lab w0 wr (Thing.nodes I v L :: ts)) : ∃ a c, v = .slice a L.length c := by
  obtain ⟨cells, ho, _⟩ := h.head
  rcases ho.2 with ⟨rfl, h0⟩ | ⟨g, cap, cur, rfl, _⟩
  · exact ⟨_, _, by rw [h0]⟩
  · exact ⟨_, _, rfl⟩
/-- One of a slice of nodes. -/
theorem nodes_at (h : (Thing.nodes I v L).holds wr) {i : Nat} {n : PNode} (hi : L[i]? = some n) :
    ∃ g cap va, v = .slice (some ⟨g, 0, none⟩) L.length cap ∧ wr.cell? ⟨g, i * 3, none⟩ = some (.int .u8 n.1) ∧ wr.cell? ⟨g, i * 3 + 1, none⟩ = some (.int .u64 n.2.1) ∧ wr.cell? ⟨g, i * 3 + 2, none⟩ = some va ∧ IntsAt wr va n.2.2 := by
  obtain ⟨cells, ho, hn⟩ := h
  obtain ⟨g, cap, va, h1, _, h2⟩ := hn.at ho hi
  exact ⟨g, cap, va, h1, h2⟩
/-- A node more, with its arguments in a block of the slice's own from then on. -/
theorem Lab.grown_nodes {cells : List Value} {n : PNode} {va : Value} {a' : Option Addr} {c' m : Nat} (h : Lab w0 wr (Thing.nodes I v L :: Thing.ints va n.2.2 :: ts)) (ho : wr.ownsRow 0 62 3 v L.length cells) (hn : NodeRow wr I cells L)
    (hown : w'.ownsRow 0 62 3 (.slice a' m c') m (cells ++ [.int .u8 n.1, .int .u64 n.2.1, va])) (hm : m = L.length + 1) (ht : Touch v.ownBlock.toList wr w') (hb : ∀ b, (Value.slice a' m c').ownBlock = some b → v.ownBlock = some b ∨ wr.heap.size ≤ b) :
    Lab w0 w' (Thing.nodes (va.ownBlock.toList ++ I) (.slice a' m c') (L ++ [n]) :: ts) := by
  have hp := List.pairwise_cons.1 h.apart
  have hap := hp.1 (Thing.ints va n.2.2) (by simp)
  have hv := h.ints2
  have hkeepI : ∀ k, k ∈ I → IntBlk wr k → w'.heap[k]? = wr.heap[k]? := fun k hk hi => ht.block k (h.high (Thing.nodes I v L) (by simp) k (.inr hk)) fun hm => by
    obtain ⟨arr, fr, hi⟩ := hi
    exact not_own ho hi (by intro c fr e; simp at e) (by simpa using hm)
  have hkeepV : ∀ k, va.ownBlock = some k → w'.heap[k]? = wr.heap[k]? := fun k hk => ht.block k (h.high (Thing.ints va n.2.2) (by simp) k (.inl (by simp [Thing.ints, Thing.row, hk]))) fun hm => (hap.1 k hm).1 (by simp [Thing.ints, Thing.row, hk])
  have hv' := hv.keep hkeepV
  subst hm
  refine h.absorb (s' := Thing.nodes (va.ownBlock.toList ++ I) (.slice a' (L.length + 1) c') (L ++ [n])) ht ⟨_, ?_, (hn.keep hkeepI).snoc (intsAt_owns hv') (intBlk_owns hv')⟩ (fun k hk => ?_) (fun k hk => ?_) (fun k hk => ?_)
  · rw [List.length_append]; exact hown
  · have hk' : (Value.slice a' (L.length + 1) c').ownBlock = some k := by simpa [Thing.nodes] using hk
    exact (hb k hk').imp (fun e => by simp [Thing.nodes, e]) id
  · rcases List.mem_append.1 hk with hk | hk
    · exact .inr (.inl (by simpa [Thing.ints, Thing.row] using hk))
    · exact .inl hk
  · rcases hk with hk | hk
    · exact (hown.lt k (by simpa [Thing.nodes] using hk)).2
    · rcases List.mem_append.1 hk with hk | hk
      · exact (World.ownsRow.lt hv' k (by simpa using hk)).2
      · exact Nat.lt_of_lt_of_le (h.high (Thing.nodes I v L) (by simp) k (.inr hk)) ht.size
end
end Go.Proofs.Yteofgmjejocleaa
