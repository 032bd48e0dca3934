/- A graph of terms in memory. -/
import Derived.Test.YteofgmjejocleaaBase
import Derived.Test.YteofgmjejocleaaMap
import Derived.Test.YteofgmjejocleaaPlainG
namespace Go.Proofs.Yteofgmjejocleaa
open Go.RowKit Go.Maps
set_option maxHeartbeats 400000

/-- A slice in a block of ints reads as a list. -/
def IntsAt (w : World) (v : Value) (xs : List Int) : Prop :=
  ∃ a n cap, v = .slice a n cap ∧ xs.length = n ∧ (0 < n → ∃ b off arr fr, a = some ⟨b, off, none⟩ ∧ w.heap[b]? = some (.cells arr 3 fr) ∧ ∀ i, i < n → arr[off + i]? = some (.int .i64 (xs.getD i 0)))
theorem IntsAt.slice {w : World} {v : Value} {xs : List Int} (h : IntsAt w v xs) : SliceOf w .i64 v xs := by
  obtain ⟨a, n, cap, rfl, hl, hc⟩ := h
  refine ⟨a, n, cap, rfl, hl, fun i hi => ?_⟩
  obtain ⟨b, off, arr, fr, rfl, hh, hg⟩ := hc (by omega)
  exact ⟨b, off, rfl, by rw [cell_of_row w b _ arr _ fr hh]; exact hg i hi⟩
theorem IntsAt.nil (w : World) : IntsAt w (.slice none 0 0) [] := ⟨_, _, _, rfl, rfl, fun h => by omega⟩
theorem IntsAt.ints {w w' : World} {v : Value} {xs : List Int} (h : IntsAt w v xs) (hw : ∀ (k : Nat) (arr : Array Value) (fr : Nat × Nat), w.heap[k]? = some (Obj.cells arr 3 fr) → w'.heap[k]? = w.heap[k]?) : IntsAt w' v xs := by
  obtain ⟨a, n, cap, rfl, hl, hc⟩ := h
  refine ⟨a, n, cap, rfl, hl, fun hn => ?_⟩
  obtain ⟨b, off, arr, fr, rfl, hh, hg⟩ := hc hn
  exact ⟨b, off, arr, fr, rfl, by rw [hw b arr fr hh, hh], hg⟩
theorem IntsAt.own {w w' : World} {v : Value} {xs : List Int} (h : IntsAt w v xs) (hw : ∀ k, v.ownBlock = some k → w'.heap[k]? = w.heap[k]?) : IntsAt w' v xs := by
  obtain ⟨a, n, cap, rfl, hl, hc⟩ := h
  refine ⟨a, n, cap, rfl, hl, fun hn => ?_⟩
  obtain ⟨b, off, arr, fr, rfl, hh, hg⟩ := hc hn
  exact ⟨b, off, arr, fr, rfl, by rw [hw b rfl, hh], hg⟩
theorem IntsAt.below {w w' : World} {v : Value} {xs : List Int} (h : IntsAt w v xs) (hb : Below w.heap.size w w') : IntsAt w' v xs :=
  h.ints fun k _ _ hk => hb.block k (Array.getElem?_eq_some_iff.1 hk).1
theorem intsAt_owns {w : World} {base : Nat} {v : Value} {xs : List Int} (h : OwnInts w base 3 .i64 v xs) : IntsAt w v xs := by
  rcases h.2 with ⟨rfl, h0⟩ | ⟨g, cap, cur, rfl, hb, hg, hn, hm, hsz, htake⟩
  · exact ⟨none, _, 0, rfl, h0, fun h => by omega⟩
  · refine ⟨_, _, cap, rfl, rfl, fun _ => ⟨g, 0, cur, (0, 0), rfl, hg, fun i hi => ?_⟩⟩
    have := congrArg (fun l => l[i]?) htake
    simp only [List.getElem?_take, Nat.mul_one, hi, if_true, List.getElem?_map] at this
    rw [Nat.zero_add, ← Array.getElem?_toList, this]
    simp [hi]

/-- A block of ints. -/
def IntBlk (w : World) (k : Nat) : Prop := ∃ (arr : Array Value) (fr : Nat × Nat), w.heap[k]? = some (Obj.cells arr 3 fr)
theorem IntBlk.lt {w : World} {k : Nat} (h : IntBlk w k) : k < w.heap.size := by
  obtain ⟨arr, fr, h⟩ := h
  exact (Array.getElem?_eq_some_iff.1 h).1
theorem IntBlk.of {w w' : World} {k : Nat} (h : IntBlk w k) (hk : w'.heap[k]? = w.heap[k]?) : IntBlk w' k := by
  obtain ⟨arr, fr, h⟩ := h
  exact ⟨arr, fr, hk.trans h⟩
/-- Three cells a node. -/
def NodeRow (w : World) (I : List Nat) (cells : List Value) (L : List PNode) : Prop :=
  cells.length = L.length * 3 ∧ ∀ (i : Nat) (n : PNode), L[i]? = some n → ∃ va, cells[3 * i]? = some (.int .u8 n.1) ∧ cells[3 * i + 1]? = some (.int .u64 n.2.1) ∧ cells[3 * i + 2]? = some va ∧ IntsAt w va n.2.2 ∧ ∀ k, va.ownBlock = some k → k ∈ I ∧ IntBlk w k
theorem NodeRow.nil (w : World) (I : List Nat) : NodeRow w I [] [] := ⟨rfl, fun i n h => by simp at h⟩
theorem NodeRow.keep {w w' : World} {I : List Nat} {cells : List Value} {L : List PNode} (h : NodeRow w I cells L) (hw : ∀ k, k ∈ I → IntBlk w k → w'.heap[k]? = w.heap[k]?) : NodeRow w' I cells L := by
  refine ⟨h.1, fun i n hn => ?_⟩
  obtain ⟨va, h1, h2, h3, h4, h5⟩ := h.2 i n hn
  exact ⟨va, h1, h2, h3, h4.own fun k hk => hw k (h5 k hk).1 (h5 k hk).2, fun k hk => ⟨(h5 k hk).1, (h5 k hk).2.of (hw k (h5 k hk).1 (h5 k hk).2)⟩⟩
theorem NodeRow.snoc {w : World} {I : List Nat} {cells : List Value} {L : List PNode} (h : NodeRow w I cells L) {n : PNode} {va : Value} (hv : IntsAt w va n.2.2) (hb : ∀ k, va.ownBlock = some k → IntBlk w k) : NodeRow w (va.ownBlock.toList ++ I) (cells ++ [.int .u8 n.1, .int .u64 n.2.1, va]) (L ++ [n]) := by
  refine ⟨by rw [List.length_append, List.length_append, h.1]; simp; omega, fun i m hm => ?_⟩
  rcases Nat.lt_or_ge i L.length with hl | hl
  · rw [List.getElem?_append_left hl] at hm
    obtain ⟨vb, h1, h2, h3, h4, h5⟩ := h.2 i m hm
    have hc := h.1
    exact ⟨vb, by rw [List.getElem?_append_left (by omega)]; exact h1, by rw [List.getElem?_append_left (by omega)]; exact h2, by rw [List.getElem?_append_left (by omega)]; exact h3, h4, fun k hk => ⟨List.mem_append_right _ (h5 k hk).1, (h5 k hk).2⟩⟩
  · rw [List.getElem?_append_right hl] at hm
    have h0 : i - L.length = 0 := by
      rcases Nat.eq_zero_or_pos (i - L.length) with h0 | h0
      · exact h0
      · rw [List.getElem?_eq_none (by simp; omega)] at hm; cases hm
    rw [h0] at hm
    simp at hm; subst hm
    have hi : i = L.length := by omega
    subst hi
    have hc := h.1
    refine ⟨va, ?_, ?_, ?_, hv, fun k hk => ⟨List.mem_append_left _ (by simp [hk]), hb k hk⟩⟩
    · rw [List.getElem?_append_right (by omega), show 3 * L.length - cells.length = 0 from by omega]; rfl
    · rw [List.getElem?_append_right (by omega), show 3 * L.length + 1 - cells.length = 1 from by omega]; rfl
    · rw [List.getElem?_append_right (by omega), show 3 * L.length + 2 - cells.length = 2 from by omega]; rfl

def keyV (n : PNode) : Value := .agg #[.int .u8 n.1, .int .u64 n.2.1, .int .i64 (n.2.2.getD 0 0), .int .i64 (n.2.2.getD 1 0), .int .i64 (n.2.2.getD 2 0)]
/-- The pairs of a graph's map. -/
def gm (L : List PNode) : List (Value × Value) := L.zipIdx.map fun p => (keyV p.1, Value.int .i64 p.2)
theorem keyV_inj {n m : PNode} (hn : NodeOk n) (hm : NodeOk m) (h : keyV n = keyV m) : n = m := by
  obtain ⟨o, k, l⟩ := n
  obtain ⟨o', k', l'⟩ := m
  simp only [keyV, Value.agg.injEq] at h
  have h' := Array.toList_inj.2 h
  simp only [List.cons.injEq, Value.int.injEq, true_and, and_true] at h'
  obtain ⟨h1, h2, h3, h4, h5⟩ := h'
  have e1 : o = o' := by omega
  have e2 : k = k' := by omega
  subst e1; subst e2
  have e3 : l = l' := by
    have hl : l.length = l'.length := hn.2.2.trans hm.2.2.symm
    have hle : l.length ≤ 3 := by rw [hn.2.2]; exact aryN_le o
    match l, l', hl, hle with
    | [], [], _, _ => rfl
    | [a], [b], _, _ => simpa using h3
    | [a, a'], [b, b'], _, _ => simp at h3 h4; simp [h3, h4]
    | [a, a', a''], [b, b', b''], _, _ => simp at h3 h4 h5; simp [h3, h4, h5]
    | _ :: _ :: _ :: _ :: _, _, _, h => simp at h
  subst e3
  rfl
theorem mem_gm {L : List PNode} {k v : Value} (h : (k, v) ∈ gm L) : ∃ (i : Nat) (n : PNode), L[i]? = some n ∧ k = keyV n ∧ v = .int .i64 i := by
  obtain ⟨p, hp, he⟩ := List.mem_map.1 h
  have := List.mem_zipIdx_iff_getElem?.1 hp
  exact ⟨p.2, p.1, this, (Prod.mk.inj he).1.symm, (Prod.mk.inj he).2.symm⟩
theorem gm_mem {L : List PNode} {i : Nat} {n : PNode} (h : L[i]? = some n) : (keyV n, Value.int .i64 i) ∈ gm L :=
  List.mem_map.2 ⟨(n, i), List.mem_zipIdx_iff_getElem?.2 h, rfl⟩
theorem gm_snoc (L : List PNode) (n : PNode) : gm (L ++ [n]) = gm L ++ [(keyV n, .int .i64 L.length)] := by
  simp [gm, List.zipIdx_append]

/-- A pointer leads to a graph: its width, room and nodes; F: the blocks that a call of the graph may write. -/
structure Gr (w : World) (base : Nat) (F I : List Nat) (gb W room : Nat) (L : List PNode) : Prop where
  wf : WFL L
  len : L.length ≤ room
  w1 : 1 ≤ W
  w2 : W ≤ 64
  r2 : room ≤ 1048576
  mem : ∃ sv mb cells, F = gb :: mb :: sv.ownBlock.toList ∧ base ≤ gb ∧ base ≤ mb ∧
    w.heap[gb]? = some (.cells #[.int .i64 W, .int .i64 room, sv, .map (some mb)] 79 (0, 0)) ∧
    w.ownsRow base 62 3 sv L.length cells ∧ NodeRow w I cells L ∧ MapIs Try.prog 98 w mb (gm L)
/-- Only the blocks of F may have turned. -/
structure Touch (F : List Nat) (w w' : World) : Prop where
  os : w'.os = w.os
  tape : w'.tape = w.tape
  output : w'.output = w.output
  size : w.heap.size ≤ w'.heap.size
  block : ∀ k, k < w.heap.size → k ∉ F → w'.heap[k]? = w.heap[k]?
theorem Touch.refl (F : List Nat) (w : World) : Touch F w w := ⟨rfl, rfl, rfl, Nat.le_refl _, fun _ _ _ => rfl⟩
theorem Touch.trans {F F' : List Nat} {a b c : World} (h : Touch F a b) (h' : Touch F' b c) (hF : ∀ k, k ∈ F' → k ∈ F ∨ a.heap.size ≤ k) : Touch F a c :=
  ⟨h'.os.trans h.os, h'.tape.trans h.tape, h'.output.trans h.output, Nat.le_trans h.size h'.size, fun k hk hn => by
    have hm : k ∉ F' := fun hm => (hF k hm).elim hn (fun h1 => by omega)
    rw [h'.block k (Nat.lt_of_lt_of_le hk h.size) hm]
    exact h.block k hk hn⟩
theorem Touch.of_below {w w' : World} (h : Below w.heap.size w w') (F : List Nat) : Touch F w w' := ⟨h.os, h.tape, h.output, h.size, fun k hk _ => h.block k hk⟩
theorem Touch.below {F : List Nat} {B : Nat} {w0 w w' : World} (h : Touch F w w') (h0 : Below B w0 w) (hB : B ≤ w.heap.size) (hF : ∀ k, k ∈ F → B ≤ k) : Below B w0 w' :=
  h0.trans ⟨h.os, h.tape, h.output, h.size, fun k hk => h.block k (by omega) (fun hm => by have := hF k hm; omega)⟩
section
variable {w w' : World} {base : Nat} {F I : List Nat} {gb W room : Nat} {L : List PNode}
theorem Gr.base_le (h : Gr w base F I gb W room L) : ∀ k, k ∈ F → base ≤ k := by
  obtain ⟨sv, mb, cells, rfl, h1, h2, h3, h4, h5, h6⟩ := h.mem
  intro k hk
  simp only [List.mem_cons] at hk
  rcases hk with rfl | rfl | hk
  · exact h1
  · exact h2
  · have hk' : sv.ownBlock = some k := by simpa using hk
    exact (h4.lt k hk').1
theorem Gr.lt (h : Gr w base F I gb W room L) : ∀ k, k ∈ F → k < w.heap.size := by
  obtain ⟨sv, mb, cells, rfl, h1, h2, h3, h4, h5, h6⟩ := h.mem
  intro k hk
  simp only [List.mem_cons] at hk
  rcases hk with rfl | rfl | hk
  · exact (Array.getElem?_eq_some_iff.1 h3).1
  · exact h6.lt
  · have hk' : sv.ownBlock = some k := by simpa using hk
    exact (h4.lt k hk').2
/-- No block of ints is one that a graph's call may write. -/
theorem Gr.not_ints (h : Gr w base F I gb W room L) {k : Nat} {arr : Array Value} {fr : Nat × Nat} (hk : w.heap[k]? = some (.cells arr 3 fr)) : k ∉ F := by
  obtain ⟨sv, mb, cells, rfl, h1, h2, h3, h4, h5, h6⟩ := h.mem
  intro hm
  simp only [List.mem_cons] at hm
  rcases hm with rfl | rfl | hm
  · rw [h3] at hk; simp at hk
  · obtain ⟨es, c, h7, _⟩ := h6
    rw [h7] at hk; simp at hk
  · have hk' : sv.ownBlock = some k := by simpa using hm
    rcases h4.2 with ⟨rfl, _⟩ | ⟨g, cap, cur, rfl, hb, hg, _⟩
    · simp [Value.ownBlock] at hk'
    · simp [Value.ownBlock] at hk'
      subst hk'
      rw [hg] at hk; simp at hk
/-- What leaves a graph's own blocks and those of its nodes' arguments as they are leaves the graph. -/
theorem Gr.keep (h : Gr w base F I gb W room L) (hF : ∀ k, k ∈ F → w'.heap[k]? = w.heap[k]?) (hI : ∀ k, k ∈ I → IntBlk w k → w'.heap[k]? = w.heap[k]?) : Gr w' base F I gb W room L := by
  obtain ⟨sv, mb, cells, rfl, h1, h2, h3, h4, h5, h6⟩ := h.mem
  refine ⟨h.wf, h.len, h.w1, h.w2, h.r2, sv, mb, cells, rfl, h1, h2, by rw [hF gb (by simp), h3], ⟨h4.1, ?_⟩, h5.keep hI, h6.block (hF mb (by simp))⟩
  rcases h4.2 with hn | ⟨g, cap, cur, rfl, hb, hg, r⟩
  · exact .inl hn
  · exact .inr ⟨g, cap, cur, rfl, hb, by rw [hF g (by simp [Value.ownBlock]), hg], r⟩
theorem Gr.later (h : Gr w base F I gb W room L) (hb : Below w.heap.size w w') : Gr w' base F I gb W room L :=
  h.keep (fun k hk => hb.block k (h.lt k hk)) (fun k _ hk => hb.block k hk.lt)
/-- Another graph's call. -/
theorem Gr.apart {F' : List Nat} (h : Gr w base F I gb W room L) (ht : Touch F' w w') (hd : ∀ k, k ∈ F → k ∉ F') (hi : ∀ k, k ∈ I → IntBlk w k → k ∉ F') : Gr w' base F I gb W room L :=
  h.keep (fun k hk => ht.block k (h.lt k hk) (hd k hk)) (fun k hk hl => ht.block k hl.lt (hi k hk hl))
end
end Go.Proofs.Yteofgmjejocleaa
