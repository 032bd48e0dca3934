/- A graph of terms in memory. New, Len, Width of package term. Node of package term. An append at a step of a drawn region. -/
import Derived.Test.YtofbadmjopefpaaBase
import Derived.Test.YtofbadmjopefpaaMap
import Derived.Test.YtofbadmjopefpaaPlainA
import Derived.BigQuiet
import Derived.Deep.QuietTactic
import Derived.Deep.RegionHeld3
namespace Go.Proofs.Ytofbadmjopefpaa
open Go.RowKit Go.Maps
set_option maxHeartbeats 400000

/-- A slice in a block of ints reads as a list. -/
def IntsAt (w : World) (v : Value) (xs : List Int) : Prop :=
  ∃ a n cap, v = .slice a n cap ∧ xs.length = n ∧ (0 < n → ∃ b off arr fr, a = some ⟨b, off, none⟩ ∧ w.heap[b]? = some (.cells arr 3 fr) ∧ ∀ i, i < n → arr[off + i]? = some (.int .i64 (xs.getD i 0)))
theorem IntsAt.slice {w : World} {v : Value} {xs : List Int} (h : IntsAt w v xs) : SliceOf w .i64 v xs := by
  obtain ⟨a, n, cap, rfl, hl, hc⟩ := h
  refine ⟨a, n, cap, rfl, hl, fun i hi => ?_⟩
  obtain ⟨b, off, arr, fr, rfl, hh, hg⟩ := hc (by omega)
  exact ⟨b, off, rfl, by rw [cell_of_row w b _ arr _ fr hh]; exact hg i hi⟩
theorem IntsAt.nil (w : World) : IntsAt w (.slice none 0 0) [] := ⟨_, _, _, rfl, rfl, fun h => by omega⟩
theorem IntsAt.ints {w w' : World} {v : Value} {xs : List Int} (h : IntsAt w v xs) (hw : ∀ (k : Nat) (arr : Array Value) (fr : Nat × Nat), w.heap[k]? = some (Obj.cells arr 3 fr) → w'.heap[k]? = w.heap[k]?) : IntsAt w' v xs := by
  obtain ⟨a, n, cap, rfl, hl, hc⟩ := h
  refine ⟨a, n, cap, rfl, hl, fun hn => ?_⟩
  obtain ⟨b, off, arr, fr, rfl, hh, hg⟩ := hc hn
  exact ⟨b, off, arr, fr, rfl, by rw [hw b arr fr hh, hh], hg⟩
theorem IntsAt.own {w w' : World} {v : Value} {xs : List Int} (h : IntsAt w v xs) (hw : ∀ k, v.ownBlock = some k → w'.heap[k]? = w.heap[k]?) : IntsAt w' v xs := by
  obtain ⟨a, n, cap, rfl, hl, hc⟩ := h
  refine ⟨a, n, cap, rfl, hl, fun hn => ?_⟩
  obtain ⟨b, off, arr, fr, rfl, hh, hg⟩ := hc hn
  exact ⟨b, off, arr, fr, rfl, by rw [hw b rfl, hh], hg⟩
theorem IntsAt.below {w w' : World} {v : Value} {xs : List Int} (h : IntsAt w v xs) (hb : Below w.heap.size w w') : IntsAt w' v xs :=
  h.ints fun k _ _ hk => hb.block k (Array.getElem?_eq_some_iff.1 hk).1
theorem intsAt_owns {w : World} {base : Nat} {v : Value} {xs : List Int} (h : OwnInts w base 3 .i64 v xs) : IntsAt w v xs := by
  rcases h.2 with ⟨rfl, h0⟩ | ⟨g, cap, cur, rfl, hb, hg, hn, hm, hsz, htake⟩
  · exact ⟨none, _, 0, rfl, h0, fun h => by omega⟩
  · refine ⟨_, _, cap, rfl, rfl, fun _ => ⟨g, 0, cur, (0, 0), rfl, hg, fun i hi => ?_⟩⟩
    have := congrArg (fun l => l[i]?) htake
    simp only [List.getElem?_take, Nat.mul_one, hi, if_true, List.getElem?_map] at this
    rw [Nat.zero_add, ← Array.getElem?_toList, this]
    simp [hi]

/-- A block of ints. -/
def IntBlk (w : World) (k : Nat) : Prop := ∃ (arr : Array Value) (fr : Nat × Nat), w.heap[k]? = some (Obj.cells arr 3 fr)
theorem IntBlk.lt {w : World} {k : Nat} (h : IntBlk w k) : k < w.heap.size := by
  obtain ⟨arr, fr, h⟩ := h
  exact (Array.getElem?_eq_some_iff.1 h).1
theorem IntBlk.of {w w' : World} {k : Nat} (h : IntBlk w k) (hk : w'.heap[k]? = w.heap[k]?) : IntBlk w' k := by
  obtain ⟨arr, fr, h⟩ := h
  exact ⟨arr, fr, hk.trans h⟩
/-- Three cells a node. -/
def NodeRow (w : World) (I : List Nat) (cells : List Value) (L : List PNode) : Prop :=
  cells.length = L.length * 3 ∧ ∀ (i : Nat) (n : PNode), L[i]? = some n → ∃ va, cells[3 * i]? = some (.int .u8 n.1) ∧ cells[3 * i + 1]? = some (.int .u64 n.2.1) ∧ cells[3 * i + 2]? = some va ∧ IntsAt w va n.2.2 ∧ ∀ k, va.ownBlock = some k → k ∈ I ∧ IntBlk w k
theorem NodeRow.nil (w : World) (I : List Nat) : NodeRow w I [] [] := ⟨rfl, fun i n h => by simp at h⟩
theorem NodeRow.keep {w w' : World} {I : List Nat} {cells : List Value} {L : List PNode} (h : NodeRow w I cells L) (hw : ∀ k, k ∈ I → IntBlk w k → w'.heap[k]? = w.heap[k]?) : NodeRow w' I cells L := by
  refine ⟨h.1, fun i n hn => ?_⟩
  obtain ⟨va, h1, h2, h3, h4, h5⟩ := h.2 i n hn
  exact ⟨va, h1, h2, h3, h4.own fun k hk => hw k (h5 k hk).1 (h5 k hk).2, fun k hk => ⟨(h5 k hk).1, (h5 k hk).2.of (hw k (h5 k hk).1 (h5 k hk).2)⟩⟩
theorem NodeRow.snoc {w : World} {I : List Nat} {cells : List Value} {L : List PNode} (h : NodeRow w I cells L) {n : PNode} {va : Value} (hv : IntsAt w va n.2.2) (hb : ∀ k, va.ownBlock = some k → IntBlk w k) : NodeRow w (va.ownBlock.toList ++ I) (cells ++ [.int .u8 n.1, .int .u64 n.2.1, va]) (L ++ [n]) := by
  refine ⟨by rw [List.length_append, List.length_append, h.1]; simp; omega, fun i m hm => ?_⟩
  rcases Nat.lt_or_ge i L.length with hl | hl
  · rw [List.getElem?_append_left hl] at hm
    obtain ⟨vb, h1, h2, h3, h4, h5⟩ := h.2 i m hm
    have hc := h.1
    exact ⟨vb, by rw [List.getElem?_append_left (by omega)]; exact h1, by rw [List.getElem?_append_left (by omega)]; exact h2, by rw [List.getElem?_append_left (by omega)]; exact h3, h4, fun k hk => ⟨List.mem_append_right _ (h5 k hk).1, (h5 k hk).2⟩⟩
  · rw [List.getElem?_append_right hl] at hm
    have h0 : i - L.length = 0 := by
      rcases Nat.eq_zero_or_pos (i - L.length) with h0 | h0
      · exact h0
      · rw [List.getElem?_eq_none (by simp; omega)] at hm; cases hm
    rw [h0] at hm
    simp at hm; subst hm
    have hi : i = L.length := by omega
    subst hi
    have hc := h.1
    refine ⟨va, ?_, ?_, ?_, hv, fun k hk => ⟨List.mem_append_left _ (by simp [hk]), hb k hk⟩⟩
    · rw [List.getElem?_append_right (by omega), show 3 * L.length - cells.length = 0 from by omega]; rfl
    · rw [List.getElem?_append_right (by omega), show 3 * L.length + 1 - cells.length = 1 from by omega]; rfl
    · rw [List.getElem?_append_right (by omega), show 3 * L.length + 2 - cells.length = 2 from by omega]; rfl

def keyV (n : PNode) : Value := .agg #[.int .u8 n.1, .int .u64 n.2.1, .int .i64 (n.2.2.getD 0 0), .int .i64 (n.2.2.getD 1 0), .int .i64 (n.2.2.getD 2 0)]
/-- The pairs of a graph's map. -/
def gm (L : List PNode) : List (Value × Value) := L.zipIdx.map fun p => (keyV p.1, Value.int .i64 p.2)
theorem keyV_inj {n m : PNode} (hn : NodeOk n) (hm : NodeOk m) (h : keyV n = keyV m) : n = m := by
  obtain ⟨o, k, l⟩ := n
  obtain ⟨o', k', l'⟩ := m
  simp only [keyV, Value.agg.injEq] at h
  have h' := Array.toList_inj.2 h
  simp only [List.cons.injEq, Value.int.injEq, true_and, and_true] at h'
  obtain ⟨h1, h2, h3, h4, h5⟩ := h'
  have e1 : o = o' := by omega
  have e2 : k = k' := by omega
  subst e1; subst e2
  have e3 : l = l' := by
    have hl : l.length = l'.length := hn.2.2.trans hm.2.2.symm
    have hle : l.length ≤ 3 := by rw [hn.2.2]; exact aryN_le o
    match l, l', hl, hle with
    | [], [], _, _ => rfl
    | [a], [b], _, _ => simpa using h3
    | [a, a'], [b, b'], _, _ => simp at h3 h4; simp [h3, h4]
    | [a, a', a''], [b, b', b''], _, _ => simp at h3 h4 h5; simp [h3, h4, h5]
    | _ :: _ :: _ :: _ :: _, _, _, h => simp at h
  subst e3
  rfl
theorem mem_gm {L : List PNode} {k v : Value} (h : (k, v) ∈ gm L) : ∃ (i : Nat) (n : PNode), L[i]? = some n ∧ k = keyV n ∧ v = .int .i64 i := by
  obtain ⟨p, hp, he⟩ := List.mem_map.1 h
  have := List.mem_zipIdx_iff_getElem?.1 hp
  exact ⟨p.2, p.1, this, (Prod.mk.inj he).1.symm, (Prod.mk.inj he).2.symm⟩
theorem gm_mem {L : List PNode} {i : Nat} {n : PNode} (h : L[i]? = some n) : (keyV n, Value.int .i64 i) ∈ gm L :=
  List.mem_map.2 ⟨(n, i), List.mem_zipIdx_iff_getElem?.2 h, rfl⟩
theorem gm_snoc (L : List PNode) (n : PNode) : gm (L ++ [n]) = gm L ++ [(keyV n, .int .i64 L.length)] := by
  simp [gm, List.zipIdx_append]

/-- A pointer leads to a graph: its width, room and nodes; F: the blocks that a call of the graph may write. -/
structure Gr (w : World) (base : Nat) (F I : List Nat) (gb W room : Nat) (L : List PNode) : Prop where
  wf : WFL L
  len : L.length ≤ room
  w1 : 1 ≤ W
  w2 : W ≤ 64
  r2 : room ≤ 1048576
  mem : ∃ sv mb cells, F = gb :: mb :: sv.ownBlock.toList ∧ base ≤ gb ∧ base ≤ mb ∧
    w.heap[gb]? = some (.cells #[.int .i64 W, .int .i64 room, sv, .map (some mb)] 89 (0, 0)) ∧
    w.ownsRow base 54 3 sv L.length cells ∧ NodeRow w I cells L ∧ MapIs Try.prog 110 w mb (gm L)
/-- Only the blocks of F may have turned. -/
structure Touch (F : List Nat) (w w' : World) : Prop where
  os : w'.os = w.os
  tape : w'.tape = w.tape
  output : w'.output = w.output
  size : w.heap.size ≤ w'.heap.size
  block : ∀ k, k < w.heap.size → k ∉ F → w'.heap[k]? = w.heap[k]?
theorem Touch.refl (F : List Nat) (w : World) : Touch F w w := ⟨rfl, rfl, rfl, Nat.le_refl _, fun _ _ _ => rfl⟩
theorem Touch.trans {F F' : List Nat} {a b c : World} (h : Touch F a b) (h' : Touch F' b c) (hF : ∀ k, k ∈ F' → k ∈ F ∨ a.heap.size ≤ k) : Touch F a c :=
  ⟨h'.os.trans h.os, h'.tape.trans h.tape, h'.output.trans h.output, Nat.le_trans h.size h'.size, fun k hk hn => by
    have hm : k ∉ F' := fun hm => (hF k hm).elim hn (fun h1 => by omega)
    rw [h'.block k (Nat.lt_of_lt_of_le hk h.size) hm]
    exact h.block k hk hn⟩
theorem Touch.of_below {w w' : World} (h : Below w.heap.size w w') (F : List Nat) : Touch F w w' := ⟨h.os, h.tape, h.output, h.size, fun k hk _ => h.block k hk⟩
theorem Touch.below {F : List Nat} {B : Nat} {w0 w w' : World} (h : Touch F w w') (h0 : Below B w0 w) (hB : B ≤ w.heap.size) (hF : ∀ k, k ∈ F → B ≤ k) : Below B w0 w' :=
  h0.trans ⟨h.os, h.tape, h.output, h.size, fun k hk => h.block k (by omega) (fun hm => by have := hF k hm; omega)⟩
section
variable {w w' : World} {base : Nat} {F I : List Nat} {gb W room : Nat} {L : List PNode}
theorem Gr.base_le (h : Gr w base F I gb W room L) : ∀ k, k ∈ F → base ≤ k := by
  obtain ⟨sv, mb, cells, rfl, h1, h2, h3, h4, h5, h6⟩ := h.mem
  intro k hk
  simp only [List.mem_cons] at hk
  rcases hk with rfl | rfl | hk
  · exact h1
  · exact h2
  · have hk' : sv.ownBlock = some k := by simpa using hk
    exact (h4.lt k hk').1
theorem Gr.lt (h : Gr w base F I gb W room L) : ∀ k, k ∈ F → k < w.heap.size := by
  obtain ⟨sv, mb, cells, rfl, h1, h2, h3, h4, h5, h6⟩ := h.mem
  intro k hk
  simp only [List.mem_cons] at hk
  rcases hk with rfl | rfl | hk
  · exact (Array.getElem?_eq_some_iff.1 h3).1
  · exact h6.lt
  · have hk' : sv.ownBlock = some k := by simpa using hk
    exact (h4.lt k hk').2
/-- No block of ints is one that a graph's call may write. -/
theorem Gr.not_ints (h : Gr w base F I gb W room L) {k : Nat} {arr : Array Value} {fr : Nat × Nat} (hk : w.heap[k]? = some (.cells arr 3 fr)) : k ∉ F := by
  obtain ⟨sv, mb, cells, rfl, h1, h2, h3, h4, h5, h6⟩ := h.mem
  intro hm
  simp only [List.mem_cons] at hm
  rcases hm with rfl | rfl | hm
  · rw [h3] at hk; simp at hk
  · obtain ⟨es, c, h7, _⟩ := h6
    rw [h7] at hk; simp at hk
  · have hk' : sv.ownBlock = some k := by simpa using hm
    rcases h4.2 with ⟨rfl, _⟩ | ⟨g, cap, cur, rfl, hb, hg, _⟩
    · simp [Value.ownBlock] at hk'
    · simp [Value.ownBlock] at hk'
      subst hk'
      rw [hg] at hk; simp at hk
/-- What leaves a graph's own blocks and those of its nodes' arguments as they are leaves the graph. -/
theorem Gr.keep (h : Gr w base F I gb W room L) (hF : ∀ k, k ∈ F → w'.heap[k]? = w.heap[k]?) (hI : ∀ k, k ∈ I → IntBlk w k → w'.heap[k]? = w.heap[k]?) : Gr w' base F I gb W room L := by
  obtain ⟨sv, mb, cells, rfl, h1, h2, h3, h4, h5, h6⟩ := h.mem
  refine ⟨h.wf, h.len, h.w1, h.w2, h.r2, sv, mb, cells, rfl, h1, h2, by rw [hF gb (by simp), h3], ⟨h4.1, ?_⟩, h5.keep hI, h6.block (hF mb (by simp))⟩
  rcases h4.2 with hn | ⟨g, cap, cur, rfl, hb, hg, r⟩
  · exact .inl hn
  · exact .inr ⟨g, cap, cur, rfl, hb, by rw [hF g (by simp [Value.ownBlock]), hg], r⟩
theorem Gr.later (h : Gr w base F I gb W room L) (hb : Below w.heap.size w w') : Gr w' base F I gb W room L :=
  h.keep (fun k hk => hb.block k (h.lt k hk)) (fun k _ hk => hb.block k hk.lt)
/-- Another graph's call. -/
theorem Gr.apart {F' : List Nat} (h : Gr w base F I gb W room L) (ht : Touch F' w w') (hd : ∀ k, k ∈ F → k ∉ F') (hi : ∀ k, k ∈ I → IntBlk w k → k ∉ F') : Gr w' base F I gb W room L :=
  h.keep (fun k hk => ht.block k (h.lt k hk) (hd k hk)) (fun k hk hl => ht.block k hl.lt (hi k hk hl))
end
end Go.Proofs.Ytofbadmjopefpaa
namespace Go.Proofs.Ytofbadmjopefpaa
open Go.RowKit Go.Maps
set_option maxHeartbeats 400000

theorem Gr.parts {w : World} {base : Nat} {F I : List Nat} {gb W room : Nat} {L : List PNode} (h : Gr w base F I gb W room L) :
    ∃ a cap mb, w.cell? ⟨gb, 0, none⟩ = some (.int .i64 W) ∧ w.cell? ⟨gb, 1, none⟩ = some (.int .i64 room) ∧ w.cell? ⟨gb, 2, none⟩ = some (.slice a L.length cap) ∧ w.cell? ⟨gb, 3, none⟩ = some (.map (some mb)) ∧
      (∀ i, w.frozen? ⟨gb, i, none⟩ = false) ∧ MapIs Try.prog 110 w mb (gm L) ∧ L.length ≤ 1048576 := by
  obtain ⟨sv, mb, cells, rfl, h1, h2, h3, h4, h5, h6⟩ := h.mem
  obtain ⟨a, cap, rfl⟩ : ∃ a cap, sv = .slice a L.length cap := by
    rcases h4.2 with ⟨rfl, h0⟩ | ⟨g, cap, cur, rfl, _⟩
    · exact ⟨none, 0, by rw [h0]⟩
    · exact ⟨_, _, rfl⟩
  have hl := h.len
  have hr := h.r2
  exact ⟨a, cap, mb, by rw [cell_of_row w gb 0 _ _ _ h3]; rfl, by rw [cell_of_row w gb 1 _ _ _ h3]; rfl, by rw [cell_of_row w gb 2 _ _ _ h3]; rfl, by rw [cell_of_row w gb 3 _ _ _ h3]; rfl,
    fun i => frozen_of_row w gb i _ _ h3, h6, by omega⟩
theorem Gr.mono {w : World} {base base' : Nat} {F I : List Nat} {gb W room : Nat} {L : List PNode} (h : Gr w base F I gb W room L) (hb : base' ≤ base) : Gr w base' F I gb W room L := by
  obtain ⟨sv, mb, cells, hF, h1, h2, h3, h4, h5, h6⟩ := h.mem
  refine ⟨h.wf, h.len, h.w1, h.w2, h.r2, sv, mb, cells, hF, by omega, by omega, h3, ⟨h4.1, ?_⟩, h5, h6⟩
  rcases h4.2 with hn | ⟨g, cap, cur, hv, hg, r⟩
  · exact .inl hn
  · exact .inr ⟨g, cap, cur, hv, by omega, r⟩

theorem len_any {w : World} {base : Nat} {F I : List Nat} {gb W room : Nat} {L : List PNode} (h : Gr w base F I gb W room L) :
    Calls Try.prog 25 #[.pointer (some ⟨gb, 0, none⟩)] w fun e w' => e = .returned (.int .i64 L.length) ∧ w = w' := by
  obtain ⟨a, cap, mb, c0, c1, c2, c3, cf, cm, hl⟩ := h.parts
  clear h cf cm
  go_enter Try.func25, Try.ntmps25
  go_wp2
  go_ret
  exact ⟨rfl, rfl⟩
theorem len_nil (w : World) : Calls Try.prog 25 #[.pointer none] w fun e w' => e = .returned (.int .i64 0) ∧ w = w' := by
  go_enter Try.func25, Try.ntmps25
  go_wp2
  go_ret
  exact ⟨rfl, rfl⟩
theorem width_any {w : World} {base : Nat} {F I : List Nat} {gb W room : Nat} {L : List PNode} (h : Gr w base F I gb W room L) :
    Calls Try.prog 53 #[.pointer (some ⟨gb, 0, none⟩)] w fun e w' => e = .returned (.int .i64 W) ∧ w = w' := by
  obtain ⟨a, cap, mb, c0, c1, c2, c3, cf, cm, hl⟩ := h.parts
  clear h cf cm
  go_enter Try.func53, Try.ntmps53
  go_wp2
  go_ret
  exact ⟨rfl, rfl⟩
theorem width_nil (w : World) : Calls Try.prog 53 #[.pointer none] w fun e w' => e = .returned (.int .i64 0) ∧ w = w' := by
  go_enter Try.func53, Try.ntmps53
  go_wp2
  go_ret
  exact ⟨rfl, rfl⟩
def newOk (W most : Int) : Prop := 1 ≤ W ∧ W ≤ 64 ∧ 0 ≤ most ∧ most ≤ 1048576
def roomOf (most : Int) : Nat := if most = 0 then 1048576 else most.toNat
theorem new_bad (W most : Int) (h : ¬ newOk W most) (w : World) :
    Calls Try.prog 29 #[.int .i64 W, .int .i64 most] w fun e w' => e = .returned (.tuple #[.pointer none, .int .i64 3]) ∧ w = w' := by
  by_cases hW : 1 ≤ W ∧ W ≤ 64
  · have hc := chk_in hW.1 hW.2
    by_cases h0 : most < 0
    · go_enter Try.func29, Try.ntmps29
      go_wp2_with (go_at_call 42; refine (check_any _ _).mono ?_; rintro e w' ⟨rfl, rfl⟩)
      go_ret2
      exact ⟨rfl, rfl⟩
    · have h2 : 1048576 < most := by unfold newOk at h; omega
      clear h
      go_enter Try.func29, Try.ntmps29
      go_wp2_with (go_at_call 42; refine (check_any _ _).mono ?_; rintro e w' ⟨rfl, rfl⟩)
      go_ret2
      exact ⟨rfl, rfl⟩
  · have hc := chk_out hW
    clear h
    go_enter Try.func29, Try.ntmps29
    go_wp2_with (go_at_call 42; refine (check_any _ _).mono ?_; rintro e w' ⟨rfl, rfl⟩)
    go_ret2
    exact ⟨rfl, rfl⟩
theorem new_gr (W most : Nat) (h1 : 1 ≤ W) (h2 : W ≤ 64) (hm : most ≤ 1048576) (w : World) :
    Gr ((w.alloc (.map #[] 0)).alloc (.cells #[.int .i64 W, .int .i64 most, .slice none 0 0, .map (some w.heap.size)] 89)) w.heap.size [w.heap.size + 1, w.heap.size] [] (w.heap.size + 1) W most [] := by
  refine ⟨WFL.nil, by simp, h1, h2, hm, .slice none 0 0, w.heap.size, [], rfl, by omega, Nat.le_refl _, heap_alloc2_new _ _ _, World.ownsRow_nil _ _ _ _, NodeRow.nil _ _, ?_⟩
  exact (MapIs.new w).below (below_new _ _)
theorem new_any (W most : Int) (h : newOk W most) (w : World) :
    Calls Try.prog 29 #[.int .i64 W, .int .i64 most] w fun e w' => ∃ gb F, e = .returned (.tuple #[.pointer (some ⟨gb, 0, none⟩), .int .i64 0]) ∧ Gr w' w.heap.size F [] gb W.toNat (roomOf most) [] ∧ Below w.heap.size w w' := by
  obtain ⟨h1, h2, h3, h4⟩ := h
  obtain ⟨n, rfl⟩ := Int.eq_ofNat_of_zero_le (show 0 ≤ W by omega)
  obtain ⟨m, rfl⟩ := Int.eq_ofNat_of_zero_le h3
  have hc := chk_in h1 h2
  have hmm := @run_makeMap Try.prog
  by_cases h0 : m = 0
  · subst h0
    have hr : roomOf ((0 : Nat) : Int) = 1048576 := rfl
    rw [hr]; clear hr
    go_enter Try.func29, Try.ntmps29
    go_wp2_with (go_at_call 42; refine (check_any _ _).mono ?_; rintro e w' ⟨rfl, rfl⟩)
    go_ret2
    exact ⟨w.heap.size + 1, _, by simp, new_gr n 1048576 (by omega) (by omega) (by omega) w, (below_new w _).alloc (by simp) _⟩
  · have hr : roomOf (m : Int) = m := by unfold roomOf; rw [if_neg (by omega)]; simp
    have hz : ((m : Int) == 0) = false := by rw [beq_eq_false_iff_ne]; omega
    rw [hr]; clear hr
    go_enter Try.func29, Try.ntmps29
    go_wp2_with (go_at_call 42; refine (check_any _ _).mono ?_; rintro e w' ⟨rfl, rfl⟩)
    go_ret2
    exact ⟨w.heap.size + 1, _, by simp, new_gr n m (by omega) (by omega) (by omega) w, (below_new w _).alloc (by simp) _⟩
end Go.Proofs.Ytofbadmjopefpaa
namespace Go.Proofs.Ytofbadmjopefpaa
open Go.RowKit Go.Maps
set_option maxHeartbeats 400000

/-- A row's cells. -/
theorem NodeRow.at {w : World} {base : Nat} {sv : Value} {cells : List Value} {L : List PNode} {I : List Nat} (h : NodeRow w I cells L) (hown : w.ownsRow base 54 3 sv L.length cells) {i : Nat} {n : PNode} (hi : L[i]? = some n) :
    ∃ g cap va, sv = .slice (some ⟨g, 0, none⟩) L.length cap ∧ base ≤ g ∧ w.cell? ⟨g, i * 3, none⟩ = some (.int .u8 n.1) ∧ w.cell? ⟨g, i * 3 + 1, none⟩ = some (.int .u64 n.2.1) ∧ w.cell? ⟨g, i * 3 + 2, none⟩ = some va ∧ IntsAt w va n.2.2 := by
  have hl := (List.getElem?_eq_some_iff.1 hi).1
  obtain ⟨va, h1, h2, h3, h4, -⟩ := h.2 i n hi
  rcases hown.2 with ⟨rfl, h0⟩ | ⟨g, cap, cur, rfl, hb, hg, hn, hm, hsz, htake⟩
  · omega
  · have hcell : ∀ j, j < L.length * 3 → w.cell? ⟨g, j, none⟩ = cells[j]? := by
      intro j hj
      rw [cell_of_row w g j cur _ _ hg, ← htake, List.getElem?_take, if_pos hj, Array.getElem?_toList]
    exact ⟨g, cap, va, rfl, hb, by rw [hcell _ (by omega), Nat.mul_comm]; exact h1, by rw [hcell _ (by omega), Nat.mul_comm]; exact h2, by rw [hcell _ (by omega), Nat.mul_comm]; exact h3, h4⟩
theorem Gr.node {w : World} {base : Nat} {F I : List Nat} {gb W room : Nat} {L : List PNode} (h : Gr w base F I gb W room L) {i : Nat} {n : PNode} (hi : L[i]? = some n) :
    ∃ g cap va, w.cell? ⟨gb, 2, none⟩ = some (.slice (some ⟨g, 0, none⟩) L.length cap) ∧ w.cell? ⟨g, i * 3, none⟩ = some (.int .u8 n.1) ∧ w.cell? ⟨g, i * 3 + 1, none⟩ = some (.int .u64 n.2.1) ∧ w.cell? ⟨g, i * 3 + 2, none⟩ = some va ∧ IntsAt w va n.2.2 := by
  obtain ⟨sv, mb, cells, rfl, h1, h2, h3, h4, h5, h6⟩ := h.mem
  obtain ⟨g, cap, va, rfl, _, k1, k2, k3, k4⟩ := h5.at h4 hi
  exact ⟨g, cap, va, by rw [cell_of_row w gb 2 _ _ _ h3]; rfl, k1, k2, k3, k4⟩
theorem OwnInts.val {w : World} {base E : Nat} {k : IntKind} {v : Value} {xs : List Int} (h : OwnInts w base E k v xs) : ∃ a m c, v = .slice a m c := by
  rcases h.2 with ⟨rfl, _⟩ | ⟨g, cap, cur, rfl, _⟩
  · exact ⟨_, _, _, rfl⟩
  · exact ⟨_, _, _, rfl⟩
theorem OwnInts.setCell {w : World} {base E : Nat} {k : IntKind} {v : Value} {xs : List Int} (h : OwnInts w base E k v xs) {a : Addr} (ha : a.block < base) (u : Value) : OwnInts (w.setCell a u) base E k v xs := ownsRow_setCell_below h ha u
theorem OwnInts.mono {w : World} {base base' E : Nat} {k : IntKind} {v : Value} {xs : List Int} (h : OwnInts w base E k v xs) (hb : base' ≤ base) : OwnInts w base' E k v xs := by
  refine ⟨h.1, ?_⟩
  rcases h.2 with hn | ⟨g, cap, cur, hv, hg, r⟩
  · exact .inl hn
  · exact .inr ⟨g, cap, cur, hv, by omega, r⟩
theorem cells3 {w : World} {b : Nat} {x y z : Value} {t : TypeId} {fr : Nat × Nat} (h : w.heap[b]? = some (.cells #[x, y, z] t fr)) : w.cell? ⟨b, 0, none⟩ = some x ∧ w.cell? ⟨b, 1, none⟩ = some y ∧ w.cell? ⟨b, 2, none⟩ = some z :=
  ⟨by rw [cell_of_row w b 0 _ _ _ h]; rfl, by rw [cell_of_row w b 1 _ _ _ h]; rfl, by rw [cell_of_row w b 2 _ _ _ h]; rfl⟩
theorem node_nil (t : Int) (w : World) : Calls Try.prog 23 #[.pointer none, .int .i64 t] w fun e w' => e = .returned (.tuple #[.agg #[.int .u8 0, .int .u64 0, .slice none 0 0], .int .i64 1]) ∧ Below w.heap.size w w' := by
  go_enter Try.func23, Try.ntmps23
  go_wp2
  refine bodyPost_ret (v := .tuple #[.agg #[.int .u8 0, .int .u64 0, .slice none 0 0], .int .i64 1]) (by simp [results, Try.results23, go_sem]) rfl ⟨rfl, below_new _ _⟩
theorem node_out {w : World} {base : Nat} {F I : List Nat} {gb W room : Nat} {L : List PNode} (h : Gr w base F I gb W room L) (t : Int) (ht : t < 0 ∨ (L.length : Int) ≤ t) :
    Calls Try.prog 23 #[.pointer (some ⟨gb, 0, none⟩), .int .i64 t] w fun e w' => e = .returned (.tuple #[.agg #[.int .u8 0, .int .u64 0, .slice none 0 0], .int .i64 3]) ∧ Below w.heap.size w w' := by
  obtain ⟨a, cap, mb, c0, c1, c2, c3, cf, cm, hl⟩ := h.parts
  have hgb := World.block_lt_of_cell? _ _ c0
  simp only at hgb
  clear h cf cm c0 c1 c3
  rcases ht with ht | ht
  · go_enter Try.func23, Try.ntmps23
    go_wp2
    refine bodyPost_ret (v := .tuple #[.agg #[.int .u8 0, .int .u64 0, .slice none 0 0], .int .i64 3]) (by simp [results, Try.results23, go_sem]) rfl ⟨rfl, below_new _ _⟩
  · have h0 : ¬ t < 0 := by omega
    go_enter Try.func23, Try.ntmps23
    go_wp2
    refine bodyPost_ret (v := .tuple #[.agg #[.int .u8 0, .int .u64 0, .slice none 0 0], .int .i64 3]) (by simp [results, Try.results23, go_sem]) rfl ⟨rfl, below_new _ _⟩
theorem node_at {w : World} {base : Nat} {F I : List Nat} {gb W room : Nat} {L : List PNode} (h : Gr w base F I gb W room L) (i : Nat) (n : PNode) (hi : L[i]? = some n) :
    Calls Try.prog 23 #[.pointer (some ⟨gb, 0, none⟩), .int .i64 i] w fun e w' => ∃ va, e = .returned (.tuple #[.agg #[.int .u8 n.1, .int .u64 n.2.1, va], .int .i64 0]) ∧ OwnInts w' w.heap.size 3 .i64 va n.2.2 ∧ Below w.heap.size w w' := by
  obtain ⟨g, cap, va, c2, k1, k2, k3, k4⟩ := h.node hi
  have hlt := (List.getElem?_eq_some_iff.1 hi).1
  have hle := h.len
  have hr2 := h.r2
  have hgb := World.block_lt_of_cell? _ _ c2
  have hg := World.block_lt_of_cell? _ _ k1
  simp only at hgb hg
  have hn3 : n.2.2.length ≤ 1000000000 := by
    have := (h.wf.ok n (List.mem_of_getElem? hi)).2.2
    have := aryN_le n.1
    omega
  have k5 := k4
  obtain ⟨a0, m0, cp0, rfl, -, -⟩ := k5
  have H4 := Lib.hid k4
  have H3 := Lib.hid hn3
  have Hi := Lib.hid hi
  clear h k4 hn3 hi
  go_enter Try.func23, Try.ntmps23
  go_wp2_with (at_builtin; refine wpList_append_copy 26 3 .i64 8 (w.heap.size + 1 + 1) _ _ n.2.2 ?cs _ _ rfl rfl Try.underlying26 Try.infoI64 (by decide) rfl rfl H3.out ?cb ?_)
  case cs => exact (H4.out.slice.below (below_new _ _)).below (below_new _ _)
  case cb => simp
  intro v' w' hv' hb'
  have B6 := (hb'.block (w.heap.size + 1) (by simp)).trans (heap_alloc2_new _ _ _)
  have B4 := (hb'.block w.heap.size (by omega)).trans (heap_alloc2_old _ _ _)
  have hz : w.heap.size + 1 < w'.heap.size := by have := hb'.size; first | omega | (simp only [World.size_alloc] at this; omega)
  obtain ⟨d0, d1, d2⟩ := cells3 B6
  obtain ⟨e0, e1, e2⟩ := cells3 B4
  have f6 := fun j => frozen_of_row w' (w.heap.size + 1) j _ _ B6
  have f4 := fun j => frozen_of_row w' w.heap.size j _ _ B4
  have HV := Lib.hid hv'
  have HB := Lib.hid (((below_new w _).alloc (by simp) _).trans (hb'.mono (by omega)))
  obtain ⟨a1, m1, cp1, rfl⟩ := hv'.val
  clear hb' B6 B4 hv' c2 k1 k2 k3
  go_wp2
  refine bodyPost_ret (v := .tuple #[.agg #[.int .u8 n.1, .int .u64 n.2.1, .slice a1 m1 cp1], .int .i64 0]) (by simp [results, Try.results23, go_sem, e0, e1, e2]) rfl ⟨_, rfl, ?_, ?_⟩
  · exact ((((HV.out.setCell (show w.heap.size + 1 < w.heap.size + 1 + 1 by omega) _).setCell (show w.heap.size < w.heap.size + 1 + 1 by omega) _).setCell (show w.heap.size < w.heap.size + 1 + 1 by omega) _).setCell (show w.heap.size < w.heap.size + 1 + 1 by omega) _).mono (by omega)
  · exact (((HB.out.setCell (by simp) _).setCell (by simp) _).setCell (by simp) _).setCell (by simp) _
end Go.Proofs.Ytofbadmjopefpaa
namespace Go.Proofs.Ytofbadmjopefpaa
open Go.RowKit
variable {P : Program}
theorem step_append_own {ops : Array Oper} {o : Oper} {a : Act} {K : Act → World → Prop} {Q : Exit → Act → World → Prop} {E0 : Prop} (B T E : Nat) (k : IntKind) (bytes : Nat) (w : World) (v xv : Value) (xs ys : List Int)
    (hown : OwnInts w B E k v xs) (hsrc : SliceOf w k xv ys) (hbase : B ≤ w.heap.size) (hgd : o.guard = none) (s x : Operand) (ho : o.op = .call { callee := .builtin .append, args := #[s, x], argTypes := #[T, T] })
    (ht : P.underlying T = some (.slice E)) (hi : (P.info? E).map (fun i => (i.zero, i.size, i.bytes)) = some (some (.int k 0), 1, bytes)) (hbt : bytes ≤ 1000)
    (hs : a.eval s = v) (hx : a.eval x = xv) (hn : xs.length + ys.length ≤ 1000000000)
    (h : ∀ a' m' c' w', OwnInts w' B E k (.slice a' m' c') (xs ++ ys) → Below B w w' → K (a.put o.dst (.slice a' m' c')) w') :
    if Region.wanted o (yielded ops a.tmps) = true then Oper.wp P o a w K Q else E0 := by
  have hw : Region.wanted o (yielded ops a.tmps) = true := by simp [Region.wanted, hgd]
  rw [if_pos hw]
  obtain ⟨v', w', hr, h2, h3⟩ := run_append_src (P := P) w B T o.type E 1 bytes (.int k 0) ht hi rfl (by decide) hbt v xv xs.length ys.length _ _ hown hsrc.src (by
    intro u hu
    obtain ⟨y, _, rfl⟩ := List.mem_map.1 hu
    rfl) hn hbase
  have h2' : OwnInts w' B E k v' (xs ++ ys) := by
    unfold OwnInts
    rw [List.length_append, List.map_append]
    exact h2
  obtain ⟨a', m', c', rfl⟩ := h2'.val
  unfold Oper.wp execOp
  simp only [ho, resolve, invoke, builtin, Sem.run_bind, Sem.run_pure, Result.andThen_ok, List.map_toArray, List.map_cons, List.map_nil, hs, hx, hr]
  exact h a' m' c' w' h2' ((Below.refl B w).grown h3 hbase fun k hk => (hown.lt k hk).1)
end Go.Proofs.Ytofbadmjopefpaa
