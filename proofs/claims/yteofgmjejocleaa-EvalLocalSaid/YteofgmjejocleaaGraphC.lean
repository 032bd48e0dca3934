/- Node of package term. -/
import Derived.Test.YteofgmjejocleaaGraphB
import Derived.Test.YteofgmjejocleaaAppend
namespace Go.Proofs.Yteofgmjejocleaa
open Go.RowKit Go.Maps
set_option maxHeartbeats 400000

/-- A row's cells. -/
theorem NodeRow.at {w : World} {base : Nat} {sv : Value} {cells : List Value} {L : List PNode} {I : List Nat} (h : NodeRow w I cells L) (hown : w.ownsRow base 62 3 sv L.length cells) {i : Nat} {n : PNode} (hi : L[i]? = some n) :
    ∃ g cap va, sv = .slice (some ⟨g, 0, none⟩) L.length cap ∧ base ≤ g ∧ w.cell? ⟨g, i * 3, none⟩ = some (.int .u8 n.1) ∧ w.cell? ⟨g, i * 3 + 1, none⟩ = some (.int .u64 n.2.1) ∧ w.cell? ⟨g, i * 3 + 2, none⟩ = some va ∧ IntsAt w va n.2.2 := by
  have hl := (List.getElem?_eq_some_iff.1 hi).1
  obtain ⟨va, h1, h2, h3, h4, -⟩ := h.2 i n hi
  rcases hown.2 with ⟨rfl, h0⟩ | ⟨g, cap, cur, rfl, hb, hg, hn, hm, hsz, htake⟩
  · omega
  · have hcell : ∀ j, j < L.length * 3 → w.cell? ⟨g, j, none⟩ = cells[j]? := by
      intro j hj
      rw [cell_of_row w g j cur _ _ hg, ← htake, List.getElem?_take, if_pos hj, Array.getElem?_toList]
    exact ⟨g, cap, va, rfl, hb, by rw [hcell _ (by omega), Nat.mul_comm]; exact h1, by rw [hcell _ (by omega), Nat.mul_comm]; exact h2, by rw [hcell _ (by omega), Nat.mul_comm]; exact h3, h4⟩
theorem Gr.node {w : World} {base : Nat} {F I : List Nat} {gb W room : Nat} {L : List PNode} (h : Gr w base F I gb W room L) {i : Nat} {n : PNode} (hi : L[i]? = some n) :
    ∃ g cap va, w.cell? ⟨gb, 2, none⟩ = some (.slice (some ⟨g, 0, none⟩) L.length cap) ∧ w.cell? ⟨g, i * 3, none⟩ = some (.int .u8 n.1) ∧ w.cell? ⟨g, i * 3 + 1, none⟩ = some (.int .u64 n.2.1) ∧ w.cell? ⟨g, i * 3 + 2, none⟩ = some va ∧ IntsAt w va n.2.2 := by
  obtain ⟨sv, mb, cells, rfl, h1, h2, h3, h4, h5, h6⟩ := h.mem
  obtain ⟨g, cap, va, rfl, _, k1, k2, k3, k4⟩ := h5.at h4 hi
  exact ⟨g, cap, va, by rw [cell_of_row w gb 2 _ _ _ h3]; rfl, k1, k2, k3, k4⟩
theorem OwnInts.val {w : World} {base E : Nat} {k : IntKind} {v : Value} {xs : List Int} (h : OwnInts w base E k v xs) : ∃ a m c, v = .slice a m c := by
  rcases h.2 with ⟨rfl, _⟩ | ⟨g, cap, cur, rfl, _⟩
  · exact ⟨_, _, _, rfl⟩
  · exact ⟨_, _, _, rfl⟩
theorem OwnInts.setCell {w : World} {base E : Nat} {k : IntKind} {v : Value} {xs : List Int} (h : OwnInts w base E k v xs) {a : Addr} (ha : a.block < base) (u : Value) : OwnInts (w.setCell a u) base E k v xs := ownsRow_setCell_below h ha u
theorem OwnInts.mono {w : World} {base base' E : Nat} {k : IntKind} {v : Value} {xs : List Int} (h : OwnInts w base E k v xs) (hb : base' ≤ base) : OwnInts w base' E k v xs := by
  refine ⟨h.1, ?_⟩
  rcases h.2 with hn | ⟨g, cap, cur, hv, hg, r⟩
  · exact .inl hn
  · exact .inr ⟨g, cap, cur, hv, by omega, r⟩
theorem cells3 {w : World} {b : Nat} {x y z : Value} {t : TypeId} {fr : Nat × Nat} (h : w.heap[b]? = some (.cells #[x, y, z] t fr)) : w.cell? ⟨b, 0, none⟩ = some x ∧ w.cell? ⟨b, 1, none⟩ = some y ∧ w.cell? ⟨b, 2, none⟩ = some z :=
  ⟨by rw [cell_of_row w b 0 _ _ _ h]; rfl, by rw [cell_of_row w b 1 _ _ _ h]; rfl, by rw [cell_of_row w b 2 _ _ _ h]; rfl⟩
theorem node_nil (t : Int) (w : World) : Calls Try.prog 27 #[.pointer none, .int .i64 t] w fun e w' => e = .returned (.tuple #[.agg #[.int .u8 0, .int .u64 0, .slice none 0 0], .int .i64 1]) ∧ Below w.heap.size w w' := by
  go_enter Try.func27, Try.ntmps27
  go_wp2
  refine bodyPost_ret (v := .tuple #[.agg #[.int .u8 0, .int .u64 0, .slice none 0 0], .int .i64 1]) (by simp [results, Try.results27, go_sem]) rfl ⟨rfl, below_new _ _⟩
theorem node_out {w : World} {base : Nat} {F I : List Nat} {gb W room : Nat} {L : List PNode} (h : Gr w base F I gb W room L) (t : Int) (ht : t < 0 ∨ (L.length : Int) ≤ t) :
    Calls Try.prog 27 #[.pointer (some ⟨gb, 0, none⟩), .int .i64 t] w fun e w' => e = .returned (.tuple #[.agg #[.int .u8 0, .int .u64 0, .slice none 0 0], .int .i64 3]) ∧ Below w.heap.size w w' := by
  obtain ⟨a, cap, mb, c0, c1, c2, c3, cf, cm, hl⟩ := h.parts
  have hgb := World.block_lt_of_cell? _ _ c0
  simp only at hgb
  clear h cf cm c0 c1 c3
  rcases ht with ht | ht
  · go_enter Try.func27, Try.ntmps27
    go_wp2
    refine bodyPost_ret (v := .tuple #[.agg #[.int .u8 0, .int .u64 0, .slice none 0 0], .int .i64 3]) (by simp [results, Try.results27, go_sem]) rfl ⟨rfl, below_new _ _⟩
  · have h0 : ¬ t < 0 := by omega
    go_enter Try.func27, Try.ntmps27
    go_wp2
    refine bodyPost_ret (v := .tuple #[.agg #[.int .u8 0, .int .u64 0, .slice none 0 0], .int .i64 3]) (by simp [results, Try.results27, go_sem]) rfl ⟨rfl, below_new _ _⟩
theorem node_at {w : World} {base : Nat} {F I : List Nat} {gb W room : Nat} {L : List PNode} (h : Gr w base F I gb W room L) (i : Nat) (n : PNode) (hi : L[i]? = some n) :
    Calls Try.prog 27 #[.pointer (some ⟨gb, 0, none⟩), .int .i64 i] w fun e w' => ∃ va, e = .returned (.tuple #[.agg #[.int .u8 n.1, .int .u64 n.2.1, va], .int .i64 0]) ∧ OwnInts w' w.heap.size 3 .i64 va n.2.2 ∧ Below w.heap.size w w' := by
  obtain ⟨g, cap, va, c2, k1, k2, k3, k4⟩ := h.node hi
  have hlt := (List.getElem?_eq_some_iff.1 hi).1
  have hle := h.len
  have hr2 := h.r2
  have hgb := World.block_lt_of_cell? _ _ c2
  have hg := World.block_lt_of_cell? _ _ k1
  simp only at hgb hg
  have hn3 : n.2.2.length ≤ 1000000000 := by
    have := (h.wf.ok n (List.mem_of_getElem? hi)).2.2
    have := aryN_le n.1
    omega
  have k5 := k4
  obtain ⟨a0, m0, cp0, rfl, -, -⟩ := k5
  have H4 := Lib.hid k4
  have H3 := Lib.hid hn3
  have Hi := Lib.hid hi
  clear h k4 hn3 hi
  go_enter Try.func27, Try.ntmps27
  go_wp2_with (at_builtin; refine wpList_append_copy 32 3 .i64 8 (w.heap.size + 1 + 1) _ _ n.2.2 ?cs _ _ rfl rfl Try.underlying32 Try.infoI64 (by decide) rfl rfl H3.out ?cb ?_)
  case cs => exact (H4.out.slice.below (below_new _ _)).below (below_new _ _)
  case cb => simp
  intro v' w' hv' hb'
  have B6 := (hb'.block (w.heap.size + 1) (by simp)).trans (heap_alloc2_new _ _ _)
  have B4 := (hb'.block w.heap.size (by omega)).trans (heap_alloc2_old _ _ _)
  have hz : w.heap.size + 1 < w'.heap.size := by have := hb'.size; first | omega | (simp only [World.size_alloc] at this; omega)
  obtain ⟨d0, d1, d2⟩ := cells3 B6
  obtain ⟨e0, e1, e2⟩ := cells3 B4
  have f6 := fun j => frozen_of_row w' (w.heap.size + 1) j _ _ B6
  have f4 := fun j => frozen_of_row w' w.heap.size j _ _ B4
  have HV := Lib.hid hv'
  have HB := Lib.hid (((below_new w _).alloc (by simp) _).trans (hb'.mono (by omega)))
  obtain ⟨a1, m1, cp1, rfl⟩ := hv'.val
  clear hb' B6 B4 hv' c2 k1 k2 k3
  go_wp2
  refine bodyPost_ret (v := .tuple #[.agg #[.int .u8 n.1, .int .u64 n.2.1, .slice a1 m1 cp1], .int .i64 0]) (by simp [results, Try.results27, go_sem, e0, e1, e2]) rfl ⟨_, rfl, ?_, ?_⟩
  · exact ((((HV.out.setCell (show w.heap.size + 1 < w.heap.size + 1 + 1 by omega) _).setCell (show w.heap.size < w.heap.size + 1 + 1 by omega) _).setCell (show w.heap.size < w.heap.size + 1 + 1 by omega) _).setCell (show w.heap.size < w.heap.size + 1 + 1 by omega) _).mono (by omega)
  · exact (((HB.out.setCell (by simp) _).setCell (by simp) _).setCell (by simp) _).setCell (by simp) _
end Go.Proofs.Yteofgmjejocleaa
