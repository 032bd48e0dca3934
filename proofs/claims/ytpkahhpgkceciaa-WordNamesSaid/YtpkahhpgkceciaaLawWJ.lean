/- Laws of words: WordNames. -/
import Derived.Test.YtpkahhpgkceciaaLawWH
import Derived.Deep.DeepCutAuto
import Derived.Deep.CutBlock
import Derived.StillTailTactics
namespace Go.Proofs.Ytpkahhpgkceciaa
open Go.RowKit
set_option maxHeartbeats 1600000

def allocs (w : World) (os : List Obj) : World := os.foldl World.alloc w
theorem allocs_size (w : World) (os : List Obj) : (allocs w os).heap.size = w.heap.size + os.length := by
  induction os generalizing w with
  | nil => rfl
  | cons o os ih => show (allocs (w.alloc o) os).heap.size = _; rw [ih, World.size_alloc, List.length_cons]; omega
theorem allocs_below (w : World) (os : List Obj) : Below w.heap.size w (allocs w os) := by
  induction os generalizing w with
  | nil => exact Below.refl _ _
  | cons o os ih => exact (below_new w o).trans ((ih (w.alloc o)).mono (by simp))
theorem allocs_get (w : World) (os : List Obj) : ∀ (i : Nat) (o : Obj), os[i]? = some o → (allocs w os).heap[w.heap.size + i]? = some o := by
  induction os generalizing w with
  | nil => intro i o h; cases h
  | cons x os ih =>
    intro i o h
    match i with
    | 0 =>
      simp at h
      subst h
      have hb := allocs_below (w.alloc x) os
      show (allocs (w.alloc x) os).heap[w.heap.size]? = some x
      rw [hb.block w.heap.size (by simp)]
      exact heap_alloc_new w x
    | i + 1 =>
      have := ih (w.alloc x) i o (by simpa using h)
      rw [World.size_alloc] at this
      rw [show w.heap.size + (i + 1) = w.heap.size + 1 + i from by omega]
      exact this
theorem sliceOf_heap {w : World} {k : IntKind} {b T : Nat} {xs : List Int} (h : w.heap[b]? = some (.cells (xs.map (Value.int k)).toArray T (0, 0))) : SliceOf w k (.slice (some ⟨b, 0, none⟩) xs.length xs.length) xs := by
  refine ⟨_, _, _, rfl, rfl, fun i hi => ⟨b, 0, rfl, ?_⟩⟩
  rw [cell_of_row w b _ _ _ _ h]
  simp [hi]
def wnObjs (b0 : Nat) : List Obj := [Obj.cells #[.int .u8 2, .int .u8 3, .int .u8 5, .int .u8 6, .int .u8 7, .int .u8 7, .int .u8 8, .int .u8 8, .int .u8 12, .int .u8 12, .int .u8 13, .int .u8 14, .int .u8 14, .int .u8 17, .int .u8 19, .int .u8 18, .int .u8 20, .int .u8 21, .int .u8 21, .int .u8 21] 5,
  Obj.cells #[.int .u64 2] 31,
  Obj.cells #[.int .u64 3] 31,
  Obj.cells #[.int .u64 2, .int .u64 5] 31,
  Obj.cells #[.int .u64 3, .int .u64 5] 31,
  Obj.cells #[.int .u64 7, .int .u64 2] 31,
  Obj.cells #[.int .u64 7, .int .u64 0] 31,
  Obj.cells #[.int .u64 7, .int .u64 2] 31,
  Obj.cells #[.int .u64 5, .int .u64 0] 31,
  Obj.cells #[.int .u64 3, .int .u64 1] 31,
  Obj.cells #[.int .u64 3, .int .u64 3] 31,
  Obj.cells #[.int .u64 6, .int .u64 1] 31,
  Obj.cells #[.int .u64 6, .int .u64 5] 31,
  Obj.cells #[.int .u64 3, .int .u64 7] 31,
  Obj.cells #[.int .u64 3, .int .u64 4] 31,
  Obj.cells #[.int .u64 3, .int .u64 4] 31,
  Obj.cells #[.int .u64 4, .int .u64 4] 31,
  Obj.cells #[.int .u64 4, .int .u64 3] 31,
  Obj.cells #[.int .u64 4, .int .u64 1, .int .u64 2] 31,
  Obj.cells #[.int .u64 0, .int .u64 1, .int .u64 2] 31,
  Obj.cells #[.int .u64 8, .int .u64 1, .int .u64 2] 31,
  Obj.cells #[.slice (some ⟨b0 + 1, 0, none⟩) 1 1, .slice (some ⟨b0 + 1 + 1, 0, none⟩) 1 1, .slice (some ⟨b0 + 1 + 1 + 1, 0, none⟩) 2 2, .slice (some ⟨b0 + 1 + 1 + 1 + 1, 0, none⟩) 2 2, .slice (some ⟨b0 + 1 + 1 + 1 + 1 + 1, 0, none⟩) 2 2, .slice (some ⟨b0 + 1 + 1 + 1 + 1 + 1 + 1, 0, none⟩) 2 2, .slice (some ⟨b0 + 1 + 1 + 1 + 1 + 1 + 1 + 1, 0, none⟩) 2 2, .slice (some ⟨b0 + 1 + 1 + 1 + 1 + 1 + 1 + 1 + 1, 0, none⟩) 2 2, .slice (some ⟨b0 + 1 + 1 + 1 + 1 + 1 + 1 + 1 + 1 + 1, 0, none⟩) 2 2, .slice (some ⟨b0 + 1 + 1 + 1 + 1 + 1 + 1 + 1 + 1 + 1 + 1, 0, none⟩) 2 2, .slice (some ⟨b0 + 1 + 1 + 1 + 1 + 1 + 1 + 1 + 1 + 1 + 1 + 1, 0, none⟩) 2 2, .slice (some ⟨b0 + 1 + 1 + 1 + 1 + 1 + 1 + 1 + 1 + 1 + 1 + 1 + 1, 0, none⟩) 2 2, .slice (some ⟨b0 + 1 + 1 + 1 + 1 + 1 + 1 + 1 + 1 + 1 + 1 + 1 + 1 + 1, 0, none⟩) 2 2, .slice (some ⟨b0 + 1 + 1 + 1 + 1 + 1 + 1 + 1 + 1 + 1 + 1 + 1 + 1 + 1 + 1, 0, none⟩) 2 2, .slice (some ⟨b0 + 1 + 1 + 1 + 1 + 1 + 1 + 1 + 1 + 1 + 1 + 1 + 1 + 1 + 1 + 1, 0, none⟩) 2 2, .slice (some ⟨b0 + 1 + 1 + 1 + 1 + 1 + 1 + 1 + 1 + 1 + 1 + 1 + 1 + 1 + 1 + 1 + 1, 0, none⟩) 2 2, .slice (some ⟨b0 + 1 + 1 + 1 + 1 + 1 + 1 + 1 + 1 + 1 + 1 + 1 + 1 + 1 + 1 + 1 + 1 + 1, 0, none⟩) 2 2, .slice (some ⟨b0 + 1 + 1 + 1 + 1 + 1 + 1 + 1 + 1 + 1 + 1 + 1 + 1 + 1 + 1 + 1 + 1 + 1 + 1, 0, none⟩) 3 3, .slice (some ⟨b0 + 1 + 1 + 1 + 1 + 1 + 1 + 1 + 1 + 1 + 1 + 1 + 1 + 1 + 1 + 1 + 1 + 1 + 1 + 1, 0, none⟩) 3 3, .slice (some ⟨b0 + 1 + 1 + 1 + 1 + 1 + 1 + 1 + 1 + 1 + 1 + 1 + 1 + 1 + 1 + 1 + 1 + 1 + 1 + 1 + 1, 0, none⟩) 3 3] 49,
  Obj.cells #[.int .u64 5, .int .u64 5, .int .u64 5, .int .u64 7, .int .u64 3, .int .u64 7, .int .u64 1, .int .u64 5, .int .u64 6, .int .u64 0, .int .u64 3, .int .u64 7, .int .u64 0, .int .u64 1, .int .u64 0, .int .u64 1, .int .u64 1, .int .u64 1, .int .u64 2, .int .u64 2] 31]
/-- A row of the chapter's examples, in memory. -/
def WnRow (w' : World) (b0 k : Nat) : Prop := ∃ (o want : Int) (xs : List Int) (bb n : Nat), w'.cell? ⟨b0, k, none⟩ = some (.int .u8 o) ∧ w'.cell? ⟨b0 + 21, k, none⟩ = some (.slice (some ⟨bb, 0, none⟩) n n) ∧ w'.cell? ⟨b0 + 22, k, none⟩ = some (.int .u64 want) ∧ 0 ≤ o ∧ o ≤ 255 ∧ SliceOf w' .u64 (.slice (some ⟨bb, 0, none⟩) n n) xs ∧ U64s xs ∧ xs.length ≤ 9223372036854775807 ∧ wI o 3 xs = want ∧ wE o 3 xs.length = 0
theorem wn_rows (w : World) (b0 : Nat) (hb0 : w.heap.size = b0) (w' : World) (hw : w' = allocs w (wnObjs b0)) : ∀ k, k < 20 → WnRow w' b0 k := by
  have hget : ∀ (i : Nat) (o : Obj), (wnObjs b0)[i]? = some o → w'.heap[b0 + i]? = some o := fun i o h => by rw [hw, ← hb0]; rw [← hb0] at h; exact allocs_get w _ i o h
  have h0 : w'.heap[b0]? = _ := hget 0 _ rfl
  have h21 : w'.heap[b0 + 21]? = _ := hget 21 _ rfl
  have h22 : w'.heap[b0 + 22]? = _ := hget 22 _ rfl
  intro k hk
  have hc : k = 0 ∨ k = 1 ∨ k = 2 ∨ k = 3 ∨ k = 4 ∨ k = 5 ∨ k = 6 ∨ k = 7 ∨ k = 8 ∨ k = 9 ∨ k = 10 ∨ k = 11 ∨ k = 12 ∨ k = 13 ∨ k = 14 ∨ k = 15 ∨ k = 16 ∨ k = 17 ∨ k = 18 ∨ k = 19 := by omega
  rcases hc with rfl | rfl | rfl | rfl | rfl | rfl | rfl | rfl | rfl | rfl | rfl | rfl | rfl | rfl | rfl | rfl | rfl | rfl | rfl | rfl
  · exact ⟨2, 5, [2], b0 + 1, 1, by rw [cell_of_row w' b0 _ _ _ _ h0]; rfl, by rw [cell_of_row w' (b0 + 21) _ _ _ _ h21]; rfl, by rw [cell_of_row w' (b0 + 22) _ _ _ _ h22]; rfl, by decide, by decide, sliceOf_heap (xs := [2]) (hget 1 _ rfl), by simp [U64s], by decide, by decide, by decide⟩
  · exact ⟨3, 5, [3], b0 + 1 + 1, 1, by rw [cell_of_row w' b0 _ _ _ _ h0]; rfl, by rw [cell_of_row w' (b0 + 21) _ _ _ _ h21]; rfl, by rw [cell_of_row w' (b0 + 22) _ _ _ _ h22]; rfl, by decide, by decide, sliceOf_heap (xs := [3]) (hget 2 _ rfl), by simp [U64s], by decide, by decide, by decide⟩
  · exact ⟨5, 5, [2, 5], b0 + 1 + 1 + 1, 2, by rw [cell_of_row w' b0 _ _ _ _ h0]; rfl, by rw [cell_of_row w' (b0 + 21) _ _ _ _ h21]; rfl, by rw [cell_of_row w' (b0 + 22) _ _ _ _ h22]; rfl, by decide, by decide, sliceOf_heap (xs := [2, 5]) (hget 3 _ rfl), by simp [U64s], by decide, by decide, by decide⟩
  · exact ⟨6, 7, [3, 5], b0 + 1 + 1 + 1 + 1, 2, by rw [cell_of_row w' b0 _ _ _ _ h0]; rfl, by rw [cell_of_row w' (b0 + 21) _ _ _ _ h21]; rfl, by rw [cell_of_row w' (b0 + 22) _ _ _ _ h22]; rfl, by decide, by decide, sliceOf_heap (xs := [3, 5]) (hget 4 _ rfl), by simp [U64s], by decide, by decide, by decide⟩
  · exact ⟨7, 3, [7, 2], b0 + 1 + 1 + 1 + 1 + 1, 2, by rw [cell_of_row w' b0 _ _ _ _ h0]; rfl, by rw [cell_of_row w' (b0 + 21) _ _ _ _ h21]; rfl, by rw [cell_of_row w' (b0 + 22) _ _ _ _ h22]; rfl, by decide, by decide, sliceOf_heap (xs := [7, 2]) (hget 5 _ rfl), by simp [U64s], by decide, by decide, by decide⟩
  · exact ⟨7, 7, [7, 0], b0 + 1 + 1 + 1 + 1 + 1 + 1, 2, by rw [cell_of_row w' b0 _ _ _ _ h0]; rfl, by rw [cell_of_row w' (b0 + 21) _ _ _ _ h21]; rfl, by rw [cell_of_row w' (b0 + 22) _ _ _ _ h22]; rfl, by decide, by decide, sliceOf_heap (xs := [7, 0]) (hget 6 _ rfl), by simp [U64s], by decide, by decide, by decide⟩
  · exact ⟨8, 1, [7, 2], b0 + 1 + 1 + 1 + 1 + 1 + 1 + 1, 2, by rw [cell_of_row w' b0 _ _ _ _ h0]; rfl, by rw [cell_of_row w' (b0 + 21) _ _ _ _ h21]; rfl, by rw [cell_of_row w' (b0 + 22) _ _ _ _ h22]; rfl, by decide, by decide, sliceOf_heap (xs := [7, 2]) (hget 7 _ rfl), by simp [U64s], by decide, by decide, by decide⟩
  · exact ⟨8, 5, [5, 0], b0 + 1 + 1 + 1 + 1 + 1 + 1 + 1 + 1, 2, by rw [cell_of_row w' b0 _ _ _ _ h0]; rfl, by rw [cell_of_row w' (b0 + 21) _ _ _ _ h21]; rfl, by rw [cell_of_row w' (b0 + 22) _ _ _ _ h22]; rfl, by decide, by decide, sliceOf_heap (xs := [5, 0]) (hget 8 _ rfl), by simp [U64s], by decide, by decide, by decide⟩
  · exact ⟨12, 6, [3, 1], b0 + 1 + 1 + 1 + 1 + 1 + 1 + 1 + 1 + 1, 2, by rw [cell_of_row w' b0 _ _ _ _ h0]; rfl, by rw [cell_of_row w' (b0 + 21) _ _ _ _ h21]; rfl, by rw [cell_of_row w' (b0 + 22) _ _ _ _ h22]; rfl, by decide, by decide, sliceOf_heap (xs := [3, 1]) (hget 9 _ rfl), by simp [U64s], by decide, by decide, by decide⟩
  · exact ⟨12, 0, [3, 3], b0 + 1 + 1 + 1 + 1 + 1 + 1 + 1 + 1 + 1 + 1, 2, by rw [cell_of_row w' b0 _ _ _ _ h0]; rfl, by rw [cell_of_row w' (b0 + 21) _ _ _ _ h21]; rfl, by rw [cell_of_row w' (b0 + 22) _ _ _ _ h22]; rfl, by decide, by decide, sliceOf_heap (xs := [3, 3]) (hget 10 _ rfl), by simp [U64s], by decide, by decide, by decide⟩
  · exact ⟨13, 3, [6, 1], b0 + 1 + 1 + 1 + 1 + 1 + 1 + 1 + 1 + 1 + 1 + 1, 2, by rw [cell_of_row w' b0 _ _ _ _ h0]; rfl, by rw [cell_of_row w' (b0 + 21) _ _ _ _ h21]; rfl, by rw [cell_of_row w' (b0 + 22) _ _ _ _ h22]; rfl, by decide, by decide, sliceOf_heap (xs := [6, 1]) (hget 11 _ rfl), by simp [U64s], by decide, by decide, by decide⟩
  · exact ⟨14, 7, [6, 5], b0 + 1 + 1 + 1 + 1 + 1 + 1 + 1 + 1 + 1 + 1 + 1 + 1, 2, by rw [cell_of_row w' b0 _ _ _ _ h0]; rfl, by rw [cell_of_row w' (b0 + 21) _ _ _ _ h21]; rfl, by rw [cell_of_row w' (b0 + 22) _ _ _ _ h22]; rfl, by decide, by decide, sliceOf_heap (xs := [6, 5]) (hget 12 _ rfl), by simp [U64s], by decide, by decide, by decide⟩
  · exact ⟨14, 0, [3, 7], b0 + 1 + 1 + 1 + 1 + 1 + 1 + 1 + 1 + 1 + 1 + 1 + 1 + 1, 2, by rw [cell_of_row w' b0 _ _ _ _ h0]; rfl, by rw [cell_of_row w' (b0 + 21) _ _ _ _ h21]; rfl, by rw [cell_of_row w' (b0 + 22) _ _ _ _ h22]; rfl, by decide, by decide, sliceOf_heap (xs := [3, 7]) (hget 13 _ rfl), by simp [U64s], by decide, by decide, by decide⟩
  · exact ⟨17, 1, [3, 4], b0 + 1 + 1 + 1 + 1 + 1 + 1 + 1 + 1 + 1 + 1 + 1 + 1 + 1 + 1, 2, by rw [cell_of_row w' b0 _ _ _ _ h0]; rfl, by rw [cell_of_row w' (b0 + 21) _ _ _ _ h21]; rfl, by rw [cell_of_row w' (b0 + 22) _ _ _ _ h22]; rfl, by decide, by decide, sliceOf_heap (xs := [3, 4]) (hget 14 _ rfl), by simp [U64s], by decide, by decide, by decide⟩
  · exact ⟨19, 0, [3, 4], b0 + 1 + 1 + 1 + 1 + 1 + 1 + 1 + 1 + 1 + 1 + 1 + 1 + 1 + 1 + 1, 2, by rw [cell_of_row w' b0 _ _ _ _ h0]; rfl, by rw [cell_of_row w' (b0 + 21) _ _ _ _ h21]; rfl, by rw [cell_of_row w' (b0 + 22) _ _ _ _ h22]; rfl, by decide, by decide, sliceOf_heap (xs := [3, 4]) (hget 15 _ rfl), by simp [U64s], by decide, by decide, by decide⟩
  · exact ⟨18, 1, [4, 4], b0 + 1 + 1 + 1 + 1 + 1 + 1 + 1 + 1 + 1 + 1 + 1 + 1 + 1 + 1 + 1 + 1, 2, by rw [cell_of_row w' b0 _ _ _ _ h0]; rfl, by rw [cell_of_row w' (b0 + 21) _ _ _ _ h21]; rfl, by rw [cell_of_row w' (b0 + 22) _ _ _ _ h22]; rfl, by decide, by decide, sliceOf_heap (xs := [4, 4]) (hget 16 _ rfl), by simp [U64s], by decide, by decide, by decide⟩
  · exact ⟨20, 1, [4, 3], b0 + 1 + 1 + 1 + 1 + 1 + 1 + 1 + 1 + 1 + 1 + 1 + 1 + 1 + 1 + 1 + 1 + 1, 2, by rw [cell_of_row w' b0 _ _ _ _ h0]; rfl, by rw [cell_of_row w' (b0 + 21) _ _ _ _ h21]; rfl, by rw [cell_of_row w' (b0 + 22) _ _ _ _ h22]; rfl, by decide, by decide, sliceOf_heap (xs := [4, 3]) (hget 17 _ rfl), by simp [U64s], by decide, by decide, by decide⟩
  · exact ⟨21, 1, [4, 1, 2], b0 + 1 + 1 + 1 + 1 + 1 + 1 + 1 + 1 + 1 + 1 + 1 + 1 + 1 + 1 + 1 + 1 + 1 + 1, 3, by rw [cell_of_row w' b0 _ _ _ _ h0]; rfl, by rw [cell_of_row w' (b0 + 21) _ _ _ _ h21]; rfl, by rw [cell_of_row w' (b0 + 22) _ _ _ _ h22]; rfl, by decide, by decide, sliceOf_heap (xs := [4, 1, 2]) (hget 18 _ rfl), by simp [U64s], by decide, by decide, by decide⟩
  · exact ⟨21, 2, [0, 1, 2], b0 + 1 + 1 + 1 + 1 + 1 + 1 + 1 + 1 + 1 + 1 + 1 + 1 + 1 + 1 + 1 + 1 + 1 + 1 + 1, 3, by rw [cell_of_row w' b0 _ _ _ _ h0]; rfl, by rw [cell_of_row w' (b0 + 21) _ _ _ _ h21]; rfl, by rw [cell_of_row w' (b0 + 22) _ _ _ _ h22]; rfl, by decide, by decide, sliceOf_heap (xs := [0, 1, 2]) (hget 19 _ rfl), by simp [U64s], by decide, by decide, by decide⟩
  · exact ⟨21, 2, [8, 1, 2], b0 + 1 + 1 + 1 + 1 + 1 + 1 + 1 + 1 + 1 + 1 + 1 + 1 + 1 + 1 + 1 + 1 + 1 + 1 + 1 + 1, 3, by rw [cell_of_row w' b0 _ _ _ _ h0]; rfl, by rw [cell_of_row w' (b0 + 21) _ _ _ _ h21]; rfl, by rw [cell_of_row w' (b0 + 22) _ _ _ _ h22]; rfl, by decide, by decide, sliceOf_heap (xs := [8, 1, 2]) (hget 20 _ rfl), by simp [U64s], by decide, by decide, by decide⟩
set_option maxRecDepth 100000 in
theorem wordNames_walk (w : World) : Calls Try.prog 16 #[] w fun e w' => e = .returned (.bool true) ∧ Below w.heap.size w w' := by
  obtain ⟨b0, hb0⟩ : ∃ b0, w.heap.size = b0 := ⟨_, rfl⟩
  go_enter Try.func16, Try.ntmps16
  go_upto_block 0 with fail
  have HB0 := Lib.hid hb0
  clear hb0
  refine wp_name (fun w1 => Hid (w1 = allocs w (wnObjs b0))) rfl ?_
  rintro w1 hw1
  have hrows := wn_rows w b0 HB0.out w1 hw1.out
  have hb1 : Below w.heap.size w w1 := by rw [hw1.out]; exact allocs_below _ _
  have HROW := Lib.hid hrows; have HB1 := Lib.hid hb1
  clear hrows hb1 hw1
  go_wp2
  go_loopw [4] (fun i wr => ∃ k : Nat, k ≤ 20 ∧ i = .int .i64 k ∧ Below w1.heap.size w1 wr) (fun i _ => 20 - (intOf i).toNat)
  case atStart => exact ⟨0, by omega, rfl, Below.refl _ _⟩
  case round =>
    obtain ⟨k, hk, rfl, hbr⟩ := hrel
    have HBR := Lib.hid hbr
    by_cases hlt : k < 20
    · obtain ⟨o, want, xs, bb, n, d0, d1, d2, ho0, ho1, hs, hx, hl, hI, hE⟩ := HROW.out k hlt
      replace d0 := cell_later hbr d0
      replace d1 := cell_later hbr d1
      replace d2 := cell_later hbr d2
      have hcall := is_true want o 3 _ xs wr.drew ho0 ho1 ((hs.below hbr).below (Below.refl _ _).drew) hx hl hI hE
      have HCALL := Lib.hid hcall
      clear hs hx hl hI hE hcall hbr
      go_wp2
      go_still_tail 12, (by kernel_rfl)
      simp only [World.drew_eq]
      go_wp2_with fail
      refine HCALL.out.mono ?_
      rintro e w2 ⟨rfl, hb2⟩
      have HB2 := Lib.hid ((Below.refl wr.heap.size wr).drew.trans hb2)
      clear hb2
      go_wp2
      go_roundw
      case rel => exact ⟨k + 1, by omega, by go_num, HBR.out.trans (HB2.out.mono HBR.out.size)⟩
      case measure => simp [intOf]; omega
    · obtain rfl : k = 20 := by omega
      have HB2 := Lib.hid (HB1.out.trans (hbr.mono HB1.out.size))
      clear hbr HBR HB1 HROW
      have t1 := trim_any 4 31 (by decide) (by decide)
      rw [show trimI 4 31 = 15 from by decide, show chk 4 = 0 from by decide] at t1
      have t2 := wsigned_any 4 24 (by decide) (by decide)
      rw [show sgnI 4 24 = -8 from by decide, show chk 4 = 0 from by decide] at t2
      have t3 := wsigned_any 64 18446744073709551615 (by decide) (by decide)
      rw [show sgnI 64 18446744073709551615 = -1 from by decide +kernel, show chk 64 = 0 from by decide] at t3
      have t4 := wsigned_any 63 4611686018427387904 (by decide) (by decide)
      rw [show sgnI 63 4611686018427387904 = -4611686018427387904 from by decide +kernel, show chk 63 = 0 from by decide] at t4
      have t5 := trim_any 65 0 (by decide) (by decide)
      rw [show trimI 65 0 = 0 from by decide, show chk 65 = 3 from by decide] at t5
      have t6 := check_any 0
      rw [show chk 0 = 3 from by decide] at t6
      have t7 := check_any 64
      rw [show chk 64 = 0 from by decide] at t7
      have T1 := Lib.hid t1; have T2 := Lib.hid t2; have T3 := Lib.hid t3; have T4 := Lib.hid t4; have T5 := Lib.hid t5; have T6 := Lib.hid t6; have T7 := Lib.hid t7
      clear t1 t2 t3 t4 t5 t6 t7
      go_wp2_with fail
      refine (T1.out _).mono ?_
      rintro e w3 ⟨rfl, rfl⟩
      go_wp2_with fail
      refine (T2.out _).mono ?_
      rintro e w3 ⟨rfl, rfl⟩
      go_wp2_with fail
      refine (T3.out _).mono ?_
      rintro e w3 ⟨rfl, rfl⟩
      go_wp2_with fail
      refine (T4.out _).mono ?_
      rintro e w3 ⟨rfl, rfl⟩
      go_wp2_with fail
      refine (T5.out _).mono ?_
      rintro e w3 ⟨rfl, rfl⟩
      go_wp2_with fail
      refine (T6.out _).mono ?_
      rintro e w3 ⟨rfl, rfl⟩
      go_wp2_with fail
      refine (T7.out _).mono ?_
      rintro e w3 ⟨rfl, rfl⟩
      have a1 := fun w => apply_any 1 3 (by decide) (by decide) _ [] w (sliceOf_nil w .u64) (by simp [U64s]) (by decide)
      have a2 := fun w => apply_any 4 3 (by decide) (by decide) _ [1] _ (sliceOf_new w .u64 31 [1] 1) (by simp [U64s]) (by decide)
      have a3 := fun w => apply_any 4 0 (by decide) (by decide) _ [1] _ (sliceOf_new w .u64 31 [1] 1) (by simp [U64s]) (by decide)
      have a4 := fun w => apply_any 22 3 (by decide) (by decide) _ [] w (sliceOf_nil w .u64) (by simp [U64s]) (by decide)
      have A1 := Lib.hid a1; have A2 := Lib.hid a2; have A3 := Lib.hid a3; have A4 := Lib.hid a4
      clear a1 a2 a3 a4
      go_wp2_with fail
      refine (A1.out _).mono ?_
      rw [show wI 1 3 [] = 0 from by decide, show wE 1 3 ([] : List Int).length = 3 from by decide]
      rintro e w4 ⟨rfl, hb4⟩
      have B4 := Lib.hid (HB2.out.trans (hb4.mono HB2.out.size)); clear hb4
      go_wp2_with fail
      refine (A2.out _).mono ?_
      rw [show wI 4 3 [1] = 0 from by decide, show wE 4 3 ([1] : List Int).length = 2 from by decide]
      rintro e w5 ⟨rfl, hb5⟩
      have B5 := Lib.hid (B4.out.trans (((below_new _ _).trans (hb5.mono (by simp))).mono B4.out.size)); clear hb5
      go_wp2_with fail
      refine (A3.out _).mono ?_
      rw [show wI 4 0 [1] = 0 from by decide, show wE 4 0 ([1] : List Int).length = 3 from by decide]
      rintro e w6 ⟨rfl, hb6⟩
      have B6 := Lib.hid (B5.out.trans (((below_new _ _).trans (hb6.mono (by simp))).mono B5.out.size)); clear hb6
      go_wp2_with fail
      refine (A4.out _).mono ?_
      rw [show wI 22 3 [] = 0 from by decide, show wE 22 3 ([] : List Int).length = 3 from by decide]
      rintro e w7 ⟨rfl, hb7⟩
      have B7 := Lib.hid (B6.out.trans (hb7.mono B6.out.size)); clear hb7
      go_wp2_with fail
      refine (is_true 0 6 64 _ [4294967296, 4294967296] _ (by decide) (by decide) (sliceOf_new w7 .u64 31 [4294967296, 4294967296] 2) (by simp [U64s]) (by decide) (by decide +kernel) (by decide)).mono ?_
      rintro e w8 ⟨rfl, hb8⟩
      have B8 := Lib.hid (B7.out.trans (((below_new _ _).trans (hb8.mono (by simp))).mono B7.out.size)); clear hb8
      go_wp2_with fail
      refine (is_true 1 14 1 _ [1, 0] _ (by decide) (by decide) (sliceOf_new w8 .u64 31 [1, 0] 2) (by simp [U64s]) (by decide) (by decide) (by decide)).mono ?_
      rintro e w9 ⟨rfl, hb9⟩
      have B9 := Lib.hid (B8.out.trans (((below_new _ _).trans (hb9.mono (by simp))).mono B8.out.size)); clear hb9
      go_wp2_with fail
      refine (is_true 1 19 1 _ [1, 0] _ (by decide) (by decide) (sliceOf_new w9 .u64 31 [1, 0] 2) (by simp [U64s]) (by decide) (by decide) (by decide)).mono ?_
      rintro e w10 ⟨rfl, hb10⟩
      have B10 := Lib.hid (B9.out.trans (((below_new _ _).trans (hb10.mono (by simp))).mono B9.out.size)); clear hb10
      go_wp2_with (go_at_call 30; refine (known_b _).mono ?_; rintro e w11 ⟨rfl, hb11⟩)
      go_ret
      exact ⟨rfl, B10.out.trans (hb11.mono B10.out.size)⟩
end Go.Proofs.Ytpkahhpgkceciaa
