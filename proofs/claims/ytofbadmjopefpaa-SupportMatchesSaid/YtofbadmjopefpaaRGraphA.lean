/- A reference's graph of terms in memory. -/
import Derived.Test.YtofbadmjopefpaaLab
namespace Go.Proofs.Ytofbadmjopefpaa
open Go.RowKit Go.Maps
set_option maxHeartbeats 400000

/-- A pointer leads to a reference's graph. -/
structure RGr (w : World) (base : Nat) (F I : List Nat) (rb W room : Nat) (L : List PNode) : Prop where
  wf : WFL L
  len : L.length ≤ room
  w1 : 1 ≤ W
  w2 : W ≤ 64
  r2 : room ≤ 1048576
  mem : ∃ sv cells, F = rb :: sv.ownBlock.toList ∧ base ≤ rb ∧ w.heap[rb]? = some (.cells #[.int .i64 W, .int .i64 room, sv] 86 (0, 0)) ∧
    w.ownsRow base 54 3 sv L.length cells ∧ NodeRow w I cells L
section
variable {w w' : World} {base base' : Nat} {F I : List Nat} {rb W room : Nat} {L : List PNode}
theorem RGr.base_le (h : RGr w base F I rb W room L) : ∀ k, k ∈ F → base ≤ k := by
  obtain ⟨sv, cells, rfl, h1, h3, h4, h5⟩ := h.mem
  intro k hk
  simp only [List.mem_cons] at hk
  rcases hk with rfl | hk
  · exact h1
  · have hk' : sv.ownBlock = some k := by simpa using hk
    exact (h4.lt k hk').1
theorem RGr.lt (h : RGr w base F I rb W room L) : ∀ k, k ∈ F → k < w.heap.size := by
  obtain ⟨sv, cells, rfl, h1, h3, h4, h5⟩ := h.mem
  intro k hk
  simp only [List.mem_cons] at hk
  rcases hk with rfl | hk
  · exact (Array.getElem?_eq_some_iff.1 h3).1
  · have hk' : sv.ownBlock = some k := by simpa using hk
    exact (h4.lt k hk').2
theorem RGr.not_of (h : RGr w base F I rb W room L) {k E : Nat} {arr : Array Value} {fr : Nat × Nat} (h1 : E ≠ 86) (h2 : E ≠ 54) (hk : w.heap[k]? = some (.cells arr E fr)) : k ∉ F := by
  obtain ⟨sv, cells, rfl, _, h3, h4, _⟩ := h.mem
  intro hm
  simp only [List.mem_cons] at hm
  rcases hm with rfl | hm
  · rw [h3] at hk; simp at hk; exact h1 hk.2.1.symm
  · have hk' : sv.ownBlock = some k := by simpa using hm
    rcases h4.2 with ⟨rfl, _⟩ | ⟨g, cap, cur, rfl, hb, hg, _⟩
    · simp [Value.ownBlock] at hk'
    · simp [Value.ownBlock] at hk'
      subst hk'
      rw [hg] at hk; simp at hk; exact h2 hk.2.1.symm
theorem RGr.keep (h : RGr w base F I rb W room L) (hF : ∀ k, k ∈ F → w'.heap[k]? = w.heap[k]?) (hI : ∀ k, k ∈ I → IntBlk w k → w'.heap[k]? = w.heap[k]?) : RGr w' base F I rb W room L := by
  obtain ⟨sv, cells, rfl, h1, h3, h4, h5⟩ := h.mem
  refine ⟨h.wf, h.len, h.w1, h.w2, h.r2, sv, cells, rfl, h1, by rw [hF rb (by simp), h3], owns_keep h4 fun k hk => hF k (by simp [hk]), h5.keep hI⟩
theorem RGr.later (h : RGr w base F I rb W room L) (hb : Below w.heap.size w w') : RGr w' base F I rb W room L :=
  h.keep (fun k hk => hb.block k (h.lt k hk)) (fun k _ hk => hb.block k hk.lt)
theorem RGr.mono (h : RGr w base F I rb W room L) (hb : base' ≤ base) : RGr w base' F I rb W room L := by
  obtain ⟨sv, cells, hF, h1, h3, h4, h5⟩ := h.mem
  refine ⟨h.wf, h.len, h.w1, h.w2, h.r2, sv, cells, hF, by omega, h3, ⟨h4.1, ?_⟩, h5⟩
  rcases h4.2 with hn | ⟨g, cap, cur, hv, hg, r⟩
  · exact .inl hn
  · exact .inr ⟨g, cap, cur, hv, by omega, r⟩
theorem RGr.inI (h : RGr w base F I rb W room L) : RGr w base F (I.filter fun k => decide (k < w.heap.size)) rb W room L := by
  obtain ⟨sv, cells, hF, h1, h3, h4, h5⟩ := h.mem
  refine ⟨h.wf, h.len, h.w1, h.w2, h.r2, sv, cells, hF, h1, h3, h4, ⟨h5.1, fun i n hn => ?_⟩⟩
  obtain ⟨va, k1, k2, k3, k4, k5⟩ := h5.2 i n hn
  exact ⟨va, k1, k2, k3, k4, fun k hk => ⟨List.mem_filter.2 ⟨(k5 k hk).1, by simpa using (k5 k hk).2.lt⟩, (k5 k hk).2⟩⟩
theorem RGr.parts (h : RGr w base F I rb W room L) :
    ∃ a cap, w.cell? ⟨rb, 0, none⟩ = some (.int .i64 W) ∧ w.cell? ⟨rb, 1, none⟩ = some (.int .i64 room) ∧ w.cell? ⟨rb, 2, none⟩ = some (.slice a L.length cap) ∧ L.length ≤ 1048576 := by
  obtain ⟨sv, cells, rfl, h1, h3, h4, h5⟩ := h.mem
  obtain ⟨a, cap, rfl⟩ : ∃ a cap, sv = .slice a L.length cap := by
    rcases h4.2 with ⟨rfl, h0⟩ | ⟨g, cap, cur, rfl, _⟩
    · exact ⟨none, 0, by rw [h0]⟩
    · exact ⟨_, _, rfl⟩
  have hl := h.len
  have hr := h.r2
  exact ⟨a, cap, by rw [cell_of_row w rb 0 _ _ _ h3]; rfl, by rw [cell_of_row w rb 1 _ _ _ h3]; rfl, by rw [cell_of_row w rb 2 _ _ _ h3]; rfl, by omega⟩
theorem RGr.node (h : RGr w base F I rb W room L) {i : Nat} {n : PNode} (hi : L[i]? = some n) :
    ∃ g cap va, w.cell? ⟨rb, 2, none⟩ = some (.slice (some ⟨g, 0, none⟩) L.length cap) ∧ w.cell? ⟨g, i * 3, none⟩ = some (.int .u8 n.1) ∧ w.cell? ⟨g, i * 3 + 1, none⟩ = some (.int .u64 n.2.1) ∧ w.cell? ⟨g, i * 3 + 2, none⟩ = some va ∧ IntsAt w va n.2.2 := by
  obtain ⟨sv, cells, rfl, h1, h3, h4, h5⟩ := h.mem
  obtain ⟨g, cap, va, rfl, _, k1, k2, k3, k4⟩ := h5.at h4 hi
  exact ⟨g, cap, va, by rw [cell_of_row w rb 2 _ _ _ h3]; rfl, k1, k2, k3, k4⟩
end
/-- What a reference's call that may add a node leaves behind. -/
def RPost (w : World) (base : Nat) (F I : List Nat) (rb W room : Nat) (R : List PNode × Nat × Nat) : Ending → World → Prop := fun e w' =>
  ∃ F' I', e = .returned (.tuple #[.int .i64 R.2.1, .int .i64 R.2.2]) ∧ RGr w' base F' I' rb W room R.1 ∧ Touch F w w' ∧ (∀ k, k ∈ F' → k ∈ F ∨ w.heap.size ≤ k) ∧ ∀ k, k ∈ I' → k ∈ I ∨ w.heap.size ≤ k
section
variable {w : World} {base : Nat} {F I : List Nat} {rb W room : Nat} {L : List PNode}
theorem rnew_bad (W most : Int) (h : ¬ newOk W most) (w : World) :
    Calls Try.prog 34 #[.int .i64 W, .int .i64 most] w fun e w' => e = .returned (.tuple #[.pointer none, .int .i64 3]) ∧ w = w' := by
  unfold newOk at h
  by_cases h1 : W < 1
  · clear h
    go_enter Try.func34, Try.ntmps34
    go_wp2
    go_ret2
    exact ⟨rfl, rfl⟩
  · by_cases h2 : 64 < W
    · clear h
      go_enter Try.func34, Try.ntmps34
      go_wp2
      go_ret2
      exact ⟨rfl, rfl⟩
    · by_cases h3 : most < 0
      · clear h
        go_enter Try.func34, Try.ntmps34
        go_wp2
        go_ret2
        exact ⟨rfl, rfl⟩
      · have h4 : 1048576 < most := by omega
        clear h
        go_enter Try.func34, Try.ntmps34
        go_wp2
        go_ret2
        exact ⟨rfl, rfl⟩
theorem rnew_gr (W most : Nat) (h1 : 1 ≤ W) (h2 : W ≤ 64) (hm : most ≤ 1048576) (w : World) :
    RGr (w.alloc (.cells #[.int .i64 W, .int .i64 most, .slice none 0 0] 86)) w.heap.size [w.heap.size] [] w.heap.size W most [] :=
  ⟨WFL.nil, by simp, h1, h2, hm, .slice none 0 0, [], rfl, Nat.le_refl _, heap_alloc_new _ _, World.ownsRow_nil _ _ _ _, NodeRow.nil _ _⟩
theorem rnew_any (W most : Int) (h : newOk W most) (w : World) :
    Calls Try.prog 34 #[.int .i64 W, .int .i64 most] w fun e w' => ∃ rb F, e = .returned (.tuple #[.pointer (some ⟨rb, 0, none⟩), .int .i64 0]) ∧ RGr w' w.heap.size F [] rb W.toNat (roomOf most) [] ∧ Below w.heap.size w w' := by
  obtain ⟨h1, h2, h3, h4⟩ := h
  obtain ⟨n, rfl⟩ := Int.eq_ofNat_of_zero_le (show 0 ≤ W by omega)
  obtain ⟨m, rfl⟩ := Int.eq_ofNat_of_zero_le h3
  by_cases h0 : m = 0
  · subst h0
    have hr : roomOf ((0 : Nat) : Int) = 1048576 := rfl
    rw [hr]; clear hr
    go_enter Try.func34, Try.ntmps34
    go_wp2
    go_ret2
    exact ⟨w.heap.size, _, by simp, rnew_gr n 1048576 (by omega) (by omega) (by omega) w, below_new w _⟩
  · have hr : roomOf (m : Int) = m := by unfold roomOf; rw [if_neg (by omega)]; simp
    have hz : ((m : Int) == 0) = false := by rw [beq_eq_false_iff_ne]; omega
    rw [hr]; clear hr
    go_enter Try.func34, Try.ntmps34
    go_wp2
    go_ret2
    exact ⟨w.heap.size, _, by simp, rnew_gr n m (by omega) (by omega) (by omega) w, below_new w _⟩
/-- Is a number a term? -/
def isT (L : List PNode) (t : Int) : Bool := decide (0 ≤ t ∧ t < (L.length : Int))
theorem rIs_any (h : RGr w base F I rb W room L) (t : Int) :
    Calls Try.prog 51 #[.pointer (some ⟨rb, 0, none⟩), .int .i64 t] w fun e w' => e = .returned (.bool (isT L t)) ∧ w = w' := by
  obtain ⟨a, cap, c0, c1, c2, hl⟩ := h.parts
  obtain ⟨B, hB⟩ : ∃ B, isT L t = B := ⟨_, rfl⟩
  rw [hB]
  have HB := Lib.hid hB
  clear hB h
  by_cases h0 : 0 ≤ t
  · by_cases h1 : t < (L.length : Int)
    · obtain rfl : B = true := by rw [← HB.out]; exact decide_eq_true ⟨h0, h1⟩
      go_enter Try.func51, Try.ntmps51
      go_wp2
      go_ret
      exact ⟨rfl, rfl⟩
    · obtain rfl : B = false := by rw [← HB.out]; exact decide_eq_false (fun h => h1 h.2)
      go_enter Try.func51, Try.ntmps51
      go_wp2
      go_ret
      exact ⟨rfl, rfl⟩
  · obtain rfl : B = false := by rw [← HB.out]; exact decide_eq_false (fun h => h0 h.1)
    go_enter Try.func51, Try.ntmps51
    go_wp2
    go_ret
    exact ⟨rfl, rfl⟩
theorem rmask_any (W : Nat) (h1 : 1 ≤ W) (h2 : W ≤ 64) (w : World) :
    Calls Try.prog 48 #[.int .i64 W] w fun e w' => e = .returned (.int .u64 ((2 ^ W - 1 : Nat) : Int)) ∧ w = w' := by
  by_cases hW : W ≤ 63
  · go_enter Try.func48, Try.ntmps48
    go_wp2
    go_ret
    refine ⟨?_, rfl⟩
    have h := wrap_pow W h1 h2
    rw [Int.toNat_natCast] at h
    rw [← h]; rfl
  · have h63 : 63 < W := by omega
    go_enter Try.func48, Try.ntmps48
    go_wp2
    go_ret
    obtain rfl : W = 64 := by omega
    exact ⟨rfl, rfl⟩
theorem find_at {L : List PNode} (hn : L.Nodup) {k : Nat} {n : PNode} (h : L[k]? = some n) (room : Nat) : askP room L n = (L, k, 0) := by
  unfold askP; rw [find_of_mem hn h]
theorem find_not {L : List PNode} {n : PNode} (h : n ∉ L) : L.findIdx? (· == n) = none := by
  rw [List.findIdx?_eq_none_iff]
  intro x hx
  simp only [beq_eq_false_iff_ne, ne_eq]
  rintro rfl
  exact h hx
/-- A row of nodes gets one more. -/
theorem nodes_push {w3 w5 : World} {base n : Nat} {cells : List Value} {a : Option Addr} {cap : Nat} {x y z : Value}
    (h4 : w3.ownsRow base 54 3 (.slice a n cap) n cells) (hn : n ≤ 1048576) (hbase : base ≤ w3.heap.size) (h1 : ∀ u ∈ [x, y, z], u.oneCell' = true) (e5 : w5.heap = w3.heap) :
    ∃ a' c' w6, (Builtin.append_ #[84, 84] 84 #[.slice a n cap, .slice (some ⟨w5.heap.size, 0, none⟩) 1 1]).run Try.prog (w5.alloc (.cells #[x, y, z] 54)).drew = .ok (.slice a' (n + 1) c') w6 ∧
      w6.ownsRow base 54 3 (.slice a' (n + 1) c') (n + 1) (cells ++ [x, y, z]) ∧ (w5.alloc (.cells #[x, y, z] 54)).drew.grownBy w6 (Value.slice a n cap).ownBlock ∧
      (∀ k, (Value.slice a' (n + 1) c').ownBlock = some k → (Value.slice a n cap).ownBlock = some k ∨ w3.heap.size ≤ k) ∧ ∀ k, k < w3.heap.size → (Value.slice a n cap).ownBlock ≠ some k → w6.heap[k]? = w3.heap[k]? := by
  have hold : ∀ k, k < w3.heap.size → (w5.alloc (.cells #[x, y, z] 54)).drew.heap[k]? = w3.heap[k]? := by
    intro k hk
    show (w5.alloc (.cells #[x, y, z] 54)).heap[k]? = _
    rw [heap_alloc_old _ _ (by rw [e5]; exact hk), e5]
  have hown : (w5.alloc (.cells #[x, y, z] 54)).drew.ownsRow base 54 3 (.slice a n cap) n cells := owns_keep h4 fun k hk => hold k (h4.lt k hk).2
  have hnew : (w5.alloc (.cells #[x, y, z] 54)).drew.heap[w5.heap.size]? = some (.cells #[x, y, z] 54 (0, 0)) := heap_alloc_new w5 _
  have hsrc : SrcOf (w5.alloc (.cells #[x, y, z] 54)).drew (.slice (some ⟨w5.heap.size, 0, none⟩) 1 1) 1 3 [x, y, z] := by
    refine ⟨_, _, rfl, rfl, fun _ => ⟨_, rfl, fun j u hu => ?_⟩⟩
    rw [Go.WideShapes.add_plain, cell_of_row _ _ _ _ _ _ hnew, Nat.zero_add, ← hu]
    simp
  obtain ⟨v', w6, happ, own6, grow6⟩ := run_append_src (P := Try.prog) (w5.alloc (.cells #[x, y, z] 54)).drew base 84 84 54 3 40 (.agg #[.int .u8 0, .int .u64 0, .slice none 0 0]) Try.underlying84 (by kernel_rfl) rfl (by decide) (by decide) (.slice a n cap) (.slice (some ⟨w5.heap.size, 0, none⟩) 1 1) n 1 cells [x, y, z] hown hsrc h1 (by omega) (by show base ≤ (w5.alloc _).heap.size; simp [e5]; omega)
  have blk := append_block (bytes := 40) (z := .agg #[.int .u8 0, .int .u64 0, .slice none 0 0]) Try.underlying84 (by kernel_rfl) (by decide) hown hsrc h1 (by decide) (by omega) happ
  have hsz : (w5.alloc (.cells #[x, y, z] 54)).drew.heap.size = w3.heap.size + 1 := by show (w5.alloc _).heap.size = _; simp [e5]
  obtain ⟨a', c', rfl⟩ : ∃ a' c', v' = .slice a' (n + 1) c' := by
    rcases own6.2 with ⟨_, h0⟩ | ⟨g, cap, cur, rfl, _⟩
    · omega
    · exact ⟨_, _, rfl⟩
  refine ⟨a', c', w6, happ, own6, grow6, fun k hk => (blk k hk).imp id (fun h => by omega), fun k hk hne => ?_⟩
  rw [grow6.block k (by omega) (fun e => hne e.symm)]
  exact hold k hk
end
end Go.Proofs.Ytofbadmjopefpaa
