/- Both graphs: Same of law 10. -/
import Derived.Test.YtpkahhpgkceciaaBothA
namespace Go.Proofs.Ytpkahhpgkceciaa
open Go.RowKit Go.Maps
set_option maxHeartbeats 800000

/-- What Node answers: the node and the error. -/
def nodeAt (L : List PNode) (t : Int) : PNode × Nat := if 0 ≤ t ∧ t < (L.length : Int) then (L.getD t.toNat (0, 0, []), 0) else ((0, 0, []), 3)
theorem nodeAt_in {L : List PNode} {i : Nat} {n : PNode} (h : L[i]? = some n) : nodeAt L (i : Int) = (n, 0) := by
  have hl := (List.getElem?_eq_some_iff.1 h).1
  unfold nodeAt
  rw [if_pos (by omega), Int.toNat_natCast, List.getD_eq_getElem?_getD, h]; rfl
section
variable {w : World} {base : Nat} {F I F' I' : List Nat} {gb rb W room : Nat} {L : List PNode}
theorem node_t (h : Gr w base F I gb W room L) (t : Int) :
    Calls Try.prog 23 #[.pointer (some ⟨gb, 0, none⟩), .int .i64 t] w fun e w' => ∃ a m c, e = .returned (.tuple #[.agg #[.int .u8 (nodeAt L t).1.1, .int .u64 (nodeAt L t).1.2.1, .slice a m c], .int .i64 (nodeAt L t).2]) ∧ OwnInts w' w.heap.size 3 .i64 (.slice a m c) (nodeAt L t).1.2.2 ∧ Below w.heap.size w w' := by
  by_cases ht : 0 ≤ t ∧ t < (L.length : Int)
  · obtain ⟨i, rfl⟩ := Int.eq_ofNat_of_zero_le ht.1
    obtain ⟨n, hn⟩ : ∃ n, L[i]? = some n := ⟨_, List.getElem?_eq_getElem (by omega)⟩
    rw [nodeAt_in hn]
    refine (node_at h i n hn).mono ?_
    rintro e w' ⟨va, rfl, hv, hb⟩
    obtain ⟨a, m, c, rfl⟩ := hv.val
    exact ⟨a, m, c, rfl, hv, hb⟩
  · have : nodeAt L t = ((0, 0, []), 3) := by unfold nodeAt; rw [if_neg ht]
    rw [this]
    refine (node_out h t (by omega)).mono ?_
    rintro e w' ⟨rfl, hb⟩
    exact ⟨none, 0, 0, rfl, OwnInts.nil _ _ _ _, hb⟩
theorem rnode_t (h : RGr w base F I rb W room L) (t : Int) :
    Calls Try.prog 60 #[.pointer (some ⟨rb, 0, none⟩), .int .i64 t] w fun e w' => ∃ a m c, e = .returned (.tuple #[.agg #[.int .u8 (nodeAt L t).1.1, .int .u64 (nodeAt L t).1.2.1, .slice a m c], .int .i64 (nodeAt L t).2]) ∧ OwnInts w' w.heap.size 3 .i64 (.slice a m c) (nodeAt L t).1.2.2 ∧ Below w.heap.size w w' := by
  by_cases ht : 0 ≤ t ∧ t < (L.length : Int)
  · obtain ⟨i, rfl⟩ := Int.eq_ofNat_of_zero_le ht.1
    obtain ⟨n, hn⟩ : ∃ n, L[i]? = some n := ⟨_, List.getElem?_eq_getElem (by omega)⟩
    rw [nodeAt_in hn]
    refine (rnode_at h i n hn).mono ?_
    rintro e w' ⟨va, rfl, hv, hb⟩
    obtain ⟨a, m, c, rfl⟩ := hv.val
    exact ⟨a, m, c, rfl, hv, hb⟩
  · have : nodeAt L t = ((0, 0, []), 3) := by unfold nodeAt; rw [if_neg ht]
    rw [this]
    refine (rnode_out h t (by omega)).mono ?_
    rintro e w' ⟨rfl, hb⟩
    exact ⟨none, 0, 0, rfl, OwnInts.nil _ _ _ _, hb⟩
theorem nodeAt_short {L : List PNode} (h : WFL L) (t : Int) : (nodeAt L t).1.2.2.length ≤ 3 := by
  unfold nodeAt
  split
  · rename_i ht
    obtain ⟨i, rfl⟩ := Int.eq_ofNat_of_zero_le ht.1
    obtain ⟨n, hn⟩ : ∃ n, L[i]? = some n := ⟨_, List.getElem?_eq_getElem (by omega)⟩
    rw [Int.toNat_natCast, List.getD_eq_getElem?_getD, hn]
    have := (h.ok n (List.mem_of_getElem? hn)).2.2
    have := aryN_le n.1
    show n.2.2.length ≤ 3
    omega
  · simp
theorem width_quiet (h : Gr w 0 F I gb W room L) (n : Nat) : Calls Try.prog 34 #[.pointer (some ⟨gb, 0, none⟩)] (w.drewN n) fun e w' => e = .returned (.int .i64 W) ∧ ∃ m, w' = w.drewN m :=
  (width_any (h.drewN n)).mono fun _ _ ⟨a, b⟩ => ⟨a, n, b.symm⟩
theorem same_none (w : World) : Calls Try.prog 37 #[.agg #[.pointer none, .pointer none]] w fun e w' => e = .returned (.bool true) ∧ Below w.heap.size w w' := by
  go_enter Try.func37, Try.ntmps37
  go_wp2_with (go_at_call 20; refine (len_nil _).mono ?_; rintro e w2 ⟨rfl, rfl⟩)
  go_ret
  exact ⟨rfl, below_new _ _⟩
set_option maxRecDepth 100000 in
theorem same_any (hg : Gr w 0 F I gb W room L) (hr : RGr w 0 F' I' rb W room L) :
    Calls Try.prog 37 #[.agg #[.pointer (some ⟨gb, 0, none⟩), .pointer (some ⟨rb, 0, none⟩)]] w fun e w' => e = .returned (.bool true) ∧ Below w.heap.size w w' := by
  have hll := hg.len
  have hr2 := hg.r2
  have HG := Lib.hid hg; have HR := Lib.hid hr
  obtain ⟨p, hp⟩ : ∃ p, w.heap.size = p := ⟨_, rfl⟩
  clear hg hr
  go_enter Try.func37, Try.ntmps37
  go_upto_region 1 with fail
  refine wp_abs (fun w1 => Below w.heap.size w w1 ∧ w1.heap[p]? = some (.cells #[.pointer (some ⟨gb, 0, none⟩), .pointer (some ⟨rb, 0, none⟩)] 61 (0, 0))) ⟨below_new _ _, by rw [← hp]; exact heap_alloc_new _ _⟩ ?_
  clear hp
  rintro w1 ⟨hb1, hx1⟩
  have hg1 := HG.out.later hb1
  obtain ⟨a, cap, q0, q1, q2, -⟩ := (HR.out.later hb1).parts
  have k0 : w1.cell? ⟨p, 0, none⟩ = some (.pointer (some ⟨gb, 0, none⟩)) := by rw [cell_of_row w1 p 0 _ _ _ hx1]; rfl
  have k1 : w1.cell? ⟨p, 1, none⟩ = some (.pointer (some ⟨rb, 0, none⟩)) := by rw [cell_of_row w1 p 1 _ _ _ hx1]; rfl
  have HG1 := Lib.hid hg1; have HB1 := Lib.hid hb1; have HX1 := Lib.hid hx1
  clear hg1 hb1 hx1
  go_wp2
  go_quiet ((first | (go_at_call 20; exact len_quiet HG1.out _) | (go_at_call 34; exact width_quiet HG1.out _)))
  refine wp_exit_abs (fun w2 => Below w1.heap.size w1 w2) (below_drewN (Below.refl _ _) _) ?_
  rintro w2 hb2
  clear q0 q1 q2 k0 k1
  go_wp2
  go_loopw [3] (fun i wr => ∃ k : Nat, k ≤ L.length + 2 ∧ i = .int .i64 ((k : Int) - 1) ∧ Below w1.heap.size w1 wr) (fun i _ => (L.length + 2 - ((intOf i) + 1)).toNat)
  case atStart => exact ⟨0, by omega, rfl, hb2⟩
  case round =>
    obtain ⟨k, hk, rfl, hbr⟩ := hrel
    have hbw := HB1.out.trans (hbr.mono HB1.out.size)
    have hxr := (hbr.block p (Array.getElem?_eq_some_iff.1 HX1.out).1).trans HX1.out
    obtain ⟨a, cap, q0, q1, q2, -⟩ := (HR.out.later hbw).parts
    have k0 : wr.cell? ⟨p, 0, none⟩ = some (.pointer (some ⟨gb, 0, none⟩)) := by rw [cell_of_row wr p 0 _ _ _ hxr]; rfl
    have k1 : wr.cell? ⟨p, 1, none⟩ = some (.pointer (some ⟨rb, 0, none⟩)) := by rw [cell_of_row wr p 1 _ _ _ hxr]; rfl
    have HBR := Lib.hid hbr; have HBW := Lib.hid hbw
    clear hbr hbw hxr
    by_cases hlt : k ≤ L.length + 1
    · have hn1 := node_t (HG.out.later HBW.out) ((k : Int) - 1)
      have hsh := nodeAt_short HG.out.wf ((k : Int) - 1)
      have hn2 : ∀ wx, Below w.heap.size w wx → _ := fun wx hb => rnode_t (HR.out.later hb) ((k : Int) - 1)
      generalize nodeAt L ((k : Int) - 1) = nd at *
      obtain ⟨⟨op, num, xs⟩, f⟩ := nd
      simp only at hn1 hn2 hsh
      have HN1 := Lib.hid hn1; have HN2 := Lib.hid hn2
      clear hn1 hn2
      have ht : decide ((k : Int) - 1 ≤ (L.length : Int)) = true := decide_eq_true (by omega)
      go_wp2_with fail
      go_at_call 23
      refine HN1.out.mono ?_
      rintro e w3 ⟨a1, m1, c1, rfl, hv1, hb3⟩
      obtain ⟨b1, hbk1⟩ : ∃ b1, w3.heap.size = b1 := ⟨_, rfl⟩
      have HV1 := Lib.hid hv1; have HB3 := Lib.hid hb3
      clear hv1 hb3 q0 q1 q2 k0 k1
      go_upto_region 9 with fail
      have HBK1 := Lib.hid hbk1
      clear hbk1
      refine wp_abs (fun w4 => Below wr.heap.size wr w4 ∧ SliceOf w4 .i64 (.slice a1 m1 c1) xs ∧ w4.heap[b1]? = some (.cells #[.int .u8 op, .int .u64 num, .slice a1 m1 c1] 37 (0, 0))) ?_ ?_
      · rw [← HBK1.out]
        exact ⟨HB3.out.trans ((below_new _ _).mono HB3.out.size), HV1.out.slice.below (below_new _ _), heap_alloc_new _ _⟩
      rintro w4 ⟨hb4, hv4, hx4⟩
      have hbw4 := HBW.out.trans (hb4.mono HBW.out.size)
      have hxp := (hb4.block p (by have := (Array.getElem?_eq_some_iff.1 HX1.out).1; have := HBR.out.size; omega)).trans ((HBR.out.block p (Array.getElem?_eq_some_iff.1 HX1.out).1).trans HX1.out)
      have k1 : w4.cell? ⟨p, 1, none⟩ = some (.pointer (some ⟨rb, 0, none⟩)) := by rw [cell_of_row w4 p 1 _ _ _ hxp]; rfl
      have hn2 := HN2.out w4 hbw4
      have HBW4 := Lib.hid hbw4; have HV4 := Lib.hid hv4; have HX4 := Lib.hid hx4; have HN3 := Lib.hid hn2; have HB4 := Lib.hid hb4
      clear hb4 hv4 hx4 hbw4 hxp hn2
      go_wp2_with fail
      go_at_call 60
      refine HN3.out.mono ?_
      rintro e w5 ⟨a2, m2, c2, rfl, hv2, hb5⟩
      obtain ⟨b2, hbk2⟩ : ∃ b2, w5.heap.size = b2 := ⟨_, rfl⟩
      have HV2 := Lib.hid hv2; have HB5 := Lib.hid hb5
      clear hv2 hb5 k1
      go_upto_region 10 with fail
      have HBK2 := Lib.hid hbk2
      clear hbk2
      refine wp_abs (fun w6 => Below w4.heap.size w4 w6 ∧ SliceOf w6 .i64 (.slice a2 m2 c2) xs ∧ w6.heap[b2]? = some (.cells #[.int .u8 op, .int .u64 num, .slice a2 m2 c2] 37 (0, 0))) ?_ ?_
      · rw [← HBK2.out]
        exact ⟨HB5.out.trans ((below_new _ _).mono HB5.out.size), HV2.out.slice.below (below_new _ _), heap_alloc_new _ _⟩
      rintro w6 ⟨hb6, hv6, hx6⟩
      have hx46 := (hb6.block b1 (Array.getElem?_eq_some_iff.1 HX4.out).1).trans HX4.out
      obtain ⟨e0, e1, e2⟩ := cells3 hx46
      obtain ⟨f0, f1, f2⟩ := cells3 hx6
      have hv1 : NodeV w6 (.agg #[.int .u8 op, .int .u64 num, .slice a1 m1 c1]) (op, num, xs) := ⟨_, rfl, HV4.out.below hb6, by show xs.length ≤ _; omega⟩
      have hv2 : NodeV w6 (.agg #[.int .u8 op, .int .u64 num, .slice a2 m2 c2]) (op, num, xs) := ⟨_, rfl, hv6, by show xs.length ≤ _; omega⟩
      have hcall := equalNode_any _ _ _ _ hv1 hv2
      rw [decide_eq_true rfl] at hcall
      have HCALL := Lib.hid hcall; have HB6 := Lib.hid (HB4.out.trans (hb6.mono HB4.out.size))
      clear hv1 hv2 hcall hb6 hv6 hx6 hx46
      go_wp2_with (go_at_call 27; refine HCALL.out.mono ?_; rintro e w7 ⟨rfl, hb7⟩)
      have hb8 := HB6.out.trans (hb7.mono HB6.out.size)
      go_roundw
      case rel => exact ⟨k + 1, by omega, by congr 1; omega, HBR.out.trans (hb8.mono HBR.out.size)⟩
      case measure => simp [intOf]; omega
    · obtain rfl : k = L.length + 2 := by omega
      have ht : decide (((L.length + 2 : Nat) : Int) - 1 ≤ (L.length : Int)) = false := decide_eq_false (by omega)
      go_wp2
      go_ret
      exact ⟨rfl, HBW.out⟩
end
end Go.Proofs.Ytpkahhpgkceciaa
