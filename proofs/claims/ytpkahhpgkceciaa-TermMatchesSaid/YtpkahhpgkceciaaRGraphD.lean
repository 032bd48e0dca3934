/- Copy of a reference's graph. -/
import Derived.Test.YtpkahhpgkceciaaRGraphC
namespace Go.Proofs.Ytpkahhpgkceciaa
open Go.RowKit Go.Maps
set_option maxHeartbeats 800000

theorem WFL.take {L : List PNode} (h : WFL L) (k : Nat) : WFL (L.take k) :=
  ⟨h.nodup.sublist (List.take_sublist k L), fun n hn => h.ok n (List.mem_of_mem_take hn), fun i n hi a ha => by
    rw [List.getElem?_take] at hi
    split at hi
    · exact h.args i n hi a ha
    · cases hi⟩
theorem not_mem_take {L : List PNode} (h : L.Nodup) {k : Nat} {n : PNode} (hk : L[k]? = some n) : n ∉ L.take k := by
  intro hm
  obtain ⟨j, hj, he⟩ := List.getElem_of_mem hm
  rw [List.length_take] at hj
  have h1 : L[j]? = some n := by
    have := List.getElem?_eq_getElem (l := L.take k) (by rw [List.length_take]; exact hj)
    rw [List.getElem?_take, if_pos (by omega)] at this
    rw [this, he]
  obtain ⟨l1, e1⟩ := List.getElem?_eq_some_iff.1 h1
  obtain ⟨l2, e2⟩ := List.getElem?_eq_some_iff.1 hk
  have := (List.getElem_inj h).1 (e1.trans e2.symm)
  omega
section
variable {w : World} {base : Nat} {F I : List Nat} {rb W room : Nat} {L : List PNode}
theorem rcopy_nil (w : World) : Calls Try.prog 38 #[.pointer none] w fun e w' => e = .returned (.pointer none) ∧ w = w' := by
  go_enter Try.func38, Try.ntmps38
  go_wp2
  go_ret
  exact ⟨rfl, rfl⟩
set_option maxRecDepth 100000 in
theorem rcopy_any (h : RGr w base F I rb W room L) :
    Calls Try.prog 38 #[.pointer (some ⟨rb, 0, none⟩)] w fun e w' => ∃ rb' F' I', e = .returned (.pointer (some ⟨rb', 0, none⟩)) ∧ RGr w' w.heap.size F' I' rb' W room L ∧ (∀ k, k ∈ I' → w.heap.size ≤ k) ∧ Below w.heap.size w w' := by
  obtain ⟨a, cap, c0, c1, c2, hlen⟩ := h.parts
  have hrb := World.block_lt_of_cell? _ _ c0
  simp only at hrb
  have hll := h.len
  have hr2 := h.r2
  have H := Lib.hid h
  clear h
  go_enter Try.func38, Try.ntmps38
  go_upto_region 3 with fail
  go_cut [3] (fun p wx => ∃ cb F', p = .pointer (some ⟨cb, 0, none⟩) ∧ RGr wx w.heap.size F' [] cb W room [] ∧ Below w.heap.size w wx)
  case first =>
    go_region_held3 (fun w' => w'.cell? ⟨rb, 0, none⟩ = some (.int .i64 W) ∧ w'.cell? ⟨rb, 1, none⟩ = some (.int .i64 room)) (first | exact ⟨c0, c1⟩ | go_keep) (fail)
    go_wp2
    go_meet
    have hg := rnew_gr W room H.out.w1 H.out.w2 H.out.r2 w.drew
    exact ⟨_, _, rfl, hg, (below_new w _).drew⟩
  case rest =>
    obtain ⟨cb, Fc, rfl, hg0, hb0⟩ := hcut
    have HG0 := Lib.hid hg0; have HB0 := Lib.hid hb0
    clear hg0 hb0 c0 c1 c2
    go_wp2
    go_loopw [4] (fun i wr => ∃ k : Nat, k ≤ L.length ∧ i = .int .i64 k ∧ ∃ F' I', RGr wr w.heap.size F' I' cb W room (L.take k) ∧ (∀ k, k ∈ I' → w.heap.size ≤ k) ∧ Below w.heap.size w wr) (fun i _ => L.length - (intOf i).toNat)
    case atStart => exact ⟨0, by omega, rfl, _, _, HG0.out, by simp, HB0.out⟩
    case round =>
      obtain ⟨k, hk, rfl, F', I', hg, hI, hb⟩ := hrel
      have htl : (L.take k).length = k := by rw [List.length_take]; omega
      obtain ⟨a1, cap1, g0, g1, g2, -⟩ := hg.parts
      rw [htl] at g2
      have hgr := H.out.later hb
      obtain ⟨a2, cap2, -, -, s2, -⟩ := hgr.parts
      have HG := Lib.hid hg; have HI := Lib.hid hI; have HB := Lib.hid hb; have HR := Lib.hid hgr; have HTL := Lib.hid htl
      clear hg hI hb hgr htl g0 g1 g2
      by_cases hlt : k < L.length
      · obtain ⟨x, hx⟩ : ∃ x, L[k]? = some x := ⟨_, List.getElem?_eq_getElem hlt⟩
        have htk := take_snoc_at hx
        have hnm := not_mem_take H.out.wf.nodup hx
        obtain ⟨op, num, xs⟩ := x
        have HX := Lib.hid hx; have HTK := Lib.hid htk; have HNM := Lib.hid hnm
        clear hx htk hnm
        go_wp2_with fail
        go_at_call 60
        refine (rnode_at HR.out k _ HX.out).mono ?_
        rintro e w2 ⟨va, rfl, hva, hb2⟩
        obtain ⟨a3, m3, c3, rfl⟩ := hva.val
        obtain ⟨p, hp⟩ : ∃ p, w2.heap.size = p := ⟨_, rfl⟩
        have HVA := Lib.hid hva; have HB2 := Lib.hid hb2
        clear hva hb2 s2
        go_upto_region 8 with fail
        have HP := Lib.hid hp
        clear hp
        refine wp_abs (fun w3 => Below wr.heap.size wr w3 ∧ OwnInts w3 wr.heap.size 3 .i64 (.slice a3 m3 c3) xs ∧ w3.heap[p]? = some (.cells #[.int .u8 op, .int .u64 num, .slice a3 m3 c3] 37 (0, 0))) ?_ ?_
        · rw [← HP.out]
          exact ⟨HB2.out.trans ((below_new _ _).mono HB2.out.size), HVA.out.below (below_new _ _), heap_alloc_new _ _⟩
        rintro w3 ⟨hb3, hv3, hx3⟩
        obtain ⟨f0, f1, f2⟩ := cells3 hx3
        have hg3 := HG.out.later hb3
        obtain ⟨sv, cells, hF, b1, h3, h4, h5⟩ := hg3.mem
        obtain ⟨a4, cap4, -, -, g2, -⟩ := hg3.parts
        rw [HTL.out] at g2 h4
        have es : sv = .slice a4 k cap4 := by
          have h := g2
          rw [cell_of_row w3 _ 2 _ _ _ h3] at h
          simpa using h
        subst es
        have lrb := (Array.getElem?_eq_some_iff.1 h3).1
        have nrb : (Value.slice a4 k cap4).ownBlock ≠ some cb := not_own h4 h3 (by intro c fr e; simp at e)
        obtain ⟨a', c', w6, happ, own6, grow6, blk6, old6⟩ := nodes_push (w3 := w3) (w5 := w3) (x := .int .u8 op) (y := .int .u64 num) (z := .slice a3 m3 c3) h4 (by omega) (Nat.le_trans HB.out.size hb3.size) (by simp [Value.oneCell']) rfl
        have g6 : w6.heap[cb]? = some (.cells #[.int .i64 W, .int .i64 room, .slice a4 k cap4] 109 (0, 0)) := by rw [old6 cb lrb nrb, h3]
        have d6 : w6.cell? ⟨cb, 2, none⟩ = some (.slice a4 k cap4) := by rw [cell_of_row w6 _ 2 _ _ _ g6]; rfl
        have f6 : w6.frozen? ⟨cb, 2, none⟩ = false := frozen_of_row w6 _ _ _ _ g6
        have ca : (w3.alloc (.cells #[.int .u8 op, .int .u64 num, .slice a3 m3 c3] 37)).cell? ⟨cb, 2, none⟩ = some (.slice a4 k cap4) := by
          rw [World.cell?_of_block (a := ⟨cb, 2, none⟩) (heap_alloc_old w3 _ lrb)]; exact g2
        have h4' : w3.ownsRow w.heap.size 37 3 (.slice a4 k cap4) (L.take k).length cells := by rw [HTL.out]; exact h4
        have own6' : w6.ownsRow w.heap.size 37 3 (.slice a' (k + 1) c') ((L.take k).length + 1) (cells ++ [.int .u8 op, .int .u64 num, .slice a3 m3 c3]) := by rw [HTL.out]; exact own6
        have G6 := Lib.hid (And.intro own6' (And.intro grow6 (And.intro blk6 (And.intro g6 old6)))); have HG3 := Lib.hid hg3
        have HM := Lib.hid (And.intro hF (And.intro b1 (And.intro h3 (And.intro h4' h5)))); have HV3 := Lib.hid hv3; have HB3 := Lib.hid hb3
        clear own6 own6' grow6 blk6 g6 old6 hF b1 h3 h4 h4' h5 nrb lrb hx3 hg3 hv3 hb3
        go_region_law (refine step_append_is rfl _ _ 44 rfl (.slice a4 k cap4) (.slice (some ⟨w3.heap.size, 0, none⟩) 1 1) rfl rfl (.slice a' (k + 1) c') w6 happ ?_)
        clear happ ca d6 f6 g2 f0 f1 f2
        all_goals
          go_wp2
          have hr := rgr_append (n := (op, num, xs)) (wF := _) HG3.out.wf (by rw [HTL.out]; omega) HG3.out.w1 HG3.out.w2 HG3.out.r2 HNM.out (H.out.wf.ok _ (List.mem_of_getElem? HX.out)) (by rw [HTL.out]; exact H.out.wf.args k _ HX.out) HM.out.1 HM.out.2.1 HM.out.2.2.1 HM.out.2.2.2.1 HM.out.2.2.2.2 (intsAt_owns HV3.out) (intBlk_owns HV3.out) rfl ⟨rfl, rfl, rfl⟩ _ G6.out.2.2.1 G6.out.1 G6.out.2.1 (by first | exact .inl rfl | exact .inr rfl)
          rw [← HTK.out] at hr
          have HRR := Lib.hid hr
          clear hr
          go_roundw
          case rel => exact ⟨k + 1, by omega, by go_num, _, _, HRR.out.1, fun j hj => (List.mem_append.1 hj).elim (fun h => Nat.le_trans HB.out.size (HV3.out.lt j (by simpa using h)).1) (HI.out j), HRR.out.2.1.below (HB.out.trans (HB3.out.mono HB.out.size)) (Nat.le_trans HB.out.size HB3.out.size) HG3.out.base_le⟩
          case measure => simp [intOf]; omega
      · obtain rfl : k = L.length := by omega
        have hg2 := HG.out
        rw [List.take_length] at hg2
        have HG2 := Lib.hid hg2
        clear hg2
        go_wp2
        go_ret
        exact ⟨cb, F', I', rfl, HG2.out, HI.out, HB.out⟩
end
end Go.Proofs.Ytpkahhpgkceciaa
