/- The reference's terms that are made simple. -/
import Derived.Test.YtcpgiadhmmmafaaRSimpC
import Derived.Test.YtcpgiadhmmmafaaBothA
import Derived.Test.YtcpgiadhmmmafaaSimpS
namespace Go.Proofs.Ytcpgiadhmmmafaa
open Go.RowKit Go.Maps
set_option maxHeartbeats 3200000

/-- Behind a call that asks a reference's graph, with whatever else there is. -/
def RLabPost (w0 : World) (rb W room : Nat) (ts : List Thing) (R : List PNode × Nat × Nat) : Ending → World → Prop := fun e w' =>
  ∃ F' I', e = .returned (.tuple #[.int .i64 R.2.1, .int .i64 R.2.2]) ∧ Lab w0 w' (Thing.rgraph F' I' rb W room R.1 :: ts)
theorem simpR_prefix (W room : Nat) (L : List PNode) (o : Nat) (xs : List Int) : L <+: (simpR W room L o xs).1 := by
  unfold simpR
  split
  · split
    · exact ans_prefix _
    · exact List.prefix_refl _
  · exact List.prefix_refl _
theorem madeStep_prefix (W room : Nat) (L0 : List PNode) (O : Nat → Bool) (lf : Nat → PNode → Int) (i : Nat) (s : List PNode × List Int × Nat) : s.1 <+: (madeStep W room L0 O lf i s).1 := by
  unfold madeStep
  cases L0[i]? with
  | none => exact List.prefix_refl _
  | some n =>
    simp only
    split
    · exact List.prefix_refl _
    · split
      · exact List.prefix_refl _
      · split
        · exact simpR_prefix _ _ _ _ _
        · exact simpR_prefix _ _ _ _ _
theorem madeRun_prefix (W room : Nat) (L0 : List PNode) (O : Nat → Bool) (lf : Nat → PNode → Int) : ∀ k, L0 <+: (madeRun W room L0 O lf k).1
  | 0 => List.prefix_refl _
  | k + 1 => by
    have ih := madeRun_prefix W room L0 O lf k
    show L0 <+: (if (madeRun W room L0 O lf k).2.2 = 0 then madeStep W room L0 O lf k (madeRun W room L0 O lf k) else madeRun W room L0 O lf k).1
    split
    · exact ih.trans (madeStep_prefix _ _ _ _ _ _ _)
    · exact ih
theorem RGr.node2 {w : World} {base : Nat} {F I : List Nat} {rb W room : Nat} {L : List PNode} (h : RGr w base F I rb W room L) {i : Nat} {n : PNode} (hi : L[i]? = some n) :
    ∃ g cap va, w.cell? ⟨rb, 2, none⟩ = some (.slice (some ⟨g, 0, none⟩) L.length cap) ∧ w.cell? ⟨g, i * 3, none⟩ = some (.int .u8 n.1) ∧ w.cell? ⟨g, i * 3 + 1, none⟩ = some (.int .u64 n.2.1) ∧ w.cell? ⟨g, i * 3 + 2, none⟩ = some va ∧ IntsAt w va n.2.2 ∧ ∀ k, va.ownBlock = some k → k ∈ I ∧ IntBlk w k := by
  obtain ⟨sv, cells, rfl, h1, h3, hown, h5⟩ := h.mem
  have hl := (List.getElem?_eq_some_iff.1 hi).1
  obtain ⟨va, e1, e2, e3, e4, e5⟩ := h5.2 i n hi
  rcases hown.2 with ⟨rfl, h0⟩ | ⟨g, cap, cur, rfl, hb, hg, hn, hm, hsz, htake⟩
  · omega
  · have hcell : ∀ j, j < L.length * 3 → w.cell? ⟨g, j, none⟩ = cells[j]? := by
      intro j hj
      rw [cell_of_row w g j cur _ _ hg, ← htake, List.getElem?_take, if_pos hj, Array.getElem?_toList]
    exact ⟨g, cap, va, by rw [cell_of_row w rb 2 _ _ _ h3]; rfl, by rw [hcell _ (by omega), Nat.mul_comm]; exact e1, by rw [hcell _ (by omega), Nat.mul_comm]; exact e2, by rw [hcell _ (by omega), Nat.mul_comm]; exact e3, e4, e5⟩
theorem Lab.rreads {w0 wr : World} {ts : List Thing} {F I : List Nat} {rb W room : Nat} {L : List PNode} {t : Nat} {n : PNode} (h : Lab w0 wr (Thing.rgraph F I rb W room L :: ts)) (hi : L[t]? = some n) :
    ∃ g cap va, wr.cell? ⟨rb, 2, none⟩ = some (.slice (some ⟨g, 0, none⟩) L.length cap) ∧ wr.cell? ⟨g, t * 3, none⟩ = some (.int .u8 n.1) ∧ wr.cell? ⟨g, t * 3 + 1, none⟩ = some (.int .u64 n.2.1) ∧ wr.cell? ⟨g, t * 3 + 2, none⟩ = some va ∧ Lab w0 wr (Thing.reads va n.2.2 :: Thing.rgraph F I rb W room L :: ts) := by
  obtain ⟨g, cap, va, c2, k0, k1, k2, e5, e6⟩ := h.rgr.node2 hi
  refine ⟨g, cap, va, c2, k0, k1, k2, ?_⟩
  have hR : ∀ k, k ∈ (Thing.reads va n.2.2).R → va.ownBlock = some k := by
    intro k hk
    by_cases hx : n.2.2 = []
    · simp [Thing.reads, hx] at hk
    · simp [Thing.reads, hx] at hk; exact hk
  refine h.new (s := Thing.reads va n.2.2) (Below.refl _ _) e5 (fun k hk => by cases hk) (fun k hk s hs => ?_) (fun k hk => ?_)
  · have hk1 := e6 k (hR k hk)
    rcases List.mem_cons.1 hs with rfl | hs
    · obtain ⟨arr, fr, hh⟩ := hk1.2
      exact h.rgr.not_of (by decide) (by decide) hh
    · have := (List.pairwise_cons.1 h.apart).1 s hs
      exact this.2 k hk1.1
  · rcases hk with hk | hk
    · cases hk
    · exact h.high (Thing.rgraph F I rb W room L) (by simp) k (.inr (e6 k (hR k hk)).1)
section
variable {w0 wr w' : World} {ts : List Thing} {F I : List Nat} {rb W room : Nat} {L : List PNode}
set_option maxRecDepth 100000 in
theorem rsimple_nil (w : World) (t : Int) : Calls Try.prog 33 #[.pointer none, .int .i64 t] w fun e w' => e = .returned (.tuple #[.int .i64 0, .int .i64 1]) ∧ w = w' := by
  go_enter Try.func33, Try.ntmps33
  go_wp2
  go_ret2
  exact ⟨rfl, rfl⟩
set_option maxRecDepth 100000 in
theorem rsimple_out (h : Lab w0 wr (Thing.rgraph F I rb W room L :: ts)) (t : Int) (ht : ¬ (0 ≤ t ∧ t < (L.length : Int))) :
    Calls Try.prog 33 #[.pointer (some ⟨rb, 0, none⟩), .int .i64 t] wr fun e w' => e = .returned (.tuple #[.int .i64 0, .int .i64 3]) ∧ wr = w' := by
  have his := rIs_any h.rgr t
  rw [show isT L t = false from decide_eq_false ht] at his
  have HIS := Lib.hid his
  clear h ht his
  go_enter Try.func33, Try.ntmps33
  go_wp2_with (go_at_call 59; refine HIS.out.mono ?_; rintro e w2 ⟨rfl, rfl⟩)
  go_ret2
  exact ⟨rfl, rfl⟩
set_option maxRecDepth 100000 in
theorem rsimple_in (h : Lab w0 wr (Thing.rgraph F I rb W room L :: ts)) (z : Nat) (hz : z < L.length) :
    Calls Try.prog 33 #[.pointer (some ⟨rb, 0, none⟩), .int .i64 z] wr (RLabPost w0 rb W room ts (madeEnd z (madeRun W room L (occ L z) (fun i _ => (i : Int)) (z + 1)))) := by
  obtain ⟨R, hR⟩ : ∃ R, madeEnd z (madeRun W room L (occ L z) (fun i _ => (i : Int)) (z + 1)) = R := ⟨_, rfl⟩
  rw [hR]
  have hll : L.length ≤ 1048576 := by have := h.rgr.len; have := h.rgr.r2; omega
  have hwf := h.rgr.wf
  have his := rIs_any h.rgr (z : Int)
  rw [show isT L (z : Int) = true from decide_eq_true ⟨by omega, by omega⟩] at his
  have hmk1 : ∀ w, (Instr.makeSlice 115 (.int .i64 ((z : Int) + 1)) (.int .i64 ((z : Int) + 1))).run Try.prog w = .ok (.slice (some ⟨w.heap.size, 0, none⟩) (z + 1) (z + 1)) (w.alloc (.cells (madeCells #[.bool false] (z + 1)) 4)) :=
    run_make_row' (P := Try.prog) 115 4 (.bool false) 1 Try.underlying115 Try.infoBool rfl .i64 .i64 (z + 1) (by omega) (by omega)
  have hmk3 : ∀ w, (Instr.makeSlice 33 (.int .i64 ((z : Int) + 1)) (.int .i64 ((z : Int) + 1))).run Try.prog w = .ok (.slice (some ⟨w.heap.size, 0, none⟩) (z + 1) (z + 1)) (w.alloc (.cells (madeCells #[.int .i64 0] (z + 1)) 3)) :=
    run_make_row' (P := Try.prog) 33 3 (.int .i64 0) 8 Try.underlying33 Try.infoI64 rfl .i64 .i64 (z + 1) (by omega) (by omega)
  obtain ⟨ob, hob⟩ : ∃ ob, wr.heap.size = ob := ⟨_, rfl⟩
  have hl1 := h.make1 (z + 1) 4 (.bool false)
  rw [hob] at hl1
  have HIS := Lib.hid his; have HL1 := Lib.hid hl1; have HR := Lib.hid hR; have HWF := Lib.hid hwf
  clear h hl1 hR hwf his
  go_enter Try.func33, Try.ntmps33
  go_upto_region 6 with (go_at_call 59; refine HIS.out.mono ?_; rintro e w2 ⟨rfl, rfl⟩)
  clear hob hmk1
  refine wp_abs (fun w1 => Lab w0 w1 (Thing.fn ob 4 (z + 1) (fun _ => .bool false) :: Thing.rgraph F I rb W room L :: ts)) HL1.out ?_
  clear HIS HL1
  rintro w1 hl
  have hcl := hl.fn1.cell (i := z) (by omega)
  have hfr := hl.fn1.frozen z
  have hl2 := ((hl.set z (.bool true)).fn_congr (g := fun i => .bool (i == z)) (fun i _ => by by_cases e : i = z <;> simp [e]))
  have HL1 := Lib.hid hl2
  clear hl hl2
  go_upto_region 7 with fail
  refine wp_abs (fun w1 => Lab w0 w1 (Thing.fn ob 4 (z + 1) (fun i => .bool (i == z)) :: Thing.rgraph F I rb W room L :: ts)) HL1.out ?_
  clear HL1 hcl hfr
  rintro w2 hl
  have HL3 := Lib.hid hl
  clear hl
  go_wp2
  go_loopw [7] (fun i wr => ∃ c : Int, -1 ≤ c ∧ c ≤ (z : Int) ∧ i = .int .i64 c ∧ ∃ need, occDown L (c + 1).toNat need = occ L z ∧ Lab w0 wr (Thing.fn ob 4 (z + 1) (fun i => .bool (need i)) :: Thing.rgraph F I rb W room L :: ts)) (fun i _ => (intOf i + 1).toNat)
  case atStart => exact ⟨(z : Int), by omega, by omega, rfl, fun i => i == z, rfl, HL3.out⟩
  case round =>
    obtain ⟨c, hc0, hcM, rfl, need, hnd, hl⟩ := hrel
    by_cases hcn : 0 ≤ c
    · obtain ⟨y, rfl⟩ := Int.eq_ofNat_of_zero_le hcn
      obtain ⟨nd, hi⟩ : ∃ nd, L[y]? = some nd := ⟨_, List.getElem?_eq_getElem (by omega)⟩
      rw [show ((y : Int) + 1).toNat = y + 1 by omega] at hnd
      have hok := (HWF.out.ok nd (List.mem_of_getElem? hi)).2.2
      have hary := aryN_le nd.1
      have hargs := HWF.out.args y nd hi
      have HL6 := Lib.hid hl; have HND := Lib.hid hnd; have HI := Lib.hid hi; have HARGS := Lib.hid hargs
      clear hl hnd hi hargs
      cases hs : need y with
      | false =>
        have HS := Lib.hid hs
        clear hs
        go_wp2
        go_loopw [8] (fun k wr => k = .int .i64 0 ∧ Lab w0 wr (Thing.fn ob 4 (z + 1) (fun i => .bool (need i)) :: Thing.rgraph F I rb W room L :: ts)) (fun _ _ => 0)
        case atStart => exact ⟨rfl, HL6.out⟩
        case round =>
          obtain ⟨rfl, hl⟩ := hrel
          have d1 := hl.fn1.cell (i := y) (by omega)
          rw [HS.out] at d1
          obtain ⟨g, cap, va, c2, k0, k1, k2, hva⟩ := hl.rgr2.node HI.out
          obtain ⟨a, m, cc, rfl, hm, -⟩ := hva.slice.parts
          have HL8 := Lib.hid hl
          clear hl hva k0 k1
          have q0 : ((0 : Int) < (m : Int)) ∨ ¬ ((0 : Int) < (m : Int)) := by omega
          rcases q0 with q0 | q0
          all_goals go_wp2
          all_goals go_roundw
          all_goals first | (case rel => exact ⟨(y : Int) - 1, by omega, by omega, by go_num, need, by rw [show ((y : Int) - 1 + 1).toNat = y by omega, ← HND.out]; show _ = occDown L y (occStep L y need); rw [occStep_no HS.out], HL8.out⟩) | (case measure => simp [intOf] <;> omega)
      | true =>
        have HS := Lib.hid hs
        clear hs
        go_wp2
        go_loopw [8] (fun k wr => ∃ j : Nat, j ≤ nd.2.2.length ∧ k = .int .i64 j ∧ Lab w0 wr (Thing.fn ob 4 (z + 1) (fun i => .bool (markA need (nd.2.2.take j) i)) :: Thing.rgraph F I rb W room L :: ts)) (fun k _ => nd.2.2.length - (intOf k).toNat)
        case atStart => exact ⟨0, by omega, rfl, by rw [List.take_zero, markA_nil]; exact HL6.out⟩
        case round =>
          obtain ⟨j, hj, rfl, hl⟩ := hrel
          have d1 := hl.fn1.cell (i := y) (by omega)
          rw [show markA need (nd.2.2.take j) y = true by unfold markA; rw [HS.out]; rfl] at d1
          obtain ⟨g, cap, va, c2, k0, k1, k2, hva⟩ := hl.rgr2.node HI.out
          obtain ⟨a, m, cc, rfl, hm, -⟩ := hva.slice.parts
          by_cases hlt : j < nd.2.2.length
          · obtain ⟨b, off, u, rfl, hc, hu⟩ := SliceOf.parts' hva.slice (i := j) (by omega)
            have hub := HARGS.out u (List.mem_of_getElem? hu)
            obtain ⟨g2, rfl⟩ := Int.eq_ofNat_of_zero_le hub.1
            have hgz : (g2 : Int) < (z : Int) + 1 := by omega
            have hjm : (j : Int) < (m : Int) := by omega
            have d2 := hl.fn1.cell (i := g2) (by omega)
            have f2 := hl.fn1.frozen g2
            have HL9 := Lib.hid hl; have HU := Lib.hid hu
            clear hl hva hu hub k0 k1 hm
            go_wp2
            go_roundw
            case rel =>
              have hl6 := (HL9.out.set g2 (.bool true)).fn_congr (g := fun i => .bool (markA need (nd.2.2.take (j + 1)) i)) (fun i _ => by rw [← markA_snoc HU.out]; by_cases e : i = g2 <;> simp [e])
              exact ⟨j + 1, by omega, by go_num, hl6⟩
            case measure => simp [intOf]; omega
          · obtain rfl : j = nd.2.2.length := by omega
            have hjm : ¬ ((nd.2.2.length : Int) < (m : Int)) := by omega
            rw [List.take_length, markA_all HI.out HS.out] at hl
            have HL9 := Lib.hid hl
            clear hl hva k0 k1 hm
            go_wp2
            go_roundw
            case rel =>
              exact ⟨(y : Int) - 1, by omega, by omega, by go_num, occStep L y need, by rw [show ((y : Int) - 1 + 1).toNat = y by omega]; exact HND.out, HL9.out⟩
            case measure => simp [intOf] <;> omega
    · obtain rfl : c = -1 := by omega
      have hnd' : need = occ L z := hnd
      subst hnd'
      have HL6 := Lib.hid hl
      clear hl hnd HL3
      obtain ⟨bb, hbb⟩ : ∃ bb, wr.heap.size = bb := ⟨_, rfl⟩
      have hl7 := HL6.out.make1 (z + 1) 3 (.int .i64 0)
      rw [hbb] at hl7
      have HL7 := Lib.hid hl7
      clear hl7 hc0 hcM hcn HL6
      go_upto_region 15 with fail
      clear hbb hmk3
      refine wp_abs (fun w1 => Lab w0 w1 (Thing.fn bb 3 (z + 1) (fun _ => .int .i64 0) :: Thing.fn ob 4 (z + 1) (fun i => .bool (occ L z i)) :: Thing.rgraph F I rb W room L :: ts)) HL7.out ?_
      clear HL7
      rintro w5 hl
      obtain ⟨MR, hMR⟩ : ∃ MR, madeRun W room L (occ L z) (fun i _ => (i : Int)) = MR := ⟨_, rfl⟩
      have h0 : MR 0 = (L, [], 0) := by rw [← hMR]; rfl
      have HMR := Lib.hid hMR; have H0 := Lib.hid h0; have HL8 := Lib.hid hl
      clear hMR h0 hl
      go_wp2
      go_loopw [10] (fun i wx => ∃ y : Nat, y ≤ z + 1 ∧ i = .int .i64 y ∧ (MR y).2.2 = 0 ∧ ∃ F4 I4, Lab w0 wx (Thing.fn bb 3 (z + 1) (fun i => .int .i64 (if i < y then (MR y).2.1.getD i 0 else 0)) :: Thing.fn ob 4 (z + 1) (fun i => .bool (occ L z i)) :: Thing.rgraph F4 I4 rb W room (MR y).1 :: ts)) (fun i _ => z + 1 - (intOf i).toNat)
      case atStart =>
        refine ⟨0, by omega, rfl, by rw [H0.out], F, I, ?_⟩
        have := HL8.out.fn_congr (g := fun i => .int .i64 (if i < 0 then (MR 0).2.1.getD i 0 else 0)) (fun i _ => by rw [if_neg (by omega)])
        rw [H0.out] at this ⊢
        exact this
      case round =>
        obtain ⟨y, hy, rfl, hmr, F4, I4, hl⟩ := hrel
        have HMR0 := Lib.hid hmr
        clear hmr
        by_cases hlt : y < z + 1
        · obtain ⟨nd, hi⟩ : ∃ nd, L[y]? = some nd := ⟨_, List.getElem?_eq_getElem (by omega)⟩
          have hmlen : (MR y).2.1.length = y := by rw [← HMR.out]; exact madeRun_len (by omega) (by rw [HMR.out]; exact HMR0.out)
          have hi2 : (MR y).1[y]? = some nd := by rw [← HMR.out]; exact prefix_at (madeRun_prefix _ _ _ _ _ _) hi
          have hok := HWF.out.ok nd (List.mem_of_getElem? hi)
          have hargs := HWF.out.args y nd hi
          obtain ⟨g, cap, va, c2, k0, k1, k2, hl1⟩ := hl.rot3.rreads hi2
          have hyz : decide (y ≤ z) = true := decide_eq_true (by omega)
          have hlen2 : y < (MR y).1.length := (List.getElem?_eq_some_iff.1 hi2).1
          obtain ⟨ax, mx, cx, rfl, hmx, -⟩ := (reads_slice hl1.head).parts
          have hm3 : mx ≤ 3 := by have := hok.2.2; have := aryN_le nd.1; omega
          obtain ⟨xb, hxb⟩ : ∃ xb, wr.heap.size = xb := ⟨_, rfl⟩
          have hl2 := (hl1.perm (.cons _ (List.perm_middle (l₁ := [_, _])).symm)).alloc #[.int .u8 nd.1, .int .u64 nd.2.1, .slice ax mx cx] 106
          rw [hxb] at hl2
          have HI := Lib.hid hi; have HML := Lib.hid hmlen; have HOK := Lib.hid hok; have HARGS := Lib.hid hargs; have HL9 := Lib.hid hl2; have HMX := Lib.hid hmx
          clear hl hl1 hl2 hi hi2 hmlen hok hargs hmx
          go_upto_region 19 with fail
          clear hxb c2 k0 k1 k2
          refine wp_abs (fun w1 => Lab w0 w1 (Thing.box xb 106 #[.int .u8 nd.1, .int .u64 nd.2.1, .slice ax mx cx] :: Thing.reads (.slice ax mx cx) nd.2.2 :: Thing.fn bb 3 (z + 1) (fun i => .int .i64 (if i < y then (MR y).2.1.getD i 0 else 0)) :: Thing.fn ob 4 (z + 1) (fun i => .bool (occ L z i)) :: Thing.rgraph F4 I4 rb W room (MR y).1 :: ts)) HL9.out ?_
          clear HL9
          rintro w6 hl
          have d1 := hl.fn3.cell (i := y) (by omega)
          have f1 := hl.fn3.frozen y
          have hl3 := hl.rot3.set y (.int .i64 y)
          have HL9 := Lib.hid (hl3.fn_congr (g := fun i => .int .i64 (if i = y then (y : Int) else if i < y then (MR y).2.1.getD i 0 else 0)) (fun i _ => by by_cases e : i = y <;> simp [e]))
          clear hl hl3
          go_upto_region 20 with fail
          clear d1 f1
          refine wp_abs (fun w1 => Lab w0 w1 (Thing.fn bb 3 (z + 1) (fun i => .int .i64 (if i = y then (y : Int) else if i < y then (MR y).2.1.getD i 0 else 0)) :: Thing.box xb 106 #[.int .u8 nd.1, .int .u64 nd.2.1, .slice ax mx cx] :: Thing.reads (.slice ax mx cx) nd.2.2 :: Thing.fn ob 4 (z + 1) (fun i => .bool (occ L z i)) :: Thing.rgraph F4 I4 rb W room (MR y).1 :: ts)) HL9.out ?_
          clear HL9
          rintro w7 hl
          have d1 := hl.fn4.cell (i := y) (by omega)
          obtain ⟨x0, x1, x2⟩ := cells3 hl.box2
          cases hO : occ L z y with
          | false =>
            rw [hO] at d1
            have HL9 := Lib.hid hl; have HO := Lib.hid hO
            clear hl hO
            go_wp2
            go_roundw
            case rel =>
              have hM : MR (y + 1) = ((MR y).1, (MR y).2.1 ++ [(y : Int)], 0) := by rw [← HMR.out, madeRun_succ (by rw [HMR.out]; exact HMR0.out), step_skip HI.out HO.out]
              refine ⟨y + 1, by omega, by go_num, by rw [hM], F4, I4, ?_⟩
              rw [hM]
              exact (HL9.out.sub (.cons_cons _ (.cons _ (.cons _ (.cons_cons _ (.cons_cons _ (List.Sublist.refl _))))))).fn_congr fun i _ => by rw [made_next HML.out]
            case measure => simp [intOf]; omega
          | true =>
            rw [hO] at d1
            have HL9 := Lib.hid hl; have HO := Lib.hid hO
            clear hl hO
            by_cases hm0 : mx = 0
            · subst hm0
              have hnil : nd.2.2 = [] := List.length_eq_zero_iff.1 HMX.out
              have HNIL := Lib.hid hnil
              clear hnil
              go_wp2
              go_roundw
              case rel =>
                have hM : MR (y + 1) = ((MR y).1, (MR y).2.1 ++ [(y : Int)], 0) := by rw [← HMR.out, madeRun_succ (by rw [HMR.out]; exact HMR0.out), step_leaf HI.out HO.out HNIL.out]
                refine ⟨y + 1, by omega, by go_num, by rw [hM], F4, I4, ?_⟩
                rw [hM]
                exact (HL9.out.sub (.cons_cons _ (.cons _ (.cons _ (.cons_cons _ (.cons_cons _ (List.Sublist.refl _))))))).fn_congr fun i _ => by rw [made_next HML.out]
              case measure => simp [intOf]; omega
            · have hm1 : ((mx : Int) == 0) = false := by rw [beq_eq_false_iff_ne]; omega
              go_wp2
              clear x0 x1 x2 d1
              go_loopw [12, 13] (fun v i wx => ∃ k : Nat, k ≤ mx ∧ i = .int .i64 k ∧ OwnInts wx w7.heap.size 3 .i64 v ((nd.2.2.map fun a => (MR y).2.1.getD a.toNat 0).take k) ∧ Below w7.heap.size w7 wx) (fun _ i _ => mx - (intOf i).toNat)
              case atStart => exact ⟨0, by omega, rfl, OwnInts.nil _ _ _ _, Below.refl _ _⟩
              case round =>
                obtain ⟨k, hk, rfl, hown, hbr⟩ := hrel
                have hl := HL9.out.later hbr
                obtain ⟨x0, x1, x2⟩ := cells3 hl.box2
                have hbs := hbr.size
                by_cases hlt3 : k < mx
                · have hsl : SliceOf wr .i64 (.slice ax mx cx) nd.2.2 := reads_slice hl.third
                  obtain ⟨b, off, u, rfl, hc, hu⟩ := hsl.parts' hlt3
                  obtain ⟨g, rfl⟩ := Int.eq_ofNat_of_zero_le (HARGS.out u (List.mem_of_getElem? hu)).1
                  have hgy : (g : Int) < (y : Int) := (HARGS.out _ (List.mem_of_getElem? hu)).2
                  have hgz : (g : Int) < (z : Int) + 1 := by omega
                  have d2 := hl.fn1.cell (i := g) (by omega)
                  rw [if_neg (by omega), if_pos (by omega)] at d2
                  have hval : (nd.2.2.map fun a => (MR y).2.1.getD a.toNat 0).take (k + 1) = (nd.2.2.map fun a => (MR y).2.1.getD a.toNat 0).take k ++ [(MR y).2.1.getD g 0] := by
                    rw [List.take_add_one, List.getElem?_map, hu]; rfl
                  have hlen3 : ((nd.2.2.map fun a => (MR y).2.1.getD a.toNat 0).take k).length ≤ 1000000000 := by have := List.length_take_le k (nd.2.2.map fun a => (MR y).2.1.getD a.toNat 0); omega
                  have HV := Lib.hid hval; have HBR := Lib.hid hbr
                  clear hl hsl hu hval hbr
                  go_wp2_with (at_builtin; refine wpList_append1_int 33 3 .i64 w7.heap.size _ _ _ ((MR y).2.1.getD g 0) 8 hown _ _ rfl rfl Try.underlying33 Try.infoI64 (by decide) rfl rfl hlen3 hbs ?_; intro v' w' hown' hb' hv')
                  go_roundw
                  case rel => exact ⟨k + 1, by omega, by go_num, by rw [HV.out]; exact hown', HBR.out.trans hb'⟩
                  case measure => simp [intOf]; omega
                · obtain rfl : k = mx := by omega
                  rw [List.take_of_length_le (by rw [List.length_map, HMX.out]; exact Nat.le_refl _)] at hown
                  have hsl2 := OwnInts.slice hown
                  have hg7 := hl.rot5
                  obtain ⟨R2, hR2⟩ : ∃ R2, simpR W room (MR y).1 nd.1 (nd.2.2.map fun a => (MR y).2.1.getD a.toNat 0) = R2 := ⟨_, rfl⟩
                  have hcall := rsapp_any hg7.rgr nd.1 (by have := HOK.out.1; omega) (nd.2.2.map fun a => (MR y).2.1.getD a.toNat 0) _ hsl2
                  rw [hR2] at hcall
                  have HG7 := Lib.hid hg7; have HC := Lib.hid hcall; have HR2 := Lib.hid hR2
                  clear hl hsl2 hg7 hcall hR2 x1 hown hbr hbs
                  go_wp2_with fail
                  go_at_call 50
                  refine HC.out.mono ?_
                  intro e w9 hp
                  obtain ⟨F5, I5, rfl, hl9⟩ := HG7.out.rpost hp
                  have HL12 := Lib.hid hl9
                  clear hp hl9 x0
                  have hstep : MR (y + 1) = if R2.2.2 = 0 then (R2.1, (MR y).2.1 ++ [(R2.2.1 : Int)], 0) else (R2.1, (MR y).2.1, R2.2.2) := by
                    rw [← HMR.out, madeRun_succ (by rw [HMR.out]; exact HMR0.out), step_app HI.out HO.out (fun e => by have := HMX.out; rw [e] at this; simp at this; omega) rfl, HMR.out, HR2.out]
                  have HST := Lib.hid hstep
                  clear hstep
                  obtain ⟨L6, t6, e6⟩ := R2
                  by_cases he : e6 = 0
                  · subst he
                    have hM : MR (y + 1) = (L6, (MR y).2.1 ++ [(t6 : Int)], 0) := HST.out.trans (if_pos rfl)
                    have e1 : (((0 : Nat) : Int) != 0) = false := by simp
                    have d2 := HL12.out.fn2.cell (i := y) (by omega)
                    have f2 := HL12.out.fn2.frozen y
                    have HM := Lib.hid hM
                    clear hM
                    go_wp2
                    go_roundw
                    case rel =>
                      refine ⟨y + 1, by omega, by go_num, by rw [HM.out], F5, I5, ?_⟩
                      rw [HM.out]
                      exact ((HL12.out.sub (.cons_cons _ (.cons_cons _ (.cons _ (.cons _ (.cons_cons _ (List.Sublist.refl _))))))).rot3'.set y (.int .i64 t6)).fn_congr fun i _ => by rw [made_next HML.out]; by_cases e : i = y <;> simp [e]
                    case measure => simp [intOf]; omega
                  · have e1 : ((e6 : Int) != 0) = true := by rw [bne_iff_ne]; omega
                    have hM : MR (y + 1) = (L6, (MR y).2.1, e6) := HST.out.trans (if_neg he)
                    have hend : MR (z + 1) = (L6, (MR y).2.1, e6) := by
                      rw [← hM, ← HMR.out]
                      exact madeRun_stop (by rw [HMR.out, hM]; exact he) (by omega)
                    have hRR : R = (L6, 0, e6) := by
                      rw [← HR.out]
                      unfold madeEnd
                      rw [HMR.out, hend]
                      exact if_neg he
                    subst hRR
                    clear hM hend
                    go_wp2
                    go_ret2
                    exact ⟨F5, I5, rfl, HL12.out.sub (.cons_cons _ (.cons _ (.cons _ (.cons _ (.cons _ (List.Sublist.refl _))))))⟩
        · obtain rfl : y = z + 1 := by omega
          have d1 := hl.fn1.cell (i := z) (by omega)
          rw [if_pos (by omega)] at d1
          have hnn : 0 ≤ (MR (z + 1)).2.1.getD z 0 := by
            have := madeRun_nonneg (W := W) (room := room) (L0 := L) (O := occ L z) (lf := fun i _ => (i : Int)) (fun i _ => by omega) (z + 1)
            rw [HMR.out] at this
            rw [List.getD_eq_getElem?_getD]
            cases hq : (MR (z + 1)).2.1[z]? with
            | none => simp
            | some q => exact this q (List.mem_of_getElem? hq)
          obtain ⟨q, hq⟩ := Int.eq_ofNat_of_zero_le hnn
          rw [hq] at d1
          have hRR : R = ((MR (z + 1)).1, q, 0) := by
            rw [← HR.out]
            unfold madeEnd
            rw [HMR.out, if_pos HMR0.out, hq]; rfl
          subst hRR
          have HL9 := Lib.hid hl
          clear hl hq hnn
          go_wp2
          go_ret2
          exact ⟨F4, I4, rfl, HL9.out.drop.drop⟩
end
/-- Simple. -/
theorem Lab.rsimple {w0 wr : World} {ts : List Thing} {F I : List Nat} {rb W room : Nat} {L : List PNode} (h : Lab w0 wr (Thing.rgraph F I rb W room L :: ts)) (t : Int) {R : List PNode × Nat × Nat} (hR : simpleR W room L t = R) :
    Calls Try.prog 33 #[.pointer (some ⟨rb, 0, none⟩), .int .i64 t] wr fun e w' => ∃ F' I', e = .returned (.tuple #[.int .i64 R.2.1, .int .i64 R.2.2]) ∧ Lab w0 w' (Thing.rgraph F' I' rb W room R.1 :: ts) := by
  subst hR
  unfold simpleR
  by_cases ht : 0 ≤ t ∧ t < (L.length : Int)
  · obtain ⟨z, rfl⟩ := Int.eq_ofNat_of_zero_le ht.1
    rw [if_pos ht, Int.toNat_natCast]
    exact rsimple_in h z (by omega)
  · rw [if_neg ht]
    refine (rsimple_out h t ht).mono ?_
    rintro e w' ⟨rfl, rfl⟩
    exact ⟨F, I, rfl, h⟩
end Go.Proofs.Ytcpgiadhmmmafaa
