/- TermNames of law 10. -/
import Derived.Test.YtpkahhpgkceciaaLabP
import Derived.Test.YtpkahhpgkceciaaGraphG
namespace Go.Proofs.Ytpkahhpgkceciaa
open Go.RowKit Go.Maps
set_option maxHeartbeats 1600000

set_option maxRecDepth 100000 in
theorem termNames_walk (w : World) : Calls Try.prog 9 #[] w fun e w' => e = .returned (.bool true) ∧ Below w.heap.size w w' := by
  have HE0 := Lib.hid (show constR 2 4 [] 7 = ([(0, 3, [])], 0, 0) by decide)
  have HE1 := Lib.hid (show varR 4 [(0, 3, [])] 0 = ([(0, 3, []), (1, 0, [])], 1, 0) by decide)
  have HE2 := Lib.hid (show appR 4 [(0, 3, []), (1, 0, [])] 4 [1, 0] = ([(0, 3, []), (1, 0, []), (4, 0, [1, 0])], 2, 0) by decide)
  have HE3 := Lib.hid (show appR 4 [(0, 3, []), (1, 0, []), (4, 0, [1, 0])] 4 [0, 1] = ([(0, 3, []), (1, 0, []), (4, 0, [1, 0]), (4, 0, [0, 1])], 3, 0) by decide)
  have HE4 := Lib.hid (show varR 4 [(0, 3, []), (1, 0, []), (4, 0, [1, 0]), (4, 0, [0, 1])] 1 = ([(0, 3, []), (1, 0, []), (4, 0, [1, 0]), (4, 0, [0, 1])], 0, 10) by decide)
  have HE5 := Lib.hid (show varR 4 [(0, 3, []), (1, 0, []), (4, 0, [1, 0]), (4, 0, [0, 1])] 0 = ([(0, 3, []), (1, 0, []), (4, 0, [1, 0]), (4, 0, [0, 1])], 1, 0) by decide)
  have HE6 := Lib.hid (show appR 4 [(0, 3, []), (1, 0, []), (4, 0, [1, 0]), (4, 0, [0, 1])] 4 [1] = ([(0, 3, []), (1, 0, []), (4, 0, [1, 0]), (4, 0, [0, 1])], 0, 2) by decide)
  have HE7 := Lib.hid (show appR 4 [(0, 3, []), (1, 0, []), (4, 0, [1, 0]), (4, 0, [0, 1])] 1 [1] = ([(0, 3, []), (1, 0, []), (4, 0, [1, 0]), (4, 0, [0, 1])], 0, 2) by decide)
  have HE8 := Lib.hid (show appR 4 [(0, 3, []), (1, 0, []), (4, 0, [1, 0]), (4, 0, [0, 1])] 2 [4] = ([(0, 3, []), (1, 0, []), (4, 0, [1, 0]), (4, 0, [0, 1])], 0, 3) by decide)
  have HE9 := Lib.hid (show appR 4 [(0, 3, []), (1, 0, []), (4, 0, [1, 0]), (4, 0, [0, 1])] 21 [0, 0, 9] = ([(0, 3, []), (1, 0, []), (4, 0, [1, 0]), (4, 0, [0, 1])], 0, 3) by decide)
  have HE10 := Lib.hid (show varR 4 [(0, 3, []), (1, 0, []), (4, 0, [1, 0]), (4, 0, [0, 1])] (-1) = ([(0, 3, []), (1, 0, []), (4, 0, [1, 0]), (4, 0, [0, 1])], 0, 3) by decide)
  go_enter Try.func9, Try.ntmps9
  go_wp2_with fail
  go_at_call 29
  refine ((Lab.nil (Below.refl _ _)).new_graph 2 4 ⟨by decide, by decide, by decide, by decide⟩).mono ?_
  rintro e w0 ⟨gb, F0, rfl, hlab⟩
  replace hlab : Lab w w0 [Thing.graph F0 [] gb 2 4 []] := hlab
  have H0 := Lib.hid hlab
  clear hlab
  go_wp2_with fail
  go_at_call 24
  refine (const_any H0.out.gr 7 (by decide)).mono ?_
  rw [HE0.out]
  intro e w1 hp
  obtain ⟨F1, I1, rfl, hl⟩ := H0.out.gpost hp
  have H1 := Lib.hid hl
  clear hl hp H0
  go_wp2_with fail
  go_at_call 25
  refine (var_any H1.out.gr 0).mono ?_
  rw [HE1.out]
  intro e w2 hp
  obtain ⟨F2, I2, rfl, hl⟩ := H1.out.gpost hp
  have H2 := Lib.hid hl
  clear hl hp H1
  go_wp2_with fail
  go_at_call 26
  refine (app_any (H2.out.later (below_new _ _)).gr 4 (by decide) [1, 0] _ (sliceOf_new w2 .i64 3 [1, 0] 2)).mono ?_
  rw [HE2.out]
  intro e w3 hp
  obtain ⟨F3, I3, rfl, hl⟩ := (H2.out.later (below_new _ _)).gpost hp
  have H3 := Lib.hid hl
  clear hl hp H2
  go_wp2_with fail
  go_at_call 26
  refine (app_any (H3.out.later (below_new _ _)).gr 4 (by decide) [0, 1] _ (sliceOf_new w3 .i64 3 [0, 1] 2)).mono ?_
  rw [HE3.out]
  intro e w4 hp
  obtain ⟨F4, I4, rfl, hl⟩ := (H3.out.later (below_new _ _)).gpost hp
  have H4 := Lib.hid hl
  clear hl hp H3
  go_wp2_with fail
  go_at_call 25
  refine (var_any H4.out.gr 1).mono ?_
  rw [HE4.out]
  intro e w5 hp
  obtain ⟨F5, I5, rfl, hl⟩ := H4.out.gpost hp
  have H5 := Lib.hid hl
  clear hl hp H4
  go_wp2_with fail
  go_at_call 25
  refine (var_any H5.out.gr 0).mono ?_
  rw [HE5.out]
  intro e w6 hp
  obtain ⟨F6, I6, rfl, hl⟩ := H5.out.gpost hp
  have H6 := Lib.hid hl
  clear hl hp H5
  go_wp2_with fail
  go_at_call 23
  refine (H6.out.node_at 2 (4, 0, [1, 0]) rfl).mono ?_
  rintro e w7 ⟨a1, m1, c1, rfl, hl7⟩
  obtain ⟨p, hp⟩ : ∃ p, w7.heap.size = p := ⟨_, rfl⟩
  have hl8 := hl7.alloc #[.int .u8 4, .int .u64 0, .slice a1 m1 c1] 37
  rw [hp] at hl8
  have HL8 := Lib.hid hl8
  clear hl7 hl8 H6
  go_upto_region 11 with fail
  clear hp
  refine wp_abs (fun w8 => Lab w w8 [Thing.box p 37 #[.int .u8 4, .int .u64 0, .slice a1 m1 c1], Thing.graph F6 I6 gb 2 4 [(0, 3, []), (1, 0, []), (4, 0, [1, 0]), (4, 0, [0, 1])], Thing.ints (.slice a1 m1 c1) [1, 0]]) HL8.out ?_
  rintro w8 hl8
  obtain ⟨f0, f1, f2⟩ := cells3 hl8.box1
  have H8 := Lib.hid hl8
  have hlen := len_any hl8.drop.gr
  have HLEN := Lib.hid hlen
  clear hl8 HL8 hlen
  go_wp2_with (go_at_call 20; refine HLEN.out.mono ?_; rintro e w9 ⟨rfl, rfl⟩)
  have hn1 : NodeV (w8.alloc (.cells #[.int .i64 1, .int .i64 0] 3)) (.agg #[.int .u8 4, .int .u64 0, .slice a1 m1 c1]) (4, 0, [1, 0]) := ⟨_, rfl, H8.out.ints3.slice.below (below_new _ _), by decide⟩
  have hn2 : NodeV (w8.alloc (.cells #[.int .i64 1, .int .i64 0] 3)) (.agg #[.int .u8 4, .int .u64 0, .slice (some ⟨w8.heap.size, 0, none⟩) 2 2]) (4, 0, [1, 0]) := ⟨_, rfl, sliceOf_new w8 .i64 3 [1, 0] 2, by decide⟩
  go_at_call 27
  refine (equalNode_any _ _ _ _ hn1 hn2).mono ?_
  rw [decide_eq_true rfl]
  rintro e w10 ⟨rfl, hb10⟩
  have hl10 := (H8.out.later ((below_new w8 _).trans (hb10.mono (by simp)))).drop.swap.drop
  have H10 := Lib.hid hl10
  clear hn1 hn2 hb10 hl10 H8 HLEN f0 f1 f2
  go_wp2_with fail
  go_at_call 26
  refine (app_any (H10.out.later (below_new _ _)).gr 4 (by decide) [1] _ (sliceOf_new w10 .i64 3 [1] 1)).mono ?_
  rw [HE6.out]
  intro e w11 hp
  obtain ⟨F11, I11, rfl, hl⟩ := (H10.out.later (below_new _ _)).gpost hp
  have H11 := Lib.hid hl
  clear hl hp H10
  go_wp2_with fail
  go_at_call 26
  refine (app_any (H11.out.later (below_new _ _)).gr 1 (by decide) [1] _ (sliceOf_new w11 .i64 3 [1] 1)).mono ?_
  rw [HE7.out]
  intro e w12 hp
  obtain ⟨F12, I12, rfl, hl⟩ := (H11.out.later (below_new _ _)).gpost hp
  have H12 := Lib.hid hl
  clear hl hp H11
  go_wp2_with fail
  go_at_call 26
  refine (app_any (H12.out.later (below_new _ _)).gr 2 (by decide) [4] _ (sliceOf_new w12 .i64 3 [4] 1)).mono ?_
  rw [HE8.out]
  intro e w13 hp
  obtain ⟨F13, I13, rfl, hl⟩ := (H12.out.later (below_new _ _)).gpost hp
  have H13 := Lib.hid hl
  clear hl hp H12
  go_wp2_with fail
  go_at_call 26
  refine (app_any (H13.out.later (below_new _ _)).gr 21 (by decide) [0, 0, 9] _ (sliceOf_new w13 .i64 3 [0, 0, 9] 3)).mono ?_
  rw [HE9.out]
  intro e w14 hp
  obtain ⟨F14, I14, rfl, hl⟩ := (H13.out.later (below_new _ _)).gpost hp
  have H14 := Lib.hid hl
  clear hl hp H13
  go_wp2_with fail
  go_at_call 25
  refine (var_any H14.out.gr (-1)).mono ?_
  rw [HE10.out]
  intro e w15 hp
  obtain ⟨F15, I15, rfl, hl⟩ := H14.out.gpost hp
  have H15 := Lib.hid hl
  clear hl hp H14
  obtain ⟨sb, hsb⟩ : ∃ sb, w15.heap.size = sb := ⟨_, rfl⟩
  have hb20 := H15.out.below.trans ((below_new w15 (.cells #[.int .i64 0, .int .i64 0, .int .i64 65, .int .i64 0, .int .i64 2, .int .i64 1048577, .int .i64 2, .int .i64 (-1)] 56)).mono H15.out.below.size)
  have HB20 := Lib.hid hb20
  clear hb20 H15
  go_upto_block 0 with fail
  have HSB := Lib.hid hsb
  clear hsb
  refine wp_abs (fun w16 => Below w.heap.size w w16 ∧ w16.heap[sb]? = some (.cells #[.int .i64 0, .int .i64 0, .int .i64 65, .int .i64 0, .int .i64 2, .int .i64 1048577, .int .i64 2, .int .i64 (-1)] 56 (0, 0))) ⟨HB20.out, by rw [← HSB.out]; exact heap_alloc_new _ _⟩ ?_
  rintro w16 ⟨hb16, hx16⟩
  have hrow : ∀ k, k < 4 → ∃ x y : Int, w16.cell? ⟨sb, k * 2, none⟩ = some (.int .i64 x) ∧ w16.cell? ⟨sb, k * 2 + 1, none⟩ = some (.int .i64 y) ∧ ¬ newOk x y := by
    intro k hk
    have hc : k = 0 ∨ k = 1 ∨ k = 2 ∨ k = 3 := by omega
    rcases hc with rfl | rfl | rfl | rfl
    · exact ⟨0, 0, by rw [cell_of_row w16 sb _ _ _ _ hx16]; rfl, by rw [cell_of_row w16 sb _ _ _ _ hx16]; rfl, by unfold newOk; omega⟩
    · exact ⟨65, 0, by rw [cell_of_row w16 sb _ _ _ _ hx16]; rfl, by rw [cell_of_row w16 sb _ _ _ _ hx16]; rfl, by unfold newOk; omega⟩
    · exact ⟨2, 1048577, by rw [cell_of_row w16 sb _ _ _ _ hx16]; rfl, by rw [cell_of_row w16 sb _ _ _ _ hx16]; rfl, by unfold newOk; omega⟩
    · exact ⟨2, -1, by rw [cell_of_row w16 sb _ _ _ _ hx16]; rfl, by rw [cell_of_row w16 sb _ _ _ _ hx16]; rfl, by unfold newOk; omega⟩
  have HROW := Lib.hid hrow; have HB16 := Lib.hid hb16
  clear hrow hb16 hx16 HB20
  go_wp2
  go_loopw [153] (fun i wr => ∃ k : Nat, k ≤ 4 ∧ i = .int .i64 k ∧ Below w16.heap.size w16 wr) (fun i _ => 4 - (intOf i).toNat)
  case atStart => exact ⟨0, by omega, rfl, Below.refl _ _⟩
  case round =>
    obtain ⟨k, hk, rfl, hbr⟩ := hrel
    have HBR := Lib.hid hbr
    by_cases hlt : k < 4
    · obtain ⟨x, y, d0, d1, hbad⟩ := HROW.out k hlt
      replace d0 := cell_later hbr d0
      replace d1 := cell_later hbr d1
      have HN := Lib.hid (fun wx => new_bad x y hbad wx)
      clear hbad hbr
      go_wp2_with (go_at_call 29; refine (HN.out _).mono ?_; rintro e w17 ⟨rfl, rfl⟩)
      go_roundw
      case rel => exact ⟨k + 1, by omega, by go_num, HBR.out.trans ((below_new _ _).mono HBR.out.size)⟩
      case measure => simp [intOf]; omega
    · obtain rfl : k = 4 := by omega
      clear hbr
      go_wp2_with (first
        | (go_at_call 24; refine (const_nil _ _).mono ?_; rintro e w17 ⟨rfl, rfl⟩)
        | (go_at_call 25; refine (var_nil _ _).mono ?_; rintro e w17 ⟨rfl, rfl⟩)
        | (go_at_call 26; refine (app_nil _ _ _).mono ?_; rintro e w17 ⟨rfl, rfl⟩)
        | (go_at_call 23; refine (node_nil _ _).mono ?_; rintro e w17 ⟨rfl, hb17⟩)
        | (go_at_call 34; refine (width_nil _).mono ?_; rintro e w18 ⟨rfl, rfl⟩)
        | (go_at_call 20; refine (len_nil _).mono ?_; rintro e w18 ⟨rfl, rfl⟩)
        | (go_at_call 35; refine (copy_nil _).mono ?_; rintro e w18 ⟨rfl, rfl⟩)
        | (go_at_call 22; refine (awake_any _).mono ?_; rintro e w19 ⟨rfl, hb19⟩))
      go_ret
      have h1 := HB16.out.trans (HBR.out.mono HB16.out.size)
      have h2 := h1.trans (hb17.mono h1.size)
      exact ⟨rfl, h2.trans (hb19.mono h2.size)⟩
end Go.Proofs.Ytpkahhpgkceciaa
