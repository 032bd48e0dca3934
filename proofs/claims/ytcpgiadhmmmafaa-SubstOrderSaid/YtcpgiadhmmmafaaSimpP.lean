/- The chapter's example of simple terms; awake of law 12. -/
import Derived.Test.YtcpgiadhmmmafaaSimpO
import Derived.Test.YtcpgiadhmmmafaaLab
namespace Go.Proofs.Ytcpgiadhmmmafaa
open Go.RowKit Go.Maps
set_option maxHeartbeats 1600000

def exM : List PNode := [(1, 0, []), (1, 1, []), (0, 0, []), (0, 1, []), (0, 2, []), (0, 3, []), (2, 0, [0])]
theorem cells8 {w : World} {b : Nat} {a0 a1 a2 a3 a4 a5 a6 a7 : Value} {t : TypeId} (h : w.heap[b]? = some (.cells #[a0, a1, a2, a3, a4, a5, a6, a7] t (0, 0))) :
    w.cell? ⟨b, 0, none⟩ = some a0 ∧ w.cell? ⟨b, 1, none⟩ = some a1 ∧ w.cell? ⟨b, 2, none⟩ = some a2 ∧ w.cell? ⟨b, 3, none⟩ = some a3 ∧ w.cell? ⟨b, 4, none⟩ = some a4 ∧ w.cell? ⟨b, 5, none⟩ = some a5 ∧ w.cell? ⟨b, 6, none⟩ = some a6 ∧ w.cell? ⟨b, 7, none⟩ = some a7 ∧ ∀ i, w.frozen? ⟨b, i, none⟩ = false :=
  ⟨by rw [cell_of_row w b 0 _ _ _ h]; rfl, by rw [cell_of_row w b 1 _ _ _ h]; rfl, by rw [cell_of_row w b 2 _ _ _ h]; rfl, by rw [cell_of_row w b 3 _ _ _ h]; rfl, by rw [cell_of_row w b 4 _ _ _ h]; rfl, by rw [cell_of_row w b 5 _ _ _ h]; rfl, by rw [cell_of_row w b 6 _ _ _ h]; rfl, by rw [cell_of_row w b 7 _ _ _ h]; rfl, fun i => frozen_of_row w b i _ _ h⟩
section
variable {w0 wr w' : World} {ts : List Thing} {F I : List Nat} {gb W room : Nat} {L : List PNode}
set_option maxRecDepth 100000 in
/-- Is of the chapter's sample. -/
theorem Lab.is12 (h : Lab w0 wr (Thing.graph F I gb W room L :: ts)) (n0 n1 n2 n3 x y nx want : Int) (o : Nat) (ho : o ≤ 255) (xs : List Int) (va : Value) (hv : SliceOf wr .i64 va xs) {R : List PNode × Nat × Nat} (hR : simpR W room L o xs = R) {B : Bool} (hB : decide ((R.2.1 : Int) = want ∧ R.2.2 = 0) = B) :
    Calls Try.prog 28 #[.agg #[.pointer (some ⟨gb, 0, none⟩), .int .i64 n0, .int .i64 n1, .int .i64 n2, .int .i64 n3, .int .i64 x, .int .i64 y, .int .i64 nx], .int .i64 want, .int .u8 o, va] wr fun e w' => ∃ F' I', e = .returned (.bool B) ∧ Lab w0 w' (Thing.graph F' I' gb W room R.1 :: ts) := by
  obtain ⟨L', t, er⟩ := R
  obtain ⟨a, n, cap, rfl, -, -⟩ := hv.parts
  simp only at hB
  obtain ⟨p, hp⟩ : ∃ p, wr.heap.size = p := ⟨_, rfl⟩
  have hl1 := h.later (below_new wr (.cells #[.pointer (some ⟨gb, 0, none⟩), .int .i64 n0, .int .i64 n1, .int .i64 n2, .int .i64 n3, .int .i64 x, .int .i64 y, .int .i64 nx] 56))
  have hc := sapp_any hl1.gr o ho xs _ (hv.below (below_new wr (.cells #[.pointer (some ⟨gb, 0, none⟩), .int .i64 n0, .int .i64 n1, .int .i64 n2, .int .i64 n3, .int .i64 x, .int .i64 y, .int .i64 nx] 56)))
  rw [hR] at hc
  have HL := Lib.hid hl1; have HC := Lib.hid hc; have HB := Lib.hid hB
  clear h hl1 hc hR hv hB hp
  go_enter Try.func28, Try.ntmps28
  go_wp2_with fail
  go_at_call 26
  refine HC.out.mono ?_
  intro e w2 hq
  obtain ⟨F', I', rfl, hl2⟩ := HL.out.gpost hq
  have HL2 := Lib.hid hl2
  clear hq hl2
  by_cases ht : (t : Int) = want
  · have t1 : ((t : Int) == want) = true := by rw [beq_iff_eq]; exact ht
    by_cases he : er = 0
    · have e1 : ((er : Int) == 0) = true := by rw [beq_iff_eq]; omega
      obtain rfl : B = true := by rw [← HB.out]; exact decide_eq_true ⟨ht, he⟩
      clear ht he
      go_wp2
      go_ret
      exact ⟨F', I', rfl, HL2.out⟩
    · have e1 : ((er : Int) == 0) = false := by rw [beq_eq_false_iff_ne]; omega
      obtain rfl : B = false := by rw [← HB.out]; exact decide_eq_false (fun h => he h.2)
      clear ht he
      go_wp2
      go_ret
      exact ⟨F', I', rfl, HL2.out⟩
  · have t1 : ((t : Int) == want) = false := by rw [beq_eq_false_iff_ne]; exact ht
    obtain rfl : B = false := by rw [← HB.out]; exact decide_eq_false (fun h => ht h.1)
    clear ht
    go_wp2
    go_ret
    exact ⟨F', I', rfl, HL2.out⟩
def sampleK (gb k : Nat) : Array Value := #[.pointer (some ⟨gb, 0, none⟩), .int .i64 (if 0 < k then 2 else 0), .int .i64 (if 1 < k then 3 else 0), .int .i64 (if 2 < k then 4 else 0), .int .i64 (if 3 < k then 5 else 0), .int .i64 0, .int .i64 1, .int .i64 0]
set_option maxRecDepth 100000 in
theorem Lab.made12 (h : Lab w0 wr ts) : Calls Try.prog 27 #[] wr fun e w' => ∃ gb F I, e = .returned (.agg #[.pointer (some ⟨gb, 0, none⟩), .int .i64 2, .int .i64 3, .int .i64 4, .int .i64 5, .int .i64 0, .int .i64 1, .int .i64 6]) ∧ Lab w0 w' (Thing.graph F I gb 2 1048576 exM :: ts) := by
  have e1 : varR 1048576 [] 0 = ([(1, 0, [])], 0, 0) := by decide
  have e2 : varR 1048576 [(1, 0, [])] 1 = ([(1, 0, []), (1, 1, [])], 1, 0) := by decide
  have c0 : constR 2 1048576 [(1, 0, []), (1, 1, [])] 0 = ([(1, 0, []), (1, 1, []), (0, 0, [])], 2, 0) := by decide
  have c1 : constR 2 1048576 [(1, 0, []), (1, 1, []), (0, 0, [])] 1 = ([(1, 0, []), (1, 1, []), (0, 0, []), (0, 1, [])], 3, 0) := by decide
  have c2 : constR 2 1048576 [(1, 0, []), (1, 1, []), (0, 0, []), (0, 1, [])] 2 = ([(1, 0, []), (1, 1, []), (0, 0, []), (0, 1, []), (0, 2, [])], 4, 0) := by decide
  have c3 : constR 2 1048576 [(1, 0, []), (1, 1, []), (0, 0, []), (0, 1, []), (0, 2, [])] 3 = ([(1, 0, []), (1, 1, []), (0, 0, []), (0, 1, []), (0, 2, []), (0, 3, [])], 5, 0) := by decide
  have e3 : appR 1048576 [(1, 0, []), (1, 1, []), (0, 0, []), (0, 1, []), (0, 2, []), (0, 3, [])] 2 [0] = (exM, 6, 0) := by decide
  obtain ⟨p, hp⟩ : ∃ p, wr.heap.size = p := ⟨_, rfl⟩
  have hl1 := h.alloc #[.pointer none, .int .i64 0, .int .i64 0, .int .i64 0, .int .i64 0, .int .i64 0, .int .i64 0, .int .i64 0] 56
  rw [hp] at hl1
  have E1 := Lib.hid e1; have E2 := Lib.hid e2; have E3 := Lib.hid e3; have C0 := Lib.hid c0; have C1 := Lib.hid c1; have C2 := Lib.hid c2; have C3 := Lib.hid c3; have H1 := Lib.hid hl1
  clear e1 e2 e3 c0 c1 c2 c3 hl1 h
  go_enter Try.func27, Try.ntmps27
  go_upto_region 1 with fail
  clear hp
  refine wp_abs (fun w1 => Lab w0 w1 (Thing.box p 56 _ :: ts)) H1.out ?_
  rintro w1 h1
  have H1 := Lib.hid h1; clear h1
  go_wp2_with fail
  go_at_call 34
  refine (H1.out.new_graph 2 0 ⟨by decide, by decide, by decide, by decide⟩).mono ?_
  rintro e w2 ⟨gb, F, rfl, h2⟩
  replace h2 : Lab w0 w2 (Thing.graph F [] gb 2 1048576 [] :: Thing.box p 56 _ :: ts) := h2
  obtain ⟨q, hq⟩ : ∃ q, w2.heap.size = q := ⟨_, rfl⟩
  have h3 := h2.alloc #[.pointer (some ⟨gb, 0, none⟩), .int .i64 0, .int .i64 0, .int .i64 0, .int .i64 0, .int .i64 0, .int .i64 0, .int .i64 0] 56
  rw [hq] at h3
  have H3 := Lib.hid h3; clear h2 h3
  go_upto_region 3 with fail
  clear hq
  refine wp_abs (fun w3 => Lab w0 w3 (Thing.box q 56 #[.pointer (some ⟨gb, 0, none⟩), .int .i64 0, .int .i64 0, .int .i64 0, .int .i64 0, .int .i64 0, .int .i64 0, .int .i64 0] :: Thing.graph F [] gb 2 1048576 [] :: Thing.box p 56 #[.pointer none, .int .i64 0, .int .i64 0, .int .i64 0, .int .i64 0, .int .i64 0, .int .i64 0, .int .i64 0] :: ts)) H3.out ?_
  clear H1 H3
  rintro w3 h3
  have H3 := Lib.hid h3; clear h3
  go_wp2_with fail
  go_at_call 36
  refine (var_any H3.out.swap.gr 0).mono ?_
  intro e w4 hp
  obtain ⟨F2, I2, rfl, h4⟩ := H3.out.swap.gpost hp
  rw [E1.out] at h4 ⊢
  have h5 := h4.swap
  obtain ⟨-, -, -, -, -, b5, -, -, bf⟩ := cells8 h5.box1
  have H5 := Lib.hid h5; clear h4 h5 hp
  go_upto_region 4 with fail
  refine wp_abs (fun w3 => Lab w0 w3 (Thing.box q 56 #[.pointer (some ⟨gb, 0, none⟩), .int .i64 0, .int .i64 0, .int .i64 0, .int .i64 0, .int .i64 0, .int .i64 0, .int .i64 0] :: Thing.graph F2 I2 gb 2 1048576 [(1, 0, [])] :: Thing.box p 56 #[.pointer none, .int .i64 0, .int .i64 0, .int .i64 0, .int .i64 0, .int .i64 0, .int .i64 0, .int .i64 0] :: ts)) (H5.out.store 5 (.int .i64 0)) ?_
  clear b5 bf H5 H3
  rintro w5 h3
  have H3 := Lib.hid h3; clear h3
  go_wp2_with fail
  go_at_call 36
  refine (var_any H3.out.swap.gr 1).mono ?_
  intro e w6 hp
  obtain ⟨F3, I3, rfl, h4⟩ := H3.out.swap.gpost hp
  rw [E2.out] at h4 ⊢
  have h5 := h4.swap
  obtain ⟨-, -, -, -, -, -, b6, -, bf⟩ := cells8 h5.box1
  have H5 := Lib.hid h5; clear h4 h5 hp
  go_upto_region 5 with fail
  refine wp_abs (fun w3 => Lab w0 w3 (Thing.box q 56 #[.pointer (some ⟨gb, 0, none⟩), .int .i64 0, .int .i64 0, .int .i64 0, .int .i64 0, .int .i64 0, .int .i64 1, .int .i64 0] :: Thing.graph F3 I3 gb 2 1048576 [(1, 0, []), (1, 1, [])] :: Thing.box p 56 #[.pointer none, .int .i64 0, .int .i64 0, .int .i64 0, .int .i64 0, .int .i64 0, .int .i64 0, .int .i64 0] :: ts)) (H5.out.store 6 (.int .i64 1)) ?_
  clear b6 bf H5 H3
  rintro w7 h3
  have H3 := Lib.hid h3; clear h3
  go_wp2
  go_loopw [4] (fun i wx => ∃ k : Nat, k ≤ 4 ∧ i = .int .i64 k ∧ ∃ F I, Lab w0 wx (Thing.box q 56 (sampleK gb k) :: Thing.graph F I gb 2 1048576 (exM.take (2 + k)) :: Thing.box p 56 #[.pointer none, .int .i64 0, .int .i64 0, .int .i64 0, .int .i64 0, .int .i64 0, .int .i64 0, .int .i64 0] :: ts)) (fun i _ => 4 - (intOf i).toNat)
  case atStart => exact ⟨0, by omega, rfl, F3, I3, H3.out⟩
  case round =>
    obtain ⟨k, hk, rfl, F4, I4, h4⟩ := hrel
    have hc : k = 0 ∨ k = 1 ∨ k = 2 ∨ k = 3 ∨ k = 4 := by omega
    rcases hc with rfl | rfl | rfl | rfl | rfl
    · replace h4 : Lab w0 wr (Thing.box q 56 #[.pointer (some ⟨gb, 0, none⟩), .int .i64 0, .int .i64 0, .int .i64 0, .int .i64 0, .int .i64 0, .int .i64 1, .int .i64 0] :: Thing.graph F4 I4 gb 2 1048576 [(1, 0, []), (1, 1, [])] :: Thing.box p 56 #[.pointer none, .int .i64 0, .int .i64 0, .int .i64 0, .int .i64 0, .int .i64 0, .int .i64 0, .int .i64 0] :: ts) := h4
      have H4 := Lib.hid h4; clear h4
      go_wp2_with fail
      go_at_call 40
      refine (const_any H4.out.swap.gr 0 (by decide)).mono ?_
      intro e w8 hp
      obtain ⟨F5, I5, rfl, h5⟩ := H4.out.swap.gpost hp
      rw [C0.out] at h5 ⊢
      have h6 := h5.swap
      obtain ⟨-, b1, -, -, -, -, -, -, bf⟩ := cells8 h6.box1
      have H6 := Lib.hid h6; clear h5 h6 hp
      go_wp2
      go_roundw
      case rel => exact ⟨1, by omega, rfl, F5, I5, H6.out.store 1 (.int .i64 2)⟩
      case measure => simp [intOf]
    · replace h4 : Lab w0 wr (Thing.box q 56 #[.pointer (some ⟨gb, 0, none⟩), .int .i64 2, .int .i64 0, .int .i64 0, .int .i64 0, .int .i64 0, .int .i64 1, .int .i64 0] :: Thing.graph F4 I4 gb 2 1048576 [(1, 0, []), (1, 1, []), (0, 0, [])] :: Thing.box p 56 #[.pointer none, .int .i64 0, .int .i64 0, .int .i64 0, .int .i64 0, .int .i64 0, .int .i64 0, .int .i64 0] :: ts) := h4
      have H4 := Lib.hid h4; clear h4
      go_wp2_with fail
      go_at_call 40
      refine (const_any H4.out.swap.gr 1 (by decide)).mono ?_
      intro e w8 hp
      obtain ⟨F5, I5, rfl, h5⟩ := H4.out.swap.gpost hp
      rw [C1.out] at h5 ⊢
      have h6 := h5.swap
      obtain ⟨-, -, b1, -, -, -, -, -, bf⟩ := cells8 h6.box1
      have H6 := Lib.hid h6; clear h5 h6 hp
      go_wp2
      go_roundw
      case rel => exact ⟨2, by omega, rfl, F5, I5, H6.out.store 2 (.int .i64 3)⟩
      case measure => simp [intOf]
    · replace h4 : Lab w0 wr (Thing.box q 56 #[.pointer (some ⟨gb, 0, none⟩), .int .i64 2, .int .i64 3, .int .i64 0, .int .i64 0, .int .i64 0, .int .i64 1, .int .i64 0] :: Thing.graph F4 I4 gb 2 1048576 [(1, 0, []), (1, 1, []), (0, 0, []), (0, 1, [])] :: Thing.box p 56 #[.pointer none, .int .i64 0, .int .i64 0, .int .i64 0, .int .i64 0, .int .i64 0, .int .i64 0, .int .i64 0] :: ts) := h4
      have H4 := Lib.hid h4; clear h4
      go_wp2_with fail
      go_at_call 40
      refine (const_any H4.out.swap.gr 2 (by decide)).mono ?_
      intro e w8 hp
      obtain ⟨F5, I5, rfl, h5⟩ := H4.out.swap.gpost hp
      rw [C2.out] at h5 ⊢
      have h6 := h5.swap
      obtain ⟨-, -, -, b1, -, -, -, -, bf⟩ := cells8 h6.box1
      have H6 := Lib.hid h6; clear h5 h6 hp
      go_wp2
      go_roundw
      case rel => exact ⟨3, by omega, rfl, F5, I5, H6.out.store 3 (.int .i64 4)⟩
      case measure => simp [intOf]
    · replace h4 : Lab w0 wr (Thing.box q 56 #[.pointer (some ⟨gb, 0, none⟩), .int .i64 2, .int .i64 3, .int .i64 4, .int .i64 0, .int .i64 0, .int .i64 1, .int .i64 0] :: Thing.graph F4 I4 gb 2 1048576 [(1, 0, []), (1, 1, []), (0, 0, []), (0, 1, []), (0, 2, [])] :: Thing.box p 56 #[.pointer none, .int .i64 0, .int .i64 0, .int .i64 0, .int .i64 0, .int .i64 0, .int .i64 0, .int .i64 0] :: ts) := h4
      have H4 := Lib.hid h4; clear h4
      go_wp2_with fail
      go_at_call 40
      refine (const_any H4.out.swap.gr 3 (by decide)).mono ?_
      intro e w8 hp
      obtain ⟨F5, I5, rfl, h5⟩ := H4.out.swap.gpost hp
      rw [C3.out] at h5 ⊢
      have h6 := h5.swap
      obtain ⟨-, -, -, -, b1, -, -, -, bf⟩ := cells8 h6.box1
      have H6 := Lib.hid h6; clear h5 h6 hp
      go_wp2
      go_roundw
      case rel => exact ⟨4, by omega, rfl, F5, I5, H6.out.store 4 (.int .i64 5)⟩
      case measure => simp [intOf]
    · replace h4 : Lab w0 wr (Thing.box q 56 #[.pointer (some ⟨gb, 0, none⟩), .int .i64 2, .int .i64 3, .int .i64 4, .int .i64 5, .int .i64 0, .int .i64 1, .int .i64 0] :: Thing.graph F4 I4 gb 2 1048576 [(1, 0, []), (1, 1, []), (0, 0, []), (0, 1, []), (0, 2, []), (0, 3, [])] :: Thing.box p 56 #[.pointer none, .int .i64 0, .int .i64 0, .int .i64 0, .int .i64 0, .int .i64 0, .int .i64 0, .int .i64 0] :: ts) := h4
      obtain ⟨-, -, -, -, -, b5, -, -, -⟩ := cells8 h4.box1
      have H4 := Lib.hid h4; clear h4
      go_wp2_with fail
      go_at_call 29
      refine (app_any ((H4.out.swap.later (below_new _ _)).gr) 2 (by decide) [0] _ (sliceOf_new wr .i64 3 [0] 1)).mono ?_
      intro e w8 hp
      obtain ⟨F5, I5, rfl, h5⟩ := (H4.out.swap.later (below_new _ _)).gpost hp
      rw [E3.out] at h5 ⊢
      have h6 := h5.swap
      obtain ⟨d0, d1, d2, d3, d4, d5, d6, d7, df⟩ := cells8 h6.box1
      have H6 := Lib.hid h6; clear h5 h6 hp b5
      go_upto_region 10 with fail
      refine wp_abs (fun w3 => Lab w0 w3 (Thing.box q 56 #[.pointer (some ⟨gb, 0, none⟩), .int .i64 2, .int .i64 3, .int .i64 4, .int .i64 5, .int .i64 0, .int .i64 1, .int .i64 6] :: Thing.graph F5 I5 gb 2 1048576 exM :: Thing.box p 56 #[.pointer none, .int .i64 0, .int .i64 0, .int .i64 0, .int .i64 0, .int .i64 0, .int .i64 0, .int .i64 0] :: ts)) (H6.out.store 7 (.int .i64 6)) ?_
      clear d0 d1 d2 d3 d4 d5 d6 d7 df H6 H4
      rintro w9 h7
      obtain ⟨d0, d1, d2, d3, d4, d5, d6, d7, df⟩ := cells8 h7.box1
      obtain ⟨g0, g1, g2, g3, g4, g5, g6, g7, gf⟩ := cells8 h7.box3
      have hap := (List.pairwise_cons.1 h7.apart).1 (Thing.box p 56 #[.pointer none, .int .i64 0, .int .i64 0, .int .i64 0, .int .i64 0, .int .i64 0, .int .i64 0, .int .i64 0]) (by simp)
      have hqp : q ≠ p := fun e => (hap.1 q (by simp [Thing.box])).1 (by simp [Thing.box, e])
      have hpq : p ≠ q := hqp.symm
      have H7 := Lib.hid h7; clear h7 hap
      go_wp2
      refine wp_exit_abs (fun w => Lab w0 w (Thing.box p 56 #[.pointer (some ⟨gb, 0, none⟩), .int .i64 2, .int .i64 3, .int .i64 4, .int .i64 5, .int .i64 0, .int .i64 1, .int .i64 6] :: Thing.box q 56 #[.pointer (some ⟨gb, 0, none⟩), .int .i64 2, .int .i64 3, .int .i64 4, .int .i64 5, .int .i64 0, .int .i64 1, .int .i64 6] :: Thing.graph F5 I5 gb 2 1048576 exM :: ts)) ((((((((H7.out.rot3.store 0 _).store 1 _).store 2 _).store 3 _).store 4 _).store 5 _).store 6 _).store 7 _) ?_
      clear d0 d1 d2 d3 d4 d5 d6 d7 df g0 g1 g2 g3 g4 g5 g6 g7 gf
      rintro wE hE
      obtain ⟨g0, g1, g2, g3, g4, g5, g6, g7, gf⟩ := cells8 hE.box1
      exact bodyPost_ret (v := .agg #[.pointer (some ⟨gb, 0, none⟩), .int .i64 2, .int .i64 3, .int .i64 4, .int .i64 5, .int .i64 0, .int .i64 1, .int .i64 6]) (by simp [results, Try.results27, go_sem, g0, g1, g2, g3, g4, g5, g6, g7]) rfl ⟨gb, F5, I5, rfl, hE.drop.drop⟩
set_option maxRecDepth 100000 in
theorem awake12_any (w : World) : Calls Try.prog 22 #[] w fun e w' => e = .returned (.bool true) ∧ Below w.heap.size w w' := by
  have e1 : simpR 2 1048576 exM 4 [5, 4] = (exM, 3, 0) := by decide
  have e2 : simpR 2 1048576 exM 4 [2, 0] = (exM, 0, 0) := by decide
  have e3 : simpR 2 1048576 exM 11 [5, 0] = (exM, 6, 0) := by decide
  have e4 : simpR 2 1048576 exM 21 [0, 1, 1] = (exM, 1, 0) := by decide
  have E1 := Lib.hid e1; have E2 := Lib.hid e2; have E3 := Lib.hid e3; have E4 := Lib.hid e4; have H0 := Lib.hid (Lab.nil (Below.refl w.heap.size w))
  clear e1 e2 e3 e4
  go_enter Try.func22, Try.ntmps22
  go_wp2_with fail
  go_at_call 27
  refine H0.out.made12.mono ?_
  rintro e w1 ⟨gb, F, I, rfl, h1⟩
  obtain ⟨q, hq⟩ : ∃ q, w1.heap.size = q := ⟨_, rfl⟩
  have h2 := h1.alloc #[.pointer (some ⟨gb, 0, none⟩), .int .i64 2, .int .i64 3, .int .i64 4, .int .i64 5, .int .i64 0, .int .i64 1, .int .i64 6] 56
  rw [hq] at h2
  have H2 := Lib.hid h2; clear h1 h2
  go_upto_region 2 with fail
  clear hq
  refine wp_abs (fun w2 => Lab w w2 [Thing.box q 56 #[.pointer (some ⟨gb, 0, none⟩), .int .i64 2, .int .i64 3, .int .i64 4, .int .i64 5, .int .i64 0, .int .i64 1, .int .i64 6], Thing.graph F I gb 2 1048576 exM]) H2.out ?_
  rintro w2 h2
  obtain ⟨g0, g1, g2, g3, g4, g5, g6, g7, gf⟩ := cells8 h2.box1
  have H2 := Lib.hid h2; clear h2 gf
  have H3 := Lib.hid H2.out.swap
  go_wp2_with fail
  go_at_call 28
  refine ((H3.out.later (below_new _ _)).is12 2 3 4 5 0 1 6 3 4 (by decide) [5, 4] _ (sliceOf_new w2 .i64 3 [5, 4] 2) E1.out (B := true) (by decide)).mono ?_
  rintro e w3 ⟨F1, I1, rfl, h3⟩
  clear g0 g1 g2 g3 g4 g5 g6 g7
  obtain ⟨g0, g1, g2, g3, g4, g5, g6, g7, gf⟩ := cells8 h3.box2
  have K1 := Lib.hid h3; clear h3 gf
  go_wp2_with fail
  go_at_call 28
  refine ((K1.out.later (below_new _ _)).is12 2 3 4 5 0 1 6 0 4 (by decide) [2, 0] _ (sliceOf_new w3 .i64 3 [2, 0] 2) E2.out (B := true) (by decide)).mono ?_
  rintro e w4 ⟨F2, I2, rfl, h4⟩
  clear g0 g1 g2 g3 g4 g5 g6 g7
  obtain ⟨g0, g1, g2, g3, g4, g5, g6, g7, gf⟩ := cells8 h4.box2
  have K2 := Lib.hid h4; clear h4 gf
  go_wp2_with fail
  go_at_call 28
  refine ((K2.out.later (below_new _ _)).is12 2 3 4 5 0 1 6 6 11 (by decide) [5, 0] _ (sliceOf_new w4 .i64 3 [5, 0] 2) E3.out (B := true) (by decide)).mono ?_
  rintro e w5 ⟨F3, I3, rfl, h5⟩
  clear g0 g1 g2 g3 g4 g5 g6 g7
  obtain ⟨g0, g1, g2, g3, g4, g5, g6, g7, gf⟩ := cells8 h5.box2
  have K3 := Lib.hid h5; clear h5 gf
  go_wp2_with fail
  go_at_call 28
  refine ((K3.out.later (below_new _ _)).is12 2 3 4 5 0 1 6 1 21 (by decide) [0, 1, 1] _ (sliceOf_new w5 .i64 3 [0, 1, 1] 3) E4.out (B := true) (by decide)).mono ?_
  rintro e w6 ⟨F4, I4, rfl, h6⟩
  clear g0 g1 g2 g3 g4 g5 g6 g7
  obtain ⟨g0, g1, g2, g3, g4, g5, g6, g7, gf⟩ := cells8 h6.box2
  have K4 := Lib.hid h6; clear h6 gf
  go_wp2
  go_ret
  exact ⟨rfl, K4.out.below⟩
theorem Lab.awake12 {w0 wr : World} {ts : List Thing} (h : Lab w0 wr ts) : Calls Try.prog 22 #[] wr fun e w' => e = .returned (.bool true) ∧ Below w0.heap.size w0 w' :=
  (awake12_any wr).mono fun _ _ ⟨he, hb⟩ => ⟨he, h.below.trans (hb.mono h.size)⟩
end
end Go.Proofs.Ytcpgiadhmmmafaa
