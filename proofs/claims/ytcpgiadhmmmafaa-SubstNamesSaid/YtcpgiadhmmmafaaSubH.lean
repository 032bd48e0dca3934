/- Law 13: the chapter's example; awake. -/
import Derived.Test.YtcpgiadhmmmafaaSubE
namespace Go.Proofs.Ytcpgiadhmmmafaa
open Go.RowKit Go.Maps
set_option maxHeartbeats 1600000

def ex13 : List PNode := [(1, 0, []), (1, 1, []), (4, 0, [0, 1])]
section
variable {w0 wr w' : World} {ts : List Thing} {F I : List Nat} {gb W room : Nat} {L : List PNode}
/-- Subst, of two lists that were made for it. -/
theorem Lab.subst_lit (h : Lab w0 wr (Thing.graph F I gb W room L :: ts)) (t : Int) (vs us : List Int) (c1 c2 : Nat) (hg : GoodL W L) (hvi : ∀ v ∈ vs, (Lit.int .i64 v).wf = true) (hnv : vs.length ≤ 9223372036854775807) (hnu : us.length ≤ 9223372036854775807) {R : List PNode × Nat × Nat} (hR : subst2R W room L t vs us = R) :
    Calls Try.prog 39 #[.pointer (some ⟨gb, 0, none⟩), .int .i64 t, .slice (some ⟨wr.heap.size, 0, none⟩) vs.length c1, .slice (some ⟨wr.heap.size + 1, 0, none⟩) us.length c2] ((wr.alloc (.cells (vs.map (Value.int .i64)).toArray 3)).alloc (.cells (us.map (Value.int .i64)).toArray 3)) (SubPost w0 gb W room ts R) := by
  have h1 := sliceOf_new wr .i64 3 vs c1
  have h2 := sliceOf_new (wr.alloc (.cells (vs.map (Value.int .i64)).toArray 3)) .i64 3 us c2
  rw [alsz] at h2
  exact ((h.later (below_new _ _)).later (below_new _ _)).subst t _ _ vs us (h1.below (below_new _ _)) h2 hg hvi hnv hnu hR
set_option maxRecDepth 100000 in
theorem Lab.example13 (h : Lab w0 wr ts) : Calls Try.prog 38 #[] wr fun e w' => ∃ gb F I, e = .returned (.tuple #[.pointer (some ⟨gb, 0, none⟩), .int .i64 0, .int .i64 1, .int .i64 2]) ∧ Lab w0 w' (Thing.graph F I gb 2 1048576 ex13 :: ts) := by
  have e1 : varR 1048576 [] 0 = ([(1, 0, [])], 0, 0) := by decide
  have e2 : varR 1048576 [(1, 0, [])] 1 = ([(1, 0, []), (1, 1, [])], 1, 0) := by decide
  have e3 : appR 1048576 [(1, 0, []), (1, 1, [])] 4 [0, 1] = (ex13, 2, 0) := by decide
  have E1 := Lib.hid e1; have E2 := Lib.hid e2; have E3 := Lib.hid e3; have H1 := Lib.hid h
  clear e1 e2 e3 h
  go_enter Try.func38, Try.ntmps38
  go_wp2_with fail
  go_at_call 34
  refine (H1.out.new_graph 2 0 ⟨by decide, by decide, by decide, by decide⟩).mono ?_
  rintro e w2 ⟨gb, F, rfl, h2⟩
  replace h2 : Lab w0 w2 (Thing.graph F [] gb 2 1048576 [] :: ts) := h2
  have H2 := Lib.hid h2; clear h2
  go_wp2_with fail
  go_at_call 36
  refine (var_any H2.out.gr 0).mono ?_
  intro e w4 hp
  obtain ⟨F2, I2, rfl, h4⟩ := H2.out.gpost hp
  rw [E1.out] at h4 ⊢
  have H4 := Lib.hid h4; clear h4 hp
  go_wp2_with fail
  go_at_call 36
  refine (var_any H4.out.gr 1).mono ?_
  intro e w5 hp
  obtain ⟨F3, I3, rfl, h5⟩ := H4.out.gpost hp
  rw [E2.out] at h5 ⊢
  have H5 := Lib.hid h5; clear h5 hp
  go_wp2_with fail
  go_at_call 29
  refine (app_any ((H5.out.later (below_new _ _)).gr) 4 (by decide) [0, 1] _ (sliceOf_new _ .i64 3 [0, 1] 2)).mono ?_
  intro e w8 hp
  obtain ⟨F5, I5, rfl, h6⟩ := (H5.out.later (below_new _ _)).gpost hp
  rw [E3.out] at h6 ⊢
  have H6 := Lib.hid h6; clear h6 hp
  go_wp2
  exact bodyPost_ret (v := .tuple #[.pointer (some ⟨gb, 0, none⟩), .int .i64 0, .int .i64 1, .int .i64 2]) (by simp [results, Try.results38, go_sem]) rfl ⟨gb, F5, I5, rfl, H6.out⟩
set_option maxRecDepth 100000 in
theorem awake13_any (w : World) : Calls Try.prog 41 #[] w fun e w' => e = .returned (.bool true) ∧ Below w.heap.size w w' := by
  have e1 : subst2R 2 1048576 ex13 2 [0, 1] [1, 0] = (ex13, 2, 0) := by decide
  have e2 : constR 2 1048576 ex13 0 = (ex13 ++ [(0, 0, [])], 3, 0) := by decide
  have e3 : subst2R 2 1048576 (ex13 ++ [(0, 0, [])]) 2 [0] [3] = (ex13 ++ [(0, 0, [])], 1, 0) := by decide
  have g1 : GoodL 2 ex13 := by unfold GoodL NodeGood; decide
  have g2 : GoodL 2 (ex13 ++ [(0, 0, [])]) := by unfold GoodL NodeGood; decide
  have E1 := Lib.hid e1; have E2 := Lib.hid e2; have E3 := Lib.hid e3; have G1 := Lib.hid g1; have G2 := Lib.hid g2; have H0 := Lib.hid (Lab.nil (Below.refl w.heap.size w))
  clear e1 e2 e3 g1 g2
  go_enter Try.func41, Try.ntmps41
  go_wp2_with fail
  go_at_call 38
  refine H0.out.example13.mono ?_
  rintro e w1 ⟨gb, F, I, rfl, h1⟩
  have H1 := Lib.hid h1; clear h1
  go_wp2_with fail
  go_at_call 39
  refine (H1.out.subst_lit 2 [0, 1] [1, 0] 2 2 G1.out (by decide) (by decide) (by decide) E1.out).mono ?_
  rintro e w2 ⟨F2, I2, rfl, h2⟩
  have H2 := Lib.hid h2; clear h2
  go_wp2_with fail
  go_at_call 40
  refine (const_any H2.out.gr 0 (by decide)).mono ?_
  intro e w8 hp
  obtain ⟨F5, I5, rfl, h5⟩ := H2.out.gpost hp
  rw [E2.out] at h5 ⊢
  have H5 := Lib.hid h5; clear h5 hp
  go_wp2_with fail
  go_at_call 39
  refine (H5.out.subst_lit 2 [0] [3] 1 1 G2.out (by decide) (by decide) (by decide) E3.out).mono ?_
  rintro e w9 ⟨F6, I6, rfl, h6⟩
  have H6 := Lib.hid h6; clear h6
  go_wp2
  go_ret
  exact ⟨rfl, H6.out.below⟩
theorem Lab.awake13 (h : Lab w0 wr ts) : Calls Try.prog 41 #[] wr fun e w' => e = .returned (.bool true) ∧ Below w0.heap.size w0 w' :=
  (awake13_any wr).mono fun _ _ ⟨he, hb⟩ => ⟨he, h.below.trans (hb.mono h.size)⟩
end
end Go.Proofs.Ytcpgiadhmmmafaa
