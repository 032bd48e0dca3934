/- Law 14: the chapter's example, its helpers, awake. -/
import Derived.Test.YtofbadmjopefpaaSupB
import Derived.Test.YtofbadmjopefpaaSep
namespace Go.Proofs.Ytofbadmjopefpaa
open Go.RowKit Go.Maps
set_option maxHeartbeats 3200000

def ex14 : List PNode := [(1, 5, []), (1, 2, []), (4, 0, [0, 0]), (6, 0, [2, 1])]
theorem varsO_of {L : List PNode} {S : Nat → Bool} {ws : List Int} (h : (varsS L S).Perm ws) (hs : ws.Pairwise fun a b => leI a b = true) : varsO L S = ws := (sort_perm h).trans (sort_sorted hs)
theorem slice_of_box {w : World} {b T c : Nat} {k : IntKind} {xs : List Int} (h : w.heap[b]? = some (.cells (xs.map (Value.int k)).toArray T (0, 0))) : SliceOf w k (.slice (some ⟨b, 0, none⟩) xs.length c) xs := by
  refine ⟨_, _, c, rfl, rfl, fun i hi => ⟨b, 0, rfl, ?_⟩⟩
  simp [World.cell?, h, hi]
section
variable {w0 wr w' : World} {ts : List Thing} {F I : List Nat} {gb W room : Nat} {L : List PNode}
set_option maxRecDepth 100000 in
theorem Lab.example14 (h : Lab w0 wr ts) : Calls Try.prog 10 #[] wr fun e w' => ∃ gb F I, e = .returned (.tuple #[.pointer (some ⟨gb, 0, none⟩), .int .i64 0, .int .i64 1, .int .i64 2, .int .i64 3]) ∧ Lab w0 w' (Thing.graph F I gb 8 1048576 ex14 :: ts) := by
  have e1 : varR 1048576 [] 5 = ([(1, 5, [])], 0, 0) := by decide
  have e2 : varR 1048576 [(1, 5, [])] 2 = ([(1, 5, []), (1, 2, [])], 1, 0) := by decide
  have e3 : appR 1048576 [(1, 5, []), (1, 2, [])] 4 [0, 0] = ([(1, 5, []), (1, 2, []), (4, 0, [0, 0])], 2, 0) := by decide
  have e4 : appR 1048576 [(1, 5, []), (1, 2, []), (4, 0, [0, 0])] 6 [2, 1] = (ex14, 3, 0) := by decide
  have E1 := Lib.hid e1; have E2 := Lib.hid e2; have E3 := Lib.hid e3; have E4 := Lib.hid e4; have H1 := Lib.hid h
  clear e1 e2 e3 e4 h
  go_enter Try.func10, Try.ntmps10
  go_wp2_with fail
  go_at_call 29
  refine (H1.out.new_graph 8 0 ⟨by decide, by decide, by decide, by decide⟩).mono ?_
  rintro e w2 ⟨gb, F, rfl, h2⟩
  replace h2 : Lab w0 w2 (Thing.graph F [] gb 8 1048576 [] :: ts) := h2
  have H2 := Lib.hid h2; clear h2
  go_wp2_with fail
  go_at_call 30
  refine (var_any H2.out.gr 5).mono ?_
  intro e w4 hp
  obtain ⟨F2, I2, rfl, h4⟩ := H2.out.gpost hp
  rw [E1.out] at h4 ⊢
  have H4 := Lib.hid h4; clear h4 hp
  go_wp2_with fail
  go_at_call 30
  refine (var_any H4.out.gr 2).mono ?_
  intro e w5 hp
  obtain ⟨F3, I3, rfl, h5⟩ := H4.out.gpost hp
  rw [E2.out] at h5 ⊢
  have H5 := Lib.hid h5; clear h5 hp
  go_wp2_with fail
  go_at_call 31
  refine (app_any ((H5.out.later (below_new _ _)).gr) 4 (by decide) [0, 0] _ (sliceOf_new _ .i64 3 [0, 0] 2)).mono ?_
  intro e w8 hp
  obtain ⟨F5, I5, rfl, h6⟩ := (H5.out.later (below_new _ _)).gpost hp
  rw [E3.out] at h6 ⊢
  have H6 := Lib.hid h6; clear h6 hp
  go_wp2_with fail
  go_at_call 31
  refine (app_any ((H6.out.later (below_new _ _)).gr) 6 (by decide) [2, 1] _ (sliceOf_new _ .i64 3 [2, 1] 2)).mono ?_
  intro e w9 hp
  obtain ⟨F6, I6, rfl, h7⟩ := (H6.out.later (below_new _ _)).gpost hp
  rw [E4.out] at h7 ⊢
  have H7 := Lib.hid h7; clear h7 hp
  go_wp2
  exact bodyPost_ret (v := .tuple #[.pointer (some ⟨gb, 0, none⟩), .int .i64 0, .int .i64 1, .int .i64 2, .int .i64 3]) (by simp [results, Try.results10, go_sem]) rfl ⟨gb, F6, I6, rfl, H7.out⟩
set_option maxRecDepth 100000 in
/-- Whether terms have these variables. -/
theorem Lab.vars14 {t : Thing} (h : Lab w0 wr (Thing.graph F I gb W room L :: t :: ts)) (hg : GoodL W L) (vw : Value) (ws : List Int) (ht : ∀ w, t.holds w → SliceOf w .i64 vw ws) (hw : ws.length ≤ 1000000) (v : Value) (us : List Int) (hv : SliceOf wr .i64 v us) (hn : us.length ≤ 900000000) (hin : InL L us) :
    Calls Try.prog 11 #[.pointer (some ⟨gb, 0, none⟩), vw, v] wr fun e w' => e = .returned (.bool (decide (varsO L (occS L us) = ws))) ∧ Lab w0 w' (Thing.graph F I gb W room L :: ts) := by
  have hll : L.length ≤ 1048576 := by have := h.gr.len; have := h.gr.r2; omega
  have hvars := h.vars hg v us hv hn
  obtain ⟨os, hos⟩ : ∃ os, varsO L (occS L us) = os := ⟨_, rfl⟩
  have hol := varsO_len (L := L) (S := occS L us)
  rw [hos] at hvars hol ⊢
  have HV := Lib.hid hvars; have HT := Lib.hid ht
  obtain ⟨dc, hdc⟩ : ∃ dc, decide (os = ws) = dc := ⟨_, rfl⟩
  rw [hdc]
  have HD := Lib.hid hdc
  clear h hvars hv hn hos ht hdc hg
  go_enter Try.func11, Try.ntmps11
  go_wp2_with fail
  go_at_call 13
  refine HV.out.mono ?_
  rintro e w2 ⟨h1, -⟩
  obtain ⟨a, c, rfl, hl⟩ := h1 hin
  have heq := equalInts_any (.slice a os.length c) vw os ws (OwnInts.slice hl.ints) (HT.out _ hl.third) (by omega) (by omega)
  rw [HD.out] at heq
  have HL := Lib.hid hl; have HEQ := Lib.hid heq
  clear h1 hl heq HV
  go_wp2_with fail
  go_at_call 20
  refine HEQ.out.mono ?_
  rintro e w3 ⟨rfl, hb3⟩
  have HL3 := Lib.hid (HL.out.later hb3)
  clear hb3
  go_wp2
  go_ret
  exact ⟨rfl, HL3.out.drop.subl (.cons_cons _ (.cons _ (List.Sublist.refl _)))⟩
set_option maxRecDepth 100000 in
/-- Whether terms have so many nodes. -/
theorem Lab.size14 (h : Lab w0 wr (Thing.graph F I gb W room L :: ts)) (q : Int) (v : Value) (us : List Int) (hv : SliceOf wr .i64 v us) (hn : us.length ≤ 900000000) (hin : InL L us) :
    Calls Try.prog 12 #[.pointer (some ⟨gb, 0, none⟩), .int .i64 q, v] wr fun e w' => e = .returned (.bool (decide ((cntS L (occS L us) : Int) = q))) ∧ Lab w0 w' (Thing.graph F I gb W room L :: ts) := by
  have hsize := h.sizeOf v us hv hn
  obtain ⟨k, hk⟩ : ∃ k, cntS L (occS L us) = k := ⟨_, rfl⟩
  rw [hk] at hsize ⊢
  have HV := Lib.hid hsize
  clear h hsize hv hn hk
  go_enter Try.func12, Try.ntmps12
  go_wp2_with fail
  go_at_call 14
  refine HV.out.mono ?_
  rintro e w2 ⟨h1, -⟩
  obtain ⟨rfl, hl⟩ := h1 hin
  have HL := Lib.hid hl
  clear h1 hl HV
  go_wp2
  go_ret
  exact ⟨by rfl, HL.out⟩
/-- vars, of two lists that were made for it. -/
theorem Lab.vars14_lit (h : Lab w0 wr (Thing.graph F I gb W room L :: ts)) (hg : GoodL W L) (ws us : List Int) (c1 c2 : Nat) (hw : ws.length ≤ 1000000) (hn : us.length ≤ 900000000) (hin : InL L us) (hp : (varsS L (occS L us)).Perm ws) (hs : ws.Pairwise fun a b => leI a b = true) :
    Calls Try.prog 11 #[.pointer (some ⟨gb, 0, none⟩), .slice (some ⟨wr.heap.size, 0, none⟩) ws.length c1, .slice (some ⟨wr.heap.size + 1, 0, none⟩) us.length c2] ((wr.alloc (.cells (ws.map (Value.int .i64)).toArray 3)).alloc (.cells (us.map (Value.int .i64)).toArray 3)) fun e w' => e = .returned (.bool true) ∧ Lab w0 w' (Thing.graph F I gb W room L :: ts) := by
  have h2 := sliceOf_new (wr.alloc (.cells (ws.map (Value.int .i64)).toArray 3)) .i64 3 us c2
  rw [show (wr.alloc (.cells (ws.map (Value.int .i64)).toArray 3)).heap.size = wr.heap.size + 1 by simp] at h2
  have h3 := (h.alloc (ws.map (Value.int .i64)).toArray 3).swap.later (below_new _ (.cells (us.map (Value.int .i64)).toArray 3))
  refine (h3.vars14 hg _ ws (fun w hh => slice_of_box hh) hw _ us h2 hn hin).mono ?_
  rintro e w2 ⟨rfl, hl⟩
  exact ⟨by rw [decide_eq_true (varsO_of hp hs)], hl⟩
theorem Lab.size14_lit (h : Lab w0 wr (Thing.graph F I gb W room L :: ts)) (q : Nat) (us : List Int) (c2 : Nat) (hn : us.length ≤ 900000000) (hin : InL L us) (hp : cntS L (occS L us) = q) :
    Calls Try.prog 12 #[.pointer (some ⟨gb, 0, none⟩), .int .i64 (q : Int), .slice (some ⟨wr.heap.size, 0, none⟩) us.length c2] (wr.alloc (.cells (us.map (Value.int .i64)).toArray 3)) fun e w' => e = .returned (.bool true) ∧ Lab w0 w' (Thing.graph F I gb W room L :: ts) := by
  have h2 := sliceOf_new wr .i64 3 us c2
  refine ((h.later (below_new _ _)).size14 (q : Int) _ us h2 hn hin).mono ?_
  rintro e w2 ⟨rfl, hl⟩
  exact ⟨by rw [hp]; simp, hl⟩
set_option maxRecDepth 100000 in
theorem awake14_any (w : World) : Calls Try.prog 15 #[] w fun e w' => e = .returned (.bool true) ∧ Below w.heap.size w w' := by
  have g1 : GoodL 8 ex14 := by unfold GoodL NodeGood; decide
  have i1 : InL ex14 [3] := by unfold InL; decide
  have i2 : InL ex14 [2] := by unfold InL; decide
  have p1 : (varsS ex14 (occS ex14 [3])).Perm [2, 5] := by decide
  have p2 : (varsS ex14 (occS ex14 [2])).Perm [5] := by decide
  have n1 : cntS ex14 (occS ex14 [3]) = 4 := by decide
  have n2 : cntS ex14 (occS ex14 [2]) = 2 := by decide
  have G1 := Lib.hid g1; have I1 := Lib.hid i1; have I2 := Lib.hid i2; have P1 := Lib.hid p1; have P2 := Lib.hid p2; have N1 := Lib.hid n1; have N2 := Lib.hid n2; have H0 := Lib.hid (Lab.nil (Below.refl w.heap.size w))
  clear g1 i1 i2 p1 p2 n1 n2
  go_enter Try.func15, Try.ntmps15
  go_wp2_with fail
  go_at_call 10
  refine H0.out.example14.mono ?_
  rintro e w1 ⟨gb, F, I, rfl, h1⟩
  have H1 := Lib.hid h1; clear h1
  go_wp2_with fail
  go_at_call 11
  refine (H1.out.vars14_lit G1.out [2, 5] [3] 2 1 (by decide) (by decide) I1.out P1.out (by decide)).mono ?_
  rintro e w2 ⟨rfl, h2⟩
  have H2 := Lib.hid h2; clear h2
  go_wp2_with fail
  go_at_call 11
  refine (H2.out.vars14_lit G1.out [5] [2] 1 1 (by decide) (by decide) I2.out P2.out (by decide)).mono ?_
  rintro e w3 ⟨rfl, h3⟩
  have H3 := Lib.hid h3; clear h3
  go_wp2_with fail
  go_at_call 12
  refine (H3.out.size14_lit 4 [3] 1 (by decide) I1.out N1.out).mono ?_
  rintro e w4 ⟨rfl, h4⟩
  have H4 := Lib.hid h4; clear h4
  go_wp2_with fail
  go_at_call 12
  refine (H4.out.size14_lit 2 [2] 1 (by decide) I2.out N2.out).mono ?_
  rintro e w5 ⟨rfl, h5⟩
  have H5 := Lib.hid h5; clear h5
  go_wp2
  go_ret
  exact ⟨rfl, H5.out.below⟩
theorem Lab.awake14 (h : Lab w0 wr ts) : Calls Try.prog 15 #[] wr fun e w' => e = .returned (.bool true) ∧ Below w0.heap.size w0 w' :=
  (awake14_any wr).mono fun _ _ ⟨he, hb⟩ => ⟨he, h.below.trans (hb.mono h.size)⟩
end
end Go.Proofs.Ytofbadmjopefpaa
