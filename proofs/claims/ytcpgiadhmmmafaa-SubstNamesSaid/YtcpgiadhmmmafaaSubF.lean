/- Package subst: how Subst is left; the nodes that occur are made anew. -/
import Derived.Test.YtcpgiadhmmmafaaSubE
namespace Go.Proofs.Ytcpgiadhmmmafaa
open Go.RowKit Go.Maps
set_option maxHeartbeats 3200000

theorem sub_results {tmps : Array Value} {p0 p1 : Nat} {w : World} {a b : Int} (t0 : tmps.getD 8 undef = .pointer (some ⟨p0, 0, none⟩)) (t1 : tmps.getD 9 undef = .pointer (some ⟨p1, 0, none⟩)) (c0 : w.cell? ⟨p0, 0, none⟩ = some (.int .i64 a)) (c1 : w.cell? ⟨p1, 0, none⟩ = some (.int .i64 b)) :
    (results Try.f39 tmps).run Try.prog w = .ok (.tuple #[.int .i64 a, .int .i64 b]) w := by
  have t0' : tmps[8]?.getD undef = .pointer (some ⟨p0, 0, none⟩) := by simpa using t0
  have t1' : tmps[9]?.getD undef = .pointer (some ⟨p1, 0, none⟩) := by simpa using t1
  unfold results
  rw [Try.results39]
  simp [go_sem, t0', t1', c0, c1]
theorem sub_invoke (p0 p1 : Nat) (w : World) : (invoke (.fn (.func 61) #[.pointer (some ⟨p0, 0, none⟩), .pointer (some ⟨p1, 0, none⟩)]) #[]).run Try.prog w = .ok (.enter 61 #[.pointer (some ⟨p0, 0, none⟩), .pointer (some ⟨p1, 0, none⟩)]) w := by
  kernel_rfl
theorem getD_app {l m : List Int} {i : Nat} (h : i < l.length) (d : Int) : (l ++ m).getD i d = l.getD i d := by
  rw [List.getD_eq_getElem?_getD, List.getElem?_append_left h, ← List.getD_eq_getElem?_getD]
theorem sub_idle {tmps : Array Value} {p0 p1 : Nat} {w : World} {a b : Int} {R : Ending → World → Prop} (t0 : tmps.getD 8 undef = .pointer (some ⟨p0, 0, none⟩)) (t1 : tmps.getD 9 undef = .pointer (some ⟨p1, 0, none⟩)) (c0 : w.cell? ⟨p0, 0, none⟩ = some (.int .i64 a)) (c1 : w.cell? ⟨p1, 0, none⟩ = some (.int .i64 b))
    (hR : R (.returned (.tuple #[.int .i64 a, .int .i64 b])) w) : Leaves Try.prog Try.f39 tmps R (subDefer p0 p1) .returning w := by
  refine leaves_cons (f := 61) (args := #[.pointer (some ⟨p0, 0, none⟩), .pointer (some ⟨p1, 0, none⟩)]) (by intro h; cases h) (sub_invoke p0 p1 _) ((catch_idle _ _ _).mono ?_)
  rintro e u' w' ⟨rfl, rfl, rfl⟩
  exact ⟨_, sub_results t0 t1 c0 c1, hR⟩
theorem sub_full {tmps : Array Value} {w0 w : World} {ts : List Thing} {p0 p1 : Nat} {a b : Int} {f : Nat} {R : Ending → World → Prop} (h : Lab w0 w (Thing.box p0 3 #[.int .i64 a] :: Thing.box p1 36 #[.int .i64 b] :: ts)) (t0 : tmps.getD 8 undef = .pointer (some ⟨p0, 0, none⟩)) (t1 : tmps.getD 9 undef = .pointer (some ⟨p1, 0, none⟩)) (hpq : p0 ≠ p1)
    (hR : ∀ w', Lab w0 w' ts → R (.returned (.tuple #[.int .i64 0, .int .i64 f])) w') : Leaves Try.prog Try.f39 tmps R (subDefer p0 p1) (.panicking [{ v := .iface 134 (.agg #[.int .i64 f]), recovered := false }]) w := by
  have c0 : w.cell? ⟨p0, 0, none⟩ = some (.int .i64 a) := by rw [cell_of_row w p0 0 _ _ _ h.box1]; rfl
  have c1 : w.cell? ⟨p1, 0, none⟩ = some (.int .i64 b) := by rw [cell_of_row w p1 0 _ _ _ h.box2]; rfl
  refine leaves_cons (f := 61) (args := #[.pointer (some ⟨p0, 0, none⟩), .pointer (some ⟨p1, 0, none⟩)]) (by intro h; cases h) (sub_invoke p0 p1 _) ((catch_full _ _ a b f [] w c0 c1 (frozen_of_row w p0 0 _ _ h.box1) (frozen_of_row w p1 0 _ _ h.box2) (by intro h; injection h with h; exact hpq h) (Array.getElem?_eq_some_iff.1 h.box1).1 (Array.getElem?_eq_some_iff.1 h.box2).1).mono ?_)
  rintro e u' w' ⟨rfl, rfl, w2, hb, rfl⟩
  have h2 := (((h.later hb).store 0 (.int .i64 0)).swap.store 0 (.int .i64 f)).swap.drew1
  refine ⟨_, sub_results (a := 0) (b := f) t0 t1 ?_ ?_, hR _ h2.drop.drop⟩
  · rw [cell_of_row _ p0 0 _ _ _ h2.box1]; rfl
  · rw [cell_of_row _ p1 0 _ _ _ h2.box2]; rfl
theorem fB_skip {O : Nat → Bool} {made : List Int} {y : Nat} {v : Int} (hl : made.length = y) (hO : O y = false) : ∀ k, fBof O made y k = fBof O (made ++ [v]) (y + 1) k := by
  intro k
  unfold fBof
  by_cases h : 0 ≤ k ∧ k < (y : Int) ∧ O k.toNat = true
  · rw [if_pos h, if_pos ⟨h.1, by omega, h.2.2⟩, getD_app (by omega)]
  · rw [if_neg h, if_neg]
    rintro ⟨h1, h2, h3⟩
    by_cases e : k = (y : Int)
    · subst e; rw [Int.toNat_natCast, hO] at h3; cases h3
    · exact h ⟨h1, by omega, h3⟩
theorem fB_put {O : Nat → Bool} {made : List Int} {y : Nat} {v : Int} (hl : made.length = y) (hO : O y = true) : ∀ k, (if k = (y : Int) then some (.int .i64 v) else fBof O made y k) = fBof O (made ++ [v]) (y + 1) k := by
  intro k
  unfold fBof
  by_cases e : k = (y : Int)
  · subst e
    rw [if_pos rfl, if_pos ⟨by omega, by omega, by rw [Int.toNat_natCast]; exact hO⟩, Int.toNat_natCast, List.getD_eq_getElem?_getD, List.getElem?_append_right (by omega), hl, Nat.sub_self]
    rfl
  · rw [if_neg e]
    by_cases h : 0 ≤ k ∧ k < (y : Int) ∧ O k.toNat = true
    · rw [if_pos h, if_pos ⟨h.1, by omega, h.2.2⟩, getD_app (by omega)]
    · rw [if_neg h, if_neg]
      rintro ⟨h1, h2, h3⟩
      exact h ⟨h1, by omega, h3⟩
/-- What Subst keeps while it makes nodes anew. -/
def subThings (F I : List Nat) (gb W room : Nat) (M : List PNode) (pb mB mV : Nat) (fB fV : Int → Option Value) (cB cV ob nb p0 p1 z : Nat) (I2 : List Nat) (L : List PNode) : List Thing :=
  Thing.graph F I gb W room M :: (replThings pb gb mB mV fB fV cB cV ++ [Thing.fn ob 4 (z + 1) (fun i => .bool (occ L z i)), Thing.taken I2 nb (z + 1) L (occ L z) (-1) (-1), Thing.box p0 3 #[.int .i64 0], Thing.box p1 36 #[.int .i64 0]])
section
variable {w0 wr w' : World} {ts : List Thing} {F I : List Nat} {gb W room pb mB mV cB cV p0 p1 xb ob nb z : Nat} {I2 : List Nat} {L M : List PNode} {made : List Int} {ps : List (Int × Int)} {fB fV : Int → Option Value}
theorem Lab.sub_fn (h : Lab w0 wr (subThings F I gb W room M pb mB mV fB fV cB cV ob nb p0 p1 z I2 L ++ ts)) : wr.rowIs ob 4 (z + 1) (fun i => .bool (occ L z i)) := h.holds (Thing.fn ob 4 (z + 1) (fun i => .bool (occ L z i))) (by simp [subThings])
theorem Lab.sub_taken (h : Lab w0 wr (subThings F I gb W room M pb mB mV fB fV cB cV ob nb p0 p1 z I2 L ++ ts)) : Taken wr I2 nb (z + 1) L (occ L z) (-1) (-1) := h.holds (Thing.taken I2 nb (z + 1) L (occ L z) (-1) (-1)) (by simp [subThings])
theorem Lab.sub_repl (h : Lab w0 wr (subThings F I gb W room M pb mB mV fB fV cB cV ob nb p0 p1 z I2 L ++ ts)) : wr.heap[pb]? = some (.cells #[.pointer (some ⟨gb, 0, none⟩), .map (some mB), .map (some mV)] 132 (0, 0)) := h.mem_box (by simp [subThings, replThings])
theorem Lab.sub_mB (h : Lab w0 wr (subThings F I gb W room M pb mB mV fB fV cB cV ob nb p0 p1 z I2 L ++ ts)) : MapF Try.prog 3 .i64 wr mB fB cB := h.holds (Thing.mapf 3 .i64 mB fB cB) (by simp [subThings, replThings])
theorem Lab.sub_box0 (h : Lab w0 wr (subThings F I gb W room M pb mB mV fB fV cB cV ob nb p0 p1 z I2 L ++ ts)) : wr.heap[p0]? = some (.cells #[.int .i64 0] 3 (0, 0)) := h.mem_box (by simp [subThings])
theorem Lab.sub_box1 (h : Lab w0 wr (subThings F I gb W room M pb mB mV fB fV cB cV ob nb p0 p1 z I2 L ++ ts)) : wr.heap[p1]? = some (.cells #[.int .i64 0] 36 (0, 0)) := h.mem_box (by simp [subThings])
theorem Lab.sub_ne (h : Lab w0 wr (subThings F I gb W room M pb mB mV fB fV cB cV ob nb p0 p1 z I2 L ++ ts)) : p0 ≠ p1 := by
  have h1 : Lab w0 wr [Thing.box p0 3 #[.int .i64 0], Thing.box p1 36 #[.int .i64 0]] := h.sub (by
    show List.Sublist _ (_ :: _ :: _ :: _ :: _ :: _ :: _ :: _ :: ts)
    exact .cons _ (.cons _ (.cons _ (.cons _ (.cons _ (.cons _ (.cons_cons _ (.cons_cons _ (List.nil_sublist _)))))))))
  intro e
  exact (((List.pairwise_cons.1 h1.apart).1 _ (List.mem_singleton.2 rfl)).1 p0 (by simp [Thing.box])).1 (by simp [Thing.box, e])
theorem Lab.sub_graph (h : Lab w0 wr (subThings F I gb W room M pb mB mV fB fV cB cV ob nb p0 p1 z I2 L ++ ts)) : Lab w0 wr (Thing.graph F I gb W room M :: ts) := h.sub (by
    show List.Sublist _ (_ :: _ :: _ :: _ :: _ :: _ :: _ :: _ :: ts)
    exact .cons_cons _ (.cons _ (.cons _ (.cons _ (.cons _ (.cons _ (.cons _ (.cons _ (List.Sublist.refl _)))))))))
/-- What Subst answers, once the nodes are taken. -/
def SubPost (w0 : World) (gb W room : Nat) (ts : List Thing) (R : List PNode × Nat × Nat) : Ending → World → Prop := fun e w' => ∃ F' I', e = .returned (.tuple #[.int .i64 R.2.1, .int .i64 R.2.2]) ∧ Lab w0 w' (Thing.graph F' I' gb W room R.1 :: ts)
set_option maxRecDepth 100000 in
theorem sub_rest34 {u2 u3 u4 u5 u6 u7 u10 u12 u13 u16 u17 u18 u19 u20 u21 u22 u23 u24 u25 u26 u27 u28 u29 u30 u31 u32 u33 u34 u35 u36 u37 u38 u39 u40 u41 u42 u43 u44 u45 u46 u47 u48 u49 u50 u51 u52 u53 u54 u55 u56 u57 u58 u59 u60 u61 u62 u63 u64 u65 u66 u67 u68 u69 u70 u71 u72 u73 u74 u75 u76 u77 u78 u79 u80 u81 u82 u83 u84 u85 u86 u87 u88 u89 u90 u91 u92 u93 u94 u95 u96 u97 u98 u99 u100 u101 u102 u103 u104 u105 u106 u107 u108 u109 u110 u111 u112 u113 u114 u115 u116 u117 u118 u119 u120 u121 u122 u123 u124 u125 u126 u127 u128 u129 u130 u131 u132 u133 u134 u135 u136 u137 u138 u139 u140 u141 u142 u143 u144 u145 u146 u147 u148 u149 : Value} (h : Lab w0 wr (subThings F I gb W room L pb mB mV (fBof (occ L z) [] 0) (fVof ps) cB cV ob nb p0 p1 z I2 L ++ ts)) (hz : z < L.length) (hw : WFL L) (hg : GoodL W L) (hps : SubOk L ps) {R : List PNode × Nat × Nat} (hR : madeEnd z (madeRun W room L (occ L z) (subLf ps) (z + 1)) = R) :
    Code.wp Try.prog (subRest 34) (bodyPostD Try.prog Try.f39 (SubPost w0 gb W room ts R)) ⟨(List.toArray (.pointer (some ⟨gb, 0, none⟩) :: .int .i64 z :: u2 :: u3 :: u4 :: u5 :: u6 :: u7 :: .pointer (some ⟨p0, 0, none⟩) :: .pointer (some ⟨p1, 0, none⟩) :: u10 :: .pointer (some ⟨pb, 0, none⟩) :: u12 :: u13 :: .slice (some ⟨ob, 0, none⟩) (z + 1) (z + 1) :: .slice (some ⟨nb, 0, none⟩) (z + 1) (z + 1) :: u16 :: u17 :: u18 :: u19 :: u20 :: u21 :: u22 :: u23 :: u24 :: u25 :: u26 :: u27 :: u28 :: u29 :: u30 :: u31 :: u32 :: u33 :: u34 :: u35 :: u36 :: u37 :: u38 :: u39 :: u40 :: u41 :: u42 :: u43 :: u44 :: u45 :: u46 :: u47 :: u48 :: u49 :: u50 :: u51 :: u52 :: u53 :: u54 :: u55 :: u56 :: u57 :: u58 :: u59 :: u60 :: u61 :: u62 :: u63 :: u64 :: u65 :: u66 :: u67 :: u68 :: u69 :: u70 :: u71 :: u72 :: u73 :: u74 :: u75 :: u76 :: u77 :: u78 :: u79 :: u80 :: u81 :: u82 :: u83 :: u84 :: u85 :: u86 :: u87 :: u88 :: u89 :: u90 :: u91 :: u92 :: u93 :: u94 :: u95 :: u96 :: u97 :: u98 :: u99 :: u100 :: u101 :: u102 :: u103 :: u104 :: u105 :: u106 :: u107 :: u108 :: u109 :: u110 :: u111 :: u112 :: u113 :: u114 :: u115 :: u116 :: u117 :: u118 :: u119 :: u120 :: u121 :: u122 :: u123 :: u124 :: u125 :: u126 :: u127 :: u128 :: u129 :: u130 :: u131 :: u132 :: u133 :: u134 :: u135 :: u136 :: u137 :: u138 :: u139 :: u140 :: u141 :: u142 :: u143 :: u144 :: u145 :: u146 :: u147 :: u148 :: u149 :: [])), subDefer p0 p1⟩ wr := by
  have hll : L.length ≤ 1048576 := by have := h.gr.len; have := h.gr.r2; omega
  have hW : W ≤ 64 := h.gr.w2
  obtain ⟨MR, hMR⟩ : ∃ MR, madeRun W room L (occ L z) (subLf ps) = MR := ⟨_, rfl⟩
  have h0 : MR 0 = (L, [], 0) := by rw [← hMR]; rfl
  rw [hMR] at hR
  have HL := Lib.hid h; have HMR := Lib.hid hMR; have H0 := Lib.hid h0; have HR := Lib.hid hR; have HW := Lib.hid (And.intro hw (And.intro hg hps))
  clear h hMR h0 hR hw hg hps
  conv => arg 2; whnf
  go_wp2
  go_loopw [125] (fun i wx => ∃ y : Nat, y ≤ z + 1 ∧ i = .int .i64 y ∧ (MR y).2.2 = 0 ∧ ∃ F4 I4 c4, Lab w0 wx (subThings F4 I4 gb W room (MR y).1 pb mB mV (fBof (occ L z) (MR y).2.1 y) (fVof ps) c4 cV ob nb p0 p1 z I2 L ++ ts)) (fun i _ => z + 1 - (intOf i).toNat)
  case atStart =>
    refine ⟨0, by omega, rfl, by rw [H0.out], F, I, cB, ?_⟩
    rw [H0.out]
    exact HL.out
  case round =>
    obtain ⟨y, hy, rfl, hmr, F4, I4, c4, hl⟩ := hrel
    have HMR0 := Lib.hid hmr
    clear hmr HL
    by_cases hlt : y < z + 1
    · obtain ⟨nd, hi⟩ : ∃ nd, L[y]? = some nd := ⟨_, List.getElem?_eq_getElem (by omega)⟩
      have hmlen : (MR y).2.1.length = y := by rw [← HMR.out]; exact madeRun_len (by omega) (by rw [HMR.out]; exact HMR0.out)
      have HI := Lib.hid hi; have HML := Lib.hid hmlen
      clear hi hmlen
      cases hO : occ L z y with
      | false =>
        obtain ⟨a, b, v, m, k, q0, q1, q2⟩ := Taken.cells hl.sub_taken (t := y) (by omega)
        obtain ⟨xq, hxb⟩ : ∃ xq, wr.heap.size = xq := ⟨_, rfl⟩
        have hl2 := hl.alloc #[.int .u8 a, .int .u64 b, .slice v m k] 106
        rw [hxb] at hl2
        have HO := Lib.hid hO; have HL9 := Lib.hid hl2.drop
        clear hl hl2 hO
        go_upto_region 37 with fail
        clear hxb q0 q1 q2
        refine wp_abs (fun w1 => Lab w0 w1 (subThings F4 I4 gb W room (MR y).1 pb mB mV (fBof (occ L z) (MR y).2.1 y) (fVof ps) c4 cV ob nb p0 p1 z I2 L ++ ts)) HL9.out ?_
        clear HL9
        rintro w6 hl
        have d1 := hl.sub_fn.cell (i := y) (by omega)
        rw [HO.out] at d1
        have HL9 := Lib.hid hl
        clear hl
        go_wp2
        go_roundw
        case rel =>
          have hM : MR (y + 1) = ((MR y).1, (MR y).2.1 ++ [(y : Int)], 0) := by rw [← HMR.out, madeRun_succ (by rw [HMR.out]; exact HMR0.out), step_skip HI.out HO.out]
          refine ⟨y + 1, by omega, by go_num, by rw [hM], F4, I4, c4, ?_⟩
          rw [hM, ← funext (fB_skip HML.out HO.out)]
          exact HL9.out
        case measure => simp [intOf]; omega
      | true =>
        obtain ⟨vx, q0, q1, q2, hl1⟩ := (hl.perm (ts' := Thing.taken I2 nb (z + 1) L (occ L z) (-1) (-1) :: Thing.graph F4 I4 gb W room (MR y).1 :: (replThings pb gb mB mV (fBof (occ L z) (MR y).2.1 y) (fVof ps) c4 cV ++ (Thing.fn ob 4 (z + 1) (fun i => .bool (occ L z i)) :: Thing.box p0 3 #[.int .i64 0] :: Thing.box p1 36 #[.int .i64 0] :: ts))) (List.perm_middle (l₁ := [_, _, _, _, _]))).reads (t := y) (by omega) (by omega) hO HI.out
        obtain ⟨ax, mx, cx, rfl, hmx, -⟩ := (reads_slice hl1.head).parts
        obtain ⟨xq, hxb⟩ : ∃ xq, wr.heap.size = xq := ⟨_, rfl⟩
        have hl2 := hl1.alloc #[.int .u8 nd.1, .int .u64 nd.2.1, .slice ax mx cx] 106
        rw [hxb] at hl2
        have HO := Lib.hid hO; have HL9 := Lib.hid hl2
        clear hl hl1 hl2 hO hmx
        go_upto_region 37 with fail
        clear hxb q0 q1 q2
        refine wp_abs (fun w1 => Lab w0 w1 (Thing.graph F4 I4 gb W room (MR y).1 :: Thing.box xq 106 #[.int .u8 nd.1, .int .u64 nd.2.1, .slice ax mx cx] :: Thing.reads (.slice ax mx cx) nd.2.2 :: (replThings pb gb mB mV (fBof (occ L z) (MR y).2.1 y) (fVof ps) c4 cV ++ (Thing.taken I2 nb (z + 1) L (occ L z) (-1) (-1) :: Thing.fn ob 4 (z + 1) (fun i => .bool (occ L z i)) :: Thing.box p0 3 #[.int .i64 0] :: Thing.box p1 36 #[.int .i64 0] :: ts)))) ((HL9.out.perm (List.perm_middle (l₁ := [_, _, _]))).perm (.cons _ (.cons _ (.cons _ (List.perm_middle (l₁ := replThings pb gb mB mV (fBof (occ L z) (MR y).2.1 y) (fVof ps) c4 cV)).symm)))) ?_
        clear HL9
        rintro w6 hl
        have d1 : w6.rowIs ob 4 (z + 1) (fun i => .bool (occ L z i)) := hl.holds (Thing.fn ob 4 (z + 1) (fun i => .bool (occ L z i))) (by simp [replThings])
        have d1 := d1.cell (i := y) (by omega)
        rw [HO.out] at d1
        obtain ⟨R2, hR2⟩ : ∃ R2, nodeR W room (MR y).1 (MR y).2.1 ps y nd = R2 := ⟨_, rfl⟩
        have hnn : 0 ≤ subLf ps y nd := subLf_nonneg HW.out.2.2 y nd
        have hyz : y ≤ z := by omega
        have hOa : ∀ a ∈ nd.2.2, occ L z a.toNat = true := fun a ha => occ_args HW.out.1 hyz HO.out a (by unfold argsOf; rw [HI.out]; exact ha)
        have hlm : L.length ≤ (MR y).1.length := by
          have := (made_inv (O := occ L z) hW HW.out.1 HW.out.2.1 (subLf_ok HW.out.2.2) y (by omega) (by rw [HMR.out]; exact HMR0.out)).pre
          rw [HMR.out] at this
          exact this.length_le
        have hstep : MR (y + 1) = if R2.2.2 = 0 then (R2.1, (MR y).2.1 ++ [(R2.2.1 : Int)], 0) else (R2.1, (MR y).2.1, R2.2.2) := by
          rw [← HMR.out, madeRun_succ (by rw [HMR.out]; exact HMR0.out), HMR.out]
          have := nodeR_step (W := W) (room := room) (M := (MR y).1) (made := (MR y).2.1) (ps := ps) HI.out HO.out hnn
          rw [hR2] at this
          rw [← this, ← HMR0.out]
        have HL9 := Lib.hid hl; have HF := Lib.hid (And.intro hnn (And.intro hOa (And.intro hlm hstep))); have HR2 := Lib.hid hR2
        clear hl hnn hOa hlm hstep hR2
        go_upto_region 38 with fail
        clear d1
        by_cases he : R2.2.2 = 0
        · refine sub_region38 (HL9.out.drewN 0) HW.out.1 HW.out.2.1 HF.out.2.2.1 HI.out HF.out.2.1 HF.out.1 HR2.out he ?_
          rintro _ _ _ _ _ _ _ _ _ w7 ⟨F5, I5, c5, hl⟩
          have hM : MR (y + 1) = (R2.1, (MR y).2.1 ++ [(R2.2.1 : Int)], 0) := HF.out.2.2.2.trans (if_pos he)
          have HL10 := Lib.hid (hl.mapf_congr (fB_put HML.out HO.out)); have HM := Lib.hid hM
          clear hl hM HL9
          go_wp2
          go_roundw
          case rel =>
            refine ⟨y + 1, by omega, by go_num, by rw [HM.out], F5, I5, c5, ?_⟩
            rw [HM.out]
            exact HL10.out.rot3'.perm (.cons _ (.cons _ (.cons _ (.cons _ (.swap _ _ _)))))
          case measure => simp [intOf]; omega
        · refine sub_region38_bad (HL9.out.drewN 0) HW.out.1 HW.out.2.1 HF.out.2.2.1 HI.out HF.out.2.1 HF.out.1 HR2.out he ?_
          rintro tm w7 h8 h9 ⟨F5, I5, hl⟩
          have hM : MR (y + 1) = (R2.1, (MR y).2.1, R2.2.2) := HF.out.2.2.2.trans (if_neg he)
          have hend : MR (z + 1) = (R2.1, (MR y).2.1, R2.2.2) := by
            rw [← hM, ← HMR.out]
            exact madeRun_stop (by rw [HMR.out, hM]; exact he) (by omega)
          have hRR : R = (R2.1, 0, R2.2.2) := by
            rw [← HR.out]
            unfold madeEnd
            rw [hend]
            exact if_neg he
          subst hRR
          show Leaves Try.prog Try.f39 tm (SubPost w0 gb W room ts _) (subDefer p0 p1) (.panicking _) w7
          have hl2 : Lab w0 w7 (Thing.box p0 3 #[.int .i64 0] :: Thing.box p1 36 #[.int .i64 0] :: Thing.graph F5 I5 gb W room R2.1 :: ts) := by
            have := hl.sub (ts' := Thing.graph F5 I5 gb W room R2.1 :: Thing.box p0 3 #[.int .i64 0] :: Thing.box p1 36 #[.int .i64 0] :: ts) (.cons_cons _ (.cons _ (.cons _ (.cons _ (.cons _ (.cons _ (List.Sublist.refl _)))))))
            exact this.rot3'
          refine sub_full hl2 h8 h9 ?_ (fun w8 hl8 => ⟨F5, I5, rfl, hl8⟩)
          intro e
          exact (((List.pairwise_cons.1 hl2.apart).1 (Thing.box p1 36 #[.int .i64 0]) (by simp)).1 p0 (by simp [Thing.box])).1 (by simp [Thing.box, e])
    · obtain rfl : y = z + 1 := by omega
      have hinv := made_inv (O := occ L z) hW HW.out.1 HW.out.2.1 (subLf_ok HW.out.2.2) (z + 1) (by omega) (by rw [HMR.out]; exact HMR0.out)
      rw [HMR.out] at hinv
      obtain ⟨q, hq⟩ := Int.eq_ofNat_of_zero_le (hinv.at_ z ((MR (z + 1)).2.1.getD z 0) (by rw [List.getD_eq_getElem?_getD, List.getElem?_eq_getElem (by rw [hinv.many]; omega)]; rfl)).1
      have hRR : R = ((MR (z + 1)).1, q, 0) := by
        rw [← HR.out]
        unfold madeEnd
        rw [if_pos HMR0.out, hq]; rfl
      subst hRR
      have hfB : fBof (occ L z) (MR (z + 1)).2.1 (z + 1) (z : Int) = some (.int .i64 q) := by
        unfold fBof
        rw [if_pos ⟨by omega, by omega, by rw [Int.toNat_natCast]; exact occ_top L z⟩, Int.toNat_natCast, hq]
      have hlook := fun n => (hl.sub_mB.block (w' := wr.drewN n) rfl).hit (T := 129) (E := 3) Try.underlying3 Try.underlying129 (wf_i64 (k := (z : Int)) (by omega) (by omega)) hfB false
      have hlook0 := hl.sub_mB.hit (T := 129) (E := 3) Try.underlying3 Try.underlying129 (wf_i64 (k := (z : Int)) (by omega) (by omega)) hfB false
      obtain ⟨r0, r1, r2⟩ := cells3 hl.sub_repl
      have b0 : wr.cell? ⟨p0, 0, none⟩ = some (.int .i64 0) := by rw [cell_of_row wr p0 0 _ _ _ hl.sub_box0]; rfl
      have b1 : wr.cell? ⟨p1, 0, none⟩ = some (.int .i64 0) := by rw [cell_of_row wr p1 0 _ _ _ hl.sub_box1]; rfl
      have f0 := frozen_of_row wr p0 0 _ _ hl.sub_box0
      have f1 := frozen_of_row wr p1 0 _ _ hl.sub_box1
      have hne := hl.sub_ne
      have HL9 := Lib.hid hl; have HQ := Lib.hid hq
      clear hl hq hinv hfB
      go_wp2
      have hl2 : Lab w0 wr (Thing.box p0 3 #[.int .i64 0] :: Thing.box p1 36 #[.int .i64 0] :: Thing.graph F4 I4 gb W room (MR (z + 1)).1 :: ts) := by
        have := HL9.out.sub (ts' := Thing.graph F4 I4 gb W room (MR (z + 1)).1 :: Thing.box p0 3 #[.int .i64 0] :: Thing.box p1 36 #[.int .i64 0] :: ts) (.cons_cons _ (.cons _ (.cons _ (.cons _ (.cons _ (.cons _ (List.Sublist.refl _)))))))
        exact this.rot3'
      have hl3 := ((hl2.store 0 (.int .i64 q)).swap.store 0 (.int .i64 0)).swap
      refine sub_idle (p0 := p0) (p1 := p1) (a := q) (b := 0) rfl rfl ?_ ?_ ⟨F4, I4, rfl, hl3.drop.drop⟩
      · rw [cell_of_row _ p0 0 _ _ _ hl3.box1]; rfl
      · rw [cell_of_row _ p1 0 _ _ _ hl3.box2]; rfl
end
end Go.Proofs.Ytcpgiadhmmmafaa
