/- SubstOrder: the exchange. -/
import Derived.Test.YtcpgiadhmmmafaaSubQ
import Derived.Test.YtcpgiadhmmmafaaOrd13
namespace Go.Proofs.Ytcpgiadhmmmafaa
open Go.RowKit Go.Maps
set_option maxHeartbeats 3200000

section
variable {w0 wc wr w' : World} {ts : List Thing} {F I : List Nat} {gb W room : Nat} {L : List PNode}
set_option maxRecDepth 100000 in
theorem order_region16 {u0 u1 u3 u5 u6 u7 u8 u9 u10 u12 u17 u20 u21 u22 u23 u24 u25 u26 u27 u28 u29 u30 u31 u32 u33 u34 u35 u36 u37 u38 u39 u40 u41 u42 u43 u44 u45 u46 u47 u48 u49 u50 u51 u52 u53 u54 u55 u56 u57 u58 u59 u60 u61 u62 u63 u64 u65 u66 u67 u68 u69 u70 u71 u72 u73 u74 u75 u76 u77 u78 u79 u80 u81 u82 u83 u84 u85 u86 u87 u88 u89 u90 u91 u92 u93 u94 u95 u96 u97 u98 u99 u100 u101 u102 u103 u104 u105 u106 u107 u108 u109 u110 u111 u112 u113 u114 u115 u116 u117 u118 u119 u120 u121 u122 u123 u124 u125 u126 u127 u128 u129 u130 u131 u132 u133 u134 u135 u136 u137 u138 u139 u140 u141 u142 u143 : Value} {Q : Exit → Act → World → Prop} {z2 z4 z11 z15 z16 : Value} {vs us : List Int} {b1 c1 b2 c2 n i j : Nat} (h : Lab w0 wr (Thing.ints (.slice (some ⟨b1, 0, none⟩) n c1) vs :: Thing.ints (.slice (some ⟨b2, 0, none⟩) n c2) us :: ts)) (_hn1 : n ≤ 100) (hij : i < j) (hj : j < n)
    (hQ : ∀ v94 v95 v96 v97 v98 v99 v100 v101 v102 v103 v104 v105 v106 v107 v108 v109 v110 v111 v112 v113 v114 v115 v116 v117 v118 v119 v120 v121 w3, Lab w0 w3 (Thing.ints (.slice (some ⟨b1, 0, none⟩) n c1) (swapL vs i j) :: Thing.ints (.slice (some ⟨b2, 0, none⟩) n c2) (swapL us i j) :: ts) →
      Q .normal ⟨(List.toArray (u0 :: u1 :: z2 :: u3 :: z4 :: u5 :: u6 :: u7 :: u8 :: u9 :: u10 :: z11 :: u12 :: .slice (some ⟨b1, 0, none⟩) n c1 :: .slice (some ⟨b2, 0, none⟩) n c2 :: z15 :: z16 :: u17 :: .int .i64 i :: .int .i64 j :: u20 :: u21 :: u22 :: u23 :: u24 :: u25 :: u26 :: u27 :: u28 :: u29 :: u30 :: u31 :: u32 :: u33 :: u34 :: u35 :: u36 :: u37 :: u38 :: u39 :: u40 :: u41 :: u42 :: u43 :: u44 :: u45 :: u46 :: u47 :: u48 :: u49 :: u50 :: u51 :: u52 :: u53 :: u54 :: u55 :: u56 :: u57 :: u58 :: u59 :: u60 :: u61 :: u62 :: u63 :: u64 :: u65 :: u66 :: u67 :: u68 :: u69 :: u70 :: u71 :: u72 :: u73 :: u74 :: u75 :: u76 :: u77 :: u78 :: u79 :: u80 :: u81 :: u82 :: u83 :: u84 :: u85 :: u86 :: u87 :: u88 :: u89 :: u90 :: u91 :: u92 :: u93 :: v94 :: v95 :: v96 :: v97 :: v98 :: v99 :: v100 :: v101 :: v102 :: v103 :: v104 :: v105 :: v106 :: v107 :: v108 :: v109 :: v110 :: v111 :: v112 :: v113 :: v114 :: v115 :: v116 :: v117 :: v118 :: v119 :: v120 :: v121 :: u122 :: u123 :: u124 :: u125 :: u126 :: u127 :: u128 :: u129 :: u130 :: u131 :: u132 :: u133 :: u134 :: u135 :: u136 :: u137 :: u138 :: u139 :: u140 :: u141 :: u142 :: u143 :: [])), []⟩ w3) :
    Code.wp Try.prog (orderRegion 16) Q ⟨(List.toArray (u0 :: u1 :: z2 :: u3 :: z4 :: u5 :: u6 :: u7 :: u8 :: u9 :: u10 :: z11 :: u12 :: .slice (some ⟨b1, 0, none⟩) n c1 :: .slice (some ⟨b2, 0, none⟩) n c2 :: z15 :: z16 :: u17 :: .int .i64 i :: .int .i64 j :: u20 :: u21 :: u22 :: u23 :: u24 :: u25 :: u26 :: u27 :: u28 :: u29 :: u30 :: u31 :: u32 :: u33 :: u34 :: u35 :: u36 :: u37 :: u38 :: u39 :: u40 :: u41 :: u42 :: u43 :: u44 :: u45 :: u46 :: u47 :: u48 :: u49 :: u50 :: u51 :: u52 :: u53 :: u54 :: u55 :: u56 :: u57 :: u58 :: u59 :: u60 :: u61 :: u62 :: u63 :: u64 :: u65 :: u66 :: u67 :: u68 :: u69 :: u70 :: u71 :: u72 :: u73 :: u74 :: u75 :: u76 :: u77 :: u78 :: u79 :: u80 :: u81 :: u82 :: u83 :: u84 :: u85 :: u86 :: u87 :: u88 :: u89 :: u90 :: u91 :: u92 :: u93 :: u94 :: u95 :: u96 :: u97 :: u98 :: u99 :: u100 :: u101 :: u102 :: u103 :: u104 :: u105 :: u106 :: u107 :: u108 :: u109 :: u110 :: u111 :: u112 :: u113 :: u114 :: u115 :: u116 :: u117 :: u118 :: u119 :: u120 :: u121 :: u122 :: u123 :: u124 :: u125 :: u126 :: u127 :: u128 :: u129 :: u130 :: u131 :: u132 :: u133 :: u134 :: u135 :: u136 :: u137 :: u138 :: u139 :: u140 :: u141 :: u142 :: u143 :: [])), []⟩ wr := by
  have i0 : (0 : Int) ≤ (i : Int) := by omega
  have j0 : (0 : Int) ≤ (j : Int) := by omega
  have i1 : (i : Int) < (n : Int) := by omega
  have j1 : (j : Int) < (n : Int) := by omega
  obtain ⟨-, hn⟩ := h.ints_cap
  obtain ⟨-, hm⟩ := h.swap.ints_cap
  have hr1 : Lab w0 wr (Thing.row 3 1 (.slice (some ⟨b1, 0, none⟩) n c1) n (vs.map (Value.int .i64)) :: Thing.row 3 1 (.slice (some ⟨b2, 0, none⟩) n c2) n (us.map (Value.int .i64)) :: ts) := by
    have := h
    unfold Thing.ints at this
    rwa [← hn, ← hm] at this
  have hbb : b1 ≠ b2 := by
    intro e
    exact (((List.pairwise_cons.1 hr1.apart).1 (Thing.row 3 1 (.slice (some ⟨b2, 0, none⟩) n c2) n (us.map (Value.int .i64))) (by simp)).1 b1 (by simp [Thing.row, Value.ownBlock])).1 (by simp [Thing.row, Value.ownBlock, e])
  obtain ⟨d1, e1⟩ := hr1.row_cell (j := i) (by omega)
  obtain ⟨d2, e2⟩ := hr1.row_cell (j := j) (by omega)
  obtain ⟨d3, e3⟩ := hr1.swap.row_cell (j := i) (by omega)
  obtain ⟨d4, e4⟩ := hr1.swap.row_cell (j := j) (by omega)
  have g1 : ∀ (xs : List Int) k, n = xs.length → k < n → (xs.map (Value.int .i64))[k]? = some (.int .i64 (xs[k]?.getD 0)) := fun xs k e hk => by
    rw [List.getElem?_map, List.getElem?_eq_getElem (by omega)]; rfl
  rw [g1 vs i hn (by omega)] at d1
  rw [g1 vs j hn (by omega)] at d2
  rw [g1 us i hm (by omega)] at d3
  rw [g1 us j hm (by omega)] at d4
  have hne : i ≠ j := by omega
  have hfin := ((((hr1.row_set i (.int .i64 (vs[j]?.getD 0))).row_set j (.int .i64 (vs[i]?.getD 0))).swap.row_set i (.int .i64 (us[j]?.getD 0))).row_set j (.int .i64 (us[i]?.getD 0))).swap.drew1
  have hset : ∀ (xs : List Int), ((xs.map (Value.int .i64)).set i (.int .i64 (xs[j]?.getD 0))).set j (.int .i64 (xs[i]?.getD 0)) = (swapL xs i j).map (Value.int .i64) := fun xs => by
    unfold swapL
    rw [List.map_set, List.map_set]
  rw [hset, hset] at hfin
  have hfin2 := fun v94 v95 v96 v97 v98 v99 v100 v101 v102 v103 v104 v105 v106 v107 v108 v109 v110 v111 v112 v113 v114 v115 v116 v117 v118 v119 v120 v121 => hQ v94 v95 v96 v97 v98 v99 v100 v101 v102 v103 v104 v105 v106 v107 v108 v109 v110 v111 v112 v113 v114 v115 v116 v117 v118 v119 v120 v121 _ (by
    unfold Thing.ints
    rw [swapL_len, swapL_len, ← hn, ← hm]
    exact hfin)
  have HQ := Lib.hid hfin2
  clear h hQ hr1 hn hm g1 hfin hset hfin2 _hn1
  generalize vs[i]?.getD 0 = x1 at *
  generalize vs[j]?.getD 0 = y1 at *
  generalize us[i]?.getD 0 = x2 at *
  generalize us[j]?.getD 0 = y2 at *
  conv => arg 2; whnf
  have F : Hid (∀ w : World, w = wr.drew → w.cell? ⟨b1, i, none⟩ = some (.int .i64 x1) ∧ w.cell? ⟨b1, j, none⟩ = some (.int .i64 y1) ∧ w.cell? ⟨b2, i, none⟩ = some (.int .i64 x2) ∧ w.cell? ⟨b2, j, none⟩ = some (.int .i64 y2)) := Lib.hid (by
    rintro _ rfl
    exact ⟨d1, d2, d3, d4⟩)
  refine wp_region_noPanic ?_
  refine wp_region_any (by kernel_rfl) (wpAny_of_T (S := S13 wr.drew 25 [11, 15, 19, 23]) _ _ _ _ ?_)
  have hS : S13 wr.drew 25 [11, 15, 19, 23] (Array.replicate 32 false) wr.drew := .inr ⟨rfl, rfl⟩
  refine wpAnyT_take (i := 0) (oi := { dst := some 94, op := Go.Op.move (Go.Operand.tmp 13), type := 33, pos := "outright.go:136", after := #[], guard := none }) (v := ?v0) rfl (by kernel_rfl) (by kernel_rfl) (by kernel_rfl) (by decide) (fun h => absurd h (by decide)) (fun _ _ _ h => h) (Or.inl ⟨by rfl, ?hy0⟩) hS (fun hS => ?rest0)
  case hy0 =>
    intro w hSw
    clear hSw
    go_simp
    with_reducible rfl
  try simp only [Act.put, List.setIfInBounds_toArray, List.set_cons_zero, List.set_cons_succ]
  refine wpAnyT_take (i := 1) (oi := { dst := some 95, op := Go.Op.move (Go.Operand.tmp 18), type := 3, pos := "outright.go:136", after := #[], guard := none }) (v := ?v1) rfl (by kernel_rfl) (by kernel_rfl) (by kernel_rfl) (by decide) (fun h => absurd h (by decide)) (fun _ _ _ h => h) (Or.inl ⟨by rfl, ?hy1⟩) hS (fun hS => ?rest1)
  case hy1 =>
    intro w hSw
    clear hSw
    go_simp
    with_reducible rfl
  try simp only [Act.put, List.setIfInBounds_toArray, List.set_cons_zero, List.set_cons_succ]
  refine wpAnyT_take (i := 2) (oi := { dst := some 96, op := Go.Op.move (Go.Operand.tmp 13), type := 33, pos := "outright.go:136", after := #[{ on := 25, ground := Go.Ground.gcOnly Go.Departure.lateStores }], guard := none }) (v := ?v2) rfl (by kernel_rfl) (by kernel_rfl) (by kernel_rfl) (by decide) (fun h => absurd h (by decide)) (fun _ _ _ h => h) (Or.inl ⟨by rfl, ?hy2⟩) hS (fun hS => ?rest2)
  case hy2 =>
    intro w hSw
    clear hSw
    go_simp
    with_reducible rfl
  try simp only [Act.put, List.setIfInBounds_toArray, List.set_cons_zero, List.set_cons_succ]
  refine wpAnyT_take (i := 3) (oi := { dst := some 97, op := Go.Op.move (Go.Operand.tmp 19), type := 3, pos := "outright.go:136", after := #[{ on := 25, ground := Go.Ground.gcOnly Go.Departure.lateStores }], guard := none }) (v := ?v3) rfl (by kernel_rfl) (by kernel_rfl) (by kernel_rfl) (by decide) (fun h => absurd h (by decide)) (fun _ _ _ h => h) (Or.inl ⟨by rfl, ?hy3⟩) hS (fun hS => ?rest3)
  case hy3 =>
    intro w hSw
    clear hSw
    go_simp
    with_reducible rfl
  try simp only [Act.put, List.setIfInBounds_toArray, List.set_cons_zero, List.set_cons_succ]
  refine wpAnyT_take (i := 4) (oi := { dst := some 98, op := Go.Op.move (Go.Operand.tmp 14), type := 33, pos := "outright.go:136", after := #[{ on := 27, ground := Go.Ground.gcOnly Go.Departure.lateStores }], guard := none }) (v := ?v4) rfl (by kernel_rfl) (by kernel_rfl) (by kernel_rfl) (by decide) (fun h => absurd h (by decide)) (fun _ _ _ h => h) (Or.inl ⟨by rfl, ?hy4⟩) hS (fun hS => ?rest4)
  case hy4 =>
    intro w hSw
    clear hSw
    go_simp
    with_reducible rfl
  try simp only [Act.put, List.setIfInBounds_toArray, List.set_cons_zero, List.set_cons_succ]
  refine wpAnyT_take (i := 5) (oi := { dst := some 99, op := Go.Op.move (Go.Operand.tmp 18), type := 3, pos := "outright.go:136", after := #[{ on := 27, ground := Go.Ground.gcOnly Go.Departure.lateStores }], guard := none }) (v := ?v5) rfl (by kernel_rfl) (by kernel_rfl) (by kernel_rfl) (by decide) (fun h => absurd h (by decide)) (fun _ _ _ h => h) (Or.inl ⟨by rfl, ?hy5⟩) hS (fun hS => ?rest5)
  case hy5 =>
    intro w hSw
    clear hSw
    go_simp
    with_reducible rfl
  try simp only [Act.put, List.setIfInBounds_toArray, List.set_cons_zero, List.set_cons_succ]
  refine wpAnyT_take (i := 6) (oi := { dst := some 100, op := Go.Op.move (Go.Operand.tmp 14), type := 33, pos := "outright.go:136", after := #[{ on := 29, ground := Go.Ground.gcOnly Go.Departure.lateStores }], guard := none }) (v := ?v6) rfl (by kernel_rfl) (by kernel_rfl) (by kernel_rfl) (by decide) (fun h => absurd h (by decide)) (fun _ _ _ h => h) (Or.inl ⟨by rfl, ?hy6⟩) hS (fun hS => ?rest6)
  case hy6 =>
    intro w hSw
    clear hSw
    go_simp
    with_reducible rfl
  try simp only [Act.put, List.setIfInBounds_toArray, List.set_cons_zero, List.set_cons_succ]
  refine wpAnyT_take (i := 7) (oi := { dst := some 101, op := Go.Op.move (Go.Operand.tmp 19), type := 3, pos := "outright.go:136", after := #[{ on := 29, ground := Go.Ground.gcOnly Go.Departure.lateStores }], guard := none }) (v := ?v7) rfl (by kernel_rfl) (by kernel_rfl) (by kernel_rfl) (by decide) (fun h => absurd h (by decide)) (fun _ _ _ h => h) (Or.inl ⟨by rfl, ?hy7⟩) hS (fun hS => ?rest7)
  case hy7 =>
    intro w hSw
    clear hSw
    go_simp
    with_reducible rfl
  try simp only [Act.put, List.setIfInBounds_toArray, List.set_cons_zero, List.set_cons_succ]
  refine wpAnyT_take (i := 8) (oi := { dst := some 102, op := Go.Op.move (Go.Operand.tmp 13), type := 33, pos := "outright.go:136", after := #[], guard := none }) (v := ?v8) rfl (by kernel_rfl) (by kernel_rfl) (by kernel_rfl) (by decide) (fun h => absurd h (by decide)) (fun _ _ _ h => h) (Or.inl ⟨by rfl, ?hy8⟩) hS (fun hS => ?rest8)
  case hy8 =>
    intro w hSw
    clear hSw
    go_simp
    with_reducible rfl
  try simp only [Act.put, List.setIfInBounds_toArray, List.set_cons_zero, List.set_cons_succ]
  refine wpAnyT_take (i := 9) (oi := { dst := some 103, op := Go.Op.move (Go.Operand.tmp 19), type := 3, pos := "outright.go:136", after := #[], guard := none }) (v := ?v9) rfl (by kernel_rfl) (by kernel_rfl) (by kernel_rfl) (by decide) (fun h => absurd h (by decide)) (fun _ _ _ h => h) (Or.inl ⟨by rfl, ?hy9⟩) hS (fun hS => ?rest9)
  case hy9 =>
    intro w hSw
    clear hSw
    go_simp
    with_reducible rfl
  try simp only [Act.put, List.setIfInBounds_toArray, List.set_cons_zero, List.set_cons_succ]
  refine wpAnyT_take (i := 10) (oi := { dst := some 104, op := Go.Op.indexAddr 33 (Go.Operand.tmp 102) (Go.Operand.tmp 103), type := 0, pos := "outright.go:136", after := #[{ on := 8, ground := Go.Ground.data }, { on := 9, ground := Go.Ground.data }], guard := none }) (v := ?v10) rfl (by kernel_rfl) (by kernel_rfl) (by kernel_rfl) (by decide) (fun h => absurd h (by decide)) (fun _ _ _ h => h) (Or.inl ⟨by rfl, ?hy10⟩) hS (fun hS => ?rest10)
  case hy10 =>
    intro w hSw
    clear hSw
    go_simp
    with_reducible rfl
  try simp only [Act.put, List.setIfInBounds_toArray, List.set_cons_zero, List.set_cons_succ]
  refine wpAnyT_take (i := 11) (oi := { dst := some 105, op := Go.Op.load 3 (Go.Operand.tmp 104), type := 3, pos := "outright.go:136", after := #[{ on := 10, ground := Go.Ground.data }], guard := none }) (v := ?v11) rfl (by kernel_rfl) (by kernel_rfl) (by kernel_rfl) (by decide) (fun _ => by kernel_rfl) (fun _ _ _ h => h) (Or.inl ⟨by rfl, ?hy11⟩) hS (fun hS => ?rest11)
  case hy11 =>
    intro w hSw
    obtain ⟨f1, f2, f3, f4⟩ := F.out w (hSw (by decide))
    clear hSw
    go_simp
    with_reducible rfl
  try simp only [Act.put, List.setIfInBounds_toArray, List.set_cons_zero, List.set_cons_succ]
  refine wpAnyT_take (i := 12) (oi := { dst := some 106, op := Go.Op.move (Go.Operand.tmp 13), type := 33, pos := "outright.go:136", after := #[], guard := none }) (v := ?v12) rfl (by kernel_rfl) (by kernel_rfl) (by kernel_rfl) (by decide) (fun h => absurd h (by decide)) (fun _ _ _ h => h) (Or.inl ⟨by rfl, ?hy12⟩) hS (fun hS => ?rest12)
  case hy12 =>
    intro w hSw
    clear hSw
    go_simp
    with_reducible rfl
  try simp only [Act.put, List.setIfInBounds_toArray, List.set_cons_zero, List.set_cons_succ]
  refine wpAnyT_take (i := 13) (oi := { dst := some 107, op := Go.Op.move (Go.Operand.tmp 18), type := 3, pos := "outright.go:136", after := #[], guard := none }) (v := ?v13) rfl (by kernel_rfl) (by kernel_rfl) (by kernel_rfl) (by decide) (fun h => absurd h (by decide)) (fun _ _ _ h => h) (Or.inl ⟨by rfl, ?hy13⟩) hS (fun hS => ?rest13)
  case hy13 =>
    intro w hSw
    clear hSw
    go_simp
    with_reducible rfl
  try simp only [Act.put, List.setIfInBounds_toArray, List.set_cons_zero, List.set_cons_succ]
  refine wpAnyT_take (i := 14) (oi := { dst := some 108, op := Go.Op.indexAddr 33 (Go.Operand.tmp 106) (Go.Operand.tmp 107), type := 0, pos := "outright.go:136", after := #[{ on := 12, ground := Go.Ground.data }, { on := 13, ground := Go.Ground.data }], guard := none }) (v := ?v14) rfl (by kernel_rfl) (by kernel_rfl) (by kernel_rfl) (by decide) (fun h => absurd h (by decide)) (fun _ _ _ h => h) (Or.inl ⟨by rfl, ?hy14⟩) hS (fun hS => ?rest14)
  case hy14 =>
    intro w hSw
    clear hSw
    go_simp
    with_reducible rfl
  try simp only [Act.put, List.setIfInBounds_toArray, List.set_cons_zero, List.set_cons_succ]
  refine wpAnyT_take (i := 15) (oi := { dst := some 109, op := Go.Op.load 3 (Go.Operand.tmp 108), type := 3, pos := "outright.go:136", after := #[{ on := 14, ground := Go.Ground.data }], guard := none }) (v := ?v15) rfl (by kernel_rfl) (by kernel_rfl) (by kernel_rfl) (by decide) (fun _ => by kernel_rfl) (fun _ _ _ h => h) (Or.inl ⟨by rfl, ?hy15⟩) hS (fun hS => ?rest15)
  case hy15 =>
    intro w hSw
    obtain ⟨f1, f2, f3, f4⟩ := F.out w (hSw (by decide))
    clear hSw
    go_simp
    with_reducible rfl
  try simp only [Act.put, List.setIfInBounds_toArray, List.set_cons_zero, List.set_cons_succ]
  refine wpAnyT_take (i := 16) (oi := { dst := some 110, op := Go.Op.move (Go.Operand.tmp 14), type := 33, pos := "outright.go:136", after := #[], guard := none }) (v := ?v16) rfl (by kernel_rfl) (by kernel_rfl) (by kernel_rfl) (by decide) (fun h => absurd h (by decide)) (fun _ _ _ h => h) (Or.inl ⟨by rfl, ?hy16⟩) hS (fun hS => ?rest16)
  case hy16 =>
    intro w hSw
    clear hSw
    go_simp
    with_reducible rfl
  try simp only [Act.put, List.setIfInBounds_toArray, List.set_cons_zero, List.set_cons_succ]
  refine wpAnyT_take (i := 17) (oi := { dst := some 111, op := Go.Op.move (Go.Operand.tmp 19), type := 3, pos := "outright.go:136", after := #[], guard := none }) (v := ?v17) rfl (by kernel_rfl) (by kernel_rfl) (by kernel_rfl) (by decide) (fun h => absurd h (by decide)) (fun _ _ _ h => h) (Or.inl ⟨by rfl, ?hy17⟩) hS (fun hS => ?rest17)
  case hy17 =>
    intro w hSw
    clear hSw
    go_simp
    with_reducible rfl
  try simp only [Act.put, List.setIfInBounds_toArray, List.set_cons_zero, List.set_cons_succ]
  refine wpAnyT_take (i := 18) (oi := { dst := some 112, op := Go.Op.indexAddr 33 (Go.Operand.tmp 110) (Go.Operand.tmp 111), type := 0, pos := "outright.go:136", after := #[{ on := 16, ground := Go.Ground.data }, { on := 17, ground := Go.Ground.data }], guard := none }) (v := ?v18) rfl (by kernel_rfl) (by kernel_rfl) (by kernel_rfl) (by decide) (fun h => absurd h (by decide)) (fun _ _ _ h => h) (Or.inl ⟨by rfl, ?hy18⟩) hS (fun hS => ?rest18)
  case hy18 =>
    intro w hSw
    clear hSw
    go_simp
    with_reducible rfl
  try simp only [Act.put, List.setIfInBounds_toArray, List.set_cons_zero, List.set_cons_succ]
  refine wpAnyT_take (i := 19) (oi := { dst := some 113, op := Go.Op.load 3 (Go.Operand.tmp 112), type := 3, pos := "outright.go:136", after := #[{ on := 18, ground := Go.Ground.data }], guard := none }) (v := ?v19) rfl (by kernel_rfl) (by kernel_rfl) (by kernel_rfl) (by decide) (fun _ => by kernel_rfl) (fun _ _ _ h => h) (Or.inl ⟨by rfl, ?hy19⟩) hS (fun hS => ?rest19)
  case hy19 =>
    intro w hSw
    obtain ⟨f1, f2, f3, f4⟩ := F.out w (hSw (by decide))
    clear hSw
    go_simp
    with_reducible rfl
  try simp only [Act.put, List.setIfInBounds_toArray, List.set_cons_zero, List.set_cons_succ]
  refine wpAnyT_take (i := 20) (oi := { dst := some 114, op := Go.Op.move (Go.Operand.tmp 14), type := 33, pos := "outright.go:136", after := #[], guard := none }) (v := ?v20) rfl (by kernel_rfl) (by kernel_rfl) (by kernel_rfl) (by decide) (fun h => absurd h (by decide)) (fun _ _ _ h => h) (Or.inl ⟨by rfl, ?hy20⟩) hS (fun hS => ?rest20)
  case hy20 =>
    intro w hSw
    clear hSw
    go_simp
    with_reducible rfl
  try simp only [Act.put, List.setIfInBounds_toArray, List.set_cons_zero, List.set_cons_succ]
  refine wpAnyT_take (i := 21) (oi := { dst := some 115, op := Go.Op.move (Go.Operand.tmp 18), type := 3, pos := "outright.go:136", after := #[], guard := none }) (v := ?v21) rfl (by kernel_rfl) (by kernel_rfl) (by kernel_rfl) (by decide) (fun h => absurd h (by decide)) (fun _ _ _ h => h) (Or.inl ⟨by rfl, ?hy21⟩) hS (fun hS => ?rest21)
  case hy21 =>
    intro w hSw
    clear hSw
    go_simp
    with_reducible rfl
  try simp only [Act.put, List.setIfInBounds_toArray, List.set_cons_zero, List.set_cons_succ]
  refine wpAnyT_take (i := 22) (oi := { dst := some 116, op := Go.Op.indexAddr 33 (Go.Operand.tmp 114) (Go.Operand.tmp 115), type := 0, pos := "outright.go:136", after := #[{ on := 20, ground := Go.Ground.data }, { on := 21, ground := Go.Ground.data }], guard := none }) (v := ?v22) rfl (by kernel_rfl) (by kernel_rfl) (by kernel_rfl) (by decide) (fun h => absurd h (by decide)) (fun _ _ _ h => h) (Or.inl ⟨by rfl, ?hy22⟩) hS (fun hS => ?rest22)
  case hy22 =>
    intro w hSw
    clear hSw
    go_simp
    with_reducible rfl
  try simp only [Act.put, List.setIfInBounds_toArray, List.set_cons_zero, List.set_cons_succ]
  refine wpAnyT_take (i := 23) (oi := { dst := some 117, op := Go.Op.load 3 (Go.Operand.tmp 116), type := 3, pos := "outright.go:136", after := #[{ on := 22, ground := Go.Ground.data }], guard := none }) (v := ?v23) rfl (by kernel_rfl) (by kernel_rfl) (by kernel_rfl) (by decide) (fun _ => by kernel_rfl) (fun _ _ _ h => h) (Or.inl ⟨by rfl, ?hy23⟩) hS (fun hS => ?rest23)
  case hy23 =>
    intro w hSw
    obtain ⟨f1, f2, f3, f4⟩ := F.out w (hSw (by decide))
    clear hSw
    go_simp
    with_reducible rfl
  try simp only [Act.put, List.setIfInBounds_toArray, List.set_cons_zero, List.set_cons_succ]
  refine wpAnyT_take (i := 24) (oi := { dst := some 118, op := Go.Op.indexAddr 33 (Go.Operand.tmp 94) (Go.Operand.tmp 95), type := 0, pos := "outright.go:136", after := #[{ on := 0, ground := Go.Ground.data }, { on := 1, ground := Go.Ground.data }, { on := 0, ground := Go.Ground.phase }, { on := 1, ground := Go.Ground.phase }, { on := 2, ground := Go.Ground.textOnly Go.Departure.lateStores }, { on := 3, ground := Go.Ground.textOnly Go.Departure.lateStores }, { on := 4, ground := Go.Ground.textOnly Go.Departure.lateStores }, { on := 5, ground := Go.Ground.textOnly Go.Departure.lateStores }, { on := 6, ground := Go.Ground.textOnly Go.Departure.lateStores }, { on := 7, ground := Go.Ground.textOnly Go.Departure.lateStores }, { on := 8, ground := Go.Ground.phase }, { on := 9, ground := Go.Ground.phase }, { on := 10, ground := Go.Ground.phase }, { on := 11, ground := Go.Ground.phase }, { on := 12, ground := Go.Ground.textOnly Go.Departure.lateStores }, { on := 13, ground := Go.Ground.textOnly Go.Departure.lateStores }, { on := 14, ground := Go.Ground.textOnly Go.Departure.lateStoresUnsure }, { on := 15, ground := Go.Ground.phase }, { on := 16, ground := Go.Ground.textOnly Go.Departure.lateStores }, { on := 17, ground := Go.Ground.textOnly Go.Departure.lateStores }, { on := 18, ground := Go.Ground.textOnly Go.Departure.lateStoresUnsure }, { on := 19, ground := Go.Ground.phase }, { on := 20, ground := Go.Ground.textOnly Go.Departure.lateStores }, { on := 21, ground := Go.Ground.textOnly Go.Departure.lateStores }, { on := 22, ground := Go.Ground.textOnly Go.Departure.lateStoresUnsure }, { on := 23, ground := Go.Ground.phase }], guard := none }) (v := ?v24) rfl (by kernel_rfl) (by kernel_rfl) (by kernel_rfl) (by decide) (fun h => absurd h (by decide)) (fun _ _ _ h => h) (Or.inl ⟨by rfl, ?hy24⟩) hS (fun hS => ?rest24)
  case hy24 =>
    intro w hSw
    clear hSw
    go_simp
    with_reducible rfl
  try simp only [Act.put, List.setIfInBounds_toArray, List.set_cons_zero, List.set_cons_succ]
  refine wpAnyT_one (i := 25) (o := { dst := none, op := Go.Op.store 3 (Go.Operand.tmp 118) (Go.Operand.tmp 105), type := 0, pos := "outright.go:136", after := #[{ on := 24, ground := Go.Ground.data }, { on := 11, ground := Go.Ground.data }, { on := 0, ground := Go.Ground.phase }, { on := 1, ground := Go.Ground.phase }, { on := 2, ground := Go.Ground.textOnly Go.Departure.lateStores }, { on := 3, ground := Go.Ground.textOnly Go.Departure.lateStores }, { on := 4, ground := Go.Ground.textOnly Go.Departure.lateStores }, { on := 5, ground := Go.Ground.textOnly Go.Departure.lateStores }, { on := 6, ground := Go.Ground.textOnly Go.Departure.lateStores }, { on := 7, ground := Go.Ground.textOnly Go.Departure.lateStores }, { on := 8, ground := Go.Ground.phase }, { on := 9, ground := Go.Ground.phase }, { on := 10, ground := Go.Ground.phase }, { on := 11, ground := Go.Ground.phase }, { on := 12, ground := Go.Ground.textOnly Go.Departure.lateStores }, { on := 13, ground := Go.Ground.textOnly Go.Departure.lateStores }, { on := 14, ground := Go.Ground.textOnly Go.Departure.lateStoresUnsure }, { on := 15, ground := Go.Ground.phase }, { on := 16, ground := Go.Ground.textOnly Go.Departure.lateStores }, { on := 17, ground := Go.Ground.textOnly Go.Departure.lateStores }, { on := 18, ground := Go.Ground.textOnly Go.Departure.lateStoresUnsure }, { on := 19, ground := Go.Ground.phase }, { on := 20, ground := Go.Ground.textOnly Go.Departure.lateStores }, { on := 21, ground := Go.Ground.textOnly Go.Departure.lateStores }, { on := 22, ground := Go.Ground.textOnly Go.Departure.lateStoresUnsure }, { on := 23, ground := Go.Ground.phase }], guard := none }) (by kernel_rfl) rfl (fun K hK => ?_)
  go_simp
  refine hK.out _ _ (.inl ⟨rfl, by decide⟩) (fun hS => ?_)
  clear hK K
  try simp only [Act.put, List.setIfInBounds_toArray, List.set_cons_zero, List.set_cons_succ]
  refine wpAnyT_take (i := 26) (oi := { dst := some 119, op := Go.Op.indexAddr 33 (Go.Operand.tmp 96) (Go.Operand.tmp 97), type := 0, pos := "outright.go:136", after := #[{ on := 2, ground := Go.Ground.data }, { on := 3, ground := Go.Ground.data }, { on := 0, ground := Go.Ground.phase }, { on := 1, ground := Go.Ground.phase }, { on := 2, ground := Go.Ground.phase }, { on := 3, ground := Go.Ground.phase }, { on := 4, ground := Go.Ground.textOnly Go.Departure.lateStores }, { on := 5, ground := Go.Ground.textOnly Go.Departure.lateStores }, { on := 6, ground := Go.Ground.textOnly Go.Departure.lateStores }, { on := 7, ground := Go.Ground.textOnly Go.Departure.lateStores }, { on := 8, ground := Go.Ground.phase }, { on := 9, ground := Go.Ground.phase }, { on := 10, ground := Go.Ground.phase }, { on := 11, ground := Go.Ground.phase }, { on := 12, ground := Go.Ground.phase }, { on := 13, ground := Go.Ground.phase }, { on := 14, ground := Go.Ground.phase }, { on := 15, ground := Go.Ground.phase }, { on := 16, ground := Go.Ground.textOnly Go.Departure.lateStores }, { on := 17, ground := Go.Ground.textOnly Go.Departure.lateStores }, { on := 18, ground := Go.Ground.textOnly Go.Departure.lateStoresUnsure }, { on := 19, ground := Go.Ground.phase }, { on := 20, ground := Go.Ground.textOnly Go.Departure.lateStores }, { on := 21, ground := Go.Ground.textOnly Go.Departure.lateStores }, { on := 22, ground := Go.Ground.textOnly Go.Departure.lateStoresUnsure }, { on := 23, ground := Go.Ground.phase }, { on := 24, ground := Go.Ground.phase }, { on := 25, ground := Go.Ground.phase }], guard := none }) (v := ?v26) rfl (by kernel_rfl) (by kernel_rfl) (by kernel_rfl) (by decide) (fun h => absurd h (by decide)) (fun _ _ _ h => h) (Or.inl ⟨by rfl, ?hy26⟩) hS (fun hS => ?rest26)
  case hy26 =>
    intro w hSw
    clear hSw
    go_simp
    with_reducible rfl
  try simp only [Act.put, List.setIfInBounds_toArray, List.set_cons_zero, List.set_cons_succ]
  refine wpAnyT_one (i := 27) (o := { dst := none, op := Go.Op.store 3 (Go.Operand.tmp 119) (Go.Operand.tmp 109), type := 0, pos := "outright.go:136", after := #[{ on := 26, ground := Go.Ground.data }, { on := 15, ground := Go.Ground.data }, { on := 25, ground := Go.Ground.chain }, { on := 0, ground := Go.Ground.phase }, { on := 1, ground := Go.Ground.phase }, { on := 2, ground := Go.Ground.phase }, { on := 3, ground := Go.Ground.phase }, { on := 4, ground := Go.Ground.textOnly Go.Departure.lateStores }, { on := 5, ground := Go.Ground.textOnly Go.Departure.lateStores }, { on := 6, ground := Go.Ground.textOnly Go.Departure.lateStores }, { on := 7, ground := Go.Ground.textOnly Go.Departure.lateStores }, { on := 8, ground := Go.Ground.phase }, { on := 9, ground := Go.Ground.phase }, { on := 10, ground := Go.Ground.phase }, { on := 11, ground := Go.Ground.phase }, { on := 12, ground := Go.Ground.phase }, { on := 13, ground := Go.Ground.phase }, { on := 14, ground := Go.Ground.phase }, { on := 15, ground := Go.Ground.phase }, { on := 16, ground := Go.Ground.textOnly Go.Departure.lateStores }, { on := 17, ground := Go.Ground.textOnly Go.Departure.lateStores }, { on := 18, ground := Go.Ground.textOnly Go.Departure.lateStoresUnsure }, { on := 19, ground := Go.Ground.phase }, { on := 20, ground := Go.Ground.textOnly Go.Departure.lateStores }, { on := 21, ground := Go.Ground.textOnly Go.Departure.lateStores }, { on := 22, ground := Go.Ground.textOnly Go.Departure.lateStoresUnsure }, { on := 23, ground := Go.Ground.phase }, { on := 24, ground := Go.Ground.phase }, { on := 25, ground := Go.Ground.phase }], guard := none }) (by kernel_rfl) rfl (fun K hK => ?_)
  go_simp
  refine hK.out _ _ (.inl ⟨rfl, by decide⟩) (fun hS => ?_)
  clear hK K
  try simp only [Act.put, List.setIfInBounds_toArray, List.set_cons_zero, List.set_cons_succ]
  refine wpAnyT_take (i := 28) (oi := { dst := some 120, op := Go.Op.indexAddr 33 (Go.Operand.tmp 98) (Go.Operand.tmp 99), type := 0, pos := "outright.go:136", after := #[{ on := 4, ground := Go.Ground.data }, { on := 5, ground := Go.Ground.data }, { on := 0, ground := Go.Ground.phase }, { on := 1, ground := Go.Ground.phase }, { on := 2, ground := Go.Ground.phase }, { on := 3, ground := Go.Ground.phase }, { on := 4, ground := Go.Ground.phase }, { on := 5, ground := Go.Ground.phase }, { on := 6, ground := Go.Ground.textOnly Go.Departure.lateStores }, { on := 7, ground := Go.Ground.textOnly Go.Departure.lateStores }, { on := 8, ground := Go.Ground.phase }, { on := 9, ground := Go.Ground.phase }, { on := 10, ground := Go.Ground.phase }, { on := 11, ground := Go.Ground.phase }, { on := 12, ground := Go.Ground.phase }, { on := 13, ground := Go.Ground.phase }, { on := 14, ground := Go.Ground.phase }, { on := 15, ground := Go.Ground.phase }, { on := 16, ground := Go.Ground.phase }, { on := 17, ground := Go.Ground.phase }, { on := 18, ground := Go.Ground.phase }, { on := 19, ground := Go.Ground.phase }, { on := 20, ground := Go.Ground.textOnly Go.Departure.lateStores }, { on := 21, ground := Go.Ground.textOnly Go.Departure.lateStores }, { on := 22, ground := Go.Ground.textOnly Go.Departure.lateStoresUnsure }, { on := 23, ground := Go.Ground.phase }, { on := 24, ground := Go.Ground.phase }, { on := 25, ground := Go.Ground.phase }, { on := 26, ground := Go.Ground.phase }, { on := 27, ground := Go.Ground.phase }], guard := none }) (v := ?v28) rfl (by kernel_rfl) (by kernel_rfl) (by kernel_rfl) (by decide) (fun h => absurd h (by decide)) (fun _ _ _ h => h) (Or.inl ⟨by rfl, ?hy28⟩) hS (fun hS => ?rest28)
  case hy28 =>
    intro w hSw
    clear hSw
    go_simp
    with_reducible rfl
  try simp only [Act.put, List.setIfInBounds_toArray, List.set_cons_zero, List.set_cons_succ]
  refine wpAnyT_one (i := 29) (o := { dst := none, op := Go.Op.store 3 (Go.Operand.tmp 120) (Go.Operand.tmp 113), type := 0, pos := "outright.go:136", after := #[{ on := 28, ground := Go.Ground.data }, { on := 19, ground := Go.Ground.data }, { on := 27, ground := Go.Ground.chain }, { on := 0, ground := Go.Ground.phase }, { on := 1, ground := Go.Ground.phase }, { on := 2, ground := Go.Ground.phase }, { on := 3, ground := Go.Ground.phase }, { on := 4, ground := Go.Ground.phase }, { on := 5, ground := Go.Ground.phase }, { on := 6, ground := Go.Ground.textOnly Go.Departure.lateStores }, { on := 7, ground := Go.Ground.textOnly Go.Departure.lateStores }, { on := 8, ground := Go.Ground.phase }, { on := 9, ground := Go.Ground.phase }, { on := 10, ground := Go.Ground.phase }, { on := 11, ground := Go.Ground.phase }, { on := 12, ground := Go.Ground.phase }, { on := 13, ground := Go.Ground.phase }, { on := 14, ground := Go.Ground.phase }, { on := 15, ground := Go.Ground.phase }, { on := 16, ground := Go.Ground.phase }, { on := 17, ground := Go.Ground.phase }, { on := 18, ground := Go.Ground.phase }, { on := 19, ground := Go.Ground.phase }, { on := 20, ground := Go.Ground.textOnly Go.Departure.lateStores }, { on := 21, ground := Go.Ground.textOnly Go.Departure.lateStores }, { on := 22, ground := Go.Ground.textOnly Go.Departure.lateStoresUnsure }, { on := 23, ground := Go.Ground.phase }, { on := 24, ground := Go.Ground.phase }, { on := 25, ground := Go.Ground.phase }, { on := 26, ground := Go.Ground.phase }, { on := 27, ground := Go.Ground.phase }], guard := none }) (by kernel_rfl) rfl (fun K hK => ?_)
  go_simp
  refine hK.out _ _ (.inl ⟨rfl, by decide⟩) (fun hS => ?_)
  clear hK K
  try simp only [Act.put, List.setIfInBounds_toArray, List.set_cons_zero, List.set_cons_succ]
  refine wpAnyT_take (i := 30) (oi := { dst := some 121, op := Go.Op.indexAddr 33 (Go.Operand.tmp 100) (Go.Operand.tmp 101), type := 0, pos := "outright.go:136", after := #[{ on := 6, ground := Go.Ground.data }, { on := 7, ground := Go.Ground.data }, { on := 0, ground := Go.Ground.phase }, { on := 1, ground := Go.Ground.phase }, { on := 2, ground := Go.Ground.phase }, { on := 3, ground := Go.Ground.phase }, { on := 4, ground := Go.Ground.phase }, { on := 5, ground := Go.Ground.phase }, { on := 6, ground := Go.Ground.phase }, { on := 7, ground := Go.Ground.phase }, { on := 8, ground := Go.Ground.phase }, { on := 9, ground := Go.Ground.phase }, { on := 10, ground := Go.Ground.phase }, { on := 11, ground := Go.Ground.phase }, { on := 12, ground := Go.Ground.phase }, { on := 13, ground := Go.Ground.phase }, { on := 14, ground := Go.Ground.phase }, { on := 15, ground := Go.Ground.phase }, { on := 16, ground := Go.Ground.phase }, { on := 17, ground := Go.Ground.phase }, { on := 18, ground := Go.Ground.phase }, { on := 19, ground := Go.Ground.phase }, { on := 20, ground := Go.Ground.phase }, { on := 21, ground := Go.Ground.phase }, { on := 22, ground := Go.Ground.phase }, { on := 23, ground := Go.Ground.phase }, { on := 24, ground := Go.Ground.phase }, { on := 25, ground := Go.Ground.phase }, { on := 26, ground := Go.Ground.phase }, { on := 27, ground := Go.Ground.phase }, { on := 28, ground := Go.Ground.phase }, { on := 29, ground := Go.Ground.phase }], guard := none }) (v := ?v30) rfl (by kernel_rfl) (by kernel_rfl) (by kernel_rfl) (by decide) (fun h => absurd h (by decide)) (fun _ _ _ h => h) (Or.inl ⟨by rfl, ?hy30⟩) hS (fun hS => ?rest30)
  case hy30 =>
    intro w hSw
    clear hSw
    go_simp
    with_reducible rfl
  try simp only [Act.put, List.setIfInBounds_toArray, List.set_cons_zero, List.set_cons_succ]
  refine wpAnyT_one (i := 31) (o := { dst := none, op := Go.Op.store 3 (Go.Operand.tmp 121) (Go.Operand.tmp 117), type := 0, pos := "outright.go:136", after := #[{ on := 30, ground := Go.Ground.data }, { on := 23, ground := Go.Ground.data }, { on := 29, ground := Go.Ground.chain }, { on := 0, ground := Go.Ground.phase }, { on := 1, ground := Go.Ground.phase }, { on := 2, ground := Go.Ground.phase }, { on := 3, ground := Go.Ground.phase }, { on := 4, ground := Go.Ground.phase }, { on := 5, ground := Go.Ground.phase }, { on := 6, ground := Go.Ground.phase }, { on := 7, ground := Go.Ground.phase }, { on := 8, ground := Go.Ground.phase }, { on := 9, ground := Go.Ground.phase }, { on := 10, ground := Go.Ground.phase }, { on := 11, ground := Go.Ground.phase }, { on := 12, ground := Go.Ground.phase }, { on := 13, ground := Go.Ground.phase }, { on := 14, ground := Go.Ground.phase }, { on := 15, ground := Go.Ground.phase }, { on := 16, ground := Go.Ground.phase }, { on := 17, ground := Go.Ground.phase }, { on := 18, ground := Go.Ground.phase }, { on := 19, ground := Go.Ground.phase }, { on := 20, ground := Go.Ground.phase }, { on := 21, ground := Go.Ground.phase }, { on := 22, ground := Go.Ground.phase }, { on := 23, ground := Go.Ground.phase }, { on := 24, ground := Go.Ground.phase }, { on := 25, ground := Go.Ground.phase }, { on := 26, ground := Go.Ground.phase }, { on := 27, ground := Go.Ground.phase }, { on := 28, ground := Go.Ground.phase }, { on := 29, ground := Go.Ground.phase }], guard := none }) (by kernel_rfl) rfl (fun K hK => ?_)
  go_simp
  refine hK.out _ _ (.inl ⟨rfl, by decide⟩) (fun hS => ?_)
  clear hK K
  try simp only [Act.put, List.setIfInBounds_toArray, List.set_cons_zero, List.set_cons_succ]
  refine wpAnyT_done (by kernel_rfl) ?_ _
  refine NoPanic.normal ?_
  exact HQ.out _ _ _ _ _ _ _ _ _ _ _ _ _ _ _ _ _ _ _ _ _ _ _ _ _ _ _ _
end
end Go.Proofs.Ytcpgiadhmmmafaa
