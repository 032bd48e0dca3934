/- The region of package twin's Split that makes both lists. Printed by wip/gensplits.py. -/
import Derived.Test.YtmfendfpjpbhdaaDoorSplitC
namespace Go.Proofs.YtmfendfpjpbhdaaDoor
open Go.RowKit Go.Maps
set_option maxHeartbeats 3200000

noncomputable def splitRegion8 : Code := (Tryd.f12.body.bind (regionBy 8)).getD .skip
theorem Tryd.infoNums : (Tryd.prog.info? 36).map (fun i => (i.zero, i.size, i.bytes)) = some (some (.slice none 0 0), 1, 24) := by kernel_rfl
section
variable {w0 wq wr w' : World} {ts : List Thing}
theorem spl_made {p5 p6 p7 p8 p9 p14 pa pb ga gb N lb co : Nat} {level n : Int} {ao : Option Addr} {vv : Value} (h : Lab wq wr (Thing.row 36 1 (.slice (some ⟨gb, 0, none⟩) N N) N (List.replicate N (Value.slice none 0 0)) :: Thing.row 36 1 (.slice (some ⟨ga, 0, none⟩) N N) N (List.replicate N (Value.slice none 0 0)) :: Thing.box pa 38 #[.slice (some ⟨ga, 0, none⟩) N N] :: Thing.box pb 38 #[.slice (some ⟨gb, 0, none⟩) N N] :: splK p5 p6 p7 p8 p9 p14 lb level n (.slice ao N co) vv :: ts)) :
    Lab wq wr (splThings pa pb ga gb N N N (List.replicate N (Value.slice none 0 0)) (List.replicate N (Value.slice none 0 0)) (List.replicate N []) (List.replicate N []) (splK p5 p6 p7 p8 p9 p14 lb level n (.slice ao N co) vv) ++ ts) := by
  have h1 := (Lab.lists_nil (k := .u64) (E := 44) h).swap
  have h2 := Lab.lists_nil (k := .u64) (E := 44) h1
  exact h2.rot4.rot4
set_option maxRecDepth 100000 in
theorem split_region8 {u15 u16 u17 u18 u19 u20 u21 u22 u23 u24 u25 u26 u27 u28 u29 u30 u31 u32 u33 u34 u35 u36 u37 : Value} {Q : Exit → Act → World → Prop} {ds : List Deferred} {z0 z1 z2 z3 z4 z5 z6 z8 z9 z12 z13 z14 : Value} {p5 p6 p7 p8 p9 p14 pa pb N lb co : Nat} {level n : Int} {ao : Option Addr} {vv : Value} (hN : N ≤ 32)
    (h : Lab wq wr (Thing.box pa 38 #[.slice none 0 0] :: Thing.box pb 38 #[.slice none 0 0] :: splK p5 p6 p7 p8 p9 p14 lb level n (.slice ao N co) vv :: ts)) (hpa : pa ≠ p7) (hab : pa ≠ pb)
    (hQ : ∀ ga gb v30 v31 v32 v33 v34 v35 w3, Lab wq w3 (splThings pa pb ga gb N N N (List.replicate N (Value.slice none 0 0)) (List.replicate N (Value.slice none 0 0)) (List.replicate N []) (List.replicate N []) (splK p5 p6 p7 p8 p9 p14 lb level n (.slice ao N co) vv) ++ ts) → Q .normal ⟨(List.toArray (z0 :: z1 :: z2 :: z3 :: z4 :: z5 :: z6 :: .pointer (some ⟨p7, 0, none⟩) :: z8 :: z9 :: .pointer (some ⟨pa, 0, none⟩) :: .pointer (some ⟨pb, 0, none⟩) :: z12 :: z13 :: z14 :: u15 :: u16 :: u17 :: u18 :: u19 :: u20 :: u21 :: u22 :: u23 :: u24 :: u25 :: u26 :: u27 :: u28 :: u29 :: v30 :: v31 :: v32 :: v33 :: v34 :: v35 :: u36 :: u37 :: [])), ds⟩ w3) :
    Code.wp Tryd.prog splitRegion8 Q ⟨(List.toArray (z0 :: z1 :: z2 :: z3 :: z4 :: z5 :: z6 :: .pointer (some ⟨p7, 0, none⟩) :: z8 :: z9 :: .pointer (some ⟨pa, 0, none⟩) :: .pointer (some ⟨pb, 0, none⟩) :: z12 :: z13 :: z14 :: u15 :: u16 :: u17 :: u18 :: u19 :: u20 :: u21 :: u22 :: u23 :: u24 :: u25 :: u26 :: u27 :: u28 :: u29 :: u30 :: u31 :: u32 :: u33 :: u34 :: u35 :: u36 :: u37 :: [])), ds⟩ wr := by
  have hmk : ∀ w, (Instr.makeSlice 38 (.int .i64 (N : Int)) (.int .i64 (N : Int))).run Tryd.prog w = .ok (.slice (some ⟨w.heap.size, 0, none⟩) N N) (w.alloc (.cells (madeCells #[.slice none 0 0] N) 36)) :=
    run_make_row' (P := Tryd.prog) 38 36 (.slice none 0 0) 24 Tryd.underlying38 Tryd.infoNums rfl .i64 .i64 N (by omega) (by omega)
  have hN2 : N ≤ maxLen := by unfold maxLen; omega
  have hap := Ne.symm hpa
  have hba := Ne.symm hab
  have HL := Lib.hid h.drew1; have HQ := Lib.hid hQ
  have HT := Lib.hid (splK_cells h.drew1.third).c7
  clear h hQ hN
  conv => arg 2; whnf
  refine wp_region_noPanic ?_
  refine wp_region_any (by kernel_rfl) (wpAny_of_T (S := (SUpto (fun w => w.cell? ⟨p7, 0, none⟩ = some (.slice ao N co)) 7 [0, 3])) _ _ _ _ ?_)
  have hS : (SUpto (fun w => w.cell? ⟨p7, 0, none⟩ = some (.slice ao N co)) 7 [0, 3]) (Array.replicate 8 false) wr.drew := .inr ⟨rfl, HT.out⟩
  refine wpAnyT_takeU (i := 0) (oi := { dst := some 30, op := Go.Op.load 23 (Go.Operand.tmp 7), type := 23, pos := "twin.go:109", after := #[], guard := none }) (v := ?v0) rfl (by kernel_rfl) (by kernel_rfl) (by kernel_rfl) (by decide) (fun _ => by kernel_rfl) (fun _ _ _ h => h) (Or.inl ⟨by rfl, ?hy0⟩) hS (fun hS => ?rest0)
  case hy0 =>
    intro w hSw
    have f0 := hSw (by decide)
    clear hSw
    go_simp
    with_reducible rfl
  try simp only [Act.put, List.setIfInBounds_toArray, List.set_cons_zero, List.set_cons_succ]
  refine wpAnyT_takeU (i := 1) (oi := { dst := some 31, op := Go.Op.call { callee := Go.Callee.builtin Go.Builtin.len, args := #[Go.Operand.tmp 30], argTypes := #[23] }, type := 3, pos := "twin.go:109", after := #[{ on := 0, ground := Go.Ground.data }], guard := none }) (v := ?v1) rfl (by kernel_rfl) (by kernel_rfl) (by kernel_rfl) (by decide) (fun h => absurd h (by decide)) (fun _ _ _ h => h) (Or.inl ⟨by rfl, ?hy1⟩) hS (fun hS => ?rest1)
  case hy1 =>
    intro w hSw
    clear hSw
    go_simp
    with_reducible rfl
  try simp only [Act.put, List.setIfInBounds_toArray, List.set_cons_zero, List.set_cons_succ]
  refine wpAnyT_takeU (i := 3) (oi := { dst := some 33, op := Go.Op.load 23 (Go.Operand.tmp 7), type := 23, pos := "twin.go:109", after := #[], guard := none }) (v := ?v3) rfl (by kernel_rfl) (by kernel_rfl) (by kernel_rfl) (by decide) (fun _ => by kernel_rfl) (fun _ _ _ h => h) (Or.inl ⟨by rfl, ?hy3⟩) hS (fun hS => ?rest3)
  case hy3 =>
    intro w hSw
    have f0 := hSw (by decide)
    clear hSw
    go_simp
    with_reducible rfl
  try simp only [Act.put, List.setIfInBounds_toArray, List.set_cons_zero, List.set_cons_succ]
  refine wpAnyT_takeU (i := 4) (oi := { dst := some 34, op := Go.Op.call { callee := Go.Callee.builtin Go.Builtin.len, args := #[Go.Operand.tmp 33], argTypes := #[23] }, type := 3, pos := "twin.go:109", after := #[{ on := 3, ground := Go.Ground.data }], guard := none }) (v := ?v4) rfl (by kernel_rfl) (by kernel_rfl) (by kernel_rfl) (by decide) (fun h => absurd h (by decide)) (fun _ _ _ h => h) (Or.inl ⟨by rfl, ?hy4⟩) hS (fun hS => ?rest4)
  case hy4 =>
    intro w hSw
    clear hSw
    go_simp
    with_reducible rfl
  try simp only [Act.put, List.setIfInBounds_toArray, List.set_cons_zero, List.set_cons_succ]
  change wpAnyT _ _ _ _ _ _ _ _ wr.drew
  clear hS
  generalize wr.drew = wc at HL HT ⊢
  have hM : ∀ wx (t2 : List Thing), Lab wq wx t2 → Lab wq (wx.alloc (.cells (madeCells #[.slice none 0 0] N) 36)) (Thing.row 36 1 (.slice (some ⟨wx.heap.size, 0, none⟩) N N) N (List.replicate N (Value.slice none 0 0)) :: t2) := fun wx t2 h => h.make_row N 36 _ hN2
  refine wpAnyT_two (i := 2) (j := 5) (o := { dst := some 32, op := Go.Op.makeSlice 38 (Go.Operand.tmp 31) (Go.Operand.tmp 31), type := 38, pos := "twin.go:109", after := #[{ on := 1, ground := Go.Ground.data }, { on := 1, ground := Go.Ground.data }], guard := none }) (o' := { dst := some 35, op := Go.Op.makeSlice 38 (Go.Operand.tmp 34) (Go.Operand.tmp 34), type := 38, pos := "twin.go:109", after := #[{ on := 4, ground := Go.Ground.data }, { on := 4, ground := Go.Ground.data }], guard := none }) (by kernel_rfl) rfl rfl (fun K hK => ?_) (fun K hK => ?_)
  · go_simp
    have HL1 := Lib.hid (hM wc _ HL.out)
    have HT1 := Lib.hid (cell_later (below_new wc (.cells (madeCells #[.slice none 0 0] N) 36)) HT.out)
    obtain ⟨ga, hg⟩ : ∃ ga, wc.heap.size = ga := ⟨_, rfl⟩
    rw [hg] at HL1 ⊢
    refine hK.out _ _ (.inr ⟨rfl, HT1.out⟩) (fun hS => ?_)
    clear hK K hS hg HL HT
    generalize wc.alloc (.cells (madeCells #[.slice none 0 0] N) 36) = wx1 at HL1 HT1 ⊢
    try simp only [Act.put, List.setIfInBounds_toArray, List.set_cons_zero, List.set_cons_succ]
    refine wpAnyT_two (i := 5) (j := 6) (o := { dst := some 35, op := Go.Op.makeSlice 38 (Go.Operand.tmp 34) (Go.Operand.tmp 34), type := 38, pos := "twin.go:109", after := #[{ on := 4, ground := Go.Ground.data }, { on := 4, ground := Go.Ground.data }], guard := none }) (o' := { dst := none, op := Go.Op.store 38 (Go.Operand.tmp 10) (Go.Operand.tmp 32), type := 0, pos := "twin.go:109", after := #[{ on := 2, ground := Go.Ground.data }, { on := 0, ground := Go.Ground.phase }, { on := 1, ground := Go.Ground.phase }, { on := 2, ground := Go.Ground.phase }, { on := 3, ground := Go.Ground.textOnly Go.Departure.lateStoresUnsure }, { on := 4, ground := Go.Ground.textOnly Go.Departure.lateStoresUnsure }, { on := 5, ground := Go.Ground.textOnly Go.Departure.lateStoresUnsure }], guard := none }) (by kernel_rfl) rfl rfl (fun K hK => ?_) (fun K hK => ?_)
    · go_simp
      have HL2 := Lib.hid (hM wx1 _ HL1.out)
      have HT2 := Lib.hid (cell_later (below_new wx1 (.cells (madeCells #[.slice none 0 0] N) 36)) HT1.out)
      obtain ⟨gb, hg⟩ : ∃ gb, wx1.heap.size = gb := ⟨_, rfl⟩
      rw [hg] at HL2 ⊢
      refine hK.out _ _ (.inr ⟨rfl, HT2.out⟩) (fun hS => ?_)
      clear hK K hS hg HL1 HT1
      generalize wx1.alloc (.cells (madeCells #[.slice none 0 0] N) 36) = wx2 at HL2 HT2 ⊢
      try simp only [Act.put, List.setIfInBounds_toArray, List.set_cons_zero, List.set_cons_succ]
      refine wpAnyT_one (i := 6) (o := { dst := none, op := Go.Op.store 38 (Go.Operand.tmp 10) (Go.Operand.tmp 32), type := 0, pos := "twin.go:109", after := #[{ on := 2, ground := Go.Ground.data }, { on := 0, ground := Go.Ground.phase }, { on := 1, ground := Go.Ground.phase }, { on := 2, ground := Go.Ground.phase }, { on := 3, ground := Go.Ground.textOnly Go.Departure.lateStoresUnsure }, { on := 4, ground := Go.Ground.textOnly Go.Departure.lateStoresUnsure }, { on := 5, ground := Go.Ground.textOnly Go.Departure.lateStoresUnsure }], guard := none }) (by kernel_rfl) rfl (fun K hK => ?_)
      have fa := frozen_of_row wx2 pa 0 _ _ (Lab.box1 HL2.out.rot3)
      have ca : wx2.cell? ⟨pa, 0, none⟩ = some (.slice none 0 0) := by rw [cell_of_row _ pa 0 _ _ _ (Lab.box1 HL2.out.rot3)]; rfl
      go_simp
      have HL3 := Lib.hid (Lab.store HL2.out.rot3 0 (.slice (some ⟨ga, 0, none⟩) N N))
      have HT3 := Lib.hid (splK_cells (HL3.out.holds (splK p5 p6 p7 p8 p9 p14 lb level n (.slice ao N co) vv) (by simp))).c7
      refine hK.out _ _ (.inr ⟨rfl, HT3.out⟩) (fun hS => ?_)
      clear hK K hS fa ca HL2 HT2
      generalize wx2.setCell ⟨pa, 0, none⟩ (.slice (some ⟨ga, 0, none⟩) N N) = wx3 at HL3 HT3 ⊢
      try simp only [Act.put, List.setIfInBounds_toArray, List.set_cons_zero, List.set_cons_succ]
      refine wpAnyT_one (i := 7) (o := { dst := none, op := Go.Op.store 38 (Go.Operand.tmp 11) (Go.Operand.tmp 35), type := 0, pos := "twin.go:109", after := #[{ on := 5, ground := Go.Ground.data }, { on := 6, ground := Go.Ground.chain }, { on := 0, ground := Go.Ground.phase }, { on := 1, ground := Go.Ground.phase }, { on := 2, ground := Go.Ground.phase }, { on := 3, ground := Go.Ground.phase }, { on := 4, ground := Go.Ground.phase }, { on := 5, ground := Go.Ground.phase }, { on := 6, ground := Go.Ground.phase }], guard := none }) (by kernel_rfl) rfl (fun K hK => ?_)
      have fa := frozen_of_row wx3 pb 0 _ _ (Lab.box1 HL3.out.rot4)
      have ca : wx3.cell? ⟨pb, 0, none⟩ = some (.slice none 0 0) := by rw [cell_of_row _ pb 0 _ _ _ (Lab.box1 HL3.out.rot4)]; rfl
      go_simp
      have HL4 := Lib.hid (Lab.store HL3.out.rot4 0 (.slice (some ⟨gb, 0, none⟩) N N))
      refine hK.out _ _ (.inl ⟨rfl, by decide⟩) (fun hS => ?_)
      clear hK K hS fa ca HL3 HT3
      try simp only [Act.put, List.setIfInBounds_toArray, List.set_cons_zero, List.set_cons_succ]
      refine wpAnyT_done (by kernel_rfl) ?_ _
      refine NoPanic.normal ?_
      exact HQ.out _ _ _ _ _ _ _ _ _ (spl_made HL4.out.rot5.swap.rot3.rot5.rot5)
    · have fa := frozen_of_row wx1 pa 0 _ _ (Lab.box1 HL1.out.swap)
      have ca : wx1.cell? ⟨pa, 0, none⟩ = some (.slice none 0 0) := by rw [cell_of_row _ pa 0 _ _ _ (Lab.box1 HL1.out.swap)]; rfl
      go_simp
      have HL2 := Lib.hid (Lab.store HL1.out.swap 0 (.slice (some ⟨ga, 0, none⟩) N N))
      have HT2 := Lib.hid (splK_cells (HL2.out.holds (splK p5 p6 p7 p8 p9 p14 lb level n (.slice ao N co) vv) (by simp))).c7
      refine hK.out _ _ (.inr ⟨rfl, HT2.out⟩) (fun hS => ?_)
      clear hK K hS fa ca HL1 HT1
      generalize wx1.setCell ⟨pa, 0, none⟩ (.slice (some ⟨ga, 0, none⟩) N N) = wx2 at HL2 HT2 ⊢
      try simp only [Act.put, List.setIfInBounds_toArray, List.set_cons_zero, List.set_cons_succ]
      refine wpAnyT_one (i := 5) (o := { dst := some 35, op := Go.Op.makeSlice 38 (Go.Operand.tmp 34) (Go.Operand.tmp 34), type := 38, pos := "twin.go:109", after := #[{ on := 4, ground := Go.Ground.data }, { on := 4, ground := Go.Ground.data }], guard := none }) (by kernel_rfl) rfl (fun K hK => ?_)
      go_simp
      have HL3 := Lib.hid (hM wx2 _ HL2.out)
      have HT3 := Lib.hid (cell_later (below_new wx2 (.cells (madeCells #[.slice none 0 0] N) 36)) HT2.out)
      obtain ⟨gb, hg⟩ : ∃ gb, wx2.heap.size = gb := ⟨_, rfl⟩
      rw [hg] at HL3 ⊢
      refine hK.out _ _ (.inr ⟨rfl, HT3.out⟩) (fun hS => ?_)
      clear hK K hS hg HL2 HT2
      generalize wx2.alloc (.cells (madeCells #[.slice none 0 0] N) 36) = wx3 at HL3 HT3 ⊢
      try simp only [Act.put, List.setIfInBounds_toArray, List.set_cons_zero, List.set_cons_succ]
      refine wpAnyT_one (i := 7) (o := { dst := none, op := Go.Op.store 38 (Go.Operand.tmp 11) (Go.Operand.tmp 35), type := 0, pos := "twin.go:109", after := #[{ on := 5, ground := Go.Ground.data }, { on := 6, ground := Go.Ground.chain }, { on := 0, ground := Go.Ground.phase }, { on := 1, ground := Go.Ground.phase }, { on := 2, ground := Go.Ground.phase }, { on := 3, ground := Go.Ground.phase }, { on := 4, ground := Go.Ground.phase }, { on := 5, ground := Go.Ground.phase }, { on := 6, ground := Go.Ground.phase }], guard := none }) (by kernel_rfl) rfl (fun K hK => ?_)
      have fa := frozen_of_row wx3 pb 0 _ _ (Lab.box1 HL3.out.rot4)
      have ca : wx3.cell? ⟨pb, 0, none⟩ = some (.slice none 0 0) := by rw [cell_of_row _ pb 0 _ _ _ (Lab.box1 HL3.out.rot4)]; rfl
      go_simp
      have HL4 := Lib.hid (Lab.store HL3.out.rot4 0 (.slice (some ⟨gb, 0, none⟩) N N))
      refine hK.out _ _ (.inl ⟨rfl, by decide⟩) (fun hS => ?_)
      clear hK K hS fa ca HL3 HT3
      try simp only [Act.put, List.setIfInBounds_toArray, List.set_cons_zero, List.set_cons_succ]
      refine wpAnyT_done (by kernel_rfl) ?_ _
      refine NoPanic.normal ?_
      exact HQ.out _ _ _ _ _ _ _ _ _ (spl_made HL4.out.rot5.swap.rot4.rot5.rot5)
  · go_simp
    have HL1 := Lib.hid (hM wc _ HL.out)
    have HT1 := Lib.hid (cell_later (below_new wc (.cells (madeCells #[.slice none 0 0] N) 36)) HT.out)
    obtain ⟨gb, hg⟩ : ∃ gb, wc.heap.size = gb := ⟨_, rfl⟩
    rw [hg] at HL1 ⊢
    refine hK.out _ _ (.inr ⟨rfl, HT1.out⟩) (fun hS => ?_)
    clear hK K hS hg HL HT
    generalize wc.alloc (.cells (madeCells #[.slice none 0 0] N) 36) = wx1 at HL1 HT1 ⊢
    try simp only [Act.put, List.setIfInBounds_toArray, List.set_cons_zero, List.set_cons_succ]
    refine wpAnyT_one (i := 2) (o := { dst := some 32, op := Go.Op.makeSlice 38 (Go.Operand.tmp 31) (Go.Operand.tmp 31), type := 38, pos := "twin.go:109", after := #[{ on := 1, ground := Go.Ground.data }, { on := 1, ground := Go.Ground.data }], guard := none }) (by kernel_rfl) rfl (fun K hK => ?_)
    go_simp
    have HL2 := Lib.hid (hM wx1 _ HL1.out)
    have HT2 := Lib.hid (cell_later (below_new wx1 (.cells (madeCells #[.slice none 0 0] N) 36)) HT1.out)
    obtain ⟨ga, hg⟩ : ∃ ga, wx1.heap.size = ga := ⟨_, rfl⟩
    rw [hg] at HL2 ⊢
    refine hK.out _ _ (.inr ⟨rfl, HT2.out⟩) (fun hS => ?_)
    clear hK K hS hg HL1 HT1
    generalize wx1.alloc (.cells (madeCells #[.slice none 0 0] N) 36) = wx2 at HL2 HT2 ⊢
    try simp only [Act.put, List.setIfInBounds_toArray, List.set_cons_zero, List.set_cons_succ]
    refine wpAnyT_one (i := 6) (o := { dst := none, op := Go.Op.store 38 (Go.Operand.tmp 10) (Go.Operand.tmp 32), type := 0, pos := "twin.go:109", after := #[{ on := 2, ground := Go.Ground.data }, { on := 0, ground := Go.Ground.phase }, { on := 1, ground := Go.Ground.phase }, { on := 2, ground := Go.Ground.phase }, { on := 3, ground := Go.Ground.textOnly Go.Departure.lateStoresUnsure }, { on := 4, ground := Go.Ground.textOnly Go.Departure.lateStoresUnsure }, { on := 5, ground := Go.Ground.textOnly Go.Departure.lateStoresUnsure }], guard := none }) (by kernel_rfl) rfl (fun K hK => ?_)
    have fa := frozen_of_row wx2 pa 0 _ _ (Lab.box1 HL2.out.rot3)
    have ca : wx2.cell? ⟨pa, 0, none⟩ = some (.slice none 0 0) := by rw [cell_of_row _ pa 0 _ _ _ (Lab.box1 HL2.out.rot3)]; rfl
    go_simp
    have HL3 := Lib.hid (Lab.store HL2.out.rot3 0 (.slice (some ⟨ga, 0, none⟩) N N))
    have HT3 := Lib.hid (splK_cells (HL3.out.holds (splK p5 p6 p7 p8 p9 p14 lb level n (.slice ao N co) vv) (by simp))).c7
    refine hK.out _ _ (.inr ⟨rfl, HT3.out⟩) (fun hS => ?_)
    clear hK K hS fa ca HL2 HT2
    generalize wx2.setCell ⟨pa, 0, none⟩ (.slice (some ⟨ga, 0, none⟩) N N) = wx3 at HL3 HT3 ⊢
    try simp only [Act.put, List.setIfInBounds_toArray, List.set_cons_zero, List.set_cons_succ]
    refine wpAnyT_one (i := 7) (o := { dst := none, op := Go.Op.store 38 (Go.Operand.tmp 11) (Go.Operand.tmp 35), type := 0, pos := "twin.go:109", after := #[{ on := 5, ground := Go.Ground.data }, { on := 6, ground := Go.Ground.chain }, { on := 0, ground := Go.Ground.phase }, { on := 1, ground := Go.Ground.phase }, { on := 2, ground := Go.Ground.phase }, { on := 3, ground := Go.Ground.phase }, { on := 4, ground := Go.Ground.phase }, { on := 5, ground := Go.Ground.phase }, { on := 6, ground := Go.Ground.phase }], guard := none }) (by kernel_rfl) rfl (fun K hK => ?_)
    have fa := frozen_of_row wx3 pb 0 _ _ (Lab.box1 HL3.out.rot4)
    have ca : wx3.cell? ⟨pb, 0, none⟩ = some (.slice none 0 0) := by rw [cell_of_row _ pb 0 _ _ _ (Lab.box1 HL3.out.rot4)]; rfl
    go_simp
    have HL4 := Lib.hid (Lab.store HL3.out.rot4 0 (.slice (some ⟨gb, 0, none⟩) N N))
    refine hK.out _ _ (.inl ⟨rfl, by decide⟩) (fun hS => ?_)
    clear hK K hS fa ca HL3 HT3
    try simp only [Act.put, List.setIfInBounds_toArray, List.set_cons_zero, List.set_cons_succ]
    refine wpAnyT_done (by kernel_rfl) ?_ _
    refine NoPanic.normal ?_
    exact HQ.out _ _ _ _ _ _ _ _ _ (spl_made HL4.out.rot5.swap.rot3.rot4.rot5)
end
end Go.Proofs.YtmfendfpjpbhdaaDoor
