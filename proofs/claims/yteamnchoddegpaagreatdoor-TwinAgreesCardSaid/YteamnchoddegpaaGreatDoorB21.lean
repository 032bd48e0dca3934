/- SplitS, SplitD, SplitR, RawP, TwAgP: joined by wip/bundle.py. -/
import Derived.Test.YteamnchoddegpaaGreatDoorB1
import Derived.Test.YteamnchoddegpaaGreatDoorB2
import Derived.Test.YteamnchoddegpaaGreatDoorB3
import Derived.Test.YteamnchoddegpaaGreatDoorB4
import Derived.Test.YteamnchoddegpaaGreatDoorB5
import Derived.Test.YteamnchoddegpaaGreatDoorB6
import Derived.Test.YteamnchoddegpaaGreatDoorB7
import Derived.Test.YteamnchoddegpaaGreatDoorB8
import Derived.Test.YteamnchoddegpaaGreatDoorB9
import Derived.Test.YteamnchoddegpaaGreatDoorB10
import Derived.Test.YteamnchoddegpaaGreatDoorB11
import Derived.Test.YteamnchoddegpaaGreatDoorB12
import Derived.Test.YteamnchoddegpaaGreatDoorB13
import Derived.Test.YteamnchoddegpaaGreatDoorB14
import Derived.Test.YteamnchoddegpaaGreatDoorB15
import Derived.Test.YteamnchoddegpaaGreatDoorB16
import Derived.Test.YteamnchoddegpaaGreatDoorB17
import Derived.Test.YteamnchoddegpaaGreatDoorB18
import Derived.Test.YteamnchoddegpaaGreatDoorB19
import Derived.Test.YteamnchoddegpaaGreatDoorB20
import Derived.Laws.EntriesVeiled
import Derived.BigQuiet
namespace Go.Proofs.YteamnchoddegpaaGreatDoor
open Go.RowKit Go.Maps
set_option maxHeartbeats 3200000
noncomputable def splitRegion8 : Code := (Tryz.f19.body.bind (regionBy 8)).getD .skip
theorem Tryz.infoNums : (Tryz.prog.info? 25).map (fun i => (i.zero, i.size, i.bytes)) = some (some (.slice none 0 0), 1, 24) := by kernel_rfl
section
variable {w0 wq wr w' : World} {ts : List Thing}
theorem spl_made {p5 p6 p7 p8 p9 p14 pa pb ga gb N lb co : Nat} {level n : Int} {ao : Option Addr} {vv : Value} (h : Lab wq wr (Thing.row 25 1 (.slice (some ⟨gb, 0, none⟩) N N) N (List.replicate N (Value.slice none 0 0)) :: Thing.row 25 1 (.slice (some ⟨ga, 0, none⟩) N N) N (List.replicate N (Value.slice none 0 0)) :: Thing.box pa 54 #[.slice (some ⟨ga, 0, none⟩) N N] :: Thing.box pb 54 #[.slice (some ⟨gb, 0, none⟩) N N] :: splK p5 p6 p7 p8 p9 p14 lb level n (.slice ao N co) vv :: ts)) :
    Lab wq wr (splThings pa pb ga gb N N N (List.replicate N (Value.slice none 0 0)) (List.replicate N (Value.slice none 0 0)) (List.replicate N []) (List.replicate N []) (splK p5 p6 p7 p8 p9 p14 lb level n (.slice ao N co) vv) ++ ts) := by
  have h1 := (Lab.lists_nil (k := .u64) (E := 43) h).swap
  have h2 := Lab.lists_nil (k := .u64) (E := 43) h1
  exact h2.rot4.rot4
set_option maxRecDepth 100000 in
theorem split_region8 {u15 u16 u17 u18 u19 u20 u21 u22 u23 u24 u25 u26 u27 u28 u29 u30 u31 u32 u33 u34 u35 u36 u37 : Value} {Q : Exit → Act → World → Prop} {ds : List Deferred} {z0 z1 z2 z3 z4 z5 z6 z8 z9 z12 z13 z14 : Value} {p5 p6 p7 p8 p9 p14 pa pb N lb co : Nat} {level n : Int} {ao : Option Addr} {vv : Value} (hN : N ≤ 32)
    (h : Lab wq wr (Thing.box pa 54 #[.slice none 0 0] :: Thing.box pb 54 #[.slice none 0 0] :: splK p5 p6 p7 p8 p9 p14 lb level n (.slice ao N co) vv :: ts)) (hpa : pa ≠ p7) (hab : pa ≠ pb)
    (hQ : ∀ ga gb v30 v31 v32 v33 v34 v35 w3, Lab wq w3 (splThings pa pb ga gb N N N (List.replicate N (Value.slice none 0 0)) (List.replicate N (Value.slice none 0 0)) (List.replicate N []) (List.replicate N []) (splK p5 p6 p7 p8 p9 p14 lb level n (.slice ao N co) vv) ++ ts) → Q .normal ⟨(List.toArray (z0 :: z1 :: z2 :: z3 :: z4 :: z5 :: z6 :: .pointer (some ⟨p7, 0, none⟩) :: z8 :: z9 :: .pointer (some ⟨pa, 0, none⟩) :: .pointer (some ⟨pb, 0, none⟩) :: z12 :: z13 :: z14 :: u15 :: u16 :: u17 :: u18 :: u19 :: u20 :: u21 :: u22 :: u23 :: u24 :: u25 :: u26 :: u27 :: u28 :: u29 :: v30 :: v31 :: v32 :: v33 :: v34 :: v35 :: u36 :: u37 :: [])), ds⟩ w3) :
    Code.wp Tryz.prog splitRegion8 Q ⟨(List.toArray (z0 :: z1 :: z2 :: z3 :: z4 :: z5 :: z6 :: .pointer (some ⟨p7, 0, none⟩) :: z8 :: z9 :: .pointer (some ⟨pa, 0, none⟩) :: .pointer (some ⟨pb, 0, none⟩) :: z12 :: z13 :: z14 :: u15 :: u16 :: u17 :: u18 :: u19 :: u20 :: u21 :: u22 :: u23 :: u24 :: u25 :: u26 :: u27 :: u28 :: u29 :: u30 :: u31 :: u32 :: u33 :: u34 :: u35 :: u36 :: u37 :: [])), ds⟩ wr := by
  have hmk : ∀ w, (Instr.makeSlice 54 (.int .i64 (N : Int)) (.int .i64 (N : Int))).run Tryz.prog w = .ok (.slice (some ⟨w.heap.size, 0, none⟩) N N) (w.alloc (.cells (madeCells #[.slice none 0 0] N) 25)) :=
    run_make_row' (P := Tryz.prog) 54 25 (.slice none 0 0) 24 Tryz.underlying54 Tryz.infoNums rfl .i64 .i64 N (by omega) (by omega)
  have hN2 : N ≤ maxLen := by unfold maxLen; omega
  have hap := Ne.symm hpa
  have hba := Ne.symm hab
  have HL := Lib.hid h.drew1; have HQ := Lib.hid hQ
  have HT := Lib.hid (splK_cells h.drew1.third).c7
  clear h hQ hN
  conv => arg 2; whnf
  refine wp_region_noPanic ?_
  refine wp_region_any (by kernel_rfl) (wpAny_of_T (S := (SUpto (fun w => w.cell? ⟨p7, 0, none⟩ = some (.slice ao N co)) 7 [0, 3])) _ _ _ _ ?_)
  have hS : (SUpto (fun w => w.cell? ⟨p7, 0, none⟩ = some (.slice ao N co)) 7 [0, 3]) (Array.replicate 8 false) wr.drew := .inr ⟨rfl, HT.out⟩
  refine wpAnyT_takeU (i := 0) (oi := { dst := some 30, op := Go.Op.load 24 (Go.Operand.tmp 7), type := 24, pos := "twin.go:109", after := #[], guard := none }) (v := ?v0) rfl (by kernel_rfl) (by kernel_rfl) (by kernel_rfl) (by decide) (fun _ => by kernel_rfl) (fun _ _ _ h => h) (Or.inl ⟨by rfl, ?hy0⟩) hS (fun hS => ?rest0)
  case hy0 =>
    intro w hSw
    have f0 := hSw (by decide)
    clear hSw
    go_simp
    with_reducible rfl
  try simp only [Act.put, List.setIfInBounds_toArray, List.set_cons_zero, List.set_cons_succ]
  refine wpAnyT_takeU (i := 1) (oi := { dst := some 31, op := Go.Op.call { callee := Go.Callee.builtin Go.Builtin.len, args := #[Go.Operand.tmp 30], argTypes := #[24] }, type := 3, pos := "twin.go:109", after := #[{ on := 0, ground := Go.Ground.data }], guard := none }) (v := ?v1) rfl (by kernel_rfl) (by kernel_rfl) (by kernel_rfl) (by decide) (fun h => absurd h (by decide)) (fun _ _ _ h => h) (Or.inl ⟨by rfl, ?hy1⟩) hS (fun hS => ?rest1)
  case hy1 =>
    intro w hSw
    clear hSw
    go_simp
    with_reducible rfl
  try simp only [Act.put, List.setIfInBounds_toArray, List.set_cons_zero, List.set_cons_succ]
  refine wpAnyT_takeU (i := 3) (oi := { dst := some 33, op := Go.Op.load 24 (Go.Operand.tmp 7), type := 24, pos := "twin.go:109", after := #[], guard := none }) (v := ?v3) rfl (by kernel_rfl) (by kernel_rfl) (by kernel_rfl) (by decide) (fun _ => by kernel_rfl) (fun _ _ _ h => h) (Or.inl ⟨by rfl, ?hy3⟩) hS (fun hS => ?rest3)
  case hy3 =>
    intro w hSw
    have f0 := hSw (by decide)
    clear hSw
    go_simp
    with_reducible rfl
  try simp only [Act.put, List.setIfInBounds_toArray, List.set_cons_zero, List.set_cons_succ]
  refine wpAnyT_takeU (i := 4) (oi := { dst := some 34, op := Go.Op.call { callee := Go.Callee.builtin Go.Builtin.len, args := #[Go.Operand.tmp 33], argTypes := #[24] }, type := 3, pos := "twin.go:109", after := #[{ on := 3, ground := Go.Ground.data }], guard := none }) (v := ?v4) rfl (by kernel_rfl) (by kernel_rfl) (by kernel_rfl) (by decide) (fun h => absurd h (by decide)) (fun _ _ _ h => h) (Or.inl ⟨by rfl, ?hy4⟩) hS (fun hS => ?rest4)
  case hy4 =>
    intro w hSw
    clear hSw
    go_simp
    with_reducible rfl
  try simp only [Act.put, List.setIfInBounds_toArray, List.set_cons_zero, List.set_cons_succ]
  change wpAnyT _ _ _ _ _ _ _ _ wr.drew
  clear hS
  generalize wr.drew = wc at HL HT ⊢
  have hM : ∀ wx (t2 : List Thing), Lab wq wx t2 → Lab wq (wx.alloc (.cells (madeCells #[.slice none 0 0] N) 25)) (Thing.row 25 1 (.slice (some ⟨wx.heap.size, 0, none⟩) N N) N (List.replicate N (Value.slice none 0 0)) :: t2) := fun wx t2 h => h.make_row N 25 _ hN2
  refine wpAnyT_two (i := 2) (j := 5) (o := { dst := some 32, op := Go.Op.makeSlice 54 (Go.Operand.tmp 31) (Go.Operand.tmp 31), type := 54, pos := "twin.go:109", after := #[{ on := 1, ground := Go.Ground.data }, { on := 1, ground := Go.Ground.data }], guard := none }) (o' := { dst := some 35, op := Go.Op.makeSlice 54 (Go.Operand.tmp 34) (Go.Operand.tmp 34), type := 54, pos := "twin.go:109", after := #[{ on := 4, ground := Go.Ground.data }, { on := 4, ground := Go.Ground.data }], guard := none }) (by kernel_rfl) rfl rfl (fun K hK => ?_) (fun K hK => ?_)
  · go_simp
    have HL1 := Lib.hid (hM wc _ HL.out)
    have HT1 := Lib.hid (cell_later (below_new wc (.cells (madeCells #[.slice none 0 0] N) 25)) HT.out)
    obtain ⟨ga, hg⟩ : ∃ ga, wc.heap.size = ga := ⟨_, rfl⟩
    rw [hg] at HL1 ⊢
    refine hK.out _ _ (.inr ⟨rfl, HT1.out⟩) (fun hS => ?_)
    clear hK K hS hg HL HT
    generalize wc.alloc (.cells (madeCells #[.slice none 0 0] N) 25) = wx1 at HL1 HT1 ⊢
    try simp only [Act.put, List.setIfInBounds_toArray, List.set_cons_zero, List.set_cons_succ]
    refine wpAnyT_two (i := 5) (j := 6) (o := { dst := some 35, op := Go.Op.makeSlice 54 (Go.Operand.tmp 34) (Go.Operand.tmp 34), type := 54, pos := "twin.go:109", after := #[{ on := 4, ground := Go.Ground.data }, { on := 4, ground := Go.Ground.data }], guard := none }) (o' := { dst := none, op := Go.Op.store 54 (Go.Operand.tmp 10) (Go.Operand.tmp 32), type := 0, pos := "twin.go:109", after := #[{ on := 2, ground := Go.Ground.data }, { on := 0, ground := Go.Ground.phase }, { on := 1, ground := Go.Ground.phase }, { on := 2, ground := Go.Ground.phase }, { on := 3, ground := Go.Ground.textOnly Go.Departure.lateStoresUnsure }, { on := 4, ground := Go.Ground.textOnly Go.Departure.lateStoresUnsure }, { on := 5, ground := Go.Ground.textOnly Go.Departure.lateStoresUnsure }], guard := none }) (by kernel_rfl) rfl rfl (fun K hK => ?_) (fun K hK => ?_)
    · go_simp
      have HL2 := Lib.hid (hM wx1 _ HL1.out)
      have HT2 := Lib.hid (cell_later (below_new wx1 (.cells (madeCells #[.slice none 0 0] N) 25)) HT1.out)
      obtain ⟨gb, hg⟩ : ∃ gb, wx1.heap.size = gb := ⟨_, rfl⟩
      rw [hg] at HL2 ⊢
      refine hK.out _ _ (.inr ⟨rfl, HT2.out⟩) (fun hS => ?_)
      clear hK K hS hg HL1 HT1
      generalize wx1.alloc (.cells (madeCells #[.slice none 0 0] N) 25) = wx2 at HL2 HT2 ⊢
      try simp only [Act.put, List.setIfInBounds_toArray, List.set_cons_zero, List.set_cons_succ]
      refine wpAnyT_one (i := 6) (o := { dst := none, op := Go.Op.store 54 (Go.Operand.tmp 10) (Go.Operand.tmp 32), type := 0, pos := "twin.go:109", after := #[{ on := 2, ground := Go.Ground.data }, { on := 0, ground := Go.Ground.phase }, { on := 1, ground := Go.Ground.phase }, { on := 2, ground := Go.Ground.phase }, { on := 3, ground := Go.Ground.textOnly Go.Departure.lateStoresUnsure }, { on := 4, ground := Go.Ground.textOnly Go.Departure.lateStoresUnsure }, { on := 5, ground := Go.Ground.textOnly Go.Departure.lateStoresUnsure }], guard := none }) (by kernel_rfl) rfl (fun K hK => ?_)
      have fa := frozen_of_row wx2 pa 0 _ _ (Lab.box1 HL2.out.rot3)
      have ca : wx2.cell? ⟨pa, 0, none⟩ = some (.slice none 0 0) := by rw [cell_of_row _ pa 0 _ _ _ (Lab.box1 HL2.out.rot3)]; rfl
      go_simp
      have HL3 := Lib.hid (Lab.store HL2.out.rot3 0 (.slice (some ⟨ga, 0, none⟩) N N))
      have HT3 := Lib.hid (splK_cells (HL3.out.holds (splK p5 p6 p7 p8 p9 p14 lb level n (.slice ao N co) vv) (by simp))).c7
      refine hK.out _ _ (.inr ⟨rfl, HT3.out⟩) (fun hS => ?_)
      clear hK K hS fa ca HL2 HT2
      generalize wx2.setCell ⟨pa, 0, none⟩ (.slice (some ⟨ga, 0, none⟩) N N) = wx3 at HL3 HT3 ⊢
      try simp only [Act.put, List.setIfInBounds_toArray, List.set_cons_zero, List.set_cons_succ]
      refine wpAnyT_one (i := 7) (o := { dst := none, op := Go.Op.store 54 (Go.Operand.tmp 11) (Go.Operand.tmp 35), type := 0, pos := "twin.go:109", after := #[{ on := 5, ground := Go.Ground.data }, { on := 6, ground := Go.Ground.chain }, { on := 0, ground := Go.Ground.phase }, { on := 1, ground := Go.Ground.phase }, { on := 2, ground := Go.Ground.phase }, { on := 3, ground := Go.Ground.phase }, { on := 4, ground := Go.Ground.phase }, { on := 5, ground := Go.Ground.phase }, { on := 6, ground := Go.Ground.phase }], guard := none }) (by kernel_rfl) rfl (fun K hK => ?_)
      have fa := frozen_of_row wx3 pb 0 _ _ (Lab.box1 HL3.out.rot4)
      have ca : wx3.cell? ⟨pb, 0, none⟩ = some (.slice none 0 0) := by rw [cell_of_row _ pb 0 _ _ _ (Lab.box1 HL3.out.rot4)]; rfl
      go_simp
      have HL4 := Lib.hid (Lab.store HL3.out.rot4 0 (.slice (some ⟨gb, 0, none⟩) N N))
      refine hK.out _ _ (.inl ⟨rfl, by decide⟩) (fun hS => ?_)
      clear hK K hS fa ca HL3 HT3
      try simp only [Act.put, List.setIfInBounds_toArray, List.set_cons_zero, List.set_cons_succ]
      refine wpAnyT_done (by kernel_rfl) ?_ _
      refine NoPanic.normal ?_
      exact HQ.out _ _ _ _ _ _ _ _ _ (spl_made HL4.out.rot5.swap.rot3.rot5.rot5)
    · have fa := frozen_of_row wx1 pa 0 _ _ (Lab.box1 HL1.out.swap)
      have ca : wx1.cell? ⟨pa, 0, none⟩ = some (.slice none 0 0) := by rw [cell_of_row _ pa 0 _ _ _ (Lab.box1 HL1.out.swap)]; rfl
      go_simp
      have HL2 := Lib.hid (Lab.store HL1.out.swap 0 (.slice (some ⟨ga, 0, none⟩) N N))
      have HT2 := Lib.hid (splK_cells (HL2.out.holds (splK p5 p6 p7 p8 p9 p14 lb level n (.slice ao N co) vv) (by simp))).c7
      refine hK.out _ _ (.inr ⟨rfl, HT2.out⟩) (fun hS => ?_)
      clear hK K hS fa ca HL1 HT1
      generalize wx1.setCell ⟨pa, 0, none⟩ (.slice (some ⟨ga, 0, none⟩) N N) = wx2 at HL2 HT2 ⊢
      try simp only [Act.put, List.setIfInBounds_toArray, List.set_cons_zero, List.set_cons_succ]
      refine wpAnyT_one (i := 5) (o := { dst := some 35, op := Go.Op.makeSlice 54 (Go.Operand.tmp 34) (Go.Operand.tmp 34), type := 54, pos := "twin.go:109", after := #[{ on := 4, ground := Go.Ground.data }, { on := 4, ground := Go.Ground.data }], guard := none }) (by kernel_rfl) rfl (fun K hK => ?_)
      go_simp
      have HL3 := Lib.hid (hM wx2 _ HL2.out)
      have HT3 := Lib.hid (cell_later (below_new wx2 (.cells (madeCells #[.slice none 0 0] N) 25)) HT2.out)
      obtain ⟨gb, hg⟩ : ∃ gb, wx2.heap.size = gb := ⟨_, rfl⟩
      rw [hg] at HL3 ⊢
      refine hK.out _ _ (.inr ⟨rfl, HT3.out⟩) (fun hS => ?_)
      clear hK K hS hg HL2 HT2
      generalize wx2.alloc (.cells (madeCells #[.slice none 0 0] N) 25) = wx3 at HL3 HT3 ⊢
      try simp only [Act.put, List.setIfInBounds_toArray, List.set_cons_zero, List.set_cons_succ]
      refine wpAnyT_one (i := 7) (o := { dst := none, op := Go.Op.store 54 (Go.Operand.tmp 11) (Go.Operand.tmp 35), type := 0, pos := "twin.go:109", after := #[{ on := 5, ground := Go.Ground.data }, { on := 6, ground := Go.Ground.chain }, { on := 0, ground := Go.Ground.phase }, { on := 1, ground := Go.Ground.phase }, { on := 2, ground := Go.Ground.phase }, { on := 3, ground := Go.Ground.phase }, { on := 4, ground := Go.Ground.phase }, { on := 5, ground := Go.Ground.phase }, { on := 6, ground := Go.Ground.phase }], guard := none }) (by kernel_rfl) rfl (fun K hK => ?_)
      have fa := frozen_of_row wx3 pb 0 _ _ (Lab.box1 HL3.out.rot4)
      have ca : wx3.cell? ⟨pb, 0, none⟩ = some (.slice none 0 0) := by rw [cell_of_row _ pb 0 _ _ _ (Lab.box1 HL3.out.rot4)]; rfl
      go_simp
      have HL4 := Lib.hid (Lab.store HL3.out.rot4 0 (.slice (some ⟨gb, 0, none⟩) N N))
      refine hK.out _ _ (.inl ⟨rfl, by decide⟩) (fun hS => ?_)
      clear hK K hS fa ca HL3 HT3
      try simp only [Act.put, List.setIfInBounds_toArray, List.set_cons_zero, List.set_cons_succ]
      refine wpAnyT_done (by kernel_rfl) ?_ _
      refine NoPanic.normal ?_
      exact HQ.out _ _ _ _ _ _ _ _ _ (spl_made HL4.out.rot5.swap.rot4.rot5.rot5)
  · go_simp
    have HL1 := Lib.hid (hM wc _ HL.out)
    have HT1 := Lib.hid (cell_later (below_new wc (.cells (madeCells #[.slice none 0 0] N) 25)) HT.out)
    obtain ⟨gb, hg⟩ : ∃ gb, wc.heap.size = gb := ⟨_, rfl⟩
    rw [hg] at HL1 ⊢
    refine hK.out _ _ (.inr ⟨rfl, HT1.out⟩) (fun hS => ?_)
    clear hK K hS hg HL HT
    generalize wc.alloc (.cells (madeCells #[.slice none 0 0] N) 25) = wx1 at HL1 HT1 ⊢
    try simp only [Act.put, List.setIfInBounds_toArray, List.set_cons_zero, List.set_cons_succ]
    refine wpAnyT_one (i := 2) (o := { dst := some 32, op := Go.Op.makeSlice 54 (Go.Operand.tmp 31) (Go.Operand.tmp 31), type := 54, pos := "twin.go:109", after := #[{ on := 1, ground := Go.Ground.data }, { on := 1, ground := Go.Ground.data }], guard := none }) (by kernel_rfl) rfl (fun K hK => ?_)
    go_simp
    have HL2 := Lib.hid (hM wx1 _ HL1.out)
    have HT2 := Lib.hid (cell_later (below_new wx1 (.cells (madeCells #[.slice none 0 0] N) 25)) HT1.out)
    obtain ⟨ga, hg⟩ : ∃ ga, wx1.heap.size = ga := ⟨_, rfl⟩
    rw [hg] at HL2 ⊢
    refine hK.out _ _ (.inr ⟨rfl, HT2.out⟩) (fun hS => ?_)
    clear hK K hS hg HL1 HT1
    generalize wx1.alloc (.cells (madeCells #[.slice none 0 0] N) 25) = wx2 at HL2 HT2 ⊢
    try simp only [Act.put, List.setIfInBounds_toArray, List.set_cons_zero, List.set_cons_succ]
    refine wpAnyT_one (i := 6) (o := { dst := none, op := Go.Op.store 54 (Go.Operand.tmp 10) (Go.Operand.tmp 32), type := 0, pos := "twin.go:109", after := #[{ on := 2, ground := Go.Ground.data }, { on := 0, ground := Go.Ground.phase }, { on := 1, ground := Go.Ground.phase }, { on := 2, ground := Go.Ground.phase }, { on := 3, ground := Go.Ground.textOnly Go.Departure.lateStoresUnsure }, { on := 4, ground := Go.Ground.textOnly Go.Departure.lateStoresUnsure }, { on := 5, ground := Go.Ground.textOnly Go.Departure.lateStoresUnsure }], guard := none }) (by kernel_rfl) rfl (fun K hK => ?_)
    have fa := frozen_of_row wx2 pa 0 _ _ (Lab.box1 HL2.out.rot3)
    have ca : wx2.cell? ⟨pa, 0, none⟩ = some (.slice none 0 0) := by rw [cell_of_row _ pa 0 _ _ _ (Lab.box1 HL2.out.rot3)]; rfl
    go_simp
    have HL3 := Lib.hid (Lab.store HL2.out.rot3 0 (.slice (some ⟨ga, 0, none⟩) N N))
    have HT3 := Lib.hid (splK_cells (HL3.out.holds (splK p5 p6 p7 p8 p9 p14 lb level n (.slice ao N co) vv) (by simp))).c7
    refine hK.out _ _ (.inr ⟨rfl, HT3.out⟩) (fun hS => ?_)
    clear hK K hS fa ca HL2 HT2
    generalize wx2.setCell ⟨pa, 0, none⟩ (.slice (some ⟨ga, 0, none⟩) N N) = wx3 at HL3 HT3 ⊢
    try simp only [Act.put, List.setIfInBounds_toArray, List.set_cons_zero, List.set_cons_succ]
    refine wpAnyT_one (i := 7) (o := { dst := none, op := Go.Op.store 54 (Go.Operand.tmp 11) (Go.Operand.tmp 35), type := 0, pos := "twin.go:109", after := #[{ on := 5, ground := Go.Ground.data }, { on := 6, ground := Go.Ground.chain }, { on := 0, ground := Go.Ground.phase }, { on := 1, ground := Go.Ground.phase }, { on := 2, ground := Go.Ground.phase }, { on := 3, ground := Go.Ground.phase }, { on := 4, ground := Go.Ground.phase }, { on := 5, ground := Go.Ground.phase }, { on := 6, ground := Go.Ground.phase }], guard := none }) (by kernel_rfl) rfl (fun K hK => ?_)
    have fa := frozen_of_row wx3 pb 0 _ _ (Lab.box1 HL3.out.rot4)
    have ca : wx3.cell? ⟨pb, 0, none⟩ = some (.slice none 0 0) := by rw [cell_of_row _ pb 0 _ _ _ (Lab.box1 HL3.out.rot4)]; rfl
    go_simp
    have HL4 := Lib.hid (Lab.store HL3.out.rot4 0 (.slice (some ⟨gb, 0, none⟩) N N))
    refine hK.out _ _ (.inl ⟨rfl, by decide⟩) (fun hS => ?_)
    clear hK K hS fa ca HL3 HT3
    try simp only [Act.put, List.setIfInBounds_toArray, List.set_cons_zero, List.set_cons_succ]
    refine wpAnyT_done (by kernel_rfl) ?_ _
    refine NoPanic.normal ?_
    exact HQ.out _ _ _ _ _ _ _ _ _ (spl_made HL4.out.rot5.swap.rot3.rot4.rot5)
end
end Go.Proofs.YteamnchoddegpaaGreatDoor
namespace Go.Proofs.YteamnchoddegpaaGreatDoor
open Go.RowKit Go.Maps
set_option maxHeartbeats 3200000
theorem split_results {tmps : Array Value} {pa pb : Nat} {w : World} {va vb : Value} {e : Int} (t0 : tmps.getD 10 undef = .pointer (some ⟨pa, 0, none⟩)) (t1 : tmps.getD 11 undef = .pointer (some ⟨pb, 0, none⟩)) (t2 : tmps.getD 12 undef = .int .i64 e) (c0 : w.cell? ⟨pa, 0, none⟩ = some va) (c1 : w.cell? ⟨pb, 0, none⟩ = some vb) :
    (results Tryz.f19 tmps).run Tryz.prog w = .ok (.tuple #[va, vb, .int .i64 e]) w := by
  have t0' : tmps[10]?.getD undef = .pointer (some ⟨pa, 0, none⟩) := by simpa using t0
  have t1' : tmps[11]?.getD undef = .pointer (some ⟨pb, 0, none⟩) := by simpa using t1
  have t2' : tmps[12]?.getD undef = .int .i64 e := by simpa using t2
  unfold results
  rw [Tryz.results19]
  simp [go_sem, t0', t1', t2', c0, c1]
theorem split_invoke (cap : Array Value) (w : World) : (invoke (.fn (.func 46) cap) #[]).run Tryz.prog w = .ok (.enter 46 cap) w := by
  simp [invoke, go_sem]
def splE (nl : Nat) (level : Int) (ls : List Int) (n : Int) : Nat := if mayE nl level ls ≠ 0 then 3 else if n < 0 ∨ 65536 < n then 3 else 0
/-- The boxes of Split's frame. -/
def boxes7 (p5 p6 p7 p8 p9 pa pb : Nat) (lb : Nat) (level n : Int) (chv vv : Value) : List Thing :=
  [Thing.box pa 54 #[.slice none 0 0], Thing.box pb 54 #[.slice none 0 0], Thing.box p9 25 #[vv], Thing.box p8 3 #[.int .i64 n], Thing.box p7 24 #[chv], Thing.box p6 3 #[.int .i64 level], Thing.box p5 28 #[.pointer (some ⟨lb, 0, none⟩)]]
theorem boxes7_lab (wq : World) (lb : Nat) (level n : Int) (chv vv : Value) :
    Lab wq (((((((wq.alloc (.cells #[.pointer (some ⟨lb, 0, none⟩)] 28)).alloc (.cells #[.int .i64 level] 3)).alloc (.cells #[chv] 24)).alloc (.cells #[.int .i64 n] 3)).alloc (.cells #[vv] 25)).alloc (.cells #[.slice none 0 0] 54)).alloc (.cells #[.slice none 0 0] 54))
      (boxes7 wq.heap.size (wq.heap.size + 1) (wq.heap.size + 2) (wq.heap.size + 3) (wq.heap.size + 4) (wq.heap.size + 5) (wq.heap.size + 6) lb level n chv vv) := by
  have h := (((((((Lab.nil (Below.refl wq.heap.size wq)).alloc #[.pointer (some ⟨lb, 0, none⟩)] 28).alloc #[.int .i64 level] 3).alloc #[chv] 24).alloc #[.int .i64 n] 3).alloc #[vv] 25).alloc #[.slice none 0 0] 54).alloc #[.slice none 0 0] 54
  simp only [World.size_alloc, Nat.add_assoc, Nat.reduceAdd] at h
  exact h.swap
structure BoxC (p5 p6 p7 p8 p9 pa pb lb : Nat) (level n : Int) (chv vv : Value) (w : World) : Prop where
  c5 : w.cell? ⟨p5, 0, none⟩ = some (.pointer (some ⟨lb, 0, none⟩))
  c6 : w.cell? ⟨p6, 0, none⟩ = some (.int .i64 level)
  c7 : w.cell? ⟨p7, 0, none⟩ = some chv
  c8 : w.cell? ⟨p8, 0, none⟩ = some (.int .i64 n)
  c9 : w.cell? ⟨p9, 0, none⟩ = some vv
  fa : w.frozen? ⟨pa, 0, none⟩ = false
  fb : w.frozen? ⟨pb, 0, none⟩ = false
  ca : w.cell? ⟨pa, 0, none⟩ = some (.slice none 0 0)
  cb : w.cell? ⟨pb, 0, none⟩ = some (.slice none 0 0)
theorem boxes7_cells {wq w : World} {p5 p6 p7 p8 p9 pa pb lb : Nat} {level n : Int} {chv vv : Value} {ts : List Thing} (h : Lab wq w (boxes7 p5 p6 p7 p8 p9 pa pb lb level n chv vv ++ ts)) : BoxC p5 p6 p7 p8 p9 pa pb lb level n chv vv w := by
  have g : ∀ b T x, Thing.box b T #[x] ∈ boxes7 p5 p6 p7 p8 p9 pa pb lb level n chv vv → w.cell? ⟨b, 0, none⟩ = some x := fun b T x hm => by
    rw [cell_of_row w b 0 _ _ _ (h.holds (Thing.box b T #[x]) (List.mem_append.2 (.inl hm)))]; rfl
  exact ⟨g p5 28 _ (by simp [boxes7]), g p6 3 _ (by simp [boxes7]), g p7 24 _ (by simp [boxes7]), g p8 3 _ (by simp [boxes7]), g p9 25 _ (by simp [boxes7]), frozen_of_row w pa 0 _ _ (Lab.box1 h), frozen_of_row w pb 0 _ _ (Lab.box2 h), g pa 54 _ (by simp [boxes7]), g pb 54 _ (by simp [boxes7])⟩
section
variable {w0 wq : World} {ts : List Thing}
theorem spl_boxes {w : World} {p5 p6 p7 p8 p9 p14 pa pb lb : Nat} {level n : Int} {chv vv : Value} (h : Lab wq w (Thing.box p14 94 #[.func (.func 45) #[] #[.pointer (some ⟨p9, 0, none⟩)]] :: boxes7 p5 p6 p7 p8 p9 pa pb lb level n chv vv)) :
    Lab wq w [Thing.box pa 54 #[.slice none 0 0], Thing.box pb 54 #[.slice none 0 0], splK p5 p6 p7 p8 p9 p14 lb level n chv vv] := by
  have h1 := h.rot3.rot3.rot3.rot4.rot5.rot6.rotG7.rotG8
  exact (Lab.bundle (fs := [_, _, _, _, _, _]) h1).rot3'
set_option maxRecDepth 100000 in
theorem Lab.split_bad (h : Lab w0 wq ts) {lb nl : Nat} {R : Rel} (hlat : LatIs wq lb nl R) {level n : Int} {chv vv : Value} {ls vals : List Int} (hch : SliceOf wq .i64 chv ls) (hv : SliceOf wq .u64 vv vals) (he : splE nl level ls n ≠ 0) :
    Calls Tryz.prog 19 #[.pointer (some ⟨lb, 0, none⟩), .int .i64 level, chv, .int .i64 n, vv] wq fun e w' => e = .returned (.tuple #[.slice none 0 0, .slice none 0 0, .int .i64 3]) ∧ Lab w0 w' ts := by
  obtain ⟨ac, nc, cc, rfl, -, -⟩ := hch.parts
  obtain ⟨av, nv, cv, rfl, -, -⟩ := hv.parts
  have h0 := boxes7_lab wq lb level n (.slice ac nc cc) (.slice av nv cv)
  have HL0 := Lib.hid h0; have HL := Lib.hid h; have HC := Lib.hid (And.intro hlat hch); have HE := Lib.hid he
  clear h0 h hlat hch hv he
  go_enter_defers Tryz.func19, Tryz.ntmps19
  go_upto_region 1 with fail
  obtain ⟨s, hs⟩ : ∃ s, wq.heap.size = s := ⟨_, rfl⟩
  rw [hs] at HL0
  simp only [hs, Nat.add_assoc, Nat.reduceAdd]
  have hd : ∀ k, s + (k + 1) ≠ s := fun k => by omega
  obtain ⟨p6, hp6⟩ : ∃ p6, s + 1 = p6 := ⟨_, rfl⟩
  obtain ⟨p7, hp7⟩ : ∃ p7, s + 2 = p7 := ⟨_, rfl⟩
  obtain ⟨p8, hp8⟩ : ∃ p8, s + 3 = p8 := ⟨_, rfl⟩
  obtain ⟨p9, hp9⟩ : ∃ p9, s + 4 = p9 := ⟨_, rfl⟩
  obtain ⟨pa, hpa⟩ : ∃ pa, s + 5 = pa := ⟨_, rfl⟩
  obtain ⟨pb, hpb⟩ : ∃ pb, s + 6 = pb := ⟨_, rfl⟩
  have d1 : pa ≠ pb := by omega
  have d2 : pb ≠ pa := by omega
  rw [hp6, hp7, hp8, hp9, hpa, hpb] at HL0 ⊢
  clear hs hd hp6 hp7 hp8 hp9 hpa hpb
  refine wp_abs (fun w1 => Lab wq w1 (boxes7 s p6 p7 p8 p9 pa pb lb level n (.slice ac nc cc) (.slice av nv cv))) HL0.out ?_
  clear HL0
  rintro w1 hl
  obtain ⟨c5, c6, c7, c8, c9, fa, fb, ca, cb⟩ := boxes7_cells (ts := []) (by rw [List.append_nil]; exact hl)
  have HM := Lib.hid (may_any (HC.out.1.later hl.below) level (HC.out.2.later hl.below))
  have hfin : Lab wq ((w1.setCell ⟨pa, 0, none⟩ (.slice none 0 0)).setCell ⟨pb, 0, none⟩ (.slice none 0 0)) (Thing.box pa 54 #[.slice none 0 0] :: Thing.box pb 54 #[.slice none 0 0] :: []) :=
    (((Lab.store hl 0 (.slice none 0 0)).swap.store 0 (.slice none 0 0)).swap).subl (by simp)
  have HF := Lib.hid hfin
  clear hl hfin
  by_cases hm : mayE nl level ls = 0
  · have hn : n < 0 ∨ 65536 < n := by
      have := HE.out
      unfold splE at this
      rw [if_neg (by omega)] at this
      by_cases h : n < 0 ∨ 65536 < n
      · exact h
      · rw [if_neg h] at this; exact absurd rfl this
    rw [hm] at HM
    clear hm HE
    by_cases h1 : n < 0
    · clear hn
      go_wp2_with (go_at_call 34; refine HM.out.mono ?_; rintro e w2 ⟨rfl, rfl⟩)
      refine ⟨_, split_results (e := 3) rfl rfl rfl ?_ ?_, rfl, HL.out.later HF.out.below⟩
      · rw [cell_of_row _ pa 0 _ _ _ HF.out.box1]; rfl
      · rw [cell_of_row _ pb 0 _ _ _ HF.out.box2]; rfl
    · have h2 : 65536 < n := by omega
      clear hn
      go_wp2_with (go_at_call 34; refine HM.out.mono ?_; rintro e w2 ⟨rfl, rfl⟩)
      refine ⟨_, split_results (e := 3) rfl rfl rfl ?_ ?_, rfl, HL.out.later HF.out.below⟩
      · rw [cell_of_row _ pa 0 _ _ _ HF.out.box1]; rfl
      · rw [cell_of_row _ pb 0 _ _ _ HF.out.box2]; rfl
  · have hm3 := (may_cases nl level ls).resolve_left hm
    rw [hm3] at HM
    clear hm hm3 HE
    go_wp2_with (go_at_call 34; refine HM.out.mono ?_; rintro e w2 ⟨rfl, rfl⟩)
    refine ⟨_, split_results (e := 3) rfl rfl rfl ?_ ?_, rfl, HL.out.later HF.out.below⟩
    · rw [cell_of_row _ pa 0 _ _ _ HF.out.box1]; rfl
    · rw [cell_of_row _ pb 0 _ _ _ HF.out.box2]; rfl
set_option maxRecDepth 100000 in
theorem Lab.split_ok (h : Lab w0 wq ts) {lb nl N n : Nat} {R : Rel} (hlat : LatIs wq lb nl R) {level : Int} {chv vv : Value} {ls vals : List Int} (hch : SliceOf wq .i64 chv ls) (hv : SliceOf wq .u64 vv vals) (hm : mayE nl level ls = 0) (hn : n ≤ 65536) (hls : ls.length = N) :
    Calls Tryz.prog 19 #[.pointer (some ⟨lb, 0, none⟩), .int .i64 level, chv, .int .i64 n, vv] wq fun e w' => ∃ va vb vsa vsb, e = .returned (.tuple #[va, vb, .int .i64 0]) ∧ vsa.length = N ∧ vsb.length = N ∧
      Lab w0 w' (Thing.lists .u64 43 25 va vsa (part (valA N vals) N n N 0) :: Thing.lists .u64 43 25 vb vsb (part (valB N nl R level ls vals) N n N 0) :: ts) := by
  have hl1 := may_len hm
  obtain ⟨ao, no, co, rfl, hno, -⟩ := hch.parts
  obtain ⟨av, nv, cv, rfl, -, -⟩ := hv.parts
  have h0 := boxes7_lab wq lb level n (.slice ao no co) (.slice av nv cv)
  obtain rfl : no = N := by omega
  have hN1 : 1 ≤ no := by omega
  have hN2 : no ≤ 32 := by omega
  have q1 : ¬ (n : Int) < 0 := by omega
  have q2 : ¬ (65536 : Int) < (n : Int) := by omega
  have HL0 := Lib.hid h0; have HL := Lib.hid h; have HC := Lib.hid (And.intro hlat (And.intro hch hv)); have HLS := Lib.hid hls
  clear h0 h hlat hch hv hl1 hno hls
  go_enter_defers Tryz.func19, Tryz.ntmps19
  go_upto_region 1 with fail
  obtain ⟨s, hs⟩ : ∃ s, wq.heap.size = s := ⟨_, rfl⟩
  rw [hs] at HL0
  simp only [hs, Nat.add_assoc, Nat.reduceAdd]
  have hd : ∀ k, s + (k + 1) ≠ s := fun k => by omega
  obtain ⟨p6, hp6⟩ : ∃ p6, s + 1 = p6 := ⟨_, rfl⟩
  obtain ⟨p7, hp7⟩ : ∃ p7, s + 2 = p7 := ⟨_, rfl⟩
  obtain ⟨p8, hp8⟩ : ∃ p8, s + 3 = p8 := ⟨_, rfl⟩
  obtain ⟨p9, hp9⟩ : ∃ p9, s + 4 = p9 := ⟨_, rfl⟩
  obtain ⟨pa, hpa⟩ : ∃ pa, s + 5 = pa := ⟨_, rfl⟩
  obtain ⟨pb, hpb⟩ : ∃ pb, s + 6 = pb := ⟨_, rfl⟩
  have d1 : pa ≠ pb := by omega
  have d2 : pb ≠ pa := by omega
  have d3 : pa ≠ p7 := by omega
  have d4 : p7 ≠ pa := by omega
  have d5 : pb ≠ p7 := by omega
  have d6 : p7 ≠ pb := by omega
  rw [hp6, hp7, hp8, hp9, hpa, hpb] at HL0 ⊢
  clear hs hd hp6 hp7 hp8 hp9 hpa hpb
  refine wp_abs (fun w1 => Lab wq w1 (boxes7 s p6 p7 p8 p9 pa pb lb level n (.slice ao no co) (.slice av nv cv))) HL0.out ?_
  clear HL0
  rintro w1 hl
  obtain ⟨c5, c6, c7, c8, c9, fa, fb, ca, cb⟩ := boxes7_cells (ts := []) (by rw [List.append_nil]; exact hl)
  have hmay := may_any (HC.out.1.later hl.below) level (HC.out.2.1.later hl.below)
  rw [hm] at hmay
  have HM := Lib.hid hmay
  obtain ⟨p14, hp14⟩ : ∃ p14, w1.heap.size = p14 := ⟨_, rfl⟩
  have hl1 := hl.alloc #[.nilFunc] 94
  rw [hp14] at hl1
  have z1 : (w1.alloc (.cells #[.nilFunc] 94)).cell? ⟨p14, 0, none⟩ = some .nilFunc := by rw [cell_of_row _ p14 0 _ _ _ hl1.box1]; rfl
  have z2 := frozen_of_row _ p14 0 _ _ hl1.box1
  have hl2 := hl.alloc #[.func (.func 45) #[] #[.pointer (some ⟨p9, 0, none⟩)]] 94
  rw [hp14] at hl2
  have HL2 := Lib.hid (spl_boxes hl2)
  clear hl hl1 hl2 hmay hm
  go_upto_region 8 with (go_at_call 34; refine HM.out.mono ?_; rintro e w2 ⟨rfl, rfl⟩)
  refine wp_abs (fun w2 => Lab wq w2 [Thing.box pa 54 #[.slice none 0 0], Thing.box pb 54 #[.slice none 0 0], splK s p6 p7 p8 p9 p14 lb level n (.slice ao no co) (.slice av nv cv)]) HL2.out ?_
  clear HL2 c5 c6 c7 c8 c9 fa fb ca cb z1 z2 hp14 HM
  rintro w2 hl
  refine split_region8 (ts := []) hN2 hl d3 d1 ?_
  clear hl
  intro ga gb _ _ _ _ _ _ w3 hl
  have ca : w3.cell? ⟨pa, 0, none⟩ = some (.slice (some ⟨ga, 0, none⟩) no no) := by rw [cell_of_row _ pa 0 _ _ _ (Lab.box1 hl)]; rfl
  have cb : w3.cell? ⟨pb, 0, none⟩ = some (.slice (some ⟨gb, 0, none⟩) no no) := by rw [cell_of_row _ pb 0 _ _ _ (Lab.box2 hl)]; rfl
  have fa := frozen_of_row w3 pa 0 _ _ (Lab.box1 hl)
  have fb := frozen_of_row w3 pb 0 _ _ (Lab.box2 hl)
  have hl2 := (((Lab.store hl 0 (.slice (some ⟨ga, 0, none⟩) no no)).swap.store 0 (.slice (some ⟨gb, 0, none⟩) no no)).swap).drew1
  have HL2 := Lib.hid hl2
  clear hl hl2
  go_upto_region 9 with fail
  go_region
  go_wp2
  clear ca cb fa fb d2 d3 d4 d5 d6 q1 q2
  generalize ((w3.setCell ⟨pa, 0, none⟩ (.slice (some ⟨ga, 0, none⟩) no no)).setCell ⟨pb, 0, none⟩ (.slice (some ⟨gb, 0, none⟩) no no)).drew = w4 at HL2 ⊢
  refine leaves_cons (f := 46) (args := #[.pointer (some ⟨p7, 0, none⟩), .pointer (some ⟨p8, 0, none⟩), .pointer (some ⟨pa, 0, none⟩), .pointer (some ⟨p14, 0, none⟩), .pointer (some ⟨pb, 0, none⟩), .pointer (some ⟨s, 0, none⟩), .pointer (some ⟨p6, 0, none⟩)]) (by intro h; cases h) (split_invoke _ _)
    ((split2_any (ts := []) HC.out.2.2 HC.out.1 HC.out.2.1 HLS.out hN1 hN2 hn HL2.out).mono ?_)
  rintro e u' w' ⟨rfl, rfl, vsa, vsb, ha, hb, hl⟩
  have hj := HL.out.joined (us := [_, _]) (Lab.subl hl (ts' := [Thing.lists .u64 43 25 (.slice (some ⟨ga, 0, none⟩) no no) vsa (part (valA no vals) no n no 0), Thing.lists .u64 43 25 (.slice (some ⟨gb, 0, none⟩) no no) vsb (part (valB no nl R level ls vals) no n no 0)]) (by
    unfold splThings
    exact .cons _ (.cons _ (.cons_cons _ (.cons_cons _ (.cons _ (List.Sublist.refl _))))))) (fun u hu => by
      simp only [List.mem_cons, List.not_mem_nil, or_false] at hu
      rcases hu with rfl | rfl <;> exact lists_R)
  refine ⟨_, split_results (e := 0) rfl rfl rfl ?_ ?_, _, _, vsa, vsb, rfl, ha, hb, hj⟩
  · rw [cell_of_row _ pa 0 _ _ _ (Lab.box1 hl)]; rfl
  · rw [cell_of_row _ pb 0 _ _ _ (Lab.box2 hl)]; rfl
end
end Go.Proofs.YteamnchoddegpaaGreatDoor
namespace Go.Proofs.YteamnchoddegpaaGreatDoor
open Go.RowKit Go.Maps
set_option maxHeartbeats 3200000
def full (f : Nat → Nat → Int) (n c : Nat) : List (List Int) := (List.range c).map fun c' => (List.range n).map (f c')
theorem full_len (f : Nat → Nat → Int) (n c : Nat) : (full f n c).length = c := by simp [full]
theorem part_full (f : Nat → Nat → Int) (N n : Nat) : part f N n N 0 = full f n N := by
  unfold part full
  refine List.map_congr_left fun i hi => ?_
  rw [if_pos (List.mem_range.1 hi)]
section
variable {w0 wq wr w' : World} {ts : List Thing}
end
end Go.Proofs.YteamnchoddegpaaGreatDoor
namespace Go.Proofs.YteamnchoddegpaaGreatDoor
open Go.RowKit
set_option maxHeartbeats 800000
/-- A raw node: kind, operator, number, two arguments. -/
structure RawN where
  kind : Nat
  op : Nat
  num : Nat
  a : Nat
  b : Nat
structure RawN.Ok (r : RawN) : Prop where
  kind : r.kind ≤ 255
  op : r.op ≤ 255
  num : r.num < 18446744073709551616
  a : r.a ≤ 65535
  b : r.b ≤ 65535
/-- The operator and the arguments. -/
def RawN.o (r : RawN) : Nat := 2 + r.op % 19
def RawN.args (r : RawN) (n : Nat) : List Int := if r.o = 2 ∨ r.o = 3 then [((r.a % n : Nat) : Int)] else [((r.a % n : Nat) : Int), ((r.b % n : Nat) : Int)]
def rawR (W room : Nat) (L : List PNode) (r : RawN) : List PNode × Nat × Nat :=
  if r.kind % 3 = 0 ∨ L.length = 0 then constR W room L r.num else if r.kind % 3 = 1 then varR room L ((r.a % 12 : Nat) : Int) else appR room L r.o (r.args L.length)
def rawsL (W room : Nat) (rs : List RawN) : List PNode := rs.foldl (fun L r => (rawR W room L r).1) []
theorem rawsL_snoc (W room : Nat) (rs : List RawN) (r : RawN) : rawsL W room (rs ++ [r]) = (rawR W room (rawsL W room rs) r).1 := by
  unfold rawsL
  rw [List.foldl_append]
  rfl
theorem raw_args_len (r : RawN) (n : Nat) : (r.args n).length = aryN r.o := by
  have h : 2 ≤ r.o ∧ r.o ≤ 20 := by unfold RawN.o; omega
  unfold RawN.args aryN
  by_cases h2 : r.o = 2 ∨ r.o = 3
  · rw [if_pos h2, if_neg (by omega), if_pos (by omega)]; rfl
  · rw [if_neg h2, if_neg (by omega), if_neg (by omega), if_neg (by omega)]; rfl
theorem raw_args_in (r : RawN) {n : Nat} (h0 : 0 < n) : ∀ t ∈ r.args n, (0 : Int) ≤ t ∧ t < (n : Int) := by
  intro t ht
  have ha := Nat.mod_lt r.a h0
  have hb := Nat.mod_lt r.b h0
  unfold RawN.args at ht
  split at ht
  · simp only [List.mem_cons, List.not_mem_nil, or_false] at ht
    omega
  · simp only [List.mem_cons, List.not_mem_nil, or_false] at ht
    omega
theorem askP_room {room : Nat} {L : List PNode} {n : PNode} (hl : L.length < room) : (askP room L n).2.2 = 0 := by
  rcases askP_cases room L n (by omega) with ⟨t, e, -⟩ | ⟨-, -, e⟩ | ⟨-, h, -⟩
  · rw [e]
  · rw [e]
  · omega
/-- What is so of the nodes that are made. -/
structure RawOk (W : Nat) (k : Nat) (L : List PNode) : Prop where
  wf : WFL L
  good : GoodL W L
  vars : VarsLt 12 L
  len : L.length ≤ k
theorem RawOk.nil (W : Nat) : RawOk W 0 [] := ⟨WFL.nil, GoodL.nil W, fun n hn => (by cases hn), Nat.le_refl _⟩
theorem rawR_ok {W room k : Nat} {L : List PNode} (h : RawOk W k L) {r : RawN} (_hr : r.Ok) (hW : W ≤ 64) (hk : k < room) : (rawR W room L r).2.2 = 0 ∧ RawOk W (k + 1) (rawR W room L r).1 ∧ 0 < (rawR W room L r).1.length := by
  have hlen := h.len
  have grow : ∀ n : PNode, NodeOk n → (∀ a ∈ n.2.2, (0 : Int) ≤ a ∧ a < (L.length : Int)) → (n.1 = 1 → n.2.1 < 12) → GoodL W (askP room L n).1 →
      (askP room L n).2.2 = 0 ∧ RawOk W (k + 1) (askP room L n).1 ∧ 0 < (askP room L n).1.length := fun n h1 h2 h3 h4 => by
    refine ⟨askP_room (by omega), ⟨askP_wf h.wf room h1 h2, h4, h.vars.ask room h3, by have := askP_len room L n; omega⟩, ?_⟩
    rcases askP_cases room L n (by omega) with ⟨t, e, ht⟩ | ⟨-, -, e⟩ | ⟨-, h, -⟩
    · rw [e]; exact Nat.lt_of_le_of_lt (Nat.zero_le _) (List.getElem?_eq_some_iff.1 ht).1
    · rw [e]; simp
    · omega
  have hp : 2 ^ W ≤ 2 ^ 64 := Nat.pow_le_pow_right (by decide) hW
  have hp0 : 0 < 2 ^ W := Nat.pos_of_ne_zero (by simp)
  unfold rawR
  split
  · have hm := Nat.mod_lt r.num hp0
    exact grow _ ⟨by show 0 ≤ 21; omega, by show r.num % 2 ^ W ≤ _; omega, rfl⟩ (fun a ha => (by cases ha)) (fun h => (by cases h)) (h.good.const room r.num)
  · rename_i h0
    split
    · have hm : r.a % 12 < 12 := Nat.mod_lt _ (by decide)
      have hg := h.good.var room ((r.a % 12 : Nat) : Int)
      unfold varR at hg ⊢
      rw [if_pos (by omega), Int.toNat_natCast] at hg ⊢
      exact grow _ ⟨by show 1 ≤ 21; omega, by show r.a % 12 ≤ _; omega, rfl⟩ (fun a ha => (by cases ha)) (fun _ => hm) hg
    · have h2 : 2 ≤ r.o ∧ r.o ≤ 20 := by unfold RawN.o; omega
      have hg := h.good.app room r.o (r.args L.length)
      have hl := raw_args_len r L.length
      have hin := raw_args_in r (n := L.length) (by omega)
      have hz : aryN r.o ≠ 0 := by unfold aryN; rw [if_neg (by omega)]; split <;> (try split) <;> omega
      unfold appR at hg ⊢
      rw [if_pos ⟨by omega, hz, hl.symm⟩, if_pos hin] at hg ⊢
      exact grow _ ⟨by show r.o ≤ 21; omega, by show 0 ≤ _; omega, hl⟩ hin (fun h => by have : r.o = 1 := h; omega) hg
theorem rawsL_ok {W room : Nat} (hW : W ≤ 64) {rs : List RawN} (h1 : ∀ r ∈ rs, r.Ok) (h2 : rs.length ≤ room) : ∀ k, k ≤ rs.length → RawOk W k (rawsL W room (rs.take k)) ∧ (0 < k → 0 < (rawsL W room (rs.take k)).length)
  | 0, _ => ⟨RawOk.nil W, fun h => by omega⟩
  | k + 1, hk => by
    have ih := (rawsL_ok hW h1 h2 k (by omega)).1
    have hr : rs[k]? = some rs[k] := List.getElem?_eq_getElem (by omega)
    have e : rs.take (k + 1) = rs.take k ++ [rs[k]] := by rw [List.take_add_one, hr]; rfl
    rw [e, rawsL_snoc]
    have h := rawR_ok (room := room) ih (h1 rs[k] (List.getElem_mem _)) hW (by omega)
    exact ⟨h.2.1, fun _ => h.2.2⟩
/-- The value with other values of the variables that occur. -/
theorem substR_valO {W room : Nat} {L L' : List PNode} {ps : List (Int × Int)} (h1 : 1 ≤ W) (hW : W ≤ 64) (hw : WFL L) (hg : GoodL W L) {t s : Nat} (ht : t < L.length) (h : SubOk L ps) (hR : substR W room L t ps = (L', s, 0)) {inner outer : List Int}
    (hv : ∀ i v, L[i]? = some (1, v, []) → occ L t i = true → val W inner L (subLf ps i (1, v, [])).toNat = val W outer L i) : val W inner L' s = val W outer L t := by
  rw [substR_in ht h] at hR
  by_cases he : (madeRun W room L (occ L t) (subLf ps) (t + 1)).2.2 = 0
  · have hi := made_inv (O := occ L t) hW hw hg (subLf_ok h) (t + 1) (by omega) he
    have hvs := made_vals (room := room) (O := occ L t) (lf := subLf ps) (vals := outer) (vals2 := inner) h1 hW hw hg (subLf_ok h) (occ_hO hw) (fun i n hn ho ha => ?_) (t + 1) (by omega) he t (by omega) (occ_top L t)
    · obtain ⟨q, e1, e2, e3⟩ := madeEnd_inv hi he
      rw [e1] at hR
      simp only [Prod.mk.injEq, and_true] at hR
      obtain ⟨rfl, rfl⟩ := hR
      rw [e3, Int.toNat_natCast] at hvs
      exact hvs
    · rcases hg n (List.mem_of_getElem? hn) with ⟨g1, g2, g3⟩ | ⟨g1, g2, g3⟩ | ⟨g1, g2, g3, g4⟩
      · unfold subLf
        rw [if_neg (by omega), Int.toNat_natCast, val_at hw hn, val_at hw hn, valN_const g1, valN_const g1]
      · obtain ⟨o, v, xs⟩ := n
        simp only at g1 g3
        subst g1; subst g3
        exact hv i v hn ho
      · rw [ha] at g4
        exact absurd g4 (aryN_pos g1)
  · unfold madeEnd at hR
    rw [if_neg he] at hR
    simp only [Prod.mk.injEq] at hR
    exact absurd hR.2.2 he
theorem val_var {W : Nat} {L : List PNode} {i v : Nat} {vals : List Int} (hw : WFL L) (hi : L[i]? = some (1, v, [])) : val W vals L i = (((valAt vals v).toNat % 2 ^ W : Nat) : Int) := by
  rw [val_at hw (vals := vals) hi]
  by_cases h : v < vals.length
  · rw [valN_var rfl h]; rfl
  · rw [valN_no rfl h]
    unfold valAt
    rw [List.getD_eq_getElem?_getD, List.getElem?_eq_none (by omega)]
    simp
/-- The variables that have a twin of their own, with the terms of these. -/
def twStep (room : Nat) (f : Int → Int) (s : List PNode × List Int × List Int) (n : Int) : List PNode × List Int × List Int :=
  if f n = n then s else ((varR room s.1 (f n)).1, s.2.1 ++ [n], s.2.2 ++ [((varR room s.1 (f n)).2.1 : Int)])
def twRun (room : Nat) (f : Int → Int) (L : List PNode) (all : List Int) : List PNode × List Int × List Int := all.foldl (twStep room f) (L, [], [])
theorem twRun_snoc (room : Nat) (f : Int → Int) (L : List PNode) (all : List Int) (n : Int) : twRun room f L (all ++ [n]) = twStep room f (twRun room f L all) n := by
  unfold twRun
  rw [List.foldl_append]
  rfl
structure TwInv (W : Nat) (f : Int → Int) (L0 : List PNode) (all : List Int) (s : List PNode × List Int × List Int) : Prop where
  pre : L0 <+: s.1
  wf : WFL s.1
  good : GoodL W s.1
  vs : s.2.1 = all.filter fun n => decide (f n ≠ n)
  us : s.2.2.length = s.2.1.length
  at_ : ∀ (j : Nat) (n : Int), s.2.1[j]? = some n → ∃ u : Nat, s.2.2[j]? = some (u : Int) ∧ s.1[u]? = some (1, (f n).toNat, [])
  len : s.1.length ≤ L0.length + all.length
theorem twStep_ok {W room : Nat} {f : Int → Int} {L0 : List PNode} {all : List Int} {s : List PNode × List Int × List Int} (h : TwInv W f L0 all s) {n : Int} (h0 : 0 ≤ f n) (h1 : f n ≤ 4194303) (hr : L0.length + all.length < room) :
    TwInv W f L0 (all ++ [n]) (twStep room f s n) ∧ (f n ≠ n → (varR room s.1 (f n)).2.2 = 0) := by
  have hlen := h.len
  by_cases e : f n = n
  · unfold twStep
    rw [if_pos e]
    refine ⟨⟨h.pre, h.wf, h.good, ?_, h.us, h.at_, by rw [List.length_append]; simp; omega⟩, fun h => absurd e h⟩
    rw [List.filter_append, ← h.vs, List.filter_cons_of_neg (by simp [e])]
    simp
  · have hg := h.good.var room (f n)
    have hv : varR room s.1 (f n) = askP room s.1 (1, (f n).toNat, []) := by unfold varR; rw [if_pos ⟨h0, h1⟩]
    rw [hv] at hg
    have hok : NodeOk (1, (f n).toNat, []) := ⟨by show 1 ≤ 21; omega, by show (f n).toNat ≤ _; omega, rfl⟩
    have hw := askP_wf h.wf room hok (fun a ha => (by cases ha))
    have hl2 := askP_len room s.1 (1, (f n).toNat, [])
    have hcase : ∃ t, (askP room s.1 (1, (f n).toNat, [])).2 = (t, 0) ∧ (askP room s.1 (1, (f n).toNat, [])).1[t]? = some (1, (f n).toNat, []) ∧ s.1 <+: (askP room s.1 (1, (f n).toNat, [])).1 := by
      rcases askP_cases room s.1 (1, (f n).toNat, []) (by omega) with ⟨t, e, ht⟩ | ⟨-, -, e⟩ | ⟨-, hx, -⟩
      · rw [e]; exact ⟨t, rfl, ht, List.prefix_refl _⟩
      · rw [e]; exact ⟨_, rfl, by rw [List.getElem?_append_right (Nat.le_refl _), Nat.sub_self]; rfl, List.prefix_append _ _⟩
      · omega
    obtain ⟨t, e2, e3, e4⟩ := hcase
    unfold twStep
    rw [if_neg e, hv, e2]
    refine ⟨⟨h.pre.trans e4, hw, hg, ?_, ?_, ?_, by rw [List.length_append]; simp; omega⟩, fun _ => rfl⟩
    · show s.2.1 ++ [n] = _
      rw [List.filter_append, ← h.vs, List.filter_cons_of_pos (by simp [e])]
      simp
    · show (s.2.2 ++ [((t : Nat) : Int)]).length = (s.2.1 ++ [n]).length
      rw [List.length_append, List.length_append, h.us]; rfl
    · intro j m hm
      show ∃ u : Nat, (s.2.2 ++ [((t : Nat) : Int)])[j]? = some (u : Int) ∧ _
      have hm' : (s.2.1 ++ [n])[j]? = some m := hm
      by_cases hj : j < s.2.1.length
      · rw [List.getElem?_append_left hj] at hm'
        obtain ⟨u, h1, h2⟩ := h.at_ j m hm'
        refine ⟨u, by rw [List.getElem?_append_left (by rw [h.us]; exact hj)]; exact h1, ?_⟩
        exact prefix_at e4 h2
      · have hj2 := (List.getElem?_eq_some_iff.1 hm').1
        rw [List.length_append, List.length_singleton] at hj2
        obtain rfl : j = s.2.1.length := by omega
        rw [List.getElem?_append_right (Nat.le_refl _), Nat.sub_self] at hm'
        simp only [List.getElem?_cons_zero, Option.some.injEq] at hm'
        subst hm'
        exact ⟨t, by rw [← h.us, List.getElem?_append_right (Nat.le_refl _), Nat.sub_self]; rfl, e3⟩
theorem twRun_ok {W room : Nat} {f : Int → Int} {L0 : List PNode} {all : List Int} (hw : WFL L0) (hg : GoodL W L0) (hf : ∀ n ∈ all, 0 ≤ f n ∧ f n ≤ 4194303) (hr : L0.length + all.length ≤ room) : ∀ k, k ≤ all.length → TwInv W f L0 (all.take k) (twRun room f L0 (all.take k))
  | 0, _ => ⟨List.prefix_refl _, hw, hg, rfl, rfl, fun j n h => by simp [twRun] at h, by simp [twRun]⟩
  | k + 1, hk => by
    have ih := twRun_ok hw hg hf hr k (by omega)
    have hn : all[k]? = some all[k] := List.getElem?_eq_getElem (by omega)
    have e : all.take (k + 1) = all.take k ++ [all[k]] := by rw [List.take_add_one, hn]; rfl
    rw [e, twRun_snoc]
    have hb := hf all[k] (List.getElem_mem _)
    exact (twStep_ok ih hb.1 hb.2 (by rw [List.length_take]; omega)).1
/-- The value of the term about the second valuation. -/
theorem tw_val {W room : Nat} {f : Int → Int} {L0 L1 L2 : List PNode} {all vs us : List Int} {t s : Nat} (h1 : 1 ≤ W) (hW : W ≤ 64) (hw0 : WFL L0) (h : TwInv W f L0 all (L1, vs, us)) (hn : all.Nodup) (ht : t < L0.length)
    (hall : ∀ (i v : Nat), L0[i]? = some (1, v, []) → occ L0 t i = true → (v : Int) ∈ all) (hR : substR W room L1 t (vs.zip us) = (L2, s, 0)) {inner outer : List Int} (hv : ∀ v : Nat, (v : Int) ∈ all → valAt outer v = valAt inner (f v).toNat) : val W inner L2 s = val W outer L0 t := by
  have hpre : L0 <+: L1 := h.pre
  have hvs : vs = all.filter fun n => decide (f n ≠ n) := h.vs
  have hus : us.length = vs.length := h.us
  have hnd : vs.Nodup := by rw [hvs]; exact hn.filter _
  have hterms : ∀ u ∈ us, (0 : Int) ≤ u ∧ u < (L1.length : Int) := fun u hu => by
    obtain ⟨j, hj⟩ := List.mem_iff_getElem?.1 hu
    have hlt := (List.getElem?_eq_some_iff.1 hj).1
    obtain ⟨x, hx, hx2⟩ := h.at_ j (vs[j]'(by omega)) (show vs[j]? = some (vs[j]'(by omega)) from List.getElem?_eq_getElem (by omega))
    have hx' : us[j]? = some (x : Int) := hx
    rw [hj] at hx'
    simp only [Option.some.injEq] at hx'
    subst hx'
    have := (List.getElem?_eq_some_iff.1 hx2).1
    have h2 : x < L1.length := this
    omega
  have hso : SubOk L1 (vs.zip us) := by
    refine ⟨?_, fun p hp => hterms p.2 (List.of_mem_zip hp).2⟩
    rw [List.map_fst_zip (by rw [hus]; exact Nat.le_refl _)]
    exact hnd
  have ht1 : t < L1.length := by have := hpre.length_le; omega
  rw [← val_prefix (W := W) (vals := outer) hpre ht]
  refine substR_valO h1 hW h.wf h.good ht1 hso hR fun i v hi hocc => ?_
  rw [occ_prefix hpre ht] at hocc
  have hi0 : i < L0.length := by have := occ_le hw0 hocc; omega
  have hi' : L0[i]? = some (1, v, []) := by
    obtain ⟨r, hr⟩ := hpre
    rw [← hr, List.getElem?_append_left hi0] at hi
    exact hi
  have hva := hall i v hi' hocc
  rw [val_var (vals := outer) h.wf hi, hv v hva]
  unfold subLf
  rw [if_pos rfl]
  show val W inner L1 ((subOf (vs.zip us) v).getD (i : Int)).toNat = _
  by_cases hf : f (v : Int) = (v : Int)
  · have hno : subOf (vs.zip us) v = none := by
      rw [subOf_none]
      intro s hm
      have := (List.of_mem_zip hm).1
      rw [hvs, List.mem_filter] at this
      simp [hf] at this
    rw [hno, hf]
    show val W inner L1 ((i : Int)).toNat = _
    rw [Int.toNat_natCast, val_var (vals := inner) h.wf hi, Int.toNat_natCast]
  · have hm : (v : Int) ∈ vs := by rw [hvs, List.mem_filter]; exact ⟨hva, by simp [hf]⟩
    obtain ⟨j, hj⟩ := List.mem_iff_getElem?.1 hm
    obtain ⟨u, hu, hu2⟩ := h.at_ j v hj
    have hmz : ((v : Int), (u : Int)) ∈ vs.zip us := List.mem_iff_getElem?.2 ⟨j, List.getElem?_zip_eq_some.2 ⟨hj, hu⟩⟩
    rw [mem_subOf hso.1 hmz]
    show val W inner L1 ((u : Int)).toNat = _
    rw [Int.toNat_natCast, val_var (vals := inner) h.wf hu2]
end Go.Proofs.YteamnchoddegpaaGreatDoor
namespace Go.Proofs.YteamnchoddegpaaGreatDoor
open Go.RowKit
set_option maxHeartbeats 800000
/-- A raw node whose variable is made even. -/
def RawN.even (r : RawN) : RawN := if r.kind % 3 = 1 then { r with a := 2 * (r.a % 6) } else r
theorem RawN.even_ok {r : RawN} (h : r.Ok) : r.even.Ok := by
  unfold RawN.even
  split
  · exact ⟨h.kind, h.op, h.num, by show 2 * (r.a % 6) ≤ 65535; omega, h.b⟩
  · exact h
theorem RawN.even_kind (r : RawN) : r.even.kind = r.kind := by unfold RawN.even; split <;> rfl
theorem RawN.even_a {r : RawN} (h : r.kind % 3 = 1) : r.even.a = 2 * (r.a % 6) := by unfold RawN.even; rw [if_pos h]
/-- All variables of the graph are even, and at most 10. -/
def VarsEven (L : List PNode) : Prop := ∀ n ∈ L, n.1 = 1 → n.2.1 % 2 = 0 ∧ n.2.1 ≤ 10
theorem VarsEven.ask {L : List PNode} (h : VarsEven L) (room : Nat) {n : PNode} (hn : n.1 = 1 → n.2.1 % 2 = 0 ∧ n.2.1 ≤ 10) : VarsEven (askP room L n).1 := by
  unfold askP
  cases L.findIdx? (· == n) with
  | some t => exact h
  | none =>
    dsimp only
    split
    · exact h
    · intro m hm
      rcases List.mem_append.1 hm with hm | hm
      · exact h m hm
      · simp at hm; subst hm; exact hn
theorem rawR_even {W room : Nat} {L : List PNode} (h : VarsEven L) (r : RawN) : VarsEven (rawR W room L r.even).1 := by
  unfold rawR
  split
  · unfold constR
    exact h.ask room (fun h => by cases h)
  · split
    · rename_i h1
      rw [RawN.even_kind] at h1
      unfold varR
      split
      · refine h.ask room (fun _ => ?_)
        rw [Int.toNat_natCast, RawN.even_a h1]
        show 2 * (r.a % 6) % 12 % 2 = 0 ∧ 2 * (r.a % 6) % 12 ≤ 10
        omega
      · exact h
    · unfold appR
      split
      · split
        · refine h.ask room (fun h1 => ?_)
          have : r.even.o = 1 := h1
          unfold RawN.o at this
          omega
        · exact h
      · exact h
theorem rawsL_even {W room : Nat} (rs : List RawN) : VarsEven (rawsL W room (rs.map RawN.even)) := by
  have main : ∀ (rs : List RawN) (L : List PNode), VarsEven L → VarsEven ((rs.map RawN.even).foldl (fun L r => (rawR W room L r).1) L) := by
    intro rs
    induction rs with
    | nil => intro L h; exact h
    | cons r rs ih => intro L h; exact ih _ (rawR_even h r)
  exact main rs [] (fun n hn => by cases hn)
theorem even_vars {L : List PNode} {S : Nat → Bool} (h : VarsEven L) : ∀ v ∈ varsO L S, 0 ≤ v ∧ v % 2 = 0 ∧ v ≤ 10 := fun v hv => by
  obtain ⟨j, n, -, hn, h1, rfl⟩ := mem_varsO.1 hv
  have := h n (List.mem_of_getElem? hn) h1
  omega
/-- The values of the variables of inputs: those of the channels before c, and the first k of channel c. -/
def valsF (N n : Nat) (f : Nat → Nat → Int) (c k m : Nat) : Int := if m % 2 = 0 ∧ m / 2 / N < n ∧ (m / 2 % N < c ∨ (m / 2 % N = c ∧ m / 2 / N < k)) then f (m / 2 % N) (m / 2 / N) else 0
structure ValsInv (N n : Nat) (f : Nat → Nat → Int) (c k : Nat) (out : List Int) : Prop where
  at_ : ∀ m, valAt out m = valsF N n f c k m
  len : out.length ≤ 2 * (n * N)
  u64 : U64s out
section
variable {N n : Nat} {f : Nat → Nat → Int}
theorem ValsInv.start : ValsInv N n f 0 0 [] := ⟨fun m => by
  unfold valsF
  generalize m / 2 / N = A
  generalize m / 2 % N = B
  rw [if_neg (by omega)]
  rfl, Nat.zero_le _, fun x hx => by cases hx⟩
theorem ValsInv.line {c : Nat} {out : List Int} (h : ValsInv N n f c n out) : ValsInv N n f (c + 1) 0 out := ⟨fun m => by
  rw [h.at_ m]
  unfold valsF
  generalize m / 2 / N = A
  generalize m / 2 % N = B
  by_cases e : m % 2 = 0 ∧ A < n ∧ (B < c ∨ (B = c ∧ A < n))
  · rw [if_pos e, if_pos (by omega)]
  · rw [if_neg e, if_neg (by omega)], h.len, h.u64⟩
theorem valAt_pad (out : List Int) (m : Nat) : valAt (out ++ [0]) m = valAt out m := by
  unfold valAt
  rw [List.getD_eq_getElem?_getD, List.getD_eq_getElem?_getD]
  rcases Nat.lt_trichotomy m out.length with h | h | h
  · rw [List.getElem?_append_left h]
  · subst h
    rw [List.getElem?_append_right (Nat.le_refl _), Nat.sub_self, List.getElem?_eq_none (Nat.le_refl _)]; rfl
  · rw [List.getElem?_append_right (by omega), List.getElem?_eq_none (by simp; omega), List.getElem?_eq_none (by omega)]
theorem ValsInv.pad {c k : Nat} {out : List Int} (h : ValsInv N n f c k out) (hl : out.length + 1 ≤ 2 * (n * N)) : ValsInv N n f c k (out ++ [0]) :=
  ⟨fun m => by rw [valAt_pad]; exact h.at_ m, by rw [List.length_append]; exact hl, fun x hx => by
    rcases List.mem_append.1 hx with hx | hx
    · exact h.u64 x hx
    · simp at hx; omega⟩
theorem vals_idx {c k : Nat} (hc : c < N) (hk : k < n) : 2 * (k * N + c) + 1 < 2 * (n * N) := by
  have h1 : (k + 1) * N ≤ n * N := Nat.mul_le_mul_right N hk
  rw [Nat.succ_mul] at h1
  omega
theorem ValsInv.put {c k : Nat} {out : List Int} (h : ValsInv N n f c k out) (hc : c < N) (hk : k < n) (hl : 2 * (k * N + c) < out.length) (hf : 0 ≤ f c k ∧ f c k ≤ 18446744073709551615) : ValsInv N n f c (k + 1) (out.set (2 * (k * N + c)) (f c k)) := by
  refine ⟨fun m => ?_, by rw [List.length_set]; exact h.len, fun x hx => ?_⟩
  · have hd := Nat.div_add_mod (m / 2) N
    have hat := h.at_ m
    unfold valAt at hat ⊢
    rw [List.getD_eq_getElem?_getD] at hat ⊢
    rw [List.getElem?_set]
    by_cases e : 2 * (k * N + c) = m
    · rw [if_pos e, if_pos (by omega)]
      have e1 : m / 2 = k * N + c := by omega
      have e2 : m / 2 % N = c := by rw [e1, Nat.add_comm, Nat.add_mul_mod_self_right, Nat.mod_eq_of_lt hc]
      have e3 : m / 2 / N = k := by rw [e1, Nat.add_comm, Nat.add_mul_div_right _ _ (by omega), Nat.div_eq_of_lt hc]; omega
      unfold valsF
      rw [e2, e3, if_pos (by omega)]
      rfl
    · rw [if_neg e, hat]
      unfold valsF
      generalize m / 2 / N = A at hd ⊢
      generalize m / 2 % N = B at hd ⊢
      by_cases q : m % 2 = 0 ∧ A < n ∧ (B < c ∨ (B = c ∧ A < k))
      · rw [if_pos q, if_pos (by omega)]
      · rw [if_neg q, if_neg]
        rintro ⟨q1, q2, q3⟩
        refine q ⟨q1, q2, ?_⟩
        rcases q3 with q3 | ⟨q3, q4⟩
        · exact .inl q3
        · refine .inr ⟨q3, ?_⟩
          by_cases e4 : A = k
          · exfalso
            rw [q3, e4, Nat.mul_comm] at hd
            omega
          · omega
  · obtain ⟨i, hi, rfl⟩ := List.getElem_of_mem hx
    rw [List.getElem_set]
    split
    · exact hf
    · exact h.u64 _ (List.getElem_mem _)
theorem ValsInv.all (h1 : 1 ≤ N) {out : List Int} (h : ValsInv N n f N 0 out) {v : Nat} (h2 : v % 2 = 0) (hv : v / 2 < n) : valAt out v = f (v / 2 % N) (v / 2 / N) := by
  rw [h.at_ v]
  unfold valsF
  have hm := Nat.mod_lt (v / 2) (show 0 < N by omega)
  have hd := Nat.div_le_self (v / 2) N
  rw [if_pos ⟨h2, Nat.lt_of_le_of_lt hd hv, .inl hm⟩]
end
section
variable {nl N : Nat} {R : Rel} {level : Int} {ls vals : List Int}
/-- The values that paths.Vals makes of the second valuation's inputs are those of the twins. -/
theorem vals_second (h1 : 1 ≤ N) {out : List Int} (h : ValsInv N 12 (valB N nl R level ls vals) N 0 out) {v : Nat} (h2 : v % 2 = 0) (hv : v ≤ 10) : valAt out v = valAt vals (ofR nl R level ls (v : Int)).toNat := by
  rw [h.all h1 h2 (by omega)]
  unfold valB
  have hd := Nat.div_add_mod (v / 2) N
  have e : 2 * (v / 2 / N * N + v / 2 % N) = v := by rw [Nat.mul_comm (v / 2 / N) N]; omega
  rw [e]
/-- What the level sees is the same in both valuations. -/
theorem valAB (hN : ls.length = N) {c : Nat} (hc : c < N) (hle : leB nl R (ls.getD c 0) level = true) (k : Nat) : valB N nl R level ls vals c k = valA N vals c k := by
  unfold valB valA
  congr 1
  unfold ofR
  rw [Int.toNat_natCast, hN]
  have e2 : 2 * (k * N + c) / 2 % N = c := by rw [Nat.mul_div_cancel_left _ (by decide), Nat.add_comm, Nat.add_mul_mod_self_right, Nat.mod_eq_of_lt hc]
  rw [e2, if_pos hle]
  omega
theorem valAt_u64 (hu : U64s vals) (m : Nat) : 0 ≤ valAt vals m ∧ valAt vals m ≤ 18446744073709551615 := by
  unfold valAt
  rw [List.getD_eq_getElem?_getD]
  cases h : vals[m]? with
  | none => exact ⟨Int.le_refl _, by decide⟩
  | some x => exact hu x (List.mem_of_getElem? h)
end
end Go.Proofs.YteamnchoddegpaaGreatDoor
