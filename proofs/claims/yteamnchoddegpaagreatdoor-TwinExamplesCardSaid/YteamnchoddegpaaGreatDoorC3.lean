/- TwEx, TwExN, TwTermT, TwExB, TwExC: joined by wip/bundle.py. -/
import Derived.Test.YteamnchoddegpaaGreatDoorB1
import Derived.Test.YteamnchoddegpaaGreatDoorB2
import Derived.Test.YteamnchoddegpaaGreatDoorB3
import Derived.Test.YteamnchoddegpaaGreatDoorB4
import Derived.Test.YteamnchoddegpaaGreatDoorB5
import Derived.Test.YteamnchoddegpaaGreatDoorB6
import Derived.Test.YteamnchoddegpaaGreatDoorB7
import Derived.Test.YteamnchoddegpaaGreatDoorB8
import Derived.Test.YteamnchoddegpaaGreatDoorB9
import Derived.Test.YteamnchoddegpaaGreatDoorB10
import Derived.Test.YteamnchoddegpaaGreatDoorB11
import Derived.Test.YteamnchoddegpaaGreatDoorB12
import Derived.Test.YteamnchoddegpaaGreatDoorB13
import Derived.Test.YteamnchoddegpaaGreatDoorB14
import Derived.Test.YteamnchoddegpaaGreatDoorB15
import Derived.Test.YteamnchoddegpaaGreatDoorB16
import Derived.Test.YteamnchoddegpaaGreatDoorB17
import Derived.Test.YteamnchoddegpaaGreatDoorB18
import Derived.Test.YteamnchoddegpaaGreatDoorB19
import Derived.Test.YteamnchoddegpaaGreatDoorB20
import Derived.Test.YteamnchoddegpaaGreatDoorB21
import Derived.Test.YteamnchoddegpaaGreatDoorB22
import Derived.Test.YteamnchoddegpaaGreatDoorB23
import Derived.Test.YteamnchoddegpaaGreatDoorB24
import Derived.Test.YteamnchoddegpaaGreatDoorC1
import Derived.Test.YteamnchoddegpaaGreatDoorC2
import Derived.Laws.BitsAllLaws
import Derived.Lib.Hide
import Derived.WalkKit
import Derived.WalkSpells
import Derived.WalkLawsBesides
import Derived.BigQuiet
import Derived.Deep.QuietTactic
import Derived.Deep.RegionHeld3
import Derived.ProofKit
import Derived.Maps.Keyed
import Derived.DeepKeys4
import Derived.StillTailTactics
import Derived.Laws.CopyOwn
import Derived.Deep.RegionLaw
import Derived.Deep.Slices
import Derived.Deep.Fields
import Derived.ChangeSame
import Derived.OpenShut
import Derived.Deep.OwnRows
import Derived.Maps.RangeWalk
import Derived.Deep.DeepCutAuto
import Derived.Deep.CutBlock
import Derived.Outline
import Derived.Maps.RangeRun
import Derived.Below
import Derived.WalkSmall
import Derived.Deep.Upon
import Derived.WalkMore
import Derived.Ground.NamesProg
import Derived.Shelf.Sort.Plain
import Derived.Shelf.Slices.In.SortNone
import Derived.Lib.SortBridge
import Derived.Sort.OwnSortedInts
import Derived.Deep.DrawnRows
import Derived.Defers
import Derived.Recover
import Derived.WideKeyArr2
import Derived.Lib.AppendZeros
import Derived.BigRegion
import Derived.StillTail
import Derived.Lib.TrailingZeros
namespace Go.Proofs.YteamnchoddegpaaGreatDoor
open Go.RowKit Go.Maps
set_option maxHeartbeats 3200000
set_option maxRecDepth 100000 in
theorem tmay_nil (w : World) (level : Int) (v : Value) : Calls Tryz.prog 34 #[.pointer none, .int .i64 level, v] w fun e w' => e = .returned (.int .i64 1) ∧ w = w' := by
  go_enter Tryz.func34, Tryz.ntmps34
  go_wp2
  go_ret
  exact ⟨rfl, rfl⟩
set_option maxRecDepth 100000 in
theorem tvar_nil (w : World) (level m : Int) (v : Value) : Calls Tryz.prog 18 #[.pointer none, .int .i64 level, v, .int .i64 m] w fun e w' => e = .returned (.tuple #[.int .i64 0, .int .i64 1]) ∧ w = w' := by
  go_enter Tryz.func18, Tryz.ntmps18
  go_wp2_with (go_at_call 34; refine (tmay_nil _ _ _).mono ?_; rintro e w1 ⟨rfl, rfl⟩)
  go_ret2
  exact ⟨rfl, rfl⟩
set_option maxRecDepth 100000 in
theorem term_nil (w : World) (lb : Nat) (level t : Int) (a : Option Addr) (n c : Nat) : Calls Tryz.prog 10 #[.pointer none, .pointer (some ⟨lb, 0, none⟩), .int .i64 level, .slice a n c, .int .i64 t] w fun e w' => e = .returned (.tuple #[.int .i64 0, .int .i64 1]) ∧ Below w.heap.size w w' := by
  have hb : Below w.heap.size w ((((w.alloc (.cells #[.pointer none] 32)).alloc (.cells #[.pointer (some ⟨lb, 0, none⟩)] 28)).alloc (.cells #[.int .i64 level] 3)).alloc (.cells #[.slice a n c] 24)) := by
    refine (((below_new w _).alloc ?_ _).alloc ?_ _).alloc ?_ _ <;> simp [World.size_alloc] <;> omega
  have hc : ((((w.alloc (.cells #[.pointer none] 32)).alloc (.cells #[.pointer (some ⟨lb, 0, none⟩)] 28)).alloc (.cells #[.int .i64 level] 3)).alloc (.cells #[.slice a n c] 24)).cell? ⟨w.heap.size, 0, none⟩ = some (.pointer none) := by
    have h1 : (w.alloc (.cells #[.pointer none] 32)).cell? ⟨w.heap.size, 0, none⟩ = some (.pointer none) := by rw [World.cell?_alloc_at _ _ _ _ rfl]; rfl
    exact cell_later (below_new _ _) (cell_later (below_new _ _) (cell_later (below_new _ _) h1))
  obtain ⟨p, hp⟩ : ∃ p, w.heap.size = p := ⟨_, rfl⟩
  rw [hp] at hc
  have HB := Lib.hid hb; have HC := Lib.hid hc
  clear hb hc
  go_enter Tryz.func10, Tryz.ntmps10
  go_upto_region 1 with fail
  go_step3
  simp only [hp, Nat.add_assoc, Nat.reduceAdd]
  refine wp_abs (fun wx => wx.cell? ⟨p, 0, none⟩ = some (.pointer none) ∧ Below w.heap.size w wx) ⟨HC.out, HB.out⟩ ?_
  rintro w1 ⟨c1, b1⟩
  have HB1 := Lib.hid b1
  clear b1 HB HC
  go_wp2
  rw [Exit.noGoto_ret]
  go_ret2
  exact ⟨rfl, HB1.out⟩
/-- The graph of the example. -/
def exR : List RawN := [⟨0, 0, 1, 0, 0⟩, ⟨1, 0, 0, 0, 0⟩, ⟨1, 0, 0, 2, 0⟩, ⟨2, 2, 0, 1, 2⟩]
theorem exR_list : rawsL 8 1000 exR = [(0, 1, []), (1, 0, []), (1, 2, []), (4, 0, [1, 2])] := by decide
theorem exR_vars : varsO (rawsL 8 1000 exR) (occS (rawsL 8 1000 exR) [(3 : Int)]) = [0, 2] := by
  rw [exR_list]
  exact varsO_of (by decide) (by decide)
theorem exR_val : val 8 [5, 0, 7] (rawsL 8 1000 exR) 3 = 12 := by rw [exR_list]; decide
theorem ex_tw : (∀ i : Nat, i < 4 → varTw 2 (latR 2 [(0, 1)]) 0 [0, 1] (2 * (i : Int)) = [0, 3, 4, 7].getD i 0 ∧ varE 2 0 [0, 1] (2 * (i : Int)) = 0) := by decide
theorem ex_tw1 : varE 2 0 [0, 1] 1 = 2 ∧ varTw 2 (latR 2 [(0, 1)]) 1 [0, 1] 2 = 2 ∧ varE 2 1 [0, 1] 2 = 0 ∧ varE 2 0 [] 0 = 3 ∧ mayE 2 0 [0, 1] = 0 := by decide
theorem ex_splA : splX (valA 2 [5, 0, 6, 7]) (splE 2 0 [0, 1] 1) 2 1 = [[5], [6]] := by decide
theorem ex_splB : splX (valB 2 2 (latR 2 [(0, 1)]) 0 [0, 1] [5, 0, 6, 7]) (splE 2 0 [0, 1] 1) 2 1 = [[5], [7]] := by decide
theorem exR_rows {w : World} {b : Nat} (h : w.heap[b]? = some (.cells #[.int .u8 0, .int .u8 0, .int .u64 1, .int .u16 0, .int .u16 0, .int .u8 1, .int .u8 0, .int .u64 0, .int .u16 0, .int .u16 0, .int .u8 1, .int .u8 0, .int .u64 0, .int .u16 2, .int .u16 0, .int .u8 2, .int .u8 2, .int .u64 0, .int .u16 1, .int .u16 2] 53 (0, 0))) : RawsOf w (.slice (some ⟨b, 0, none⟩) 4 4) exR := by
  refine ⟨_, _, _, rfl, rfl, fun i hi => ?_⟩
  have hok : ∀ r ∈ exR, r.Ok := by
    intro r hr
    simp only [exR, List.mem_cons, List.not_mem_nil, or_false] at hr
    rcases hr with rfl | rfl | rfl | rfl <;> exact ⟨by decide, by decide, by decide, by decide, by decide⟩
  have hc : i = 0 ∨ i = 1 ∨ i = 2 ∨ i = 3 := by omega
  rcases hc with rfl | rfl | rfl | rfl
  all_goals
    refine ⟨b, 0, _, rfl, rfl, hok _ (by simp [exR]), ?_, ?_, ?_, ?_, ?_⟩ <;> (rw [cell_of_row w b _ _ _ _ h]; rfl)
end Go.Proofs.YteamnchoddegpaaGreatDoor
namespace Go.Proofs.YteamnchoddegpaaGreatDoor
open Go.RowKit Go.Maps
set_option maxHeartbeats 3200000
def boxes7N (p5 p6 p7 p8 p9 pa pb : Nat) (level n : Int) (chv vv : Value) : List Thing :=
  [Thing.box pa 54 #[.slice none 0 0], Thing.box pb 54 #[.slice none 0 0], Thing.box p9 25 #[vv], Thing.box p8 3 #[.int .i64 n], Thing.box p7 24 #[chv], Thing.box p6 3 #[.int .i64 level], Thing.box p5 28 #[.pointer none]]
theorem boxes7N_lab (wq : World) (level n : Int) (chv vv : Value) :
    Lab wq (((((((wq.alloc (.cells #[.pointer none] 28)).alloc (.cells #[.int .i64 level] 3)).alloc (.cells #[chv] 24)).alloc (.cells #[.int .i64 n] 3)).alloc (.cells #[vv] 25)).alloc (.cells #[.slice none 0 0] 54)).alloc (.cells #[.slice none 0 0] 54))
      (boxes7N wq.heap.size (wq.heap.size + 1) (wq.heap.size + 2) (wq.heap.size + 3) (wq.heap.size + 4) (wq.heap.size + 5) (wq.heap.size + 6) level n chv vv) := by
  have h := (((((((Lab.nil (Below.refl wq.heap.size wq)).alloc #[.pointer none] 28).alloc #[.int .i64 level] 3).alloc #[chv] 24).alloc #[.int .i64 n] 3).alloc #[vv] 25).alloc #[.slice none 0 0] 54).alloc #[.slice none 0 0] 54
  simp only [World.size_alloc, Nat.add_assoc, Nat.reduceAdd] at h
  exact h.swap
set_option maxRecDepth 100000 in
theorem split_nil (wq : World) (level n : Int) (ac av : Option Addr) (nc cc nv cv : Nat) :
    Calls Tryz.prog 19 #[.pointer none, .int .i64 level, .slice ac nc cc, .int .i64 n, .slice av nv cv] wq fun e w' => e = .returned (.tuple #[.slice none 0 0, .slice none 0 0, .int .i64 1]) ∧ Below wq.heap.size wq w' := by
  have h0 := boxes7N_lab wq level n (.slice ac nc cc) (.slice av nv cv)
  have HL0 := Lib.hid h0
  clear h0
  go_enter_defers Tryz.func19, Tryz.ntmps19
  go_upto_region 1 with fail
  obtain ⟨s, hs⟩ : ∃ s, wq.heap.size = s := ⟨_, rfl⟩
  rw [hs] at HL0
  simp only [hs, Nat.add_assoc, Nat.reduceAdd]
  have hd : ∀ k, s + (k + 1) ≠ s := fun k => by omega
  obtain ⟨p6, hp6⟩ : ∃ p6, s + 1 = p6 := ⟨_, rfl⟩
  obtain ⟨p7, hp7⟩ : ∃ p7, s + 2 = p7 := ⟨_, rfl⟩
  obtain ⟨p8, hp8⟩ : ∃ p8, s + 3 = p8 := ⟨_, rfl⟩
  obtain ⟨p9, hp9⟩ : ∃ p9, s + 4 = p9 := ⟨_, rfl⟩
  obtain ⟨pa, hpa⟩ : ∃ pa, s + 5 = pa := ⟨_, rfl⟩
  obtain ⟨pb, hpb⟩ : ∃ pb, s + 6 = pb := ⟨_, rfl⟩
  have d1 : pa ≠ pb := by omega
  have d2 : pb ≠ pa := by omega
  rw [hp6, hp7, hp8, hp9, hpa, hpb] at HL0 ⊢
  clear hs hd hp6 hp7 hp8 hp9 hpa hpb
  refine wp_abs (fun w1 => Lab wq w1 (boxes7N s p6 p7 p8 p9 pa pb level n (.slice ac nc cc) (.slice av nv cv))) HL0.out ?_
  clear HL0
  rintro w1 hl
  have g : ∀ b T x, Thing.box b T #[x] ∈ boxes7N s p6 p7 p8 p9 pa pb level n (.slice ac nc cc) (.slice av nv cv) → w1.cell? ⟨b, 0, none⟩ = some x := fun b T x hm => by
    rw [cell_of_row w1 b 0 _ _ _ (hl.holds (Thing.box b T #[x]) hm)]; rfl
  have c5 := g s 28 (.pointer none) (by simp [boxes7N])
  have c6 := g p6 3 (.int .i64 level) (by simp [boxes7N])
  have c7 := g p7 24 (.slice ac nc cc) (by simp [boxes7N])
  have c8 := g p8 3 (.int .i64 n) (by simp [boxes7N])
  have c9 := g p9 25 (.slice av nv cv) (by simp [boxes7N])
  have ca := g pa 54 (.slice none 0 0) (by simp [boxes7N])
  have cb := g pb 54 (.slice none 0 0) (by simp [boxes7N])
  have fa := frozen_of_row w1 pa 0 _ _ (Lab.box1 hl)
  have fb := frozen_of_row w1 pb 0 _ _ (Lab.box2 hl)
  have hfin : Lab wq ((w1.setCell ⟨pa, 0, none⟩ (.slice none 0 0)).setCell ⟨pb, 0, none⟩ (.slice none 0 0)) (Thing.box pa 54 #[.slice none 0 0] :: Thing.box pb 54 #[.slice none 0 0] :: []) :=
    (((Lab.store hl 0 (.slice none 0 0)).swap.store 0 (.slice none 0 0)).swap).subl (by simp)
  have HF := Lib.hid hfin
  clear hl hfin g
  go_wp2_with (go_at_call 34; refine (tmay_nil _ _ _).mono ?_; rintro e w2 ⟨rfl, rfl⟩)
  refine ⟨_, split_results (e := 1) rfl rfl rfl ?_ ?_, rfl, HF.out.below⟩
  · rw [cell_of_row _ pa 0 _ _ _ HF.out.box1]; rfl
  · rw [cell_of_row _ pb 0 _ _ _ HF.out.box2]; rfl
end Go.Proofs.YteamnchoddegpaaGreatDoor
namespace Go.Proofs.YteamnchoddegpaaGreatDoor
open Go.RowKit Go.Maps
set_option maxHeartbeats 3200000
section
variable {w0 wq wr w' : World} {ts : List Thing} {F I : List Nat} {gb W room lb nl p5 p6 p7 p8 : Nat} {L : List PNode} {R : Rel} {level : Int} {chv : Value} {ls : List Int}
/-- The function value: the variable of the twin. -/
theorem Lab.twfnT (h : Lab w0 wq (Thing.graph F I gb W room L :: twK p5 p6 p7 p8 gb lb level chv :: ts)) (hlat : LatIs w0 lb nl R) (hch : ∀ wx, Lab w0 wx ts → SliceOf wx .i64 chv ls) (hl : 1 ≤ ls.length) (hl2 : ls.length ≤ 32) (m : Int) (hm : 0 ≤ m) (hm2 : m < 1000000000) :
    Calls Tryz.prog 36 #[.int .i64 m, .pointer (some ⟨p5, 0, none⟩), .pointer (some ⟨p6, 0, none⟩), .pointer (some ⟨p7, 0, none⟩), .pointer (some ⟨p8, 0, none⟩)] wq fun e w' =>
      ∃ F' I', e = .returned (.tuple #[.int .i64 (varR room L (ofR nl R level ls m)).2.1, .int .i64 (varR room L (ofR nl R level ls m)).2.2]) ∧ Lab w0 w' (Thing.graph F' I' gb W room (varR room L (ofR nl R level ls m)).1 :: twK p5 p6 p7 p8 gb lb level chv :: ts) := by
  have h1 := h.drew1
  have hof := twof_any (hlat.later h1.below) level (hch _ h1.drop.drop) hl hl2 m hm hm2
  have hc := twK_cells h1.second
  obtain ⟨q, hq⟩ : ∃ q, ofR nl R level ls m = q := ⟨_, rfl⟩
  rw [hq] at hof ⊢
  have hv := var_any h1.gr q
  obtain ⟨ao, no, co, rfl, -, -⟩ := (hch _ h.drop.drop).parts
  obtain ⟨d5, d6, d7, d8⟩ := hc
  obtain ⟨e5, e6, e7, e8⟩ := twK_cells h.second
  have HOF := Lib.hid hof; have HV := Lib.hid hv; have HL := Lib.hid h1
  clear h h1 hof hv hlat hch hq
  go_enter Tryz.func36, Tryz.ntmps36
  go_upto_region 1 with fail
  go_region_held3 (fun w' => w'.cell? ⟨p5, 0, none⟩ = some (.pointer (some ⟨gb, 0, none⟩)) ∧ w'.cell? ⟨p6, 0, none⟩ = some (.pointer (some ⟨lb, 0, none⟩)) ∧ w'.cell? ⟨p7, 0, none⟩ = some (.int .i64 level) ∧ w'.cell? ⟨p8, 0, none⟩ = some (.slice ao no co)) (first | exact ⟨by assumption, by assumption, by assumption, by assumption⟩ | go_keep)
    (first | (go_at_call 37; refine HOF.out.mono ?_; rintro e w5 ⟨rfl, rfl⟩) | (go_at_call 30; refine HV.out.mono ?_; intro e w5 hp; obtain ⟨F2, I2, rfl, hl2⟩ := HL.out.gpost hp; obtain ⟨g5, g6, g7, g8⟩ := twK_cells hl2.second; have HL2 := Lib.hid hl2; clear hl2 hp))
  all_goals
    go_wp2
    go_ret2
    exact ⟨_, _, rfl, HL2.out⟩
set_option maxRecDepth 100000 in
theorem Lab.term_okT (h : Lab w0 wq (Thing.graph F I gb W room L :: ts)) (hlat : LatIs w0 lb nl R) (hch : ∀ wx, Lab w0 wx ts → SliceOf wx .i64 chv ls) (hm : mayE nl level ls = 0) (hg : GoodL W L) {t : Nat} (ht : t < L.length)
    (hev : ∀ v ∈ varsO L (occS L [(t : Int)]), v % 2 = 0 ∧ v ≤ 4194302) (hroom : 3 * L.length ≤ room) (hL : L.length ≤ 100000) :
    Calls Tryz.prog 10 #[.pointer (some ⟨gb, 0, none⟩), .pointer (some ⟨lb, 0, none⟩), .int .i64 level, chv, .int .i64 t] wq fun e w' =>
      ∃ L2 s F2 I2, e = .returned (.tuple #[.int .i64 ((s : Nat) : Int), .int .i64 0]) ∧ Lab w0 w' (Thing.graph F2 I2 gb W room L2 :: ts) ∧ WFL L2 ∧ GoodL W L2 ∧ L <+: L2 ∧ s < L2.length ∧
        ∀ inner outer, (∀ v : Nat, (v : Int) ∈ varsO L (occS L [(t : Int)]) → valAt outer v = valAt inner (ofR nl R level ls v).toNat) → val W inner L2 s = val W outer L t := by
  have hwf := h.gr.wf
  have hW1 := h.gr.w1
  have hW2 := h.gr.w2
  have hml := may_len hm
  obtain ⟨all, hall⟩ : ∃ all, varsO L (occS L [(t : Int)]) = all := ⟨_, rfl⟩
  have hin := InL_one (L := L) ht
  have hpos : ∀ v ∈ all, 0 ≤ v := fun v hv => by
    rw [← hall, mem_varsO] at hv
    obtain ⟨j, n, -, -, -, e⟩ := hv
    omega
  have halln : all.length ≤ L.length := by rw [← hall]; exact varsO_len
  have hnd : all.Nodup := by rw [← hall]; exact varsO_nodup hwf
  have hocc : ∀ (i v : Nat), L[i]? = some (1, v, []) → occ L t i = true → (v : Int) ∈ all := fun i v hi ho => by
    rw [← hall, mem_varsO]
    exact ⟨i, (1, v, []), by rw [occS_one hwf ht i (List.getElem?_eq_some_iff.1 hi).1]; exact ho, hi, rfl, rfl⟩
  rw [hall] at hev ⊢
  obtain ⟨f, hf⟩ : ∃ f : Int → Int, (fun v => ofR nl R level ls v) = f := ⟨_, rfl⟩
  have hfv : ∀ v, ofR nl R level ls v = f v := fun v => by rw [← hf]
  have hfb : ∀ n ∈ all, 0 ≤ f n ∧ f n ≤ 4194303 := fun n hn => by rw [← hfv]; exact ofR_bound (hpos n hn) (hev n hn).2
  have hrun := twRun_ok (room := room) hwf hg hfb (by omega)
  have hend : TwInv W f L all (twRun room f L all) := by have := hrun all.length (Nat.le_refl _); rwa [List.take_length] at this
  simp only [hfv]
  have HALL := Lib.hid hall
  have hb0 := tw_boxes h gb lb level chv
  obtain ⟨p, hp⟩ : ∃ p, wq.heap.size = p := ⟨_, rfl⟩
  rw [hp] at hb0
  obtain ⟨ao, no, co, rfl, hno, -⟩ := (hch _ h.drop).parts
  have HB := Lib.hid hb0; have HLC := Lib.hid (And.intro hlat hch); have HM := Lib.hid hm; have HG := Lib.hid hg; have HIN := Lib.hid hin; have HEV := Lib.hid (And.intro hev hpos); have HRUN := Lib.hid hrun; have HEND := Lib.hid hend; have HFV := Lib.hid hfv; have HFB := Lib.hid hfb
  have HPL := Lib.hid (And.intro hnd (And.intro hocc (And.intro hwf (And.intro hW1 hW2)))); have HML := Lib.hid hml; have HN := Lib.hid halln
  clear h hb0 hlat hch hm hg hin hev hpos hrun hend hfv hfb hf hnd hocc hwf hW1 hW2 hml hall halln hno
  go_enter Tryz.func10, Tryz.ntmps10
  go_upto_region 1 with fail
  go_step3
  simp only [hp, Nat.add_assoc, Nat.reduceAdd]
  refine wp_abs (fun wx => Lab w0 wx (twK p (p + 1) (p + 2) (p + 3) gb lb level (.slice ao no co) :: Thing.graph F I gb W room L :: ts)) HB.out ?_
  rintro w1 hl1
  obtain ⟨d5, d6, d7, d8⟩ := twK_cells hl1.head
  have hmay := may_any (HLC.out.1.later hl1.below) level (HLC.out.2 _ hl1.drop.drop)
  rw [HM.out] at hmay
  have hl2 := hl1.alloc #[.int .i64 (t : Int)] 3
  have hv := hl2.rot3.vars HG.out (.slice (some ⟨w1.heap.size, 0, none⟩) 1 1) [(t : Int)] (slice_of_box (xs := [(t : Int)]) hl2.box1) (by simp)
  have HMAY := Lib.hid hmay; have HV := Lib.hid hv
  clear hl1 hl2 hmay hv HB hp
  go_wp2_with fail
  go_at_call 34
  refine HMAY.out.mono ?_
  rintro e w2 ⟨rfl, rfl⟩
  go_wp2_with fail
  go_at_call 35
  refine HV.out.mono ?_
  rintro e w3 ⟨h1, -⟩
  obtain ⟨a3, c3, rfl, hl3⟩ := h1 HIN.out
  rw [HALL.out] at hl3 ⊢
  obtain ⟨n, hn⟩ : ∃ n, all.length = n := ⟨_, rfl⟩
  have hn9 : n ≤ 100000 := by have := HN.out; omega
  rw [hn] at hl3 ⊢
  have hall : ∀ k, k < n → ∃ b q : Nat, a3 = some ⟨b, 0, none⟩ ∧ all[k]? = some (q : Int) ∧ w3.cell? ⟨b, k, none⟩ = some (.int .i64 (q : Int)) ∧ ((q : Int) % 2 == 1) = false ∧ ¬ (4194302 : Int) < (q : Int) := fun k hk => by
    have hs : SliceOf w3 .i64 (.slice a3 n c3) all := OwnInts.slice hl3.ints
    obtain ⟨b, off, x, e1, e2, e3⟩ := hs.parts' hk
    have hx0 := HEV.out.2 x (List.mem_of_getElem? e3)
    have hx1 := HEV.out.1 x (List.mem_of_getElem? e3)
    obtain ⟨q, rfl⟩ := Int.eq_ofNat_of_zero_le hx0
    obtain ⟨g, cap, e4⟩ := own_some' hl3.ints (by intro e; rw [e] at hn; simp at hn; omega)
    simp only [Value.slice.injEq] at e4
    rw [e1] at e4
    simp only [Option.some.injEq, Addr.mk.injEq, and_true] at e4
    obtain ⟨⟨rfl, rfl⟩, -⟩ := e4
    rw [Nat.zero_add] at e2
    exact ⟨b, q, e1, e3, e2, by rw [beq_eq_false_iff_ne]; omega, by omega⟩
  obtain ⟨e5, e6, e7, e8⟩ := twK_cells hl3.fourth
  have HL3 := Lib.hid hl3; have HA3 := Lib.hid hall; have HNN := Lib.hid hn
  clear h1 hl3 hall hn HV HMAY d5 d6 d7 d8
  go_wp2
  go_loopw [45] (fun v wx => ∃ k : Nat, k ≤ n ∧ v = .int .i64 k ∧ w3 = wx) (fun v _ => n - (intOf v).toNat)
  case atStart => exact ⟨0, by omega, rfl, rfl⟩
  case round =>
    obtain ⟨k, hk, rfl, rfl⟩ := hrel
    by_cases hlt : k < n
    · have hlt' : (k : Int) < (n : Int) := by omega
      have k0 : (0 : Int) ≤ (k : Int) := by omega
      obtain ⟨b, q, rfl, -, c1, q1, q2⟩ := HA3.out k hlt
      go_wp2
      refine ⟨⟨k + 1, by omega, by go_num, by first | rfl | trivial⟩, ?_⟩
      simp [intOf]; omega
    · obtain rfl : k = n := by omega
      have hl4 := HL3.out.rot3.drop
      have hl5 := (hl4.numsK_none (k := .i64) (E := 3)).numsK_none (k := .i64) (E := 3)
      have H5 := Lib.hid hl5
      clear hl4 hl5 HL3 HA3 e5 e6 e7 e8
      go_wp2
      go_step3
      go_wp2
      go_loopw [18, 19, 60] (fun v18 v19 v60 wx => ∃ j : Nat, j ≤ k ∧ v60 = .int .i64 j ∧ ∃ av cv au cu L1 vs us F I, twRun room f L (all.take j) = (L1, vs, us) ∧ v18 = .slice av vs.length cv ∧ v19 = .slice au us.length cu ∧
        Lab w0 wx (Thing.numsK .i64 3 (.slice av vs.length cv) vs :: Thing.numsK .i64 3 (.slice au us.length cu) us :: Thing.ints (.slice a3 k c3) all :: Thing.graph F I gb W room L1 :: twK p (p + 1) (p + 2) (p + 3) gb lb level (.slice ao no co) :: ts)) (fun _ _ v60 _ => k - (intOf v60).toNat)
      case atStart => exact ⟨0, by omega, rfl, none, 0, none, 0, L, [], [], F, I, rfl, rfl, rfl, H5.out⟩
      case round =>
        clear H5
        obtain ⟨j, hj, rfl, av, cv, au, cu, L1, vs, us, F, I, hrn, rfl, rfl, hl⟩ := hrel
        by_cases hlj : j < k
        · have hlj' : (j : Int) < (k : Int) := by omega
          have j0 : (0 : Int) ≤ (j : Int) := by omega
          obtain ⟨b, off, x, rfl, hc, hx⟩ := (OwnInts.slice hl.ints3).parts' hlj
          have hx0 := HEV.out.2 x (List.mem_of_getElem? hx)
          have hx1 := (HEV.out.1 x (List.mem_of_getElem? hx)).2
          have hfb := HFB.out x (List.mem_of_getElem? hx)
          have htk : all.take (j + 1) = all.take j ++ [x] := by rw [List.take_add_one, hx]; rfl
          have hnx : twRun room f L (all.take (j + 1)) = twStep room f (L1, vs, us) x := by rw [htk, twRun_snoc, hrn]
          have hinv := HRUN.out j (by have := HNN.out; omega)
          rw [hrn] at hinv
          have hst := twStep_ok (room := room) hinv hfb.1 hfb.2 (by rw [List.length_take]; have := HNN.out; have := HN.out; omega)
          have hof := twof_any (HLC.out.1.later hl.below) level (HLC.out.2 _ hl.drop.drop.drop.drop.drop) HML.out.1 HML.out.2.1 x hx0 (by omega)
          rw [HFV.out] at hof
          obtain ⟨d5, d6, d7, d8⟩ := twK_cells hl.fifth
          obtain ⟨y, hy⟩ : ∃ y, f x = y := ⟨_, rfl⟩
          have HOF := Lib.hid hof; have HL := Lib.hid hl; have HNX := Lib.hid hnx; have HST := Lib.hid hst; have HX := Lib.hid (And.intro hx0 (And.intro hx1 hfb)); have HRN := Lib.hid hrn
          have HY := Lib.hid hy
          have HVL := Lib.hid (show vs.length ≤ 100000 ∧ us.length ≤ 100000 by
            have h1 : vs = (all.take j).filter fun n => decide (f n ≠ n) := hinv.vs
            have h2 : us.length = vs.length := hinv.us
            have h3 := List.length_filter_le (fun n => decide (f n ≠ n)) (all.take j)
            rw [← h1, List.length_take] at h3
            omega)
          rw [hy] at HOF
          clear hl hx hx0 hx1 hfb htk hnx hinv hst hof hrn hy
          by_cases hxy : y = x
          · have HXY := Lib.hid hxy
            subst hxy
            go_wp2_with (go_at_call 37; refine HOF.out.mono ?_; rintro e w5 ⟨rfl, rfl⟩)
            refine ⟨⟨j + 1, by omega, by go_num, av, cv, au, cu, L1, vs, us, F, I, ?_, rfl, rfl, HL.out⟩, ?_⟩
            · rw [HNX.out]
              unfold twStep
              rw [if_pos HY.out]
            · simp [intOf]; omega
          · have hne : (y == x) = false := by rw [beq_eq_false_iff_ne]; exact hxy
            have hfn := HL.out.rot5.rot5.twfnT HLC.out.1 (fun wx h => HLC.out.2 wx h.drop.drop.drop) (level := level) HML.out.1 HML.out.2.1 x HX.out.1 (by have := HX.out.2.1; omega)
            rw [HFV.out, HY.out] at hfn
            have he := HST.out.2 (by rw [HY.out]; exact hxy)
            rw [HY.out] at he
            have hnx := HNX.out
            unfold twStep at hnx
            rw [HY.out, if_neg hxy] at hnx
            obtain ⟨R3, hR3⟩ : ∃ R3, varR room L1 y = R3 := ⟨_, rfl⟩
            have he' : (varR room L1 y).2.2 = 0 := he
            rw [hR3] at he'
            have hnx' : twRun room f L (all.take (j + 1)) = (R3.1, vs ++ [x], us ++ [(R3.2.1 : Int)]) := by rw [hnx, ← hR3]
            rw [hR3] at hfn
            obtain ⟨L3, u, e3⟩ := R3
            simp only at he' hnx' hfn
            subst he'
            have HFN := Lib.hid hfn; have HNY := Lib.hid hnx'
            clear hfn he hnx hR3 hnx' hxy
            go_wp2_with fail
            go_at_call 37
            refine HOF.out.mono ?_
            rintro e w5 ⟨rfl, rfl⟩
            go_wp2_with fail
            go_at_call 36
            refine HFN.out.mono ?_
            rintro e w5 ⟨F5, I5, rfl, hl5⟩
            have hl6 := hl5.rot3
            have hl7 := hl6
            obtain ⟨a6, c6, w6, hr6, hl8⟩ := Lab.append1 (m := vs.length) 24 24 8 x rfl hl6 Tryz.underlying24 Tryz.infoI64 (by decide) (by have := HVL.out; omega)
            obtain ⟨a7, c7, w7, hr7, hl9⟩ := Lab.append1 (m := us.length) 24 24 8 (u : Int) rfl hl8.rot4 Tryz.underlying24 Tryz.infoI64 (by decide) (by have := HVL.out; omega)
            have HR6 := Lib.hid hr6; have HR7 := Lib.hid hr7; have HL9 := Lib.hid hl9
            clear hl5 hl6 hl7 hr6 hl8 hr7 hl9 HL
            go_wp2_with (first
              | (at_builtin; refine Lib.wpList_append_run _ rfl _ _ 24 24 rfl _ _ rfl rfl _ _ HR6.out ?_)
              | (at_builtin; refine Lib.wpList_append_run _ rfl _ _ 24 24 rfl _ _ rfl rfl _ _ HR7.out ?_))
            refine ⟨⟨j + 1, by omega, by go_num, a6, c6, a7, c7, L3, vs ++ [x], us ++ [(u : Int)], F5, I5, HNY.out, by rw [List.length_append]; rfl, by rw [List.length_append]; rfl, ?_⟩, ?_⟩
            · rw [List.length_append, List.length_append]
              exact HL9.out.swap.rot5.rot3.rot3
            · simp [intOf]; omega
        · obtain rfl : j = k := by omega
          rw [List.take_of_length_le (by rw [HNN.out]; exact Nat.le_refl _)] at hrn
          have hend := HEND.out
          rw [hrn] at hend
          have hlen1 : L1.length ≤ L.length + all.length := hend.len
          obtain ⟨L2, s, q1, q2, q3, q4, q5, q6⟩ := tw_sub (room := room) HPL.out.2.2.2.2 hend HPL.out.1 ht (by have := HN.out; omega)
          have hvs : vs = all.filter fun n => decide (f n ≠ n) := hend.vs
          have hus : us.length = vs.length := hend.us
          have hvl := List.length_filter_le (fun n => decide (f n ≠ n)) all
          rw [← hvs] at hvl
          have hg1 : GoodL W L1 := hend.good
          have hsub := Lab.subst hl.rot4 (t : Int) _ _ vs us (OwnInts.slice hl.rot4.second) (OwnInts.slice hl.rot4.third) hg1 (fun v hv => wf_i64 (by rw [hvs] at hv; have := HEV.out.2 v (List.mem_filter.1 hv).1; omega) (by rw [hvs] at hv; have := HEV.out.1 v (List.mem_filter.1 hv).1; omega)) (by have := HNN.out; omega) (by have := HNN.out; omega) q1
          have hval : ∀ inner outer, (∀ v : Nat, (v : Int) ∈ all → valAt outer v = valAt inner (f (v : Int)).toNat) → val W inner L2 s = val W outer L t := fun inner outer hv => tw_val HPL.out.2.2.2.1 HPL.out.2.2.2.2 HPL.out.2.2.1 hend HPL.out.1 ht HPL.out.2.1 q2 hv
          have hpre2 : L <+: L2 := List.IsPrefix.trans hend.pre q5
          obtain ⟨d5, d6, d7, d8⟩ := twK_cells hl.fifth
          have HSUB := Lib.hid hsub; have HFIN := Lib.hid (And.intro q3 (And.intro q4 (And.intro hpre2 (And.intro q6 hval))))
          clear hl hrn hend hlen1 q1 q2 q3 q4 q5 q6 hvs hus hvl hg1 hsub hval hpre2
          go_wp2_with fail
          go_at_call 38
          refine HSUB.out.mono ?_
          rintro e w5 ⟨F5, I5, rfl, hl5⟩
          have HL5 := Lib.hid hl5
          clear hl5
          go_wp2
          rw [Exit.noGoto_ret]
          go_ret2
          exact ⟨L2, s, F5, I5, rfl, HL5.out.swap.drop.swap.drop.swap.drop.swap.drop, HFIN.out.1, HFIN.out.2.1, HFIN.out.2.2.1, HFIN.out.2.2.2.1, HFIN.out.2.2.2.2⟩
end
end Go.Proofs.YteamnchoddegpaaGreatDoor
namespace Go.Proofs.YteamnchoddegpaaGreatDoor
open Go.RowKit Go.Maps
set_option maxHeartbeats 3200000
noncomputable def exRest (id : Nat) : Code := (Tryz.f4.body.bind (tailAt id)).getD .skip
section
variable {w wc : World}
abbrev exPost (w : World) : Exit → Act → World → Prop := bodyPost Tryz.prog Tryz.f4 (fun e w' => e = .returned (.bool true) ∧ Below w.heap.size w w')
abbrev R01 : Rel := latR 2 [(0, 1)]
theorem exR_ok : RawOk 8 4 (rawsL 8 1000 exR) := by
  have hok : ∀ r ∈ exR, r.Ok := by
    intro r hr
    simp only [exR, List.mem_cons, List.not_mem_nil, or_false] at hr
    rcases hr with rfl | rfl | rfl | rfl <;> exact ⟨by decide, by decide, by decide, by decide, by decide⟩
  exact (rawsL_ok (by decide) hok (by decide) 4 (by decide)).1
theorem exR_vars3 : varsO (rawsL 8 1000 exR) (occS (rawsL 8 1000 exR) [((3 : Nat) : Int)]) = [0, 2] := exR_vars
theorem evalR_in2 {W : Nat} {vals : List Int} {L : List PNode} {k : Nat} (h : k < L.length) : evalR W vals L (k : Int) = (val W vals L k, 0) := by
  unfold evalR; rw [if_pos (by omega), Int.toNat_natCast]
theorem nums_fresh (w : World) (a b : Int) {w' : World} (hw : w' = ((w.alloc (.cells #[.int .u64 a] 43)).alloc (.cells #[.int .u64 b] 43)).alloc (.cells #[.slice (some ⟨w.heap.size, 0, none⟩) 1 1, .slice (some ⟨w.heap.size + 1, 0, none⟩) 1 1] 25)) :
    NumsOf w' .u64 (.slice (some ⟨w.heap.size + 1 + 1, 0, none⟩) 2 2) [[a], [b]] ∧ Below w.heap.size w w' := by
  subst hw
  have h := (((Lab.nil (Below.refl w.heap.size w)).alloc #[.int .u64 a] 43).alloc #[.int .u64 b] 43).alloc #[.slice (some ⟨w.heap.size, 0, none⟩) 1 1, .slice (some ⟨w.heap.size + 1, 0, none⟩) 1 1] 25
  simp only [World.size_alloc] at h
  refine ⟨⟨_, _, _, rfl, rfl, fun i hi => ?_⟩, h.below⟩
  have hc : i = 0 ∨ i = 1 := by omega
  rcases hc with rfl | rfl
  · exact ⟨_, 0, [a], _, rfl, rfl, by rw [cell_of_row _ _ (0 + 0) _ _ _ h.box1]; rfl, slice_of_box (xs := [a]) h.box3⟩
  · exact ⟨_, 0, [b], _, rfl, rfl, by rw [cell_of_row _ _ (0 + 1) _ _ _ h.box1]; rfl, slice_of_box (xs := [b]) h.box2⟩
theorem ex_of : ofR 2 R01 0 [0, 1] 0 = 0 ∧ ofR 2 R01 0 [0, 1] 2 = 3 := by decide
theorem ex_vals (v : Nat) (hv : (v : Int) ∈ [(0 : Int), 2]) : valAt [5, 0, 7] v = valAt [5, 0, 6, 7] (ofR 2 R01 0 [0, 1] v).toNat := by
  have h : v = 0 ∨ v = 2 := by simp at hv; omega
  rcases h with rfl | rfl
  · rw [show ((0 : Nat) : Int) = 0 from rfl, ex_of.1]; rfl
  · rw [show ((2 : Nat) : Int) = 2 from rfl, ex_of.2]; rfl
set_option maxRecDepth 100000 in
theorem ex_rest11 {u0 u2 u3 u4 u5 u6 u7 u8 u9 u10 u11 u12 u13 u14 u15 u16 u17 u18 u19 u20 u21 u22 u23 u24 u25 u26 u27 u28 u29 u30 u31 u32 u33 u34 u35 u36 u37 u38 u39 u40 u41 u42 u43 u44 u45 u46 u47 u48 u49 u50 u51 u52 u53 u54 u55 u56 u57 u58 u59 u60 u61 u62 u63 u64 u65 u66 u67 u68 u69 u70 u71 u72 u73 u74 u75 u76 u77 u78 u79 u80 u81 u82 u83 u84 u85 u86 u87 u88 u89 u90 u91 u92 u93 u94 u95 u96 u97 u98 u99 u100 u101 u102 u103 u104 u105 u106 u107 u108 u109 u110 u111 u112 u113 u114 u115 u116 u117 u118 u119 u120 u121 u122 u123 u124 u125 u126 u127 u128 u129 u130 u131 u132 u133 u134 u135 u136 u137 u138 u139 u140 u141 u142 u143 u144 u145 u146 u147 u148 u149 u150 u151 u152 u153 u154 u155 u156 u157 u158 u159 u160 u161 u162 u163 u164 u165 u166 u167 u168 u169 u170 u171 u172 : Value} {lb : Nat} (hT : TabOk w) (hb : Below w.heap.size w wc) (hl : LatIs wc lb 2 R01) :
    Code.wp Tryz.prog (exRest 11) (exPost w) ⟨(List.toArray (u0 :: .pointer (some ⟨lb, 0, none⟩) :: u2 :: u3 :: u4 :: u5 :: u6 :: u7 :: u8 :: u9 :: u10 :: u11 :: u12 :: u13 :: u14 :: u15 :: u16 :: u17 :: u18 :: u19 :: u20 :: u21 :: u22 :: u23 :: u24 :: u25 :: u26 :: u27 :: u28 :: u29 :: u30 :: u31 :: u32 :: u33 :: u34 :: u35 :: u36 :: u37 :: u38 :: u39 :: u40 :: u41 :: u42 :: u43 :: u44 :: u45 :: u46 :: u47 :: u48 :: u49 :: u50 :: u51 :: u52 :: u53 :: u54 :: u55 :: u56 :: u57 :: u58 :: u59 :: u60 :: u61 :: u62 :: u63 :: u64 :: u65 :: u66 :: u67 :: u68 :: u69 :: u70 :: u71 :: u72 :: u73 :: u74 :: u75 :: u76 :: u77 :: u78 :: u79 :: u80 :: u81 :: u82 :: u83 :: u84 :: u85 :: u86 :: u87 :: u88 :: u89 :: u90 :: u91 :: u92 :: u93 :: u94 :: u95 :: u96 :: u97 :: u98 :: u99 :: u100 :: u101 :: u102 :: u103 :: u104 :: u105 :: u106 :: u107 :: u108 :: u109 :: u110 :: u111 :: u112 :: u113 :: u114 :: u115 :: u116 :: u117 :: u118 :: u119 :: u120 :: u121 :: u122 :: u123 :: u124 :: u125 :: u126 :: u127 :: u128 :: u129 :: u130 :: u131 :: u132 :: u133 :: u134 :: u135 :: u136 :: u137 :: u138 :: u139 :: u140 :: u141 :: u142 :: u143 :: u144 :: u145 :: u146 :: u147 :: u148 :: u149 :: u150 :: u151 :: u152 :: u153 :: u154 :: u155 :: u156 :: u157 :: u158 :: u159 :: u160 :: u161 :: u162 :: u163 :: u164 :: u165 :: u166 :: u167 :: u168 :: u169 :: u170 :: u171 :: u172 :: [])), []⟩ wc := by
  have HT := Lib.hid hT; have HB := Lib.hid hb; have HL := Lib.hid hl
  clear hT hb hl
  conv => arg 2; whnf
  go_wp2_with fail
  go_at_call 18
  refine (tvar_any (HL.out.later (below_new _ _)) 0 (two_nums rfl) 1).mono ?_
  rintro e w2 ⟨rfl, rfl⟩
  rw [show varTw 2 R01 0 [0, 1] 1 = 0 from by decide, ex_tw1.1]
  have HB2 := Lib.hid (HB.out.trans ((below_new wc (.cells #[.int .i64 0, .int .i64 1] 3)).mono HB.out.size))
  have HL2 := Lib.hid (HL.out.later (below_new wc (.cells #[.int .i64 0, .int .i64 1] 3)))
  obtain ⟨w2, hw2⟩ : ∃ w2, wc.alloc (.cells #[.int .i64 0, .int .i64 1] 3) = w2 := ⟨_, rfl⟩
  rw [hw2] at HB2 HL2 ⊢
  clear hw2 HB HL
  go_wp2_with fail
  go_at_call 18
  refine (tvar_any (HL2.out.later (below_new _ _)) 1 (two_nums rfl) 2).mono ?_
  rintro e w3 ⟨rfl, rfl⟩
  rw [ex_tw1.2.1, ex_tw1.2.2.1]
  have HB3 := Lib.hid (HB2.out.trans ((below_new w2 (.cells #[.int .i64 0, .int .i64 1] 3)).mono HB2.out.size))
  have HL3 := Lib.hid (HL2.out.later (below_new w2 (.cells #[.int .i64 0, .int .i64 1] 3)))
  obtain ⟨w3, hw3⟩ : ∃ w3, w2.alloc (.cells #[.int .i64 0, .int .i64 1] 3) = w3 := ⟨_, rfl⟩
  rw [hw3] at HB3 HL3 ⊢
  clear hw3 HB2 HL2
  go_wp2_with fail
  go_at_call 9
  obtain ⟨w4, hw4⟩ : ∃ w4, w3.alloc (.cells #[.int .u8 0, .int .u8 0, .int .u64 1, .int .u16 0, .int .u16 0, .int .u8 1, .int .u8 0, .int .u64 0, .int .u16 0, .int .u16 0, .int .u8 1, .int .u8 0, .int .u64 0, .int .u16 2, .int .u16 0, .int .u8 2, .int .u8 2, .int .u64 0, .int .u16 1, .int .u16 2] 53) = w4 := ⟨_, rfl⟩
  have hrw : RawsOf w4 (.slice (some ⟨w3.heap.size, 0, none⟩) 4 4) exR := exR_rows (by rw [← hw4]; exact heap_alloc_new _ _)
  have HB4 := Lib.hid (HB3.out.trans ((below_new w3 (.cells #[.int .u8 0, .int .u8 0, .int .u64 1, .int .u16 0, .int .u16 0, .int .u8 1, .int .u8 0, .int .u64 0, .int .u16 0, .int .u16 0, .int .u8 1, .int .u8 0, .int .u64 0, .int .u16 2, .int .u16 0, .int .u8 2, .int .u8 2, .int .u64 0, .int .u16 1, .int .u16 2] 53)).mono HB3.out.size))
  have HL4 := Lib.hid (HL3.out.later (below_new w3 (.cells #[.int .u8 0, .int .u8 0, .int .u64 1, .int .u16 0, .int .u16 0, .int .u8 1, .int .u8 0, .int .u64 0, .int .u16 0, .int .u16 0, .int .u8 1, .int .u8 0, .int .u64 0, .int .u16 2, .int .u16 0, .int .u8 2, .int .u8 2, .int .u64 0, .int .u16 1, .int .u16 2] 53)))
  rw [hw4] at HB4 HL4 ⊢
  clear HB3 HL3 hw4
  have HG := (Lab.nil (Below.refl w4.heap.size w4)).graphs 8 (by decide) (by decide) _ exR hrw (by decide)
  clear hrw
  refine HG.mono ?_
  rintro e w5 ⟨gb, rb, F, I, F', I', rfl, hl5⟩
  rw [show Int.toNat 8 = 8 from rfl] at hl5
  have HL5 := Lib.hid hl5
  clear hl5 HG
  go_wp2_with fail
  go_at_call 10
  have hl6 := (HL5.out.alloc #[.int .i64 0, .int .i64 1] 3).swap
  have htm := hl6.term_okT HL4.out (chv := .slice (some ⟨w5.heap.size, 0, none⟩) 2 2) (ls := [0, 1]) (level := 0) (fun wx hx => slice_of_box (xs := [0, 1]) hx.box1) ex_tw1.2.2.2.2 exR_ok.good (t := 3) (by rw [exR_list]; decide) (by rw [exR_vars3]; intro v hv; simp at hv; omega) (by rw [exR_list]; decide) (by rw [exR_list]; decide)
  rw [exR_vars3] at htm
  clear hl6
  refine htm.mono ?_
  clear htm
  rintro e w6 ⟨L2, s, F2, I2, rfl, hl7, -, -, -, hs2, hval⟩
  have hv := hval [5, 0, 6, 7] [5, 0, 7] ex_vals
  rw [exR_val] at hv
  have HL7 := Lib.hid hl7; have HS := Lib.hid (And.intro hs2 hv)
  clear hl7 hs2 hval hv HL5
  go_wp2_with fail
  go_at_call 14
  have hl8 := (HL7.out.alloc #[.int .u64 5, .int .u64 0, .int .u64 6, .int .u64 7] 43).swap
  have hev := hl8.eval ((s : Nat) : Int) [5, 0, 6, 7] (.slice (some ⟨w6.heap.size, 0, none⟩) 4 4) (slice_of_box (xs := [5, 0, 6, 7]) hl8.box2) (by decide) (by intro x hx; simp at hx; omega) (evalR_in2 HS.out.1)
  rw [HS.out.2] at hev
  clear hl8
  refine hev.mono ?_
  clear hev
  rintro e w7 ⟨rfl, hl9⟩
  have HB7 := Lib.hid (HB4.out.trans (hl9.below.mono HB4.out.size))
  have HL9 := Lib.hid (HL4.out.later hl9.below)
  clear hl9 HL7 HS HB4 HL4
  go_wp2_with fail
  go_at_call 19
  obtain ⟨w8, hw8⟩ : ∃ w8, (w7.alloc (.cells #[.int .i64 0, .int .i64 1] 3)).alloc (.cells #[.int .u64 5, .int .u64 0, .int .u64 6, .int .u64 7] 43) = w8 := ⟨_, rfl⟩
  have hb8 : Below w7.heap.size w7 w8 := by rw [← hw8]; exact (below_new w7 _).alloc (by simp [World.size_alloc]) _
  have h1 : SliceOf w8 .i64 (.slice (some ⟨w7.heap.size, 0, none⟩) 2 2) [0, 1] := by
    rw [← hw8]; exact (two_nums (w := w7) rfl).later (below_new _ _)
  have h2 : SliceOf w8 .u64 (.slice (some ⟨w7.heap.size + 1, 0, none⟩) 4 4) [5, 0, 6, 7] := by
    rw [← hw8, ← World.size_alloc w7 (.cells #[.int .i64 0, .int .i64 1] 3)]
    exact slice_of_box (xs := [5, 0, 6, 7]) (heap_alloc_new _ _)
  have HB8 := Lib.hid (HB7.out.trans (hb8.mono HB7.out.size))
  have HL8 := Lib.hid (HL9.out.later hb8)
  rw [hw8]
  clear hw8 hb8 HB7 HL9
  have hsp := Lab.split_any (Lab.nil (Below.refl w8.heap.size w8)) HL8.out (level := 0) (n := 1) h1 h2
  clear h1 h2
  refine hsp.mono ?_
  clear hsp
  rintro e w9 ⟨va, vb, vsa, vsb, rfl, hsa, hsb, hl9⟩
  have hs1 : splX (valA [(0 : Int), 1].length [5, 0, 6, 7]) (splE 2 0 [0, 1] 1) [(0 : Int), 1].length 1 = [[5], [6]] := ex_splA
  have hs2 : splX (valB [(0 : Int), 1].length 2 R01 0 [0, 1] [5, 0, 6, 7]) (splE 2 0 [0, 1] 1) [(0 : Int), 1].length 1 = [[5], [7]] := ex_splB
  rw [hs1] at hsa hl9
  rw [hs2] at hsb hl9
  clear hs1 hs2
  rw [show splE 2 0 [0, 1] 1 = 0 from by decide, show ((0 : Nat) : Int) = 0 from rfl]
  have HN := Lib.hid (And.intro (Lab.lists_read hsa.symm hl9) (Lab.lists_read hsb.symm hl9.swap))
  have HB9 := Lib.hid (HB8.out.trans (hl9.below.mono HB8.out.size))
  have HL9 := Lib.hid (HL8.out.later hl9.below)
  clear hl9 hsa hsb HB8 HL8
  go_wp2_with fail
  go_at_call 18
  refine (tvar_nil _ _ _ _).mono ?_
  rintro e w10 ⟨rfl, rfl⟩
  go_wp2_with fail
  go_at_call 10
  refine (term_nil _ _ _ _ _ _ _).mono ?_
  rintro e w11 ⟨rfl, hb⟩
  have hb11 : Below w9.heap.size w9 w11 := Below.trans ((below_new w9 _).alloc (by simp [World.size_alloc]) _) (hb.mono (by simp [World.size_alloc]; omega))
  have HN1 := Lib.hid (And.intro (HN.out.1.later hb11) (HN.out.2.later hb11))
  have HB11 := Lib.hid (HB9.out.trans (hb11.mono HB9.out.size))
  have HL11 := Lib.hid (HL9.out.later hb11)
  clear hb hb11 HN HB9 HL9
  go_wp2_with fail
  go_at_call 19
  refine (split_nil _ _ _ _ _ _ _ _ _).mono ?_
  rintro e w12 ⟨rfl, hb⟩
  have hb12 : Below w11.heap.size w11 w12 := Below.trans (below_new w11 _) (hb.mono (by simp [World.size_alloc]))
  have HN2 := Lib.hid (And.intro (HN1.out.1.later hb12) (HN1.out.2.later hb12))
  have HB12 := Lib.hid (HB11.out.trans (hb12.mono HB11.out.size))
  have HL12 := Lib.hid (HL11.out.later hb12)
  clear hb hb12 HN1 HB11 HL11
  go_wp2_with fail
  go_at_call 18
  refine (tvar_any HL12.out 0 (sliceOf_nil _ _) 0).mono ?_
  rintro e w13 ⟨rfl, rfl⟩
  rw [ex_tw1.2.2.2.1]
  go_wp2_with fail
  go_at_call 20
  obtain ⟨w14, hw14⟩ : ∃ w14, ((w12.alloc (.cells #[.int .u64 5] 43)).alloc (.cells #[.int .u64 6] 43)).alloc (.cells #[.slice (some ⟨w12.heap.size, 0, none⟩) 1 1, .slice (some ⟨w12.heap.size + 1, 0, none⟩) 1 1] 25) = w14 := ⟨_, rfl⟩
  have hf := nums_fresh w12 5 6 hw14.symm
  have hq := inputsEq_any _ _ _ _ (HN2.out.1.later hf.2) hf.1 (by decide) (by decide) (by intro x hx; simp at hx; rcases hx with rfl | rfl <;> simp) (by intro x hx; simp at hx; rcases hx with rfl | rfl <;> simp)
  rw [show decide (([[5], [6]] : List (List Int)) = [[5], [6]]) = true from by decide] at hq
  rw [hw14]
  clear hw14
  refine hq.mono ?_
  clear hq
  rintro e w15 ⟨rfl, hb⟩
  have hb15 := hf.2.trans (hb.mono hf.2.size)
  have HN3 := Lib.hid (HN2.out.2.later hb15)
  have HB15 := Lib.hid (HB12.out.trans (hb15.mono HB12.out.size))
  clear hb hf hb15 HN2 HB12 HL12
  go_wp2_with fail
  go_at_call 20
  obtain ⟨w16, hw16⟩ : ∃ w16, ((w15.alloc (.cells #[.int .u64 5] 43)).alloc (.cells #[.int .u64 7] 43)).alloc (.cells #[.slice (some ⟨w15.heap.size, 0, none⟩) 1 1, .slice (some ⟨w15.heap.size + 1, 0, none⟩) 1 1] 25) = w16 := ⟨_, rfl⟩
  have hf := nums_fresh w15 5 7 hw16.symm
  have hq := inputsEq_any _ _ _ _ (HN3.out.later hf.2) hf.1 (by decide) (by decide) (by intro x hx; simp at hx; rcases hx with rfl | rfl <;> simp) (by intro x hx; simp at hx; rcases hx with rfl | rfl <;> simp)
  rw [show decide (([[5], [7]] : List (List Int)) = [[5], [7]]) = true from by decide] at hq
  rw [hw16]
  clear hw16
  refine hq.mono ?_
  clear hq
  rintro e w17 ⟨rfl, hb⟩
  have hb17 := hf.2.trans (hb.mono hf.2.size)
  have HB17 := Lib.hid (HB15.out.trans (hb17.mono HB15.out.size))
  clear hb hf hb17 HN3 HB15
  go_wp2_with fail
  go_at_call 7
  refine (awake35_any w17 (HT.out.later HB17.out)).mono ?_
  rintro e w18 ⟨rfl, hb⟩
  have HB18 := Lib.hid (HB17.out.trans (hb.mono HB17.out.size))
  clear hb HB17
  go_wp2_with fail
  go_ret
  exact ⟨rfl, HB18.out⟩
end
end Go.Proofs.YteamnchoddegpaaGreatDoor
namespace Go.Proofs.YteamnchoddegpaaGreatDoor
open Go.RowKit Go.Maps
set_option maxHeartbeats 3200000
set_option maxRecDepth 100000 in
theorem twinEx_any (w : World) (hT : TabOk w) : Calls Tryz.prog 4 #[] w fun e w' => e = .returned (.bool true) ∧ Below w.heap.size w w' := by
  have H1 := Lib.hid (two_any w hT)
  have HT := Lib.hid hT
  clear hT
  go_enter Tryz.func4, Tryz.ntmps4
  go_wp2_with fail
  go_at_call 17
  refine H1.out.mono ?_
  rintro e w1 ⟨lb, rfl, hl, hb⟩
  have HL := Lib.hid hl; have HB := Lib.hid hb
  clear hl hb H1
  go_upto_block 0 with fail
  obtain ⟨w2, hw2⟩ : ∃ w2, w1.alloc (.cells #[.int .i64 0, .int .i64 3, .int .i64 4, .int .i64 7] 3) = w2 := ⟨_, rfl⟩
  have hwant : SliceOf w2 .i64 (.slice (some ⟨w1.heap.size, 0, none⟩) 4 4) [0, 3, 4, 7] := by rw [← hw2]; exact sliceOf_new w1 .i64 3 [0, 3, 4, 7] 4
  have hb2 : Below w1.heap.size w1 w2 := by rw [← hw2]; exact below_new _ _
  have HB2 := Lib.hid (HB.out.trans (hb2.mono HB.out.size))
  have HL2 := Lib.hid (HL.out.later hb2)
  rw [hw2]
  obtain ⟨pb, hpb⟩ : ∃ pb, w1.heap.size = pb := ⟨_, rfl⟩
  rw [hpb] at hwant ⊢
  have HW := Lib.hid hwant
  clear hw2 hb2 hwant hpb HL HB
  go_cut [3] (fun _ wx => Below w2.heap.size w2 wx)
  case first =>
    go_wp2
    go_loopw [3] (fun i wr => ∃ k : Nat, k ≤ 4 ∧ i = .int .i64 k ∧ Below w2.heap.size w2 wr) (fun i _ => 4 - (intOf i).toNat)
    case atStart => exact ⟨0, by omega, rfl, Below.refl _ _⟩
    case round =>
      obtain ⟨k, hk, rfl, hbr⟩ := hrel
      by_cases hlt : k < 4
      · obtain ⟨b, off, q, hbq, hc, hq⟩ := (HW.out.later hbr).parts' hlt
        cases hbq
        obtain ⟨ht1, ht2⟩ := ex_tw k hlt
        have hq2 : ([0, 3, 4, 7] : List Int).getD k 0 = q := by rw [List.getD_eq_getElem?_getD, hq]; rfl
        rw [hq2] at ht1
        have HT1 := Lib.hid (And.intro ht1 ht2); have HLR := Lib.hid (HL2.out.later hbr); have HBR := Lib.hid hbr; have HC := Lib.hid hc
        have hqq : (q != q) = false := by simp
        have k4 : (k : Int) < 4 := by omega
        have k0 : (0 : Int) ≤ (k : Int) := by omega
        clear ht1 ht2 hq hq2 hc hbr
        go_wp2_with fail
        go_at_call 18
        refine (tvar_any (HLR.out.later (below_new _ _)) 0 (two_nums rfl) (2 * (k : Int))).mono ?_
        rintro e w3 ⟨rfl, rfl⟩
        rw [HT1.out.1, HT1.out.2]
        have hc3 := cell_later (below_new wr (.cells #[.int .i64 0, .int .i64 1] 3)) HC.out
        have HB3 := Lib.hid (HBR.out.trans ((below_new wr (.cells #[.int .i64 0, .int .i64 1] 3)).mono HBR.out.size))
        obtain ⟨w3, hw3⟩ : ∃ w3, wr.alloc (.cells #[.int .i64 0, .int .i64 1] 3) = w3 := ⟨_, rfl⟩
        rw [hw3] at hc3 HB3 ⊢
        rw [Nat.zero_add] at hc3
        clear hw3
        go_wp2
        go_roundw
        case rel => exact ⟨k + 1, by omega, by go_num, HB3.out⟩
        case measure => simp [intOf]; omega
      · obtain rfl : k = 4 := by omega
        go_wp2
        go_meet
        exact hbr
  case rest =>
    exact (show ∀ (a : Act) (w : World), Code.wp Tryz.prog (exRest 11) _ a w → _ by assumption) _ _ (ex_rest11 HT.out (HB2.out.trans (hcut.mono HB2.out.size)) (HL2.out.later hcut))
end Go.Proofs.YteamnchoddegpaaGreatDoor
