/- Package twin: Split whole. -/
import Derived.Test.YtmfendfpjpbhdaaDoorSplitS
import Derived.Laws.EntriesVeiled
namespace Go.Proofs.YtmfendfpjpbhdaaDoor
open Go.RowKit Go.Maps
set_option maxHeartbeats 3200000

theorem split_results {tmps : Array Value} {pa pb : Nat} {w : World} {va vb : Value} {e : Int} (t0 : tmps.getD 10 undef = .pointer (some ⟨pa, 0, none⟩)) (t1 : tmps.getD 11 undef = .pointer (some ⟨pb, 0, none⟩)) (t2 : tmps.getD 12 undef = .int .i64 e) (c0 : w.cell? ⟨pa, 0, none⟩ = some va) (c1 : w.cell? ⟨pb, 0, none⟩ = some vb) :
    (results Tryd.f12 tmps).run Tryd.prog w = .ok (.tuple #[va, vb, .int .i64 e]) w := by
  have t0' : tmps[10]?.getD undef = .pointer (some ⟨pa, 0, none⟩) := by simpa using t0
  have t1' : tmps[11]?.getD undef = .pointer (some ⟨pb, 0, none⟩) := by simpa using t1
  have t2' : tmps[12]?.getD undef = .int .i64 e := by simpa using t2
  unfold results
  rw [Tryd.results12]
  simp [go_sem, t0', t1', t2', c0, c1]
theorem split_invoke (cap : Array Value) (w : World) : (invoke (.fn (.func 25) cap) #[]).run Tryd.prog w = .ok (.enter 25 cap) w := by
  simp [invoke, go_sem]
def splE (nl : Nat) (level : Int) (ls : List Int) (n : Int) : Nat := if mayE nl level ls ≠ 0 then 3 else if n < 0 ∨ 65536 < n then 3 else 0
/-- The boxes of Split's frame. -/
def boxes7 (p5 p6 p7 p8 p9 pa pb : Nat) (lb : Nat) (level n : Int) (chv vv : Value) : List Thing :=
  [Thing.box pa 38 #[.slice none 0 0], Thing.box pb 38 #[.slice none 0 0], Thing.box p9 36 #[vv], Thing.box p8 3 #[.int .i64 n], Thing.box p7 23 #[chv], Thing.box p6 3 #[.int .i64 level], Thing.box p5 27 #[.pointer (some ⟨lb, 0, none⟩)]]
theorem boxes7_lab (wq : World) (lb : Nat) (level n : Int) (chv vv : Value) :
    Lab wq (((((((wq.alloc (.cells #[.pointer (some ⟨lb, 0, none⟩)] 27)).alloc (.cells #[.int .i64 level] 3)).alloc (.cells #[chv] 23)).alloc (.cells #[.int .i64 n] 3)).alloc (.cells #[vv] 36)).alloc (.cells #[.slice none 0 0] 38)).alloc (.cells #[.slice none 0 0] 38))
      (boxes7 wq.heap.size (wq.heap.size + 1) (wq.heap.size + 2) (wq.heap.size + 3) (wq.heap.size + 4) (wq.heap.size + 5) (wq.heap.size + 6) lb level n chv vv) := by
  have h := (((((((Lab.nil (Below.refl wq.heap.size wq)).alloc #[.pointer (some ⟨lb, 0, none⟩)] 27).alloc #[.int .i64 level] 3).alloc #[chv] 23).alloc #[.int .i64 n] 3).alloc #[vv] 36).alloc #[.slice none 0 0] 38).alloc #[.slice none 0 0] 38
  simp only [World.size_alloc, Nat.add_assoc, Nat.reduceAdd] at h
  exact h.swap
structure BoxC (p5 p6 p7 p8 p9 pa pb lb : Nat) (level n : Int) (chv vv : Value) (w : World) : Prop where
  c5 : w.cell? ⟨p5, 0, none⟩ = some (.pointer (some ⟨lb, 0, none⟩))
  c6 : w.cell? ⟨p6, 0, none⟩ = some (.int .i64 level)
  c7 : w.cell? ⟨p7, 0, none⟩ = some chv
  c8 : w.cell? ⟨p8, 0, none⟩ = some (.int .i64 n)
  c9 : w.cell? ⟨p9, 0, none⟩ = some vv
  fa : w.frozen? ⟨pa, 0, none⟩ = false
  fb : w.frozen? ⟨pb, 0, none⟩ = false
  ca : w.cell? ⟨pa, 0, none⟩ = some (.slice none 0 0)
  cb : w.cell? ⟨pb, 0, none⟩ = some (.slice none 0 0)
theorem boxes7_cells {wq w : World} {p5 p6 p7 p8 p9 pa pb lb : Nat} {level n : Int} {chv vv : Value} {ts : List Thing} (h : Lab wq w (boxes7 p5 p6 p7 p8 p9 pa pb lb level n chv vv ++ ts)) : BoxC p5 p6 p7 p8 p9 pa pb lb level n chv vv w := by
  have g : ∀ b T x, Thing.box b T #[x] ∈ boxes7 p5 p6 p7 p8 p9 pa pb lb level n chv vv → w.cell? ⟨b, 0, none⟩ = some x := fun b T x hm => by
    rw [cell_of_row w b 0 _ _ _ (h.holds (Thing.box b T #[x]) (List.mem_append.2 (.inl hm)))]; rfl
  exact ⟨g p5 27 _ (by simp [boxes7]), g p6 3 _ (by simp [boxes7]), g p7 23 _ (by simp [boxes7]), g p8 3 _ (by simp [boxes7]), g p9 36 _ (by simp [boxes7]), frozen_of_row w pa 0 _ _ (Lab.box1 h), frozen_of_row w pb 0 _ _ (Lab.box2 h), g pa 38 _ (by simp [boxes7]), g pb 38 _ (by simp [boxes7])⟩
section
variable {w0 wq : World} {ts : List Thing}
theorem spl_boxes {w : World} {p5 p6 p7 p8 p9 p14 pa pb lb : Nat} {level n : Int} {chv vv : Value} (h : Lab wq w (Thing.box p14 62 #[.func (.func 24) #[] #[.pointer (some ⟨p9, 0, none⟩)]] :: boxes7 p5 p6 p7 p8 p9 pa pb lb level n chv vv)) :
    Lab wq w [Thing.box pa 38 #[.slice none 0 0], Thing.box pb 38 #[.slice none 0 0], splK p5 p6 p7 p8 p9 p14 lb level n chv vv] := by
  have h1 := h.rot3.rot3.rot3.rot4.rot5.rot6.rotG7.rotG8
  exact (Lab.bundle (fs := [_, _, _, _, _, _]) h1).rot3'
set_option maxRecDepth 100000 in
theorem Lab.split_bad (h : Lab w0 wq ts) {lb nl : Nat} {R : Rel} (hlat : LatIs wq lb nl R) {level n : Int} {chv vv : Value} {ls vals : List Int} (hch : SliceOf wq .i64 chv ls) (hv : SliceOf wq .u64 vv vals) (he : splE nl level ls n ≠ 0) :
    Calls Tryd.prog 12 #[.pointer (some ⟨lb, 0, none⟩), .int .i64 level, chv, .int .i64 n, vv] wq fun e w' => e = .returned (.tuple #[.slice none 0 0, .slice none 0 0, .int .i64 3]) ∧ Lab w0 w' ts := by
  obtain ⟨ac, nc, cc, rfl, -, -⟩ := hch.parts
  obtain ⟨av, nv, cv, rfl, -, -⟩ := hv.parts
  have h0 := boxes7_lab wq lb level n (.slice ac nc cc) (.slice av nv cv)
  have HL0 := Lib.hid h0; have HL := Lib.hid h; have HC := Lib.hid (And.intro hlat hch); have HE := Lib.hid he
  clear h0 h hlat hch hv he
  go_enter_defers Tryd.func12, Tryd.ntmps12
  go_upto_region 1 with fail
  obtain ⟨s, hs⟩ : ∃ s, wq.heap.size = s := ⟨_, rfl⟩
  rw [hs] at HL0
  simp only [hs, Nat.add_assoc, Nat.reduceAdd]
  have hd : ∀ k, s + (k + 1) ≠ s := fun k => by omega
  obtain ⟨p6, hp6⟩ : ∃ p6, s + 1 = p6 := ⟨_, rfl⟩
  obtain ⟨p7, hp7⟩ : ∃ p7, s + 2 = p7 := ⟨_, rfl⟩
  obtain ⟨p8, hp8⟩ : ∃ p8, s + 3 = p8 := ⟨_, rfl⟩
  obtain ⟨p9, hp9⟩ : ∃ p9, s + 4 = p9 := ⟨_, rfl⟩
  obtain ⟨pa, hpa⟩ : ∃ pa, s + 5 = pa := ⟨_, rfl⟩
  obtain ⟨pb, hpb⟩ : ∃ pb, s + 6 = pb := ⟨_, rfl⟩
  have d1 : pa ≠ pb := by omega
  have d2 : pb ≠ pa := by omega
  rw [hp6, hp7, hp8, hp9, hpa, hpb] at HL0 ⊢
  clear hs hd hp6 hp7 hp8 hp9 hpa hpb
  refine wp_abs (fun w1 => Lab wq w1 (boxes7 s p6 p7 p8 p9 pa pb lb level n (.slice ac nc cc) (.slice av nv cv))) HL0.out ?_
  clear HL0
  rintro w1 hl
  obtain ⟨c5, c6, c7, c8, c9, fa, fb, ca, cb⟩ := boxes7_cells (ts := []) (by rw [List.append_nil]; exact hl)
  have HM := Lib.hid (may_any (HC.out.1.later hl.below) level (HC.out.2.later hl.below))
  have hfin : Lab wq ((w1.setCell ⟨pa, 0, none⟩ (.slice none 0 0)).setCell ⟨pb, 0, none⟩ (.slice none 0 0)) (Thing.box pa 38 #[.slice none 0 0] :: Thing.box pb 38 #[.slice none 0 0] :: []) :=
    (((Lab.store hl 0 (.slice none 0 0)).swap.store 0 (.slice none 0 0)).swap).subl (by simp)
  have HF := Lib.hid hfin
  clear hl hfin
  by_cases hm : mayE nl level ls = 0
  · have hn : n < 0 ∨ 65536 < n := by
      have := HE.out
      unfold splE at this
      rw [if_neg (by omega)] at this
      by_cases h : n < 0 ∨ 65536 < n
      · exact h
      · rw [if_neg h] at this; exact absurd rfl this
    rw [hm] at HM
    clear hm HE
    by_cases h1 : n < 0
    · clear hn
      go_wp2_with (go_at_call 19; refine HM.out.mono ?_; rintro e w2 ⟨rfl, rfl⟩)
      refine ⟨_, split_results (e := 3) rfl rfl rfl ?_ ?_, rfl, HL.out.later HF.out.below⟩
      · rw [cell_of_row _ pa 0 _ _ _ HF.out.box1]; rfl
      · rw [cell_of_row _ pb 0 _ _ _ HF.out.box2]; rfl
    · have h2 : 65536 < n := by omega
      clear hn
      go_wp2_with (go_at_call 19; refine HM.out.mono ?_; rintro e w2 ⟨rfl, rfl⟩)
      refine ⟨_, split_results (e := 3) rfl rfl rfl ?_ ?_, rfl, HL.out.later HF.out.below⟩
      · rw [cell_of_row _ pa 0 _ _ _ HF.out.box1]; rfl
      · rw [cell_of_row _ pb 0 _ _ _ HF.out.box2]; rfl
  · have hm3 := (may_cases nl level ls).resolve_left hm
    rw [hm3] at HM
    clear hm hm3 HE
    go_wp2_with (go_at_call 19; refine HM.out.mono ?_; rintro e w2 ⟨rfl, rfl⟩)
    refine ⟨_, split_results (e := 3) rfl rfl rfl ?_ ?_, rfl, HL.out.later HF.out.below⟩
    · rw [cell_of_row _ pa 0 _ _ _ HF.out.box1]; rfl
    · rw [cell_of_row _ pb 0 _ _ _ HF.out.box2]; rfl
set_option maxRecDepth 100000 in
theorem Lab.split_ok (h : Lab w0 wq ts) {lb nl N n : Nat} {R : Rel} (hlat : LatIs wq lb nl R) {level : Int} {chv vv : Value} {ls vals : List Int} (hch : SliceOf wq .i64 chv ls) (hv : SliceOf wq .u64 vv vals) (hm : mayE nl level ls = 0) (hn : n ≤ 65536) (hls : ls.length = N) :
    Calls Tryd.prog 12 #[.pointer (some ⟨lb, 0, none⟩), .int .i64 level, chv, .int .i64 n, vv] wq fun e w' => ∃ va vb vsa vsb, e = .returned (.tuple #[va, vb, .int .i64 0]) ∧ vsa.length = N ∧ vsb.length = N ∧
      Lab w0 w' (Thing.lists .u64 44 36 va vsa (part (valA N vals) N n N 0) :: Thing.lists .u64 44 36 vb vsb (part (valB N nl R level ls vals) N n N 0) :: ts) := by
  have hl1 := may_len hm
  obtain ⟨ao, no, co, rfl, hno, -⟩ := hch.parts
  obtain ⟨av, nv, cv, rfl, -, -⟩ := hv.parts
  have h0 := boxes7_lab wq lb level n (.slice ao no co) (.slice av nv cv)
  obtain rfl : no = N := by omega
  have hN1 : 1 ≤ no := by omega
  have hN2 : no ≤ 32 := by omega
  have q1 : ¬ (n : Int) < 0 := by omega
  have q2 : ¬ (65536 : Int) < (n : Int) := by omega
  have HL0 := Lib.hid h0; have HL := Lib.hid h; have HC := Lib.hid (And.intro hlat (And.intro hch hv)); have HLS := Lib.hid hls
  clear h0 h hlat hch hv hl1 hno hls
  go_enter_defers Tryd.func12, Tryd.ntmps12
  go_upto_region 1 with fail
  obtain ⟨s, hs⟩ : ∃ s, wq.heap.size = s := ⟨_, rfl⟩
  rw [hs] at HL0
  simp only [hs, Nat.add_assoc, Nat.reduceAdd]
  have hd : ∀ k, s + (k + 1) ≠ s := fun k => by omega
  obtain ⟨p6, hp6⟩ : ∃ p6, s + 1 = p6 := ⟨_, rfl⟩
  obtain ⟨p7, hp7⟩ : ∃ p7, s + 2 = p7 := ⟨_, rfl⟩
  obtain ⟨p8, hp8⟩ : ∃ p8, s + 3 = p8 := ⟨_, rfl⟩
  obtain ⟨p9, hp9⟩ : ∃ p9, s + 4 = p9 := ⟨_, rfl⟩
  obtain ⟨pa, hpa⟩ : ∃ pa, s + 5 = pa := ⟨_, rfl⟩
  obtain ⟨pb, hpb⟩ : ∃ pb, s + 6 = pb := ⟨_, rfl⟩
  have d1 : pa ≠ pb := by omega
  have d2 : pb ≠ pa := by omega
  have d3 : pa ≠ p7 := by omega
  have d4 : p7 ≠ pa := by omega
  have d5 : pb ≠ p7 := by omega
  have d6 : p7 ≠ pb := by omega
  rw [hp6, hp7, hp8, hp9, hpa, hpb] at HL0 ⊢
  clear hs hd hp6 hp7 hp8 hp9 hpa hpb
  refine wp_abs (fun w1 => Lab wq w1 (boxes7 s p6 p7 p8 p9 pa pb lb level n (.slice ao no co) (.slice av nv cv))) HL0.out ?_
  clear HL0
  rintro w1 hl
  obtain ⟨c5, c6, c7, c8, c9, fa, fb, ca, cb⟩ := boxes7_cells (ts := []) (by rw [List.append_nil]; exact hl)
  have hmay := may_any (HC.out.1.later hl.below) level (HC.out.2.1.later hl.below)
  rw [hm] at hmay
  have HM := Lib.hid hmay
  obtain ⟨p14, hp14⟩ : ∃ p14, w1.heap.size = p14 := ⟨_, rfl⟩
  have hl1 := hl.alloc #[.nilFunc] 62
  rw [hp14] at hl1
  have z1 : (w1.alloc (.cells #[.nilFunc] 62)).cell? ⟨p14, 0, none⟩ = some .nilFunc := by rw [cell_of_row _ p14 0 _ _ _ hl1.box1]; rfl
  have z2 := frozen_of_row _ p14 0 _ _ hl1.box1
  have hl2 := hl.alloc #[.func (.func 24) #[] #[.pointer (some ⟨p9, 0, none⟩)]] 62
  rw [hp14] at hl2
  have HL2 := Lib.hid (spl_boxes hl2)
  clear hl hl1 hl2 hmay hm
  go_upto_region 8 with (go_at_call 19; refine HM.out.mono ?_; rintro e w2 ⟨rfl, rfl⟩)
  refine wp_abs (fun w2 => Lab wq w2 [Thing.box pa 38 #[.slice none 0 0], Thing.box pb 38 #[.slice none 0 0], splK s p6 p7 p8 p9 p14 lb level n (.slice ao no co) (.slice av nv cv)]) HL2.out ?_
  clear HL2 c5 c6 c7 c8 c9 fa fb ca cb z1 z2 hp14 HM
  rintro w2 hl
  refine split_region8 (ts := []) hN2 hl d3 d1 ?_
  clear hl
  intro ga gb _ _ _ _ _ _ w3 hl
  have ca : w3.cell? ⟨pa, 0, none⟩ = some (.slice (some ⟨ga, 0, none⟩) no no) := by rw [cell_of_row _ pa 0 _ _ _ (Lab.box1 hl)]; rfl
  have cb : w3.cell? ⟨pb, 0, none⟩ = some (.slice (some ⟨gb, 0, none⟩) no no) := by rw [cell_of_row _ pb 0 _ _ _ (Lab.box2 hl)]; rfl
  have fa := frozen_of_row w3 pa 0 _ _ (Lab.box1 hl)
  have fb := frozen_of_row w3 pb 0 _ _ (Lab.box2 hl)
  have hl2 := (((Lab.store hl 0 (.slice (some ⟨ga, 0, none⟩) no no)).swap.store 0 (.slice (some ⟨gb, 0, none⟩) no no)).swap).drew1
  have HL2 := Lib.hid hl2
  clear hl hl2
  go_upto_region 9 with fail
  go_region
  go_wp2
  clear ca cb fa fb d2 d3 d4 d5 d6 q1 q2
  generalize ((w3.setCell ⟨pa, 0, none⟩ (.slice (some ⟨ga, 0, none⟩) no no)).setCell ⟨pb, 0, none⟩ (.slice (some ⟨gb, 0, none⟩) no no)).drew = w4 at HL2 ⊢
  refine leaves_cons (f := 25) (args := #[.pointer (some ⟨p7, 0, none⟩), .pointer (some ⟨p8, 0, none⟩), .pointer (some ⟨pa, 0, none⟩), .pointer (some ⟨p14, 0, none⟩), .pointer (some ⟨pb, 0, none⟩), .pointer (some ⟨s, 0, none⟩), .pointer (some ⟨p6, 0, none⟩)]) (by intro h; cases h) (split_invoke _ _)
    ((split2_any (ts := []) HC.out.2.2 HC.out.1 HC.out.2.1 HLS.out hN1 hN2 hn HL2.out).mono ?_)
  rintro e u' w' ⟨rfl, rfl, vsa, vsb, ha, hb, hl⟩
  have hj := HL.out.joined (us := [_, _]) (Lab.subl hl (ts' := [Thing.lists .u64 44 36 (.slice (some ⟨ga, 0, none⟩) no no) vsa (part (valA no vals) no n no 0), Thing.lists .u64 44 36 (.slice (some ⟨gb, 0, none⟩) no no) vsb (part (valB no nl R level ls vals) no n no 0)]) (by
    unfold splThings
    exact .cons _ (.cons _ (.cons_cons _ (.cons_cons _ (.cons _ (List.Sublist.refl _))))))) (fun u hu => by
      simp only [List.mem_cons, List.not_mem_nil, or_false] at hu
      rcases hu with rfl | rfl <;> exact lists_R)
  refine ⟨_, split_results (e := 0) rfl rfl rfl ?_ ?_, _, _, vsa, vsb, rfl, ha, hb, hj⟩
  · rw [cell_of_row _ pa 0 _ _ _ (Lab.box1 hl)]; rfl
  · rw [cell_of_row _ pb 0 _ _ _ (Lab.box2 hl)]; rfl
end
end Go.Proofs.YtmfendfpjpbhdaaDoor
