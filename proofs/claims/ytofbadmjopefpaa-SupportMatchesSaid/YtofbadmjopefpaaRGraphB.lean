/- ask of a reference's graph. -/
import Derived.Test.YtofbadmjopefpaaRGraphA
namespace Go.Proofs.Ytofbadmjopefpaa
open Go.RowKit Go.Maps
set_option maxHeartbeats 800000

/-- A reference's graph whose list of nodes has got one node more. -/
theorem rgr_append {w3 w5 w6 wF : World} {base rb W room : Nat} {F I : List Nat} {L : List PNode} {sv v' va : Value} {cells : List Value} {n : PNode}
    (wf : WFL L) (hlen : L.length < room) (w1 : 1 ≤ W) (w2 : W ≤ 64) (r2 : room ≤ 1048576) (hn : n ∉ L) (hok : NodeOk n) (ha : ∀ a ∈ n.2.2, (0 : Int) ≤ a ∧ a < (L.length : Int)) (hF : F = rb :: sv.ownBlock.toList)
    (b1 : base ≤ rb) (h3 : w3.heap[rb]? = some (.cells #[.int .i64 W, .int .i64 room, sv] 86 (0, 0))) (h4 : w3.ownsRow base 54 3 sv L.length cells) (h5 : NodeRow w3 I cells L) (hv : IntsAt w3 va n.2.2) (hvb : ∀ k, va.ownBlock = some k → IntBlk w3 k)
    (e5 : w5.heap = w3.heap) (t5 : w5.os = w3.os ∧ w5.tape = w3.tape ∧ w5.output = w3.output) (X : Obj) (hblk : ∀ k, v'.ownBlock = some k → sv.ownBlock = some k ∨ w3.heap.size ≤ k)
    (own6 : w6.ownsRow base 54 3 v' (L.length + 1) (cells ++ [.int .u8 n.1, .int .u64 n.2.1, va])) (grow6 : (w5.alloc X).drew.grownBy w6 sv.ownBlock)
    (hwF : wF = w6.setCell ⟨rb, 2, none⟩ v' ∨ wF = (w6.setCell ⟨rb, 2, none⟩ v').drew) :
    RGr wF base (rb :: v'.ownBlock.toList) (va.ownBlock.toList ++ I) rb W room (L ++ [n]) ∧ Touch F w3 wF ∧ ∀ k, k ∈ (rb :: v'.ownBlock.toList) → k ∈ F ∨ w3.heap.size ≤ k := by
  subst hF
  have hh : wF.heap = (w6.setCell ⟨rb, 2, none⟩ v').heap := by rcases hwF with rfl | rfl <;> rfl
  have ho : wF.os = w6.os ∧ wF.tape = w6.tape ∧ wF.output = w6.output := by rcases hwF with rfl | rfl <;> exact ⟨rfl, rfl, rfl⟩
  have lrb := (Array.getElem?_eq_some_iff.1 h3).1
  have s6 : w3.heap.size + 1 ≤ w6.heap.size := by have := grow6.size; simp [e5] at this; exact this
  have old6 : ∀ k, k < w3.heap.size → sv.ownBlock ≠ some k → w6.heap[k]? = w3.heap[k]? := by
    intro k hk hne
    rw [grow6.block k (by simp [e5]; omega) (fun e => hne e.symm)]
    show (w5.alloc X).heap[k]? = _
    rw [heap_alloc_old _ _ (by rw [e5]; exact hk), e5]
  have nrb : sv.ownBlock ≠ some rb := not_own h4 h3 (by intro c fr e; simp at e)
  have g6 : w6.heap[rb]? = some (.cells #[.int .i64 W, .int .i64 room, sv] 86 (0, 0)) := by rw [old6 rb lrb nrb, h3]
  have nrb' : v'.ownBlock ≠ some rb := not_own own6 g6 (by intro c fr e; simp at e)
  have touch : Touch (rb :: sv.ownBlock.toList) w3 wF := by
    refine ⟨ho.1.trans (grow6.os.trans t5.1), ho.2.1.trans (grow6.tape.trans t5.2.1), ho.2.2.trans (grow6.output.trans t5.2.2), by rw [hh, World.size_setCell]; omega, ?_⟩
    intro k hk hn
    simp only [List.mem_cons, not_or] at hn
    rw [hh, heap_setCell_other _ _ _ _ hn.1]
    exact old6 k hk (fun e => hn.2 (by simp [e]))
  have notInts : ∀ (k : Nat) (arr : Array Value) (fr : Nat × Nat), w3.heap[k]? = some (Obj.cells arr 3 fr) → wF.heap[k]? = w3.heap[k]? := by
    intro k arr fr hk
    refine touch.block k (Array.getElem?_eq_some_iff.1 hk).1 ?_
    simp only [List.mem_cons, not_or]
    refine ⟨?_, ?_⟩
    · rintro rfl; rw [h3] at hk; simp at hk
    · intro hm
      exact not_own h4 hk (by intro c fr e; simp at e) (by simpa using hm)
  refine ⟨⟨wf.snoc hn hok ha, by simp; omega, w1, w2, r2, v', _, rfl, b1, ?_, ?_, (h5.keep fun k _ hk => by obtain ⟨arr, fr, hk⟩ := hk; exact notInts k arr fr hk).snoc (hv.ints notInts) (fun k hk => (hvb k hk).of (by obtain ⟨arr, fr, hk⟩ := hvb k hk; exact notInts k arr fr hk))⟩, touch, ?_⟩
  · rw [hh, heap_setCell_same _ _ _ _ _ _ g6]
    rfl
  · rw [List.length_append, List.length_singleton]
    refine owns_keep own6 fun k hk => ?_
    rw [hh, heap_setCell_other _ _ _ _ (fun e => nrb' (by rw [hk]; exact congrArg some e))]
  · intro k hk
    simp only [List.mem_cons] at hk ⊢
    rcases hk with h | h
    · exact .inl (.inl h)
    · have hk' : v'.ownBlock = some k := by simpa using h
      rcases hblk k hk' with he | hl
      · exact .inl (.inr (by simp [he]))
      · exact .inr hl
set_option maxRecDepth 100000 in
theorem rask_any {w : World} {base : Nat} {F I : List Nat} {rb W room : Nat} {L : List PNode} (h : RGr w base F I rb W room L) (o q : Nat) (xs : List Int) (va : Value) (hv : IntsAt w va xs) (hvb : ∀ k, va.ownBlock = some k → IntBlk w k) (hn : NodeOk (o, q, xs)) (ha : ∀ a ∈ xs, (0 : Int) ≤ a ∧ a < (L.length : Int)) :
    Calls Try.prog 47 #[.pointer (some ⟨rb, 0, none⟩), .agg #[.int .u8 o, .int .u64 q, va]] w fun e w' => ∃ F' I', e = .returned (.tuple #[.int .i64 (askP room L (o, q, xs)).2.1, .int .i64 (askP room L (o, q, xs)).2.2]) ∧ RGr w' base F' I' rb W room (askP room L (o, q, xs)).1 ∧ Touch F w w' ∧ (∀ k, k ∈ F' → k ∈ F ∨ w.heap.size ≤ k) ∧ ∀ k, k ∈ I' → k ∈ I ∨ va.ownBlock = some k := by
  have hx3 : xs.length ≤ 3 := by have := hn.2.2; have := aryN_le o; simp only at *; omega
  obtain ⟨a0, m0, c0, rfl, hl0, -⟩ := id hv
  have hll := h.len
  have hr2 := h.r2
  have H0 := Lib.hid h; have HV := Lib.hid hv; have HVB := Lib.hid hvb
  clear h hv hvb hl0
  obtain ⟨R, hR⟩ : ∃ R, askP room L (o, q, xs) = R := ⟨_, rfl⟩
  rw [hR]
  have HR := Lib.hid hR
  clear hR
  go_enter Try.func47, Try.ntmps47
  obtain ⟨p, hp⟩ : ∃ p, w.heap.size = p := ⟨_, rfl⟩
  go_upto_region 1 with fail
  refine wp_abs (fun w1 => Below w.heap.size w w1 ∧ w1.heap[p]? = some (.cells #[.int .u8 o, .int .u64 q, .slice a0 m0 c0] 54 (0, 0))) ⟨below_new _ _, by rw [← hp]; exact heap_alloc_new _ _⟩ ?_
  rintro w1 ⟨hb1, hx1⟩
  have HB1 := Lib.hid hb1; have HX1 := Lib.hid hx1; have HP := Lib.hid hp
  clear hb1 hx1 hp
  go_wp2
  go_loopw [6] (fun i wr => ∃ k : Nat, k ≤ L.length ∧ i = .int .i64 k ∧ Below w1.heap.size w1 wr ∧ ∀ j n', j < k → L[j]? = some n' → n' ≠ (o, q, xs)) (fun i _ => L.length - (intOf i).toNat)
  case atStart => exact ⟨0, by omega, rfl, Below.refl _ _, fun j n' hj => by omega⟩
  case round =>
    obtain ⟨k, hk, rfl, hbr, hno⟩ := hrel
    have hbw := HB1.out.trans (hbr.mono HB1.out.size)
    have hG := H0.out.later hbw
    have hxr := (hbr.block p (Array.getElem?_eq_some_iff.1 HX1.out).1).trans HX1.out
    have HBW := Lib.hid hbw; have HBR := Lib.hid hbr; have HNO := Lib.hid hno; have HG := Lib.hid hG; have HXR := Lib.hid hxr
    obtain ⟨a, cap, g0, g1, g2, hlen⟩ := hG.parts
    clear hbw hbr hno hG hxr
    by_cases hlt : k < L.length
    · obtain ⟨n', hn'⟩ : ∃ n', L[k]? = some n' := ⟨_, List.getElem?_eq_getElem hlt⟩
      obtain ⟨g, cap', vb, d2, e0, e1, e2, hvb⟩ := HG.out.node hn'
      rw [g2] at d2
      simp only [Option.some.injEq, Value.slice.injEq] at d2
      obtain ⟨rfl, -, rfl⟩ := d2
      obtain ⟨f0, f1, f2⟩ := cells3 HXR.out
      have hok := HG.out.wf.ok n' (List.mem_of_getElem? hn')
      have hx3' : n'.2.2.length ≤ 3 := by have := hok.2.2; have := aryN_le n'.1; omega
      obtain ⟨o', q', ys⟩ := n'
      have hv1 : ∀ w', Below wr.heap.size wr w' → NodeV w' (.agg #[.int .u8 o', .int .u64 q', vb]) (o', q', ys) := fun w' hb => ⟨_, rfl, hvb.slice.below hb, by show ys.length ≤ _; simp only at hx3'; omega⟩
      have hv2 : ∀ w', Below wr.heap.size wr w' → NodeV w' (.agg #[.int .u8 o, .int .u64 q, .slice a0 m0 c0]) (o, q, xs) := fun w' hb => ⟨_, rfl, (HV.out.below HBW.out).slice.below hb, by show xs.length ≤ _; omega⟩
      obtain ⟨va', m', cp', hvbe, -⟩ := id hvb
      have HV1 := Lib.hid hv1; have HV2 := Lib.hid hv2; have HN' := Lib.hid hn'
      obtain ⟨B, hB⟩ : ∃ B, decide (((o', q', ys) : PNode) = (o, q, xs)) = B := ⟨_, rfl⟩
      have HB := Lib.hid hB
      clear hv1 hv2 hvb hok hx3' hB hn'
      subst hvbe
      simp only at e0 e1 e2
      go_wp2
      cases B
      all_goals
        go_region_held3 (fun w' => w'.cell? ⟨rb, 2, none⟩ = some (.slice (some ⟨g, 0, none⟩) L.length cap) ∧ w'.cell? ⟨p, 0, none⟩ = some (.int .u8 o) ∧ w'.cell? ⟨p, 1, none⟩ = some (.int .u64 q) ∧ w'.cell? ⟨p, 2, none⟩ = some (.slice a0 m0 c0) ∧ w'.cell? ⟨g, k * 3, none⟩ = some (.int .u8 o') ∧ w'.cell? ⟨g, k * 3 + 1, none⟩ = some (.int .u64 q') ∧ w'.cell? ⟨g, k * 3 + 2, none⟩ = some (.slice va' m' cp'))
          (first | exact ⟨g2, f0, f1, f2, e0, e1, e2⟩ | exact ⟨by assumption, by assumption, by assumption, by assumption, by assumption, by assumption, by assumption⟩ | go_keep)
          (first | (go_at_call 68; refine (equalNode_any _ _ _ _ (HV1.out _ (Below.refl _ _).drew) (HV2.out _ (Below.refl _ _).drew)).mono ?_; rw [HB.out]; rintro e w7 ⟨rfl, hb7⟩; have hb8 := (Below.refl wr.heap.size wr).drew.trans hb7; have k0 := cell_later hb8 g2; have k1 := cell_later hb8 f0; have k2 := cell_later hb8 f1; have k3 := cell_later hb8 f2; have k4 := cell_later hb8 e0; have k5 := cell_later hb8 e1; have k6 := cell_later hb8 e2))
        go_wp2
      · go_roundw
        case rel => exact ⟨k + 1, by omega, by go_num, HBR.out.trans (hb8.mono HBR.out.size), fun j n' hj hn' => by
          rcases Nat.lt_or_ge j k with h1 | h1
          · exact HNO.out j n' h1 hn'
          · obtain rfl : j = k := by omega
            rw [HN'.out] at hn'
            rw [← Option.some.inj hn']
            exact of_decide_eq_false HB.out⟩
        case measure => simp [intOf]; omega
      · go_ret2
        have he := of_decide_eq_true HB.out
        have hr : R = (L, k, 0) := by rw [← HR.out]; exact find_at H0.out.wf.nodup (by rw [← he]; exact HN'.out) room
        subst hr
        have hbf := HBW.out.trans (hb8.mono HBW.out.size)
        exact ⟨F, I, rfl, H0.out.later hbf, Touch.of_below hbf F, fun k hk => .inl hk, fun k hk => .inl hk⟩
    · obtain rfl : k = L.length := by omega
      have hnm : ((o, q, xs) : PNode) ∉ L := by
        intro hm
        obtain ⟨j, hj, he⟩ := List.getElem_of_mem hm
        exact HNO.out j _ hj (List.getElem?_eq_getElem hj) he
      have hr : R = if room ≤ L.length then (L, 0, 10) else (L ++ [(o, q, xs)], L.length, 0) := by rw [← HR.out]; unfold askP; rw [find_not hnm]
      have HNM := Lib.hid hnm; have HR2 := Lib.hid hr
      clear hnm hr
      rcases Decidable.em (room ≤ L.length) with hroom | hroom
      · have ht : decide ((room : Int) ≤ (L.length : Int)) = true := decide_eq_true (by omega)
        have hr : R = (L, 0, 10) := by rw [HR2.out, if_pos hroom]
        subst hr
        go_wp2
        go_quiet (fail)
        go_wp2
        go_ret2
        exact ⟨rfl, F, I, H0.out.later (below_drewN HBW.out _), Touch.of_below (below_drewN HBW.out _) F, fun k hk => .inl hk, fun k hk => .inl hk⟩
      · have ht : decide ((room : Int) ≤ (L.length : Int)) = false := decide_eq_false (by omega)
        have hr : R = (L ++ [(o, q, xs)], L.length, 0) := by rw [HR2.out, if_neg hroom]
        subst hr
        go_wp2
        go_quiet (fail)
        go_wp2
        obtain ⟨f0, f1, f2⟩ := cells3 HXR.out
        refine wp_abs (fun w5 => w5.heap = wr.heap ∧ w5.os = wr.os ∧ w5.tape = wr.tape ∧ w5.output = wr.output) ⟨rfl, rfl, rfl, rfl⟩ ?_
        rintro w5 ⟨e5, r5⟩
        obtain ⟨sv, cells, hF, b1, h3, h4, h5⟩ := HG.out.mem
        have es : sv = .slice a L.length cap := by
          have h := g2
          rw [cell_of_row wr _ 2 _ _ _ h3] at h
          simpa using h
        subst es
        replace g2 := (cell_heap e5 _).trans g2
        replace f0 := (cell_heap e5 _).trans f0
        replace f1 := (cell_heap e5 _).trans f1
        replace f2 := (cell_heap e5 _).trans f2
        have lrb := (Array.getElem?_eq_some_iff.1 h3).1
        have hbase := H0.out.base_le
        have hlt' := H0.out.lt
        have nrb : (Value.slice a L.length cap).ownBlock ≠ some rb := not_own h4 h3 (by intro c fr e; simp at e)
        obtain ⟨a', c', w6, happ, own6, grow6, blk6, old6⟩ := nodes_push (w3 := wr) (w5 := w5) (x := .int .u8 o) (y := .int .u64 q) (z := .slice a0 m0 c0) h4 hlen (by have := hbase rb (by rw [hF]; simp); omega) (by simp [Value.oneCell']) e5
        have g6 : w6.heap[rb]? = some (.cells #[.int .i64 W, .int .i64 room, .slice a L.length cap] 86 (0, 0)) := by rw [old6 rb lrb nrb, h3]
        have d6 : w6.cell? ⟨rb, 2, none⟩ = some (.slice a L.length cap) := by rw [cell_of_row w6 _ 2 _ _ _ g6]; rfl
        have f6 : w6.frozen? ⟨rb, 2, none⟩ = false := frozen_of_row w6 _ _ _ _ g6
        have ca : (w5.alloc (.cells #[.int .u8 o, .int .u64 q, .slice a0 m0 c0] 54)).cell? ⟨rb, 2, none⟩ = some (.slice a L.length cap) := by
          rw [World.cell?_of_block (a := ⟨rb, 2, none⟩) (heap_alloc_old w5 _ (by rw [e5]; exact lrb))]; exact g2
        have G6 := Lib.hid (And.intro own6 (And.intro grow6 (And.intro blk6 (And.intro g6 old6)))); have E5 := Lib.hid (And.intro e5 r5)
        have HM := Lib.hid (And.intro hF (And.intro b1 (And.intro h3 (And.intro h4 h5))))
        clear own6 grow6 blk6 g6 old6 e5 r5 hF b1 h3 h4 h5 hbase hlt' nrb lrb g0 g1
        go_region_law (refine step_append_is rfl _ _ 84 rfl (.slice a L.length cap) (.slice (some ⟨w5.heap.size, 0, none⟩) 1 1) rfl rfl (.slice a' (L.length + 1) c') w6 happ ?_)
        clear happ ca d6 f6 g2 f0 f1 f2
        all_goals
          obtain ⟨own6, grow6, blk6, g6, old6⟩ := G6.out
          have k2 : (w6.setCell ⟨rb, 2, none⟩ (.slice a' (L.length + 1) c')).cell? ⟨rb, 2, none⟩ = some (.slice a' (L.length + 1) c') := by rw [cell_of_row _ rb 2 _ _ _ (heap_setCell_same _ _ _ _ _ _ g6)]; rfl
          clear own6 grow6 blk6 g6 old6
          go_wp2
          go_ret2
          refine ⟨rfl, ?_⟩
          obtain ⟨own6, grow6, blk6, g6, old6⟩ := G6.out
          obtain ⟨hF, b1, h3, h4, h5⟩ := HM.out
          have hr := rgr_append (n := (o, q, xs)) (wF := _) HG.out.wf (by omega) HG.out.w1 HG.out.w2 HG.out.r2 HNM.out hn ha hF b1 h3 h4 h5 (HV.out.below HBW.out) (fun k hk => (HVB.out k hk).of (HBW.out.block k (HVB.out k hk).lt)) E5.out.1 E5.out.2 _ blk6 own6 grow6 (by first | exact .inl rfl | exact .inr rfl)
          exact ⟨_, _, hr.1, (Touch.of_below HBW.out F).trans hr.2.1 (fun k hk => .inl hk), fun k hk => (hr.2.2 k hk).imp id (fun h => by have := HBW.out.size; omega), fun k hk => (List.mem_append.1 hk).elim (fun h => .inr (by simpa using h)) .inl⟩
end Go.Proofs.Ytofbadmjopefpaa
