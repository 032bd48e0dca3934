/- ask of package term: the walk. -/
import Derived.Test.YtofbadmjopefpaaGraphD
namespace Go.Proofs.Ytofbadmjopefpaa
open Go.RowKit Go.Maps
set_option maxHeartbeats 800000

/-- The cells of a key after its arguments were copied in. -/
def keyCells (o q : Nat) (xs : List Int) : List Value := [.int .u8 o, .int .u64 q, .int .i64 (xs.getD 0 0), .int .i64 (xs.getD 1 0), .int .i64 (xs.getD 2 0)]
theorem keyCells_splice (o q : Nat) (xs : List Int) (h : xs.length ≤ 3) : splice [.int .u8 o, .int .u64 q, .int .i64 0, .int .i64 0, .int .i64 0] 2 (xs.map (Value.int .i64)) = keyCells o q xs := by
  match xs, h with
  | [], _ => rfl
  | [a], _ => rfl
  | [a, b], _ => rfl
  | [a, b, c], _ => rfl
  | _ :: _ :: _ :: _ :: _, h => simp at h
/-- The world under a name: what is known of it is kept. -/
theorem wp_abs {P : Program} {c : Code} {Q : Exit → Act → World → Prop} {a : Act} {w : World} (Φ : World → Prop) (hΦ : Φ w) (h : ∀ w', Φ w' → c.wp P Q a w') : c.wp P Q a w := h w hΦ
set_option maxRecDepth 100000 in
theorem ask_any {w : World} {base : Nat} {F I : List Nat} {gb W room : Nat} {L : List PNode} (h : Gr w base F I gb W room L) (o q : Nat) (xs : List Int) (va : Value) (hv : IntsAt w va xs) (hvb : ∀ k, va.ownBlock = some k → IntBlk w k) (hn : NodeOk (o, q, xs)) (ha : ∀ a ∈ xs, (0 : Int) ≤ a ∧ a < (L.length : Int)) :
    Calls Try.prog 43 #[.pointer (some ⟨gb, 0, none⟩), .agg #[.int .u8 o, .int .u64 q, va]] w fun e w' => ∃ F' I', e = .returned (.tuple #[.int .i64 (askP room L (o, q, xs)).2.1, .int .i64 (askP room L (o, q, xs)).2.2]) ∧ Gr w' base F' I' gb W room (askP room L (o, q, xs)).1 ∧ Touch F w w' ∧ (∀ k, k ∈ F' → k ∈ F ∨ w.heap.size ≤ k) ∧ ∀ k, k ∈ I' → k ∈ I ∨ va.ownBlock = some k := by
  have hx3 : xs.length ≤ 3 := by have := hn.2.2; have := aryN_le o; simp only at *; omega
  have hsrc := hv.slice
  obtain ⟨a0, m0, c0, rfl, hl0, hc0⟩ := id hv
  have Hsrc := Lib.hid hsrc
  have HV := Lib.hid hv
  have HVB := Lib.hid hvb
  have H0 := Lib.hid h
  have Hx := Lib.hid (And.intro hl0 hx3)
  clear h hv hvb hsrc hl0 hc0
  obtain ⟨x0, hx0⟩ : ∃ x0, xs.getD 0 0 = x0 := ⟨_, rfl⟩
  obtain ⟨x1, hx1⟩ : ∃ x1, xs.getD 1 0 = x1 := ⟨_, rfl⟩
  obtain ⟨x2, hx2⟩ : ∃ x2, xs.getD 2 0 = x2 := ⟨_, rfl⟩
  have hkc : keyCells o q xs = [.int .u8 o, .int .u64 q, .int .i64 x0, .int .i64 x1, .int .i64 x2] := by unfold keyCells; rw [hx0, hx1, hx2]
  have hkv : keyV (o, q, xs) = .agg #[.int .u8 o, .int .u64 q, .int .i64 x0, .int .i64 x1, .int .i64 x2] := by unfold keyV; rw [hx0, hx1, hx2]
  have HKC := Lib.hid hkc; have HKV := Lib.hid hkv
  clear hkc hkv hx0 hx1 hx2
  obtain ⟨R, hR⟩ : ∃ R, askP room L (o, q, xs) = R := ⟨_, rfl⟩
  rw [hR]
  have HR := Lib.hid hR
  clear hR
  go_enter Try.func43, Try.ntmps43
  go_wp2
  refine wp_abs (fun w2 => w2.heap[w.heap.size]? = some (.cells #[.int .u8 o, .int .u64 q, .slice a0 m0 c0] 54 (0, 0)) ∧ w2.heap[w.heap.size + 1]? = some (.cells #[.int .u8 o, .int .u64 q, .int .i64 0, .int .i64 0, .int .i64 0] 110 (0, 0)) ∧
    w2.heap.size = w.heap.size + 2 ∧ Below w.heap.size w w2) ⟨heap_alloc2_old _ _ _, heap_alloc2_new _ _ _, by simp, (below_new w _).alloc (by simp) _⟩ ?_
  rintro w2 ⟨g0, g1, hz2, hb2⟩
  obtain ⟨d0, d1, d2⟩ := cells3 g0
  have G0 := Lib.hid g0; have G1 := Lib.hid g1; have Z2 := Lib.hid hz2; have B2 := Lib.hid hb2
  clear g0 g1 hz2 hb2
  go_still_tail 4, (by kernel_rfl)
  simp only [World.drew_eq]
  refine wpList_copy_splice rfl _ _ 26 26 rfl 3 Try.underlying26 (by kernel_rfl) (some ⟨w.heap.size + 1, 2, none⟩) a0 3 3 m0 c0 rfl rfl (w.heap.size + 1) 2 [.int .u8 o, .int .u64 q, .int .i64 0, .int .i64 0, .int .i64 0] 110 G1.out (xs.map (Value.int .i64)) ?n ?pos ?fit ?one (w.heap.size + 1) w2 ((Below.refl _ _).drew) (Nat.le_refl _) ?_
  case n => rw [List.length_map, Hx.out.1]; exact (Nat.min_eq_left (by have := Hx.out; omega)).symm
  case pos =>
    intro hp
    refine ⟨rfl, ?_⟩
    obtain ⟨a', c', e, _, hs⟩ := (Hsrc.out.below B2.out).src
    simp only [Value.slice.injEq] at e
    obtain ⟨rfl, rfl, rfl⟩ := e
    exact hs (by simpa using hp)
  case fit => simp; omega
  case one =>
    intro u hu
    obtain ⟨y, _, rfl⟩ := List.mem_map.1 hu
    rfl
  rintro w3 hk3 hb3
  rw [keyCells_splice o q xs hx3, HKC.out] at hk3
  have z3 : w.heap.size + 2 ≤ w3.heap.size := by have := hb3.size; have := Z2.out; omega
  have B3 := Lib.hid (B2.out.trans (hb3.mono (by omega)))
  have G3 := Lib.hid ((hb3.block w.heap.size (by omega)).trans G0.out)
  have K3 : Hid (w3.heap[w.heap.size + 1]? = some (.cells #[.int .u8 o, .int .u64 q, .int .i64 x0, .int .i64 x1, .int .i64 x2] 110 (0, 0))) := hk3
  have H3 := Lib.hid (H0.out.later B3.out)
  obtain ⟨a, cap, mb, c0', c1, c2, c3, cf, cm, hl⟩ := H3.out.parts
  have CM := Lib.hid cm
  have CF := Lib.hid cf
  have k0 : w3.cell? ⟨w.heap.size + 1, 0, none⟩ = some (.int .u8 o) := by rw [cell_of_row w3 _ 0 _ _ _ K3.out]; rfl
  have k1 : w3.cell? ⟨w.heap.size + 1, 1, none⟩ = some (.int .u64 q) := by rw [cell_of_row w3 _ 1 _ _ _ K3.out]; rfl
  have k2 : w3.cell? ⟨w.heap.size + 1, 2, none⟩ = some (.int .i64 x0) := by rw [cell_of_row w3 _ 2 _ _ _ K3.out]; rfl
  have k3 : w3.cell? ⟨w.heap.size + 1, 3, none⟩ = some (.int .i64 x1) := by rw [cell_of_row w3 _ 3 _ _ _ K3.out]; rfl
  have k4 : w3.cell? ⟨w.heap.size + 1, 4, none⟩ = some (.int .i64 x2) := by rw [cell_of_row w3 _ 4 _ _ _ K3.out]; rfl
  have hkl := Lib.hid <| key_lit (o, q, xs) hn (fun a h => by have := ha a h; simp only at *; omega)
  clear hk3 hb3 cm cf d0 d1 d2
  cases hf : L.findIdx? (· == ((o, q, xs) : PNode)) with
  | some t =>
    have hr : R = (L, t, 0) := by rw [← HR.out]; unfold askP; rw [hf]
    subst hr
    have ht := find_some hf
    have hlk : ∀ nq, (Instr.lookup 87 (.map (some mb)) (.agg #[.int .u8 o, .int .u64 q, .int .i64 x0, .int .i64 x1, .int .i64 x2]) true).run Try.prog (w3.drewN nq) = .ok (.tuple #[.int .i64 t, .bool true]) (w3.drewN nq) := fun nq => by
      obtain ⟨l, hl⟩ := hkl.out
      rw [← HKV.out]
      exact MapIs.lookup_hit (CM.out.block (w' := w3.drewN nq) rfl) Try.keyed Try.underlying87 hl (gm_mem ht) true
    clear hf hkl
    go_wp2
    go_quiet (fail)
    go_wp2
    go_ret2
    exact ⟨rfl, F, I, H0.out.later (below_drewN B3.out _), Touch.of_below (below_drewN B3.out _) F, fun k hk => .inl hk, fun k hk => .inl hk⟩
  | none =>
    have hr : R = if room ≤ L.length then (L, 0, 10) else (L ++ [(o, q, xs)], L.length, 0) := by rw [← HR.out]; unfold askP; rw [hf]
    have hnm := find_none hf
    have hgm : ∀ v, (keyV (o, q, xs), v) ∉ gm L := by
      intro v hm
      obtain ⟨i, n, hi, he, _⟩ := mem_gm hm
      have hn' := H3.out.wf.ok n (List.mem_of_getElem? hi)
      exact hnm (by rw [keyV_inj hn hn' he]; exact List.mem_of_getElem? hi)
    have hlk : ∀ nq, (Instr.lookup 87 (.map (some mb)) (.agg #[.int .u8 o, .int .u64 q, .int .i64 x0, .int .i64 x1, .int .i64 x2]) true).run Try.prog (w3.drewN nq) = .ok (.tuple #[.int .i64 0, .bool false]) (w3.drewN nq) := fun nq => by
      obtain ⟨l, hl⟩ := hkl.out
      rw [← HKV.out]
      exact MapIs.lookup_miss (CM.out.block (w' := w3.drewN nq) rfl) Try.keyed Try.underlying87 (by kernel_rfl) hl hgm true
    have HGM := Lib.hid hgm
    have HNM := Lib.hid hnm
    have HR2 := Lib.hid hr
    clear hr hf hnm hgm
    go_wp2
    go_quiet (fail)
    go_wp2
    refine wp_abs (fun w4 => w4.heap = w3.heap ∧ w4.os = w3.os ∧ w4.tape = w3.tape ∧ w4.output = w3.output) ⟨rfl, rfl, rfl, rfl⟩ ?_
    rintro w4 ⟨e4, r4⟩
    replace c0' : w4.cell? ⟨gb, 0, none⟩ = some (.int .i64 W) := by rw [cell_heap e4]; exact c0'
    replace c1 : w4.cell? ⟨gb, 1, none⟩ = some (.int .i64 room) := by rw [cell_heap e4]; exact c1
    replace c2 : w4.cell? ⟨gb, 2, none⟩ = some (.slice a L.length cap) := by rw [cell_heap e4]; exact c2
    replace c3 : w4.cell? ⟨gb, 3, none⟩ = some (.map (some mb)) := by rw [cell_heap e4]; exact c3
    replace k0 := (cell_heap e4 _).trans k0
    replace k1 := (cell_heap e4 _).trans k1
    replace k2 := (cell_heap e4 _).trans k2
    replace k3 := (cell_heap e4 _).trans k3
    replace k4 := (cell_heap e4 _).trans k4
    have B4 := Lib.hid (B3.out.trans ⟨r4.1, r4.2.1, r4.2.2, by rw [e4]; exact Nat.le_refl _, fun k _ => by rw [e4]⟩ : Below w.heap.size w w4)
    have E4 := Lib.hid e4; have R4 := Lib.hid r4
    clear e4 r4 hlk
    rcases Decidable.em (room ≤ L.length) with hroom | hroom
    · have ht : decide ((room : Int) ≤ (L.length : Int)) = true := decide_eq_true (by omega)
      have hr : R = (L, 0, 10) := by rw [HR2.out, if_pos hroom]
      subst hr
      go_quiet (fail)
      go_wp2
      go_ret2
      exact ⟨rfl, F, I, H0.out.later (below_drewN B4.out _), Touch.of_below (below_drewN B4.out _) F, fun k hk => .inl hk, fun k hk => .inl hk⟩
    · have ht : decide ((room : Int) ≤ (L.length : Int)) = false := decide_eq_false (by omega)
      have hr : R = (L ++ [(o, q, xs)], L.length, 0) := by rw [HR2.out, if_neg hroom]
      subst hr
      go_quiet (fail)
      go_wp2
      refine wp_abs (fun w5 => w5.heap = w3.heap ∧ w5.tape = w3.tape ∧ w5.os = w3.os ∧ w5.output = w3.output) ⟨E4.out, R4.out.2.1, R4.out.1, R4.out.2.2⟩ ?_
      rintro w5 ⟨e5, r5⟩
      replace c0' : w5.cell? ⟨gb, 0, none⟩ = some (.int .i64 W) := by rw [cell_heap (e5.trans E4.out.symm)]; exact c0'
      replace c1 : w5.cell? ⟨gb, 1, none⟩ = some (.int .i64 room) := by rw [cell_heap (e5.trans E4.out.symm)]; exact c1
      replace c2 : w5.cell? ⟨gb, 2, none⟩ = some (.slice a L.length cap) := by rw [cell_heap (e5.trans E4.out.symm)]; exact c2
      replace c3 : w5.cell? ⟨gb, 3, none⟩ = some (.map (some mb)) := by rw [cell_heap (e5.trans E4.out.symm)]; exact c3
      have cf : w5.frozen? ⟨gb, 2, none⟩ = w3.frozen? ⟨gb, 2, none⟩ := frozen_heap e5 _
      clear k0 k1 k2 k3 k4 ht
      have n0 : w5.cell? ⟨w.heap.size, 0, none⟩ = some (.int .u8 o) := by rw [cell_heap e5, cell_of_row w3 _ 0 _ _ _ G3.out]; rfl
      have n1 : w5.cell? ⟨w.heap.size, 1, none⟩ = some (.int .u64 q) := by rw [cell_heap e5, cell_of_row w3 _ 1 _ _ _ G3.out]; rfl
      have n2 : w5.cell? ⟨w.heap.size, 2, none⟩ = some (.slice a0 m0 c0) := by rw [cell_heap e5, cell_of_row w3 _ 2 _ _ _ G3.out]; rfl
      have E5 := Lib.hid e5; have R5 := Lib.hid r5
      obtain ⟨sv, mb', cells, hF, b1, b2, h3, h4, h5, h6⟩ := H3.out.mem
      have es : sv = .slice a L.length cap := by
        have h := (cell_heap e5 ⟨gb, 2, none⟩).symm.trans c2
        rw [cell_of_row w3 _ 2 _ _ _ h3] at h
        simpa using h
      subst es
      have em : mb' = mb := by
        have h := (cell_heap e5 ⟨gb, 3, none⟩).symm.trans c3
        rw [cell_of_row w3 _ 3 _ _ _ h3] at h
        simpa using h
      subst em
      have hbase := H0.out.base_le
      have hlt := H0.out.lt
      clear e5 r5
      have HF := Lib.hid hF; have HM := Lib.hid (And.intro h3 (And.intro h4 (And.intro h5 h6)))
      have hv3 : IntsAt w3 (.slice a0 m0 c0) xs := HV.out.below B3.out
      have HV3 := Lib.hid hv3
      obtain ⟨a', c', w6, happ, own6, grow6, blk6, g6, old6⟩ := ask_push (w3 := w3) (w5 := w5) (x := .int .u8 o) (y := .int .u64 q) (z := .slice a0 m0 c0) h3 h4 hl (by have := hbase gb (by rw [hF]; simp); have := hlt gb (by rw [hF]; simp); have := B3.out.size; omega) (by simp [Value.oneCell']) E5.out
      have d6 : w6.cell? ⟨gb, 2, none⟩ = some (.slice a L.length cap) := by rw [cell_of_row w6 _ 2 _ _ _ g6]; rfl
      have f6 : w6.frozen? ⟨gb, 2, none⟩ = false := frozen_of_row w6 _ _ _ _ g6
      have ca : (w5.alloc (.cells #[.int .u8 o, .int .u64 q, .slice a0 m0 c0] 54)).cell? ⟨gb, 2, none⟩ = some (.slice a L.length cap) := by
        have lgb := (Array.getElem?_eq_some_iff.1 h3).1
        rw [World.cell?_of_block (a := ⟨gb, 2, none⟩) (heap_alloc_old w5 _ (by rw [E5.out]; exact lgb))]; exact c2
      have G6 := Lib.hid (And.intro own6 (And.intro grow6 (And.intro blk6 (And.intro g6 old6))))
      clear own6 grow6 blk6 g6 old6 hv3 h3 h4 h5 h6 hF hbase hlt
      go_region_law (refine step_append_is rfl _ _ 84 rfl (.slice a L.length cap) (.slice (some ⟨w5.heap.size, 0, none⟩) 1 1) rfl rfl (.slice a' (L.length + 1) c') w6 happ ?_)
      clear happ ca d6 f6 c0' c1 c2 c3 cf n0 n1 n2
      all_goals
        go_wp2
        refine wp_abs (fun w7 => w7 = w6.setCell ⟨gb, 2, none⟩ (.slice a' (L.length + 1) c')) rfl ?_
        rintro w7 e7
        obtain ⟨own6, grow6, blk6, g6, old6⟩ := G6.out
        obtain ⟨h3, h4, h5, h6⟩ := HM.out
        have ngb : (Value.slice a L.length cap).ownBlock ≠ some gb := not_own h4 h3 (by intro c fr e; simp at e)
        have hK := K3.out
        have lK := (Array.getElem?_eq_some_iff.1 hK).1
        have lF : ∀ k, k ∈ F → k < w.heap.size := H0.out.lt
        have gF : gb < w.heap.size := lF gb (by rw [HF.out]; simp)
        have nK : (Value.slice a L.length cap).ownBlock ≠ some (w.heap.size + 1) := fun e => by have := lF (w.heap.size + 1) (by rw [HF.out]; simp [e]); omega
        have K7 : w7.heap[w.heap.size + 1]? = some (.cells #[.int .u8 o, .int .u64 q, .int .i64 x0, .int .i64 x1, .int .i64 x2] 110 (0, 0)) := by
          rw [e7, heap_setCell_other _ _ _ _ (by show w.heap.size + 1 ≠ gb; omega), old6 _ lK nK]; exact hK
        have M7 : MapIs Try.prog 110 w7.drew mb' (gm L) := by
          obtain ⟨es, ck, hes, _⟩ := id h6
          have nmb : (Value.slice a L.length cap).ownBlock ≠ some mb' := not_own h4 hes (by intro c fr e; cases e)
          have hgm : mb' ≠ gb := by rintro rfl; rw [h3] at hes; cases hes
          refine h6.block ?_
          show w7.heap[mb']? = _
          rw [e7, heap_setCell_other _ _ _ _ hgm, old6 _ h6.lt nmb]
        have c3 : w7.cell? ⟨gb, 3, none⟩ = some (.map (some mb')) := by
          rw [cell_of_row w7 gb 3 _ _ _ (by rw [e7, heap_setCell_same _ _ _ _ _ _ g6])]; rfl
        have k0 : w7.cell? ⟨w.heap.size + 1, 0, none⟩ = some (.int .u8 o) := by rw [cell_of_row w7 _ 0 _ _ _ K7]; rfl
        have k1 : w7.cell? ⟨w.heap.size + 1, 1, none⟩ = some (.int .u64 q) := by rw [cell_of_row w7 _ 1 _ _ _ K7]; rfl
        have k2 : w7.cell? ⟨w.heap.size + 1, 2, none⟩ = some (.int .i64 x0) := by rw [cell_of_row w7 _ 2 _ _ _ K7]; rfl
        have k3 : w7.cell? ⟨w.heap.size + 1, 3, none⟩ = some (.int .i64 x1) := by rw [cell_of_row w7 _ 3 _ _ _ K7]; rfl
        have k4 : w7.cell? ⟨w.heap.size + 1, 4, none⟩ = some (.int .i64 x2) := by rw [cell_of_row w7 _ 4 _ _ _ K7]; rfl
        obtain ⟨l, hkk⟩ := hkl.out
        obtain ⟨hrun, hput, hbut⟩ := MapIs.put_new M7 Try.keyed Try.underlying87 hkk HGM.out (.int .i64 L.length)
        have HE := Lib.hid (And.intro e7 (And.intro hrun (And.intro hput hbut)))
        clear own6 grow6 blk6 g6 old6 h3 h4 h5 h6 ngb hK lK lF gF nK K7 M7 hkk hrun hput hbut e7
        go_still_tail 6, (by kernel_rfl)
        simp only [World.drew_eq]
        refine wpList_mapUpdate_is rfl _ _ _ 87 rfl (.map (some mb')) (.agg #[.int .u8 o, .int .u64 q, .int .i64 x0, .int .i64 x1, .int .i64 x2]) (.int .i64 L.length) rfl rfl rfl (mapW Try.prog 87 mb' (keyV (o, q, xs)) (.int .i64 L.length) w7.drew) ?_ ?_
        · rw [← HKV.out]; exact HE.out.2.1
        go_wp2
        go_ret2
        refine ⟨rfl, ?_⟩
        obtain ⟨own6, grow6, blk6, g6, old6⟩ := G6.out
        obtain ⟨h3, h4, h5, h6⟩ := HM.out
        obtain ⟨e7, hrun, hput, hbut⟩ := HE.out
        rw [e7] at hbut hput ⊢
        have hr := gr_append (n := (o, q, xs)) H3.out.wf (by omega) H3.out.w1 H3.out.w2 H3.out.r2 HNM.out hn ha b1 b2 h3 h4 h5 h6 HV3.out (fun k hk => (HVB.out k hk).of (B3.out.block k (HVB.out k hk).lt)) E5.out ⟨R5.out.1, R5.out.2.1, R5.out.2.2⟩ _ blk6 own6 grow6 hput hbut
        rw [← HF.out] at hr
        exact ⟨_, _, hr.1, (Touch.of_below B3.out F).trans hr.2.1 (fun k hk => .inl hk), fun k hk => (hr.2.2 k hk).imp id (fun h => by have := B3.out.size; omega), fun k hk => (List.mem_append.1 hk).elim (fun h => .inr (by simpa using h)) .inl⟩
end Go.Proofs.Ytofbadmjopefpaa
