/- ask of package term: a node that is asked for. -/
import Derived.Test.YtofbadmjopefpaaGraphA
import Derived.DeepKeys4
import Derived.StillTailTactics
import Derived.Laws.CopyOwn
import Derived.Deep.RegionLaw
namespace Go.Proofs.Ytofbadmjopefpaa
open Go.RowKit Go.Maps
set_option maxHeartbeats 800000

theorem Try.keyed : Keyed Try.prog 110 := Keyed.of_law (Go.deep_law_laid (by kernel_rfl) (m := 4) (by decide) (of_decide_eq_true (by kernel_rfl)) (by kernel_rfl) (by kernel_rfl))
theorem key_lit (n : PNode) (hn : NodeOk n) (ha : ∀ a ∈ n.2.2, -9223372036854775808 ≤ a ∧ a ≤ 9223372036854775807) : ∃ l, keyOf Try.prog 110 (keyV n) = some l := by
  have h0 : ∀ i : Nat, -9223372036854775808 ≤ n.2.2.getD i 0 ∧ n.2.2.getD i 0 ≤ 9223372036854775807 := by
    intro i
    rcases Nat.lt_or_ge i n.2.2.length with h | h
    · rw [List.getD_eq_getElem?_getD, List.getElem?_eq_getElem h]; exact ha _ (List.getElem_mem h)
    · rw [List.getD_eq_getElem?_getD, List.getElem?_eq_none h]; simp
  have hw : n.1 ≤ 255 := by have := hn.1; omega
  have hk := hn.2.1
  have wo : (Lit.int .u8 (n.1 : Int)).wf = true := WalkArith.wf_u8 (by omega)
  have wk : (Lit.int .u64 (n.2.1 : Int)).wf = true := WalkArith.wf_u64 (by omega)
  have wa := WalkArith.wf_i64 (h0 0)
  have wb := WalkArith.wf_i64 (h0 1)
  have wc := WalkArith.wf_i64 (h0 2)
  unfold keyV
  clear h0 hw hk ha hn
  generalize n.2.2.getD 0 0 = a at *
  generalize n.2.2.getD 1 0 = b at *
  generalize n.2.2.getD 2 0 = c at *
  have kt : Try.prog.keyType 110 = true := by kernel_rfl
  have ce : Try.prog.cellsOf 3 = 1 := by kernel_rfl
  have cu : Try.prog.cellsOf 5 = 1 := by kernel_rfl
  have cw : Try.prog.cellsOf 42 = 1 := by kernel_rfl
  have ca : Try.prog.cellsOf 108 = 3 := by kernel_rfl
  have ck : Try.prog.cellsOf 110 = 5 := by kernel_rfl
  obtain ⟨D, hD⟩ : ∃ D, Try.prog.types.size + 1 = D + 3 := ⟨Try.prog.types.size - 2, by have : 3 ≤ Try.prog.types.size := of_decide_eq_true (by kernel_rfl); omega⟩
  have harr : ∀ d, Try.prog.keyLits (d + 2) 108 [.int .i64 a, .int .i64 b, .int .i64 c] = some [.int .i64 a, .int .i64 b, .int .i64 c] := fun d => by
    simp [Program.keyLits, Try.underlying108, Try.underlying3, ca, ce, wa, wb, wc, List.range_succ]
  have hu8 : ∀ d, Try.prog.keyLits (d + 1) 5 [.int .u8 n.1] = some [.int .u8 n.1] := fun d => by simp [Program.keyLits, Try.underlying5, wo]
  have hu64 : ∀ d, Try.prog.keyLits (d + 1) 42 [.int .u64 n.2.1] = some [.int .u64 n.2.1] := fun d => by simp [Program.keyLits, Try.underlying42, wk]
  unfold keyOf
  rw [Try.underlying110]
  simp only [kt, Value.formed, Try.underlying110, ck]
  rw [hD]
  unfold Program.keyLits
  rw [Try.underlying110]
  simp [ck, cu, cw, ca, Value.cells, hu8, hu64, harr]

theorem step_append_is {P : Program} {ops : Array Oper} {o : Oper} {a : Act} {w : World} {K : Act → World → Prop} {Q : Exit → Act → World → Prop} {E : Prop}
    (hg : o.guard = none) (s x : Operand) (t : TypeId) (hop : o.op = Op.call { callee := Callee.builtin Builtin.append, args := #[s, x], argTypes := #[t, t] }) (sv xv : Value) (hs : a.eval s = sv) (hx : a.eval x = xv)
    (v' : Value) (w' : World) (hr : (Builtin.append_ #[t, t] o.type #[sv, xv]).run P w = .ok v' w') (hK : K (a.put o.dst v') w') :
    if Region.wanted o (yielded ops a.tmps) = true then Oper.wp P o a w K Q else E := by
  have hw : Region.wanted o (yielded ops a.tmps) = true := by simp [Region.wanted, hg]
  rw [if_pos hw]
  unfold Oper.wp
  simp [execOp, hop, resolve, invoke, builtin, hs, hx, hr, Result.andThen]
  exact hK
theorem wpList_mapUpdate_is {P : Program} {w : World} {ops : Array Oper} {rest : List Oper} {o : Oper} {a : Act} {Q : Exit → Act → World → Prop} (hg : o.guard = none) (m x v : Operand) (T : TypeId) (hop : o.op = Op.mapUpdate T m x v)
    (mv kv vv : Value) (hm : a.eval m = mv) (hx : a.eval x = kv) (hv : a.eval v = vv) (w' : World) (hr : (Instr.mapUpdate T mv kv vv).run P w = .ok () w') (h : wpList P ops Q rest (a.put o.dst undef) w') : wpList P ops Q (o :: rest) a w := by
  refine wpList_plain hg fun _ hK => ?_
  unfold Oper.wp execOp
  simp [hop, hm, hx, hv, hr, Result.andThen]
  exact hK _ _ h
theorem cell_heap {w w' : World} (h : w'.heap = w.heap) (a : Addr) : w'.cell? a = w.cell? a := World.cell?_of_block (by rw [h])
theorem frozen_heap {w w' : World} (h : w'.heap = w.heap) (a : Addr) : w'.frozen? a = w.frozen? a := World.frozen?_of_block (by rw [h])
theorem not_own {w : World} {base size n g : Nat} {E : TypeId} {v : Value} {xs : List Value} {o : Obj} (h : w.ownsRow base E size v n xs) (hg : w.heap[g]? = some o) (ho : ∀ c fr, o ≠ .cells c E fr) : v.ownBlock ≠ some g := by
  rcases h.2 with ⟨rfl, _⟩ | ⟨g', cap, cur, rfl, hb, hg', _⟩
  · simp [Value.ownBlock]
  · simp only [Value.ownBlock, ne_eq, Option.some.injEq]
    intro e
    subst e
    rw [hg'] at hg
    exact ho _ _ (Option.some.inj hg).symm
/-- append gives the old block or a new one. -/
theorem append_block {P : Program} {w w' : World} {base T ty E size bytes : Nat} {z : Value} (ht : P.underlying T = some (.slice E)) (hi : (P.info? E).map (fun i => (i.zero, i.size, i.bytes)) = some (some z, size, bytes)) (hbt : bytes ≤ 1000)
    {v x v' : Value} {n m : Nat} {xs news : List Value} (hown : w.ownsRow base E size v n xs) (hsrc : SrcOf w x m size news) (h1 : ∀ u ∈ news, u.oneCell' = true) (hm0 : 0 < m) (hn : n + m ≤ 1000000000)
    (hr : (Builtin.append_ #[T, T] ty #[v, x]).run P w = .ok v' w') : ∀ k, v'.ownBlock = some k → v.ownBlock = some k ∨ w.heap.size ≤ k := by
  obtain ⟨i0, hi0, hz0, hz1, hz2⟩ := info_parts hi
  subst hz1; subst hz2
  obtain ⟨a, c, rfl, hl, hs⟩ := hsrc
  obtain ⟨ad, rfl, hc⟩ := hs hm0
  have hb : (n + m) * i0.bytes ≤ 1000000000 * 1000 := Nat.mul_le_mul hn hbt
  have hlen := hown.1
  intro k hk
  rcases hown.2 with ⟨rfl, rfl⟩ | ⟨g, cap, cur, rfl, hbg, hg, hnc, hcm, hcs, htake⟩
  · have hr' := run_append_nil (P := P) w T ty E i0 z ht hi0 hz0 ad m c news hl hc hm0 (by omega) (by simp only [Nat.zero_add] at hb; omega)
    rw [hr'] at hr
    simp only [Result.ok.injEq] at hr
    rw [← hr.1] at hk
    simp only [Value.ownBlock, Option.some.injEq] at hk
    right; omega
  · by_cases hroom : n + m ≤ cap
    · have hfit : n * i0.size + news.length ≤ cur.size := by rw [hl, hcs, ← Nat.add_mul]; exact Nat.mul_le_mul_right _ hroom
      have hr' := run_append_room (P := P) w T ty E i0 ht hi0 g n cap cur hg ad m c news hl hc h1 hroom hfit
      rw [hr'] at hr
      simp only [Result.ok.injEq] at hr
      rw [← hr.1] at hk
      exact .inl hk
    · have hr' := run_append_grow (P := P) w T ty E i0 z ht hi0 hz0 ⟨g, 0, none⟩ n cap xs hlen (hown.cells (g := g) rfl) ad m c news hl hc (by omega) (by omega) (growslice_fits (by omega) (by omega))
      rw [hr'] at hr
      simp only [Result.ok.injEq] at hr
      rw [← hr.1] at hk
      simp only [Value.ownBlock, Option.some.injEq] at hk
      right; omega
/-- One node more, appended to a graph's list. -/
theorem ask_push {w3 w5 : World} {base gb mb W room n : Nat} {cells : List Value} {a : Option Addr} {cap : Nat} {x y z : Value}
    (h3 : w3.heap[gb]? = some (.cells #[.int .i64 W, .int .i64 room, .slice a n cap, .map (some mb)] 89 (0, 0))) (h4 : w3.ownsRow base 54 3 (.slice a n cap) n cells) (hn : n ≤ 1048576) (hbase : base ≤ w3.heap.size)
    (h1 : ∀ u ∈ [x, y, z], u.oneCell' = true) (e5 : w5.heap = w3.heap) :
    ∃ a' c' w6, (Builtin.append_ #[84, 84] 84 #[.slice a n cap, .slice (some ⟨w5.heap.size, 0, none⟩) 1 1]).run Try.prog (w5.alloc (.cells #[x, y, z] 54)).drew = .ok (.slice a' (n + 1) c') w6 ∧
      w6.ownsRow base 54 3 (.slice a' (n + 1) c') (n + 1) (cells ++ [x, y, z]) ∧ (w5.alloc (.cells #[x, y, z] 54)).drew.grownBy w6 (Value.slice a n cap).ownBlock ∧
      (∀ k, (Value.slice a' (n + 1) c').ownBlock = some k → (Value.slice a n cap).ownBlock = some k ∨ w3.heap.size ≤ k) ∧
      w6.heap[gb]? = some (.cells #[.int .i64 W, .int .i64 room, .slice a n cap, .map (some mb)] 89 (0, 0)) ∧ ∀ k, k < w3.heap.size → (Value.slice a n cap).ownBlock ≠ some k → w6.heap[k]? = w3.heap[k]? := by
  have lgb := (Array.getElem?_eq_some_iff.1 h3).1
  have ngb : (Value.slice a n cap).ownBlock ≠ some gb := not_own h4 h3 (by intro c fr e; simp at e)
  have hold : ∀ k, k < w3.heap.size → (w5.alloc (.cells #[x, y, z] 54)).drew.heap[k]? = w3.heap[k]? := by
    intro k hk
    show (w5.alloc (.cells #[x, y, z] 54)).heap[k]? = _
    rw [heap_alloc_old _ _ (by rw [e5]; exact hk), e5]
  have hown : (w5.alloc (.cells #[x, y, z] 54)).drew.ownsRow base 54 3 (.slice a n cap) n cells := by
    refine ⟨h4.1, h4.2.imp id ?_⟩
    rintro ⟨g, cap', cur, e, hb, hg, r⟩
    exact ⟨g, cap', cur, e, hb, (hold g (Array.getElem?_eq_some_iff.1 hg).1).trans hg, r⟩
  have hnew : (w5.alloc (.cells #[x, y, z] 54)).drew.heap[w5.heap.size]? = some (.cells #[x, y, z] 54 (0, 0)) := heap_alloc_new w5 _
  have hsrc : SrcOf (w5.alloc (.cells #[x, y, z] 54)).drew (.slice (some ⟨w5.heap.size, 0, none⟩) 1 1) 1 3 [x, y, z] := by
    refine ⟨_, _, rfl, rfl, fun _ => ⟨_, rfl, fun j u hu => ?_⟩⟩
    rw [Go.WideShapes.add_plain, cell_of_row _ _ _ _ _ _ hnew, Nat.zero_add]
    rw [← hu]; simp
  obtain ⟨v', w6, happ, own6, grow6⟩ := run_append_src (P := Try.prog) (w5.alloc (.cells #[x, y, z] 54)).drew base 84 84 54 3 40 (.agg #[.int .u8 0, .int .u64 0, .slice none 0 0]) Try.underlying84 (by kernel_rfl) rfl (by decide) (by decide) (.slice a n cap) (.slice (some ⟨w5.heap.size, 0, none⟩) 1 1) n 1 cells [x, y, z] hown hsrc h1 (by omega) (by show base ≤ (w5.alloc _).heap.size; simp [e5]; omega)
  have blk := append_block (bytes := 40) (z := .agg #[.int .u8 0, .int .u64 0, .slice none 0 0]) Try.underlying84 (by kernel_rfl) (by decide) hown hsrc h1 (by decide) (by omega) happ
  have hsz : (w5.alloc (.cells #[x, y, z] 54)).drew.heap.size = w3.heap.size + 1 := by show (w5.alloc _).heap.size = _; simp [e5]
  obtain ⟨a', c', rfl⟩ : ∃ a' c', v' = .slice a' (n + 1) c' := by
    rcases own6.2 with ⟨_, h0⟩ | ⟨g, cap, cur, rfl, _⟩
    · omega
    · exact ⟨_, _, rfl⟩
  have old6 : ∀ k, k < w3.heap.size → (Value.slice a n cap).ownBlock ≠ some k → w6.heap[k]? = w3.heap[k]? := by
    intro k hk hne
    rw [grow6.block k (by omega) (fun e => hne e.symm)]
    exact hold k hk
  exact ⟨a', c', w6, happ, own6, grow6, fun k hk => (blk k hk).imp id (fun h => by omega), by rw [old6 gb lgb ngb, h3], old6⟩
/-- A graph whose list of nodes and map have got one node more. -/
theorem gr_append {w3 w5 w6 wF : World} {base gb mb W room : Nat} {I : List Nat} {L : List PNode} {sv v' va : Value} {cells : List Value} {n : PNode}
    (wf : WFL L) (hlen : L.length < room) (w1 : 1 ≤ W) (w2 : W ≤ 64) (r2 : room ≤ 1048576) (hn : n ∉ L) (hok : NodeOk n) (ha : ∀ a ∈ n.2.2, (0 : Int) ≤ a ∧ a < (L.length : Int))
    (b1 : base ≤ gb) (b2 : base ≤ mb) (h3 : w3.heap[gb]? = some (.cells #[.int .i64 W, .int .i64 room, sv, .map (some mb)] 89 (0, 0))) (h4 : w3.ownsRow base 54 3 sv L.length cells) (h5 : NodeRow w3 I cells L) (h6 : MapIs Try.prog 110 w3 mb (gm L)) (hv : IntsAt w3 va n.2.2) (hvb : ∀ k, va.ownBlock = some k → IntBlk w3 k)
    (e5 : w5.heap = w3.heap) (t5 : w5.tape = w3.tape ∧ w5.os = w3.os ∧ w5.output = w3.output) (X : Obj) (hblk : ∀ k, v'.ownBlock = some k → sv.ownBlock = some k ∨ w3.heap.size ≤ k)
    (own6 : w6.ownsRow base 54 3 v' (L.length + 1) (cells ++ [.int .u8 n.1, .int .u64 n.2.1, va])) (grow6 : (w5.alloc X).drew.grownBy w6 sv.ownBlock)
    (hmap : MapIs Try.prog 110 wF mb (gm L ++ [(keyV n, .int .i64 L.length)])) (hbut : But mb (w6.setCell ⟨gb, 2, none⟩ v').drew wF) :
    Gr wF base (gb :: mb :: v'.ownBlock.toList) (va.ownBlock.toList ++ I) gb W room (L ++ [n]) ∧ Touch (gb :: mb :: sv.ownBlock.toList) w3 wF ∧ ∀ k, k ∈ (gb :: mb :: v'.ownBlock.toList) → k ∈ (gb :: mb :: sv.ownBlock.toList) ∨ w3.heap.size ≤ k := by
  have lgb := (Array.getElem?_eq_some_iff.1 h3).1
  have lmb := h6.lt
  obtain ⟨es, ck, hes, _⟩ := id h6
  have s6 : w3.heap.size + 1 ≤ w6.heap.size := by have := grow6.size; simp [e5] at this; exact this
  have old6 : ∀ k, k < w3.heap.size → sv.ownBlock ≠ some k → w6.heap[k]? = w3.heap[k]? := by
    intro k hk hne
    rw [grow6.block k (by simp [e5]; omega) (fun e => hne e.symm)]
    show (w5.alloc X).heap[k]? = _
    rw [heap_alloc_old _ _ (by rw [e5]; exact hk), e5]
  have ngb : sv.ownBlock ≠ some gb := not_own h4 h3 (by intro c fr e; simp at e)
  have nmb : sv.ownBlock ≠ some mb := not_own h4 hes (by intro c fr e; cases e)
  have hgm : gb ≠ mb := by rintro rfl; rw [h3] at hes; cases hes
  have g6 : w6.heap[gb]? = some (.cells #[.int .i64 W, .int .i64 room, sv, .map (some mb)] 89 (0, 0)) := by rw [old6 gb lgb ngb, h3]
  have m6 : w6.heap[mb]? = w3.heap[mb]? := old6 mb lmb nmb
  have ngb' : v'.ownBlock ≠ some gb := not_own own6 g6 (by intro c fr e; simp at e)
  have nmb' : v'.ownBlock ≠ some mb := not_own own6 (m6.trans hes) (by intro c fr e; cases e)
  have touch : Touch (gb :: mb :: sv.ownBlock.toList) w3 wF := by
    refine ⟨by rw [hbut.os]; exact grow6.os.trans t5.2.1, by rw [hbut.tape]; exact grow6.tape.trans t5.1, by rw [hbut.output]; exact grow6.output.trans t5.2.2, by rw [hbut.size]; show w3.heap.size ≤ (w6.setCell _ _).heap.size; rw [World.size_setCell]; omega, ?_⟩
    intro k hk hn
    simp only [List.mem_cons, not_or] at hn
    rw [hbut.block k hn.2.1]
    show (w6.setCell _ _).heap[k]? = _
    rw [heap_setCell_other _ _ _ _ hn.1]
    exact old6 k hk (fun e => hn.2.2 (by simp [e]))
  have notInts : ∀ (k : Nat) (arr : Array Value) (fr : Nat × Nat), w3.heap[k]? = some (Obj.cells arr 3 fr) → wF.heap[k]? = w3.heap[k]? := by
    intro k arr fr hk
    refine touch.block k (Array.getElem?_eq_some_iff.1 hk).1 ?_
    simp only [List.mem_cons, not_or]
    refine ⟨?_, ?_, ?_⟩
    · rintro rfl; rw [h3] at hk; simp at hk
    · rintro rfl; rw [hes] at hk; cases hk
    · intro hm
      exact not_own h4 hk (by intro c fr e; simp at e) (by simpa using hm)
  refine ⟨⟨wf.snoc hn hok ha, by simp; omega, w1, w2, r2, v', mb, _, rfl, b1, b2, ?_, ?_, (h5.keep fun k _ hk => by obtain ⟨arr, fr, hk⟩ := hk; exact notInts k arr fr hk).snoc (hv.ints notInts) (fun k hk => (hvb k hk).of (by obtain ⟨arr, fr, hk⟩ := hvb k hk; exact notInts k arr fr hk)), by rw [gm_snoc]; exact hmap⟩, touch, ?_⟩
  · rw [hbut.block gb hgm]
    show (w6.setCell _ _).heap[gb]? = _
    rw [heap_setCell_same _ _ _ _ _ _ g6]
    rfl
  · rw [List.length_append, List.length_singleton]
    refine ⟨own6.1, ?_⟩
    rcases own6.2 with ⟨hnil, h0⟩ | ⟨g, cap, cur, rfl, hb, hg, r⟩
    · exact .inl ⟨hnil, h0⟩
    · refine .inr ⟨g, cap, cur, rfl, hb, ?_, r⟩
      simp only [Value.ownBlock, ne_eq, Option.some.injEq] at ngb' nmb'
      rw [hbut.block g nmb']
      show (w6.setCell _ _).heap[g]? = _
      rw [heap_setCell_other _ _ _ _ ngb', hg]
  · intro k hk
    simp only [List.mem_cons] at hk ⊢
    rcases hk with h | h | h
    · exact .inl (.inl h)
    · exact .inl (.inr (.inl h))
    · have hk' : v'.ownBlock = some k := by simpa using h
      rcases hblk k hk' with he | hl
      · exact .inl (.inr (.inr (by simp [he])))
      · exact .inr hl
end Go.Proofs.Ytofbadmjopefpaa
