/- GraphD, GraphE, GraphF, GraphH: joined by wip/bundle.py. -/
import Derived.Test.YteamnchoddegpaaGreatDoorB1
import Derived.Test.YteamnchoddegpaaGreatDoorB2
import Derived.DeepKeys4
import Derived.StillTailTactics
import Derived.Laws.CopyOwn
import Derived.Deep.RegionLaw
import Derived.BigQuiet
namespace Go.Proofs.YteamnchoddegpaaGreatDoor
open Go.RowKit Go.Maps
set_option maxHeartbeats 800000
theorem Tryz.keyed : Keyed Tryz.prog 145 := Keyed.of_law (Go.deep_law_laid (by kernel_rfl) (m := 4) (by decide) (of_decide_eq_true (by kernel_rfl)) (by kernel_rfl) (by kernel_rfl))
theorem key_lit (n : PNode) (hn : NodeOk n) (ha : ∀ a ∈ n.2.2, -9223372036854775808 ≤ a ∧ a ≤ 9223372036854775807) : ∃ l, keyOf Tryz.prog 145 (keyV n) = some l := by
  have h0 : ∀ i : Nat, -9223372036854775808 ≤ n.2.2.getD i 0 ∧ n.2.2.getD i 0 ≤ 9223372036854775807 := by
    intro i
    rcases Nat.lt_or_ge i n.2.2.length with h | h
    · rw [List.getD_eq_getElem?_getD, List.getElem?_eq_getElem h]; exact ha _ (List.getElem_mem h)
    · rw [List.getD_eq_getElem?_getD, List.getElem?_eq_none h]; simp
  have hw : n.1 ≤ 255 := by have := hn.1; omega
  have hk := hn.2.1
  have wo : (Lit.int .u8 (n.1 : Int)).wf = true := WalkArith.wf_u8 (by omega)
  have wk : (Lit.int .u64 (n.2.1 : Int)).wf = true := WalkArith.wf_u64 (by omega)
  have wa := WalkArith.wf_i64 (h0 0)
  have wb := WalkArith.wf_i64 (h0 1)
  have wc := WalkArith.wf_i64 (h0 2)
  unfold keyV
  clear h0 hw hk ha hn
  generalize n.2.2.getD 0 0 = a at *
  generalize n.2.2.getD 1 0 = b at *
  generalize n.2.2.getD 2 0 = c at *
  have kt : Tryz.prog.keyType 145 = true := by kernel_rfl
  have ce : Tryz.prog.cellsOf 3 = 1 := by kernel_rfl
  have cu : Tryz.prog.cellsOf 5 = 1 := by kernel_rfl
  have cw : Tryz.prog.cellsOf 43 = 1 := by kernel_rfl
  have ca : Tryz.prog.cellsOf 143 = 3 := by kernel_rfl
  have ck : Tryz.prog.cellsOf 145 = 5 := by kernel_rfl
  obtain ⟨D, hD⟩ : ∃ D, Tryz.prog.types.size + 1 = D + 3 := ⟨Tryz.prog.types.size - 2, by have : 3 ≤ Tryz.prog.types.size := of_decide_eq_true (by kernel_rfl); omega⟩
  have harr : ∀ d, Tryz.prog.keyLits (d + 2) 143 [.int .i64 a, .int .i64 b, .int .i64 c] = some [.int .i64 a, .int .i64 b, .int .i64 c] := fun d => by
    simp [Program.keyLits, Tryz.underlying143, Tryz.underlying3, ca, ce, wa, wb, wc, List.range_succ]
  have hu8 : ∀ d, Tryz.prog.keyLits (d + 1) 5 [.int .u8 n.1] = some [.int .u8 n.1] := fun d => by simp [Program.keyLits, Tryz.underlying5, wo]
  have hu64 : ∀ d, Tryz.prog.keyLits (d + 1) 43 [.int .u64 n.2.1] = some [.int .u64 n.2.1] := fun d => by simp [Program.keyLits, Tryz.underlying43, wk]
  unfold keyOf
  rw [Tryz.underlying145]
  simp only [kt, Value.formed, Tryz.underlying145, ck]
  rw [hD]
  unfold Program.keyLits
  rw [Tryz.underlying145]
  simp [ck, cu, cw, ca, Value.cells, hu8, hu64, harr]
theorem step_append_is {P : Program} {ops : Array Oper} {o : Oper} {a : Act} {w : World} {K : Act → World → Prop} {Q : Exit → Act → World → Prop} {E : Prop}
    (hg : o.guard = none) (s x : Operand) (t : TypeId) (hop : o.op = Op.call { callee := Callee.builtin Builtin.append, args := #[s, x], argTypes := #[t, t] }) (sv xv : Value) (hs : a.eval s = sv) (hx : a.eval x = xv)
    (v' : Value) (w' : World) (hr : (Builtin.append_ #[t, t] o.type #[sv, xv]).run P w = .ok v' w') (hK : K (a.put o.dst v') w') :
    if Region.wanted o (yielded ops a.tmps) = true then Oper.wp P o a w K Q else E := by
  have hw : Region.wanted o (yielded ops a.tmps) = true := by simp [Region.wanted, hg]
  rw [if_pos hw]
  unfold Oper.wp
  simp [execOp, hop, resolve, invoke, builtin, hs, hx, hr, Result.andThen]
  exact hK
theorem wpList_mapUpdate_is {P : Program} {w : World} {ops : Array Oper} {rest : List Oper} {o : Oper} {a : Act} {Q : Exit → Act → World → Prop} (hg : o.guard = none) (m x v : Operand) (T : TypeId) (hop : o.op = Op.mapUpdate T m x v)
    (mv kv vv : Value) (hm : a.eval m = mv) (hx : a.eval x = kv) (hv : a.eval v = vv) (w' : World) (hr : (Instr.mapUpdate T mv kv vv).run P w = .ok () w') (h : wpList P ops Q rest (a.put o.dst undef) w') : wpList P ops Q (o :: rest) a w := by
  refine wpList_plain hg fun _ hK => ?_
  unfold Oper.wp execOp
  simp [hop, hm, hx, hv, hr, Result.andThen]
  exact hK _ _ h
theorem cell_heap {w w' : World} (h : w'.heap = w.heap) (a : Addr) : w'.cell? a = w.cell? a := World.cell?_of_block (by rw [h])
theorem frozen_heap {w w' : World} (h : w'.heap = w.heap) (a : Addr) : w'.frozen? a = w.frozen? a := World.frozen?_of_block (by rw [h])
theorem not_own {w : World} {base size n g : Nat} {E : TypeId} {v : Value} {xs : List Value} {o : Obj} (h : w.ownsRow base E size v n xs) (hg : w.heap[g]? = some o) (ho : ∀ c fr, o ≠ .cells c E fr) : v.ownBlock ≠ some g := by
  rcases h.2 with ⟨rfl, _⟩ | ⟨g', cap, cur, rfl, hb, hg', _⟩
  · simp [Value.ownBlock]
  · simp only [Value.ownBlock, ne_eq, Option.some.injEq]
    intro e
    subst e
    rw [hg'] at hg
    exact ho _ _ (Option.some.inj hg).symm
/-- append gives the old block or a new one. -/
theorem append_block {P : Program} {w w' : World} {base T ty E size bytes : Nat} {z : Value} (ht : P.underlying T = some (.slice E)) (hi : (P.info? E).map (fun i => (i.zero, i.size, i.bytes)) = some (some z, size, bytes)) (hbt : bytes ≤ 1000)
    {v x v' : Value} {n m : Nat} {xs news : List Value} (hown : w.ownsRow base E size v n xs) (hsrc : SrcOf w x m size news) (h1 : ∀ u ∈ news, u.oneCell' = true) (hm0 : 0 < m) (hn : n + m ≤ 1000000000)
    (hr : (Builtin.append_ #[T, T] ty #[v, x]).run P w = .ok v' w') : ∀ k, v'.ownBlock = some k → v.ownBlock = some k ∨ w.heap.size ≤ k := by
  obtain ⟨i0, hi0, hz0, hz1, hz2⟩ := info_parts hi
  subst hz1; subst hz2
  obtain ⟨a, c, rfl, hl, hs⟩ := hsrc
  obtain ⟨ad, rfl, hc⟩ := hs hm0
  have hb : (n + m) * i0.bytes ≤ 1000000000 * 1000 := Nat.mul_le_mul hn hbt
  have hlen := hown.1
  intro k hk
  rcases hown.2 with ⟨rfl, rfl⟩ | ⟨g, cap, cur, rfl, hbg, hg, hnc, hcm, hcs, htake⟩
  · have hr' := run_append_nil (P := P) w T ty E i0 z ht hi0 hz0 ad m c news hl hc hm0 (by omega) (by simp only [Nat.zero_add] at hb; omega)
    rw [hr'] at hr
    simp only [Result.ok.injEq] at hr
    rw [← hr.1] at hk
    simp only [Value.ownBlock, Option.some.injEq] at hk
    right; omega
  · by_cases hroom : n + m ≤ cap
    · have hfit : n * i0.size + news.length ≤ cur.size := by rw [hl, hcs, ← Nat.add_mul]; exact Nat.mul_le_mul_right _ hroom
      have hr' := run_append_room (P := P) w T ty E i0 ht hi0 g n cap cur hg ad m c news hl hc h1 hroom hfit
      rw [hr'] at hr
      simp only [Result.ok.injEq] at hr
      rw [← hr.1] at hk
      exact .inl hk
    · have hr' := run_append_grow (P := P) w T ty E i0 z ht hi0 hz0 ⟨g, 0, none⟩ n cap xs hlen (hown.cells (g := g) rfl) ad m c news hl hc (by omega) (by omega) (growslice_fits (by omega) (by omega))
      rw [hr'] at hr
      simp only [Result.ok.injEq] at hr
      rw [← hr.1] at hk
      simp only [Value.ownBlock, Option.some.injEq] at hk
      right; omega
/-- One node more, appended to a graph's list. -/
theorem ask_push {w3 w5 : World} {base gb mb W room n : Nat} {cells : List Value} {a : Option Addr} {cap : Nat} {x y z : Value}
    (h3 : w3.heap[gb]? = some (.cells #[.int .i64 W, .int .i64 room, .slice a n cap, .map (some mb)] 102 (0, 0))) (h4 : w3.ownsRow base 88 3 (.slice a n cap) n cells) (hn : n ≤ 1048576) (hbase : base ≤ w3.heap.size)
    (h1 : ∀ u ∈ [x, y, z], u.oneCell' = true) (e5 : w5.heap = w3.heap) :
    ∃ a' c' w6, (Builtin.append_ #[73, 73] 73 #[.slice a n cap, .slice (some ⟨w5.heap.size, 0, none⟩) 1 1]).run Tryz.prog (w5.alloc (.cells #[x, y, z] 88)).drew = .ok (.slice a' (n + 1) c') w6 ∧
      w6.ownsRow base 88 3 (.slice a' (n + 1) c') (n + 1) (cells ++ [x, y, z]) ∧ (w5.alloc (.cells #[x, y, z] 88)).drew.grownBy w6 (Value.slice a n cap).ownBlock ∧
      (∀ k, (Value.slice a' (n + 1) c').ownBlock = some k → (Value.slice a n cap).ownBlock = some k ∨ w3.heap.size ≤ k) ∧
      w6.heap[gb]? = some (.cells #[.int .i64 W, .int .i64 room, .slice a n cap, .map (some mb)] 102 (0, 0)) ∧ ∀ k, k < w3.heap.size → (Value.slice a n cap).ownBlock ≠ some k → w6.heap[k]? = w3.heap[k]? := by
  have lgb := (Array.getElem?_eq_some_iff.1 h3).1
  have ngb : (Value.slice a n cap).ownBlock ≠ some gb := not_own h4 h3 (by intro c fr e; simp at e)
  have hold : ∀ k, k < w3.heap.size → (w5.alloc (.cells #[x, y, z] 88)).drew.heap[k]? = w3.heap[k]? := by
    intro k hk
    show (w5.alloc (.cells #[x, y, z] 88)).heap[k]? = _
    rw [heap_alloc_old _ _ (by rw [e5]; exact hk), e5]
  have hown : (w5.alloc (.cells #[x, y, z] 88)).drew.ownsRow base 88 3 (.slice a n cap) n cells := by
    refine ⟨h4.1, h4.2.imp id ?_⟩
    rintro ⟨g, cap', cur, e, hb, hg, r⟩
    exact ⟨g, cap', cur, e, hb, (hold g (Array.getElem?_eq_some_iff.1 hg).1).trans hg, r⟩
  have hnew : (w5.alloc (.cells #[x, y, z] 88)).drew.heap[w5.heap.size]? = some (.cells #[x, y, z] 88 (0, 0)) := heap_alloc_new w5 _
  have hsrc : SrcOf (w5.alloc (.cells #[x, y, z] 88)).drew (.slice (some ⟨w5.heap.size, 0, none⟩) 1 1) 1 3 [x, y, z] := by
    refine ⟨_, _, rfl, rfl, fun _ => ⟨_, rfl, fun j u hu => ?_⟩⟩
    rw [Go.WideShapes.add_plain, cell_of_row _ _ _ _ _ _ hnew, Nat.zero_add]
    rw [← hu]; simp
  obtain ⟨v', w6, happ, own6, grow6⟩ := run_append_src (P := Tryz.prog) (w5.alloc (.cells #[x, y, z] 88)).drew base 73 73 88 3 40 (.agg #[.int .u8 0, .int .u64 0, .slice none 0 0]) Tryz.underlying73 (by kernel_rfl) rfl (by decide) (by decide) (.slice a n cap) (.slice (some ⟨w5.heap.size, 0, none⟩) 1 1) n 1 cells [x, y, z] hown hsrc h1 (by omega) (by show base ≤ (w5.alloc _).heap.size; simp [e5]; omega)
  have blk := append_block (bytes := 40) (z := .agg #[.int .u8 0, .int .u64 0, .slice none 0 0]) Tryz.underlying73 (by kernel_rfl) (by decide) hown hsrc h1 (by decide) (by omega) happ
  have hsz : (w5.alloc (.cells #[x, y, z] 88)).drew.heap.size = w3.heap.size + 1 := by show (w5.alloc _).heap.size = _; simp [e5]
  obtain ⟨a', c', rfl⟩ : ∃ a' c', v' = .slice a' (n + 1) c' := by
    rcases own6.2 with ⟨_, h0⟩ | ⟨g, cap, cur, rfl, _⟩
    · omega
    · exact ⟨_, _, rfl⟩
  have old6 : ∀ k, k < w3.heap.size → (Value.slice a n cap).ownBlock ≠ some k → w6.heap[k]? = w3.heap[k]? := by
    intro k hk hne
    rw [grow6.block k (by omega) (fun e => hne e.symm)]
    exact hold k hk
  exact ⟨a', c', w6, happ, own6, grow6, fun k hk => (blk k hk).imp id (fun h => by omega), by rw [old6 gb lgb ngb, h3], old6⟩
/-- A graph whose list of nodes and map have got one node more. -/
theorem gr_append {w3 w5 w6 wF : World} {base gb mb W room : Nat} {I : List Nat} {L : List PNode} {sv v' va : Value} {cells : List Value} {n : PNode}
    (wf : WFL L) (hlen : L.length < room) (w1 : 1 ≤ W) (w2 : W ≤ 64) (r2 : room ≤ 1048576) (hn : n ∉ L) (hok : NodeOk n) (ha : ∀ a ∈ n.2.2, (0 : Int) ≤ a ∧ a < (L.length : Int))
    (b1 : base ≤ gb) (b2 : base ≤ mb) (h3 : w3.heap[gb]? = some (.cells #[.int .i64 W, .int .i64 room, sv, .map (some mb)] 102 (0, 0))) (h4 : w3.ownsRow base 88 3 sv L.length cells) (h5 : NodeRow w3 I cells L) (h6 : MapIs Tryz.prog 145 w3 mb (gm L)) (hv : IntsAt w3 va n.2.2) (hvb : ∀ k, va.ownBlock = some k → IntBlk w3 k)
    (e5 : w5.heap = w3.heap) (t5 : w5.tape = w3.tape ∧ w5.os = w3.os ∧ w5.output = w3.output) (X : Obj) (hblk : ∀ k, v'.ownBlock = some k → sv.ownBlock = some k ∨ w3.heap.size ≤ k)
    (own6 : w6.ownsRow base 88 3 v' (L.length + 1) (cells ++ [.int .u8 n.1, .int .u64 n.2.1, va])) (grow6 : (w5.alloc X).drew.grownBy w6 sv.ownBlock)
    (hmap : MapIs Tryz.prog 145 wF mb (gm L ++ [(keyV n, .int .i64 L.length)])) (hbut : But mb (w6.setCell ⟨gb, 2, none⟩ v').drew wF) :
    Gr wF base (gb :: mb :: v'.ownBlock.toList) (va.ownBlock.toList ++ I) gb W room (L ++ [n]) ∧ Touch (gb :: mb :: sv.ownBlock.toList) w3 wF ∧ ∀ k, k ∈ (gb :: mb :: v'.ownBlock.toList) → k ∈ (gb :: mb :: sv.ownBlock.toList) ∨ w3.heap.size ≤ k := by
  have lgb := (Array.getElem?_eq_some_iff.1 h3).1
  have lmb := h6.lt
  obtain ⟨es, ck, hes, _⟩ := id h6
  have s6 : w3.heap.size + 1 ≤ w6.heap.size := by have := grow6.size; simp [e5] at this; exact this
  have old6 : ∀ k, k < w3.heap.size → sv.ownBlock ≠ some k → w6.heap[k]? = w3.heap[k]? := by
    intro k hk hne
    rw [grow6.block k (by simp [e5]; omega) (fun e => hne e.symm)]
    show (w5.alloc X).heap[k]? = _
    rw [heap_alloc_old _ _ (by rw [e5]; exact hk), e5]
  have ngb : sv.ownBlock ≠ some gb := not_own h4 h3 (by intro c fr e; simp at e)
  have nmb : sv.ownBlock ≠ some mb := not_own h4 hes (by intro c fr e; cases e)
  have hgm : gb ≠ mb := by rintro rfl; rw [h3] at hes; cases hes
  have g6 : w6.heap[gb]? = some (.cells #[.int .i64 W, .int .i64 room, sv, .map (some mb)] 102 (0, 0)) := by rw [old6 gb lgb ngb, h3]
  have m6 : w6.heap[mb]? = w3.heap[mb]? := old6 mb lmb nmb
  have ngb' : v'.ownBlock ≠ some gb := not_own own6 g6 (by intro c fr e; simp at e)
  have nmb' : v'.ownBlock ≠ some mb := not_own own6 (m6.trans hes) (by intro c fr e; cases e)
  have touch : Touch (gb :: mb :: sv.ownBlock.toList) w3 wF := by
    refine ⟨by rw [hbut.os]; exact grow6.os.trans t5.2.1, by rw [hbut.tape]; exact grow6.tape.trans t5.1, by rw [hbut.output]; exact grow6.output.trans t5.2.2, by rw [hbut.size]; show w3.heap.size ≤ (w6.setCell _ _).heap.size; rw [World.size_setCell]; omega, ?_⟩
    intro k hk hn
    simp only [List.mem_cons, not_or] at hn
    rw [hbut.block k hn.2.1]
    show (w6.setCell _ _).heap[k]? = _
    rw [heap_setCell_other _ _ _ _ hn.1]
    exact old6 k hk (fun e => hn.2.2 (by simp [e]))
  have notInts : ∀ (k : Nat) (arr : Array Value) (fr : Nat × Nat), w3.heap[k]? = some (Obj.cells arr 3 fr) → wF.heap[k]? = w3.heap[k]? := by
    intro k arr fr hk
    refine touch.block k (Array.getElem?_eq_some_iff.1 hk).1 ?_
    simp only [List.mem_cons, not_or]
    refine ⟨?_, ?_, ?_⟩
    · rintro rfl; rw [h3] at hk; simp at hk
    · rintro rfl; rw [hes] at hk; cases hk
    · intro hm
      exact not_own h4 hk (by intro c fr e; simp at e) (by simpa using hm)
  refine ⟨⟨wf.snoc hn hok ha, by simp; omega, w1, w2, r2, v', mb, _, rfl, b1, b2, ?_, ?_, (h5.keep fun k _ hk => by obtain ⟨arr, fr, hk⟩ := hk; exact notInts k arr fr hk).snoc (hv.ints notInts) (fun k hk => (hvb k hk).of (by obtain ⟨arr, fr, hk⟩ := hvb k hk; exact notInts k arr fr hk)), by rw [gm_snoc]; exact hmap⟩, touch, ?_⟩
  · rw [hbut.block gb hgm]
    show (w6.setCell _ _).heap[gb]? = _
    rw [heap_setCell_same _ _ _ _ _ _ g6]
    rfl
  · rw [List.length_append, List.length_singleton]
    refine ⟨own6.1, ?_⟩
    rcases own6.2 with ⟨hnil, h0⟩ | ⟨g, cap, cur, rfl, hb, hg, r⟩
    · exact .inl ⟨hnil, h0⟩
    · refine .inr ⟨g, cap, cur, rfl, hb, ?_, r⟩
      simp only [Value.ownBlock, ne_eq, Option.some.injEq] at ngb' nmb'
      rw [hbut.block g nmb']
      show (w6.setCell _ _).heap[g]? = _
      rw [heap_setCell_other _ _ _ _ ngb', hg]
  · intro k hk
    simp only [List.mem_cons] at hk ⊢
    rcases hk with h | h | h
    · exact .inl (.inl h)
    · exact .inl (.inr (.inl h))
    · have hk' : v'.ownBlock = some k := by simpa using h
      rcases hblk k hk' with he | hl
      · exact .inl (.inr (.inr (by simp [he])))
      · exact .inr hl
end Go.Proofs.YteamnchoddegpaaGreatDoor
namespace Go.Proofs.YteamnchoddegpaaGreatDoor
open Go.RowKit Go.Maps
set_option maxHeartbeats 800000
/-- The cells of a key after its arguments were copied in. -/
def keyCells (o q : Nat) (xs : List Int) : List Value := [.int .u8 o, .int .u64 q, .int .i64 (xs.getD 0 0), .int .i64 (xs.getD 1 0), .int .i64 (xs.getD 2 0)]
theorem keyCells_splice (o q : Nat) (xs : List Int) (h : xs.length ≤ 3) : splice [.int .u8 o, .int .u64 q, .int .i64 0, .int .i64 0, .int .i64 0] 2 (xs.map (Value.int .i64)) = keyCells o q xs := by
  match xs, h with
  | [], _ => rfl
  | [a], _ => rfl
  | [a, b], _ => rfl
  | [a, b, c], _ => rfl
  | _ :: _ :: _ :: _ :: _, h => simp at h
/-- The world under a name: what is known of it is kept. -/
theorem wp_abs {P : Program} {c : Code} {Q : Exit → Act → World → Prop} {a : Act} {w : World} (Φ : World → Prop) (hΦ : Φ w) (h : ∀ w', Φ w' → c.wp P Q a w') : c.wp P Q a w := h w hΦ
set_option maxRecDepth 100000 in
theorem ask_any {w : World} {base : Nat} {F I : List Nat} {gb W room : Nat} {L : List PNode} (h : Gr w base F I gb W room L) (o q : Nat) (xs : List Int) (va : Value) (hv : IntsAt w va xs) (hvb : ∀ k, va.ownBlock = some k → IntBlk w k) (hn : NodeOk (o, q, xs)) (ha : ∀ a ∈ xs, (0 : Int) ≤ a ∧ a < (L.length : Int)) :
    Calls Tryz.prog 57 #[.pointer (some ⟨gb, 0, none⟩), .agg #[.int .u8 o, .int .u64 q, va]] w fun e w' => ∃ F' I', e = .returned (.tuple #[.int .i64 (askP room L (o, q, xs)).2.1, .int .i64 (askP room L (o, q, xs)).2.2]) ∧ Gr w' base F' I' gb W room (askP room L (o, q, xs)).1 ∧ Touch F w w' ∧ (∀ k, k ∈ F' → k ∈ F ∨ w.heap.size ≤ k) ∧ ∀ k, k ∈ I' → k ∈ I ∨ va.ownBlock = some k := by
  have hx3 : xs.length ≤ 3 := by have := hn.2.2; have := aryN_le o; simp only at *; omega
  have hsrc := hv.slice
  obtain ⟨a0, m0, c0, rfl, hl0, hc0⟩ := id hv
  have Hsrc := Lib.hid hsrc
  have HV := Lib.hid hv
  have HVB := Lib.hid hvb
  have H0 := Lib.hid h
  have Hx := Lib.hid (And.intro hl0 hx3)
  clear h hv hvb hsrc hl0 hc0
  obtain ⟨x0, hx0⟩ : ∃ x0, xs.getD 0 0 = x0 := ⟨_, rfl⟩
  obtain ⟨x1, hx1⟩ : ∃ x1, xs.getD 1 0 = x1 := ⟨_, rfl⟩
  obtain ⟨x2, hx2⟩ : ∃ x2, xs.getD 2 0 = x2 := ⟨_, rfl⟩
  have hkc : keyCells o q xs = [.int .u8 o, .int .u64 q, .int .i64 x0, .int .i64 x1, .int .i64 x2] := by unfold keyCells; rw [hx0, hx1, hx2]
  have hkv : keyV (o, q, xs) = .agg #[.int .u8 o, .int .u64 q, .int .i64 x0, .int .i64 x1, .int .i64 x2] := by unfold keyV; rw [hx0, hx1, hx2]
  have HKC := Lib.hid hkc; have HKV := Lib.hid hkv
  clear hkc hkv hx0 hx1 hx2
  obtain ⟨R, hR⟩ : ∃ R, askP room L (o, q, xs) = R := ⟨_, rfl⟩
  rw [hR]
  have HR := Lib.hid hR
  clear hR
  go_enter Tryz.func57, Tryz.ntmps57
  go_wp2
  refine wp_abs (fun w2 => w2.heap[w.heap.size]? = some (.cells #[.int .u8 o, .int .u64 q, .slice a0 m0 c0] 88 (0, 0)) ∧ w2.heap[w.heap.size + 1]? = some (.cells #[.int .u8 o, .int .u64 q, .int .i64 0, .int .i64 0, .int .i64 0] 145 (0, 0)) ∧
    w2.heap.size = w.heap.size + 2 ∧ Below w.heap.size w w2) ⟨heap_alloc2_old _ _ _, heap_alloc2_new _ _ _, by simp, (below_new w _).alloc (by simp) _⟩ ?_
  rintro w2 ⟨g0, g1, hz2, hb2⟩
  obtain ⟨d0, d1, d2⟩ := cells3 g0
  have G0 := Lib.hid g0; have G1 := Lib.hid g1; have Z2 := Lib.hid hz2; have B2 := Lib.hid hb2
  clear g0 g1 hz2 hb2
  go_still_tail 4, (by kernel_rfl)
  simp only [World.drew_eq]
  refine wpList_copy_splice rfl _ _ 24 24 rfl 3 Tryz.underlying24 (by kernel_rfl) (some ⟨w.heap.size + 1, 2, none⟩) a0 3 3 m0 c0 rfl rfl (w.heap.size + 1) 2 [.int .u8 o, .int .u64 q, .int .i64 0, .int .i64 0, .int .i64 0] 145 G1.out (xs.map (Value.int .i64)) ?n ?pos ?fit ?one (w.heap.size + 1) w2 ((Below.refl _ _).drew) (Nat.le_refl _) ?_
  case n => rw [List.length_map, Hx.out.1]; exact (Nat.min_eq_left (by have := Hx.out; omega)).symm
  case pos =>
    intro hp
    refine ⟨rfl, ?_⟩
    obtain ⟨a', c', e, _, hs⟩ := (Hsrc.out.below B2.out).src
    simp only [Value.slice.injEq] at e
    obtain ⟨rfl, rfl, rfl⟩ := e
    exact hs (by simpa using hp)
  case fit => simp; omega
  case one =>
    intro u hu
    obtain ⟨y, _, rfl⟩ := List.mem_map.1 hu
    rfl
  rintro w3 hk3 hb3
  rw [keyCells_splice o q xs hx3, HKC.out] at hk3
  have z3 : w.heap.size + 2 ≤ w3.heap.size := by have := hb3.size; have := Z2.out; omega
  have B3 := Lib.hid (B2.out.trans (hb3.mono (by omega)))
  have G3 := Lib.hid ((hb3.block w.heap.size (by omega)).trans G0.out)
  have K3 : Hid (w3.heap[w.heap.size + 1]? = some (.cells #[.int .u8 o, .int .u64 q, .int .i64 x0, .int .i64 x1, .int .i64 x2] 145 (0, 0))) := hk3
  have H3 := Lib.hid (H0.out.later B3.out)
  obtain ⟨a, cap, mb, c0', c1, c2, c3, cf, cm, hl⟩ := H3.out.parts
  have CM := Lib.hid cm
  have CF := Lib.hid cf
  have k0 : w3.cell? ⟨w.heap.size + 1, 0, none⟩ = some (.int .u8 o) := by rw [cell_of_row w3 _ 0 _ _ _ K3.out]; rfl
  have k1 : w3.cell? ⟨w.heap.size + 1, 1, none⟩ = some (.int .u64 q) := by rw [cell_of_row w3 _ 1 _ _ _ K3.out]; rfl
  have k2 : w3.cell? ⟨w.heap.size + 1, 2, none⟩ = some (.int .i64 x0) := by rw [cell_of_row w3 _ 2 _ _ _ K3.out]; rfl
  have k3 : w3.cell? ⟨w.heap.size + 1, 3, none⟩ = some (.int .i64 x1) := by rw [cell_of_row w3 _ 3 _ _ _ K3.out]; rfl
  have k4 : w3.cell? ⟨w.heap.size + 1, 4, none⟩ = some (.int .i64 x2) := by rw [cell_of_row w3 _ 4 _ _ _ K3.out]; rfl
  have hkl := Lib.hid <| key_lit (o, q, xs) hn (fun a h => by have := ha a h; simp only at *; omega)
  clear hk3 hb3 cm cf d0 d1 d2
  cases hf : L.findIdx? (· == ((o, q, xs) : PNode)) with
  | some t =>
    have hr : R = (L, t, 0) := by rw [← HR.out]; unfold askP; rw [hf]
    subst hr
    have ht := find_some hf
    have hlk : ∀ nq, (Instr.lookup 100 (.map (some mb)) (.agg #[.int .u8 o, .int .u64 q, .int .i64 x0, .int .i64 x1, .int .i64 x2]) true).run Tryz.prog (w3.drewN nq) = .ok (.tuple #[.int .i64 t, .bool true]) (w3.drewN nq) := fun nq => by
      obtain ⟨l, hl⟩ := hkl.out
      rw [← HKV.out]
      exact MapIs.lookup_hit (CM.out.block (w' := w3.drewN nq) rfl) Tryz.keyed Tryz.underlying100 hl (gm_mem ht) true
    clear hf hkl
    go_wp2
    go_quiet (fail)
    go_wp2
    go_ret2
    exact ⟨rfl, F, I, H0.out.later (below_drewN B3.out _), Touch.of_below (below_drewN B3.out _) F, fun k hk => .inl hk, fun k hk => .inl hk⟩
  | none =>
    have hr : R = if room ≤ L.length then (L, 0, 10) else (L ++ [(o, q, xs)], L.length, 0) := by rw [← HR.out]; unfold askP; rw [hf]
    have hnm := find_none hf
    have hgm : ∀ v, (keyV (o, q, xs), v) ∉ gm L := by
      intro v hm
      obtain ⟨i, n, hi, he, _⟩ := mem_gm hm
      have hn' := H3.out.wf.ok n (List.mem_of_getElem? hi)
      exact hnm (by rw [keyV_inj hn hn' he]; exact List.mem_of_getElem? hi)
    have hlk : ∀ nq, (Instr.lookup 100 (.map (some mb)) (.agg #[.int .u8 o, .int .u64 q, .int .i64 x0, .int .i64 x1, .int .i64 x2]) true).run Tryz.prog (w3.drewN nq) = .ok (.tuple #[.int .i64 0, .bool false]) (w3.drewN nq) := fun nq => by
      obtain ⟨l, hl⟩ := hkl.out
      rw [← HKV.out]
      exact MapIs.lookup_miss (CM.out.block (w' := w3.drewN nq) rfl) Tryz.keyed Tryz.underlying100 (by kernel_rfl) hl hgm true
    have HGM := Lib.hid hgm
    have HNM := Lib.hid hnm
    have HR2 := Lib.hid hr
    clear hr hf hnm hgm
    go_wp2
    go_quiet (fail)
    go_wp2
    refine wp_abs (fun w4 => w4.heap = w3.heap ∧ w4.os = w3.os ∧ w4.tape = w3.tape ∧ w4.output = w3.output) ⟨rfl, rfl, rfl, rfl⟩ ?_
    rintro w4 ⟨e4, r4⟩
    replace c0' : w4.cell? ⟨gb, 0, none⟩ = some (.int .i64 W) := by rw [cell_heap e4]; exact c0'
    replace c1 : w4.cell? ⟨gb, 1, none⟩ = some (.int .i64 room) := by rw [cell_heap e4]; exact c1
    replace c2 : w4.cell? ⟨gb, 2, none⟩ = some (.slice a L.length cap) := by rw [cell_heap e4]; exact c2
    replace c3 : w4.cell? ⟨gb, 3, none⟩ = some (.map (some mb)) := by rw [cell_heap e4]; exact c3
    replace k0 := (cell_heap e4 _).trans k0
    replace k1 := (cell_heap e4 _).trans k1
    replace k2 := (cell_heap e4 _).trans k2
    replace k3 := (cell_heap e4 _).trans k3
    replace k4 := (cell_heap e4 _).trans k4
    have B4 := Lib.hid (B3.out.trans ⟨r4.1, r4.2.1, r4.2.2, by rw [e4]; exact Nat.le_refl _, fun k _ => by rw [e4]⟩ : Below w.heap.size w w4)
    have E4 := Lib.hid e4; have R4 := Lib.hid r4
    clear e4 r4 hlk
    rcases Decidable.em (room ≤ L.length) with hroom | hroom
    · have ht : decide ((room : Int) ≤ (L.length : Int)) = true := decide_eq_true (by omega)
      have hr : R = (L, 0, 10) := by rw [HR2.out, if_pos hroom]
      subst hr
      go_quiet (fail)
      go_wp2
      go_ret2
      exact ⟨rfl, F, I, H0.out.later (below_drewN B4.out _), Touch.of_below (below_drewN B4.out _) F, fun k hk => .inl hk, fun k hk => .inl hk⟩
    · have ht : decide ((room : Int) ≤ (L.length : Int)) = false := decide_eq_false (by omega)
      have hr : R = (L ++ [(o, q, xs)], L.length, 0) := by rw [HR2.out, if_neg hroom]
      subst hr
      go_quiet (fail)
      go_wp2
      refine wp_abs (fun w5 => w5.heap = w3.heap ∧ w5.tape = w3.tape ∧ w5.os = w3.os ∧ w5.output = w3.output) ⟨E4.out, R4.out.2.1, R4.out.1, R4.out.2.2⟩ ?_
      rintro w5 ⟨e5, r5⟩
      replace c0' : w5.cell? ⟨gb, 0, none⟩ = some (.int .i64 W) := by rw [cell_heap (e5.trans E4.out.symm)]; exact c0'
      replace c1 : w5.cell? ⟨gb, 1, none⟩ = some (.int .i64 room) := by rw [cell_heap (e5.trans E4.out.symm)]; exact c1
      replace c2 : w5.cell? ⟨gb, 2, none⟩ = some (.slice a L.length cap) := by rw [cell_heap (e5.trans E4.out.symm)]; exact c2
      replace c3 : w5.cell? ⟨gb, 3, none⟩ = some (.map (some mb)) := by rw [cell_heap (e5.trans E4.out.symm)]; exact c3
      have cf : w5.frozen? ⟨gb, 2, none⟩ = w3.frozen? ⟨gb, 2, none⟩ := frozen_heap e5 _
      clear k0 k1 k2 k3 k4 ht
      have n0 : w5.cell? ⟨w.heap.size, 0, none⟩ = some (.int .u8 o) := by rw [cell_heap e5, cell_of_row w3 _ 0 _ _ _ G3.out]; rfl
      have n1 : w5.cell? ⟨w.heap.size, 1, none⟩ = some (.int .u64 q) := by rw [cell_heap e5, cell_of_row w3 _ 1 _ _ _ G3.out]; rfl
      have n2 : w5.cell? ⟨w.heap.size, 2, none⟩ = some (.slice a0 m0 c0) := by rw [cell_heap e5, cell_of_row w3 _ 2 _ _ _ G3.out]; rfl
      have E5 := Lib.hid e5; have R5 := Lib.hid r5
      obtain ⟨sv, mb', cells, hF, b1, b2, h3, h4, h5, h6⟩ := H3.out.mem
      have es : sv = .slice a L.length cap := by
        have h := (cell_heap e5 ⟨gb, 2, none⟩).symm.trans c2
        rw [cell_of_row w3 _ 2 _ _ _ h3] at h
        simpa using h
      subst es
      have em : mb' = mb := by
        have h := (cell_heap e5 ⟨gb, 3, none⟩).symm.trans c3
        rw [cell_of_row w3 _ 3 _ _ _ h3] at h
        simpa using h
      subst em
      have hbase := H0.out.base_le
      have hlt := H0.out.lt
      clear e5 r5
      have HF := Lib.hid hF; have HM := Lib.hid (And.intro h3 (And.intro h4 (And.intro h5 h6)))
      have hv3 : IntsAt w3 (.slice a0 m0 c0) xs := HV.out.below B3.out
      have HV3 := Lib.hid hv3
      obtain ⟨a', c', w6, happ, own6, grow6, blk6, g6, old6⟩ := ask_push (w3 := w3) (w5 := w5) (x := .int .u8 o) (y := .int .u64 q) (z := .slice a0 m0 c0) h3 h4 hl (by have := hbase gb (by rw [hF]; simp); have := hlt gb (by rw [hF]; simp); have := B3.out.size; omega) (by simp [Value.oneCell']) E5.out
      have d6 : w6.cell? ⟨gb, 2, none⟩ = some (.slice a L.length cap) := by rw [cell_of_row w6 _ 2 _ _ _ g6]; rfl
      have f6 : w6.frozen? ⟨gb, 2, none⟩ = false := frozen_of_row w6 _ _ _ _ g6
      have ca : (w5.alloc (.cells #[.int .u8 o, .int .u64 q, .slice a0 m0 c0] 88)).cell? ⟨gb, 2, none⟩ = some (.slice a L.length cap) := by
        have lgb := (Array.getElem?_eq_some_iff.1 h3).1
        rw [World.cell?_of_block (a := ⟨gb, 2, none⟩) (heap_alloc_old w5 _ (by rw [E5.out]; exact lgb))]; exact c2
      have G6 := Lib.hid (And.intro own6 (And.intro grow6 (And.intro blk6 (And.intro g6 old6))))
      clear own6 grow6 blk6 g6 old6 hv3 h3 h4 h5 h6 hF hbase hlt
      go_region_law (refine step_append_is rfl _ _ 73 rfl (.slice a L.length cap) (.slice (some ⟨w5.heap.size, 0, none⟩) 1 1) rfl rfl (.slice a' (L.length + 1) c') w6 happ ?_)
      clear happ ca d6 f6 c0' c1 c2 c3 cf n0 n1 n2
      all_goals
        go_wp2
        refine wp_abs (fun w7 => w7 = w6.setCell ⟨gb, 2, none⟩ (.slice a' (L.length + 1) c')) rfl ?_
        rintro w7 e7
        obtain ⟨own6, grow6, blk6, g6, old6⟩ := G6.out
        obtain ⟨h3, h4, h5, h6⟩ := HM.out
        have ngb : (Value.slice a L.length cap).ownBlock ≠ some gb := not_own h4 h3 (by intro c fr e; simp at e)
        have hK := K3.out
        have lK := (Array.getElem?_eq_some_iff.1 hK).1
        have lF : ∀ k, k ∈ F → k < w.heap.size := H0.out.lt
        have gF : gb < w.heap.size := lF gb (by rw [HF.out]; simp)
        have nK : (Value.slice a L.length cap).ownBlock ≠ some (w.heap.size + 1) := fun e => by have := lF (w.heap.size + 1) (by rw [HF.out]; simp [e]); omega
        have K7 : w7.heap[w.heap.size + 1]? = some (.cells #[.int .u8 o, .int .u64 q, .int .i64 x0, .int .i64 x1, .int .i64 x2] 145 (0, 0)) := by
          rw [e7, heap_setCell_other _ _ _ _ (by show w.heap.size + 1 ≠ gb; omega), old6 _ lK nK]; exact hK
        have M7 : MapIs Tryz.prog 145 w7.drew mb' (gm L) := by
          obtain ⟨es, ck, hes, _⟩ := id h6
          have nmb : (Value.slice a L.length cap).ownBlock ≠ some mb' := not_own h4 hes (by intro c fr e; cases e)
          have hgm : mb' ≠ gb := by rintro rfl; rw [h3] at hes; cases hes
          refine h6.block ?_
          show w7.heap[mb']? = _
          rw [e7, heap_setCell_other _ _ _ _ hgm, old6 _ h6.lt nmb]
        have c3 : w7.cell? ⟨gb, 3, none⟩ = some (.map (some mb')) := by
          rw [cell_of_row w7 gb 3 _ _ _ (by rw [e7, heap_setCell_same _ _ _ _ _ _ g6])]; rfl
        have k0 : w7.cell? ⟨w.heap.size + 1, 0, none⟩ = some (.int .u8 o) := by rw [cell_of_row w7 _ 0 _ _ _ K7]; rfl
        have k1 : w7.cell? ⟨w.heap.size + 1, 1, none⟩ = some (.int .u64 q) := by rw [cell_of_row w7 _ 1 _ _ _ K7]; rfl
        have k2 : w7.cell? ⟨w.heap.size + 1, 2, none⟩ = some (.int .i64 x0) := by rw [cell_of_row w7 _ 2 _ _ _ K7]; rfl
        have k3 : w7.cell? ⟨w.heap.size + 1, 3, none⟩ = some (.int .i64 x1) := by rw [cell_of_row w7 _ 3 _ _ _ K7]; rfl
        have k4 : w7.cell? ⟨w.heap.size + 1, 4, none⟩ = some (.int .i64 x2) := by rw [cell_of_row w7 _ 4 _ _ _ K7]; rfl
        obtain ⟨l, hkk⟩ := hkl.out
        obtain ⟨hrun, hput, hbut⟩ := MapIs.put_new M7 Tryz.keyed Tryz.underlying100 hkk HGM.out (.int .i64 L.length)
        have HE := Lib.hid (And.intro e7 (And.intro hrun (And.intro hput hbut)))
        clear own6 grow6 blk6 g6 old6 h3 h4 h5 h6 ngb hK lK lF gF nK K7 M7 hkk hrun hput hbut e7
        go_still_tail 6, (by kernel_rfl)
        simp only [World.drew_eq]
        refine wpList_mapUpdate_is rfl _ _ _ 100 rfl (.map (some mb')) (.agg #[.int .u8 o, .int .u64 q, .int .i64 x0, .int .i64 x1, .int .i64 x2]) (.int .i64 L.length) rfl rfl rfl (mapW Tryz.prog 100 mb' (keyV (o, q, xs)) (.int .i64 L.length) w7.drew) ?_ ?_
        · rw [← HKV.out]; exact HE.out.2.1
        go_wp2
        go_ret2
        refine ⟨rfl, ?_⟩
        obtain ⟨own6, grow6, blk6, g6, old6⟩ := G6.out
        obtain ⟨h3, h4, h5, h6⟩ := HM.out
        obtain ⟨e7, hrun, hput, hbut⟩ := HE.out
        rw [e7] at hbut hput ⊢
        have hr := gr_append (n := (o, q, xs)) H3.out.wf (by omega) H3.out.w1 H3.out.w2 H3.out.r2 HNM.out hn ha b1 b2 h3 h4 h5 h6 HV3.out (fun k hk => (HVB.out k hk).of (B3.out.block k (HVB.out k hk).lt)) E5.out ⟨R5.out.1, R5.out.2.1, R5.out.2.2⟩ _ blk6 own6 grow6 hput hbut
        rw [← HF.out] at hr
        exact ⟨_, _, hr.1, (Touch.of_below B3.out F).trans hr.2.1 (fun k hk => .inl hk), fun k hk => (hr.2.2 k hk).imp id (fun h => by have := B3.out.size; omega), fun k hk => (List.mem_append.1 hk).elim (fun h => .inr (by simpa using h)) .inl⟩
end Go.Proofs.YteamnchoddegpaaGreatDoor
namespace Go.Proofs.YteamnchoddegpaaGreatDoor
open Go.RowKit Go.Maps
set_option maxHeartbeats 800000
/-- What a graph's call that may add a node leaves behind. -/
def GPost (w : World) (base : Nat) (F I : List Nat) (gb W room : Nat) (R : List PNode × Nat × Nat) : Ending → World → Prop := fun e w' =>
  ∃ F' I', e = .returned (.tuple #[.int .i64 R.2.1, .int .i64 R.2.2]) ∧ Gr w' base F' I' gb W room R.1 ∧ Touch F w w' ∧ (∀ k, k ∈ F' → k ∈ F ∨ w.heap.size ≤ k) ∧ ∀ k, k ∈ I' → k ∈ I ∨ w.heap.size ≤ k
def constR (W room : Nat) (L : List PNode) (q : Nat) : List PNode × Nat × Nat := askP room L (0, q % 2 ^ W, [])
def varR (room : Nat) (L : List PNode) (n : Int) : List PNode × Nat × Nat := if 0 ≤ n ∧ n ≤ 4194303 then askP room L (1, n.toNat, []) else (L, 0, 3)
def appR (room : Nat) (L : List PNode) (o : Nat) (xs : List Int) : List PNode × Nat × Nat :=
  if o ≤ 21 ∧ aryN o ≠ 0 ∧ aryN o = xs.length then (if ∀ a ∈ xs, (0 : Int) ≤ a ∧ a < (L.length : Int) then askP room L (o, 0, xs) else (L, 0, 3)) else (L, 0, 2)
theorem GPost.later {w w2 w' : World} {base : Nat} {F I : List Nat} {gb W room : Nat} {R : List PNode × Nat × Nat} {e : Ending} (h : GPost w2 base F I gb W room R e w') (hb : Below w.heap.size w w2) : GPost w base F I gb W room R e w' := by
  obtain ⟨F', I', h1, h2, h3, h4, h5⟩ := h
  exact ⟨F', I', h1, h2, (Touch.of_below hb F).trans h3 (fun k hk => .inl hk), fun k hk => (h4 k hk).imp id (fun h => by have := hb.size; omega), fun k hk => (h5 k hk).imp id (fun h => by have := hb.size; omega)⟩
theorem intBlk_owns {w : World} {base : Nat} {v : Value} {xs : List Int} (h : OwnInts w base 3 .i64 v xs) : ∀ k, v.ownBlock = some k → IntBlk w k := by
  intro k hk
  rcases h.2 with ⟨rfl, h0⟩ | ⟨g, cap, cur, rfl, hb, hg, _⟩
  · simp [Value.ownBlock] at hk
  · simp only [Value.ownBlock, Option.some.injEq] at hk
    subst hk
    exact ⟨cur, _, hg⟩
theorem nodeOk_leaf {o m : Nat} (ho : o ≤ 1) (hm : m < 18446744073709551616) : NodeOk (o, m, []) := ⟨by show o ≤ 21; omega, by show m ≤ _; omega, by show 0 = aryN o; unfold aryN; rw [if_pos ho]⟩
section
variable {w : World} {base : Nat} {F I : List Nat} {gb W room : Nat} {L : List PNode}
theorem GPost.same (h : Gr w base F I gb W room L) {w' : World} (hb : Below w.heap.size w w') (t f : Nat) : GPost w base F I gb W room (L, t, f) (.returned (.tuple #[.int .i64 t, .int .i64 f])) w' :=
  ⟨F, I, rfl, h.later hb, Touch.of_below hb F, fun _ hk => .inl hk, fun _ hk => .inl hk⟩
theorem const_any (h : Gr w base F I gb W room L) (q : Nat) (hq : q < 18446744073709551616) :
    Calls Tryz.prog 28 #[.pointer (some ⟨gb, 0, none⟩), .int .u64 q] w (GPost w base F I gb W room (constR W room L q)) := by
  obtain ⟨a, cap, mb, c0, c1, c2, c3, cf, cm, hl⟩ := h.parts
  have ht : trimI W q = ((q % 2 ^ W : Nat) : Int) := by unfold trimI; rw [if_pos (chk_in (by have := h.w1; omega) (by have := h.w2; omega))]; simp
  have hm : q % 2 ^ W < 18446744073709551616 := Nat.lt_of_le_of_lt (Nat.mod_le _ _) hq
  have H0 := Lib.hid h
  have HT := Lib.hid ht
  clear h ht cf cm
  unfold constR
  obtain ⟨m, hm'⟩ : ∃ m, q % 2 ^ W = m := ⟨_, rfl⟩
  rw [hm'] at hm ⊢
  have HM := Lib.hid hm'
  clear hm'
  go_enter Tryz.func28, Tryz.ntmps28
  go_wp2_with (first | (go_at_call 56; refine (trim_any _ _ (by omega) (by omega) _).mono ?_; rw [HT.out, HM.out]; rintro e w' ⟨rfl, rfl⟩) | (go_at_call 57; refine (ask_any H0.out 0 m [] _ (IntsAt.nil w) (by simp [Value.ownBlock]) (nodeOk_leaf (by decide) hm) (by simp)).mono ?_; rintro e w' ⟨F', I', rfl, h1, h2, h3, h4⟩))
  go_ret2
  exact ⟨F', I', rfl, h1, h2, h3, fun k hk => (h4 k hk).imp id (fun h => by simp [Value.ownBlock] at h)⟩
theorem var_any (h : Gr w base F I gb W room L) (n : Int) :
    Calls Tryz.prog 30 #[.pointer (some ⟨gb, 0, none⟩), .int .i64 n] w (GPost w base F I gb W room (varR room L n)) := by
  have H0 := Lib.hid h
  clear h
  by_cases h1 : n < 0
  · have hr : varR room L n = (L, 0, 3) := by unfold varR; rw [if_neg (by omega)]
    rw [hr]
    clear hr
    go_enter Tryz.func30, Tryz.ntmps30
    go_wp2
    go_ret2
    exact GPost.same H0.out (Below.refl _ _) 0 3
  · by_cases h2 : n > 4194303
    · have hr : varR room L n = (L, 0, 3) := by unfold varR; rw [if_neg (by omega)]
      rw [hr]
      clear hr
      go_enter Tryz.func30, Tryz.ntmps30
      go_wp2
      go_ret2
      exact GPost.same H0.out (Below.refl _ _) 0 3
    · obtain ⟨m, rfl⟩ := Int.eq_ofNat_of_zero_le (show 0 ≤ n by omega)
      have hr : varR room L (m : Int) = askP room L (1, m, []) := by unfold varR; rw [if_pos (by omega)]; simp
      rw [hr]
      clear hr
      have hwr : IntKind.u64.wrap (m : Int) = (m : Int) := by rw [wrap_u64_nat, Nat.mod_eq_of_lt (by omega)]
      go_enter Tryz.func30, Tryz.ntmps30
      go_wp2_with (go_at_call 57; refine (ask_any H0.out 1 m [] _ (IntsAt.nil w) (by simp [Value.ownBlock]) (nodeOk_leaf (by decide) (by omega)) (by simp)).mono ?_; rintro e w' ⟨F', I', rfl, g1, g2, g3, g4⟩)
      go_ret2
      exact ⟨F', I', rfl, g1, g2, g3, fun k hk => (g4 k hk).imp id (fun h => by simp [Value.ownBlock] at h)⟩
theorem app_bad (h : Gr w base F I gb W room L) (o : Nat) (ho : o ≤ 255) (xs : List Int) (va : Value) (hv : SliceOf w .i64 va xs) (hb : ¬ (o ≤ 21 ∧ aryN o ≠ 0 ∧ aryN o = xs.length)) :
    Calls Tryz.prog 32 #[.pointer (some ⟨gb, 0, none⟩), .int .u8 o, va] w (GPost w base F I gb W room (L, 0, 2)) := by
  have H0 := Lib.hid h
  clear h
  obtain ⟨a, n, cap, rfl, hna, -⟩ := hv.parts
  clear hv
  rw [hna] at hb
  clear hna
  obtain ⟨p, hp⟩ : ∃ p : Nat, (if 21 < (o : Int) then 0 else aryN (o : Int).toNat) = p := ⟨_, rfl⟩
  have hp' : 21 < (o : Int) ∨ p = 0 ∨ p ≠ n := by
    by_cases h1 : 21 < (o : Int)
    · exact .inl h1
    · rw [if_neg h1] at hp; simp at hp; right; omega
  have HP := Lib.hid hp
  clear hp hb
  have har : ∀ w', Calls Tryz.prog 60 #[.int .u8 o] w' fun e w'' => e = .returned (.tuple #[.int .i64 p, .int .i64 (if 21 < (o : Int) then 3 else 0)]) ∧ Below w'.heap.size w' w'' := by
    intro w'
    refine (arity_any o (by omega) (by omega) w').mono ?_
    rintro e w'' ⟨rfl, hb⟩
    refine ⟨?_, hb⟩
    rw [← HP.out]
    by_cases h1 : 21 < (o : Int) <;> simp [h1]
  by_cases h1 : 21 < (o : Int)
  · rw [if_pos h1] at har
    clear hp'
    go_enter Tryz.func32, Tryz.ntmps32
    go_wp2_with (go_at_call 60; refine (har _).mono ?_; rintro e w' ⟨rfl, hb⟩)
    go_ret2
    exact GPost.same H0.out hb 0 2
  · rw [if_neg h1] at har
    by_cases h0 : p = 0
    · subst h0
      go_enter Tryz.func32, Tryz.ntmps32
      go_wp2_with (go_at_call 60; refine (har _).mono ?_; rintro e w' ⟨rfl, hb⟩)
      go_ret2
      exact GPost.same H0.out hb 0 2
    · have hpn : ((p : Int) != (n : Int)) = true := by simp; omega
      have hp0 : ((p : Int) == 0) = false := by simp; omega
      clear h0
      go_enter Tryz.func32, Tryz.ntmps32
      go_wp2_with (go_at_call 60; refine (har _).mono ?_; rintro e w' ⟨rfl, hb⟩)
      go_ret2
      exact GPost.same H0.out hb 0 2
theorem app_good (h : Gr w base F I gb W room L) (o : Nat) (ho : o ≤ 21) (xs : List Int) (va : Value) (hv : SliceOf w .i64 va xs) (h0 : aryN o ≠ 0) (hl : aryN o = xs.length) :
    Calls Tryz.prog 32 #[.pointer (some ⟨gb, 0, none⟩), .int .u8 o, va] w (GPost w base F I gb W room (if ∀ a ∈ xs, (0 : Int) ≤ a ∧ a < (L.length : Int) then askP room L (o, 0, xs) else (L, 0, 3))) := by
  obtain ⟨R, hR⟩ : ∃ R, (if ∀ a ∈ xs, (0 : Int) ≤ a ∧ a < (L.length : Int) then askP room L (o, 0, xs) else (L, 0, 3)) = R := ⟨_, rfl⟩
  rw [hR]
  have HR := Lib.hid hR
  clear hR
  have Hv := Lib.hid hv
  obtain ⟨a, n, cap, rfl, hna, hcell⟩ := hv.parts
  have H0 := Lib.hid h
  clear hv
  have har : ∀ w', Calls Tryz.prog 60 #[.int .u8 o] w' fun e w'' => e = .returned (.tuple #[.int .i64 n, .int .i64 0]) ∧ Below w'.heap.size w' w'' := by
    intro w'
    refine (arity_any o (by omega) (by omega) w').mono ?_
    rintro e w'' ⟨rfl, hb⟩
    refine ⟨?_, hb⟩
    rw [if_neg (show ¬ 21 < (o : Int) by omega), if_neg (show ¬ 21 < (o : Int) by omega), ← hna, ← hl]; simp
  have hn3 : n ≤ 3 := by have := aryN_le o; omega
  have hp0 : ((n : Int) == 0) = false := by simp; omega
  have hpn : ((n : Int) != (n : Int)) = false := by simp
  have HNA := Lib.hid (And.intro hna (And.intro h0 hl)); have Hc := Lib.hid hcell
  clear hna hcell h0 hl h
  go_enter Tryz.func32, Tryz.ntmps32
  go_wp2_with (go_at_call 60; refine (har _).mono ?_; rintro e w2 ⟨rfl, hb⟩)
  have H2 := Lib.hid (H0.out.later hb)
  obtain ⟨ga, gcap, mb, c0, c1, c2, c3, cf, cm, hlen⟩ := H2.out.parts
  clear cf cm
  go_loop [33] (fun i => ∃ k : Nat, k ≤ n ∧ i = .int .i64 k ∧ ∀ j, j < k → (0 : Int) ≤ xs.getD j 0 ∧ xs.getD j 0 < (L.length : Int)) (fun i => n - (intOf i).toNat)
  case atStart => exact ⟨0, by omega, rfl, fun j hj => by omega⟩
  case round =>
    obtain ⟨k, hk, rfl, hok⟩ := hrel
    by_cases hlt : k < n
    · obtain ⟨b, off, q, rfl, hc, hq⟩ := Hc.out k hlt
      have hc' := cell_later hb hc
      have hqd : xs.getD k 0 = q := by rw [List.getD_eq_getElem?_getD, hq]; rfl
      have hqm : q ∈ xs := List.mem_of_getElem? hq
      have Hq := Lib.hid (And.intro hqd hqm)
      clear hc hq hqd hqm
      have hbad : ¬ ((0 : Int) ≤ q ∧ q < (L.length : Int)) → R = (L, 0, 3) := fun h => by rw [← HR.out]; exact if_neg fun h' => h (h' q Hq.out.2)
      by_cases hq0 : q < 0
      · have hr := hbad (by omega)
        subst hr
        clear hbad
        go_wp2
        go_ret2
        exact GPost.same H0.out hb 0 3
      · by_cases hq1 : (L.length : Int) ≤ q
        · have hr := hbad (by omega)
          subst hr
          clear hbad
          go_wp2
          go_ret2
          exact GPost.same H0.out hb 0 3
        · clear hbad
          go_wp2
          go_round
          case rel => exact ⟨k + 1, by omega, by go_num, fun j hj => by
            rcases Nat.lt_or_ge j k with h | h
            · exact hok j h
            · obtain rfl : j = k := by omega
              rw [Hq.out.1]; omega⟩
          case measure => simp [intOf]; omega
    · obtain rfl : k = n := by omega
      have hall : ∀ a ∈ xs, (0 : Int) ≤ a ∧ a < (L.length : Int) := by
        intro a ha
        obtain ⟨j, hj, rfl⟩ := List.getElem_of_mem ha
        have h := hok j (by have := HNA.out.1; omega)
        rw [List.getD_eq_getElem?_getD, List.getElem?_eq_getElem hj] at h
        exact h
      have hr : R = askP room L (o, 0, xs) := by rw [← HR.out, if_pos hall]
      subst hr
      have HA := Lib.hid hall
      clear hall hok c0 c1 c2 c3
      go_wp2_with ((at_builtin; refine wpList_append_copy 24 3 .i64 8 w2.heap.size w2 _ xs (Hv.out.below hb) _ _ rfl rfl Tryz.underlying24 Tryz.infoI64 (by decide) rfl rfl (by have := HNA.out.1; omega) (Nat.le_refl _) ?_; intro v' w3 hv' hb3; obtain ⟨a', m', c', rfl⟩ := hv'.val))
      have hask := ask_any (H2.out.later hb3) o 0 xs _ (intsAt_owns hv') (intBlk_owns hv') ⟨ho, Nat.zero_le _, HNA.out.2.2.symm⟩ HA.out
      go_at_call 57
      refine hask.mono ?_
      rintro e w4 ⟨F', I', rfl, g1, g2, g3, g4⟩
      go_wp2
      go_ret2
      exact GPost.later ⟨F', I', rfl, g1, (Touch.of_below hb3 F).trans g2 (fun k hk => .inl hk), fun k hk => (g3 k hk).imp id (fun h => by have := hb3.size; omega), fun k hk => (g4 k hk).imp id (fun h => (hv'.lt k h).1)⟩ hb
theorem app_any (h : Gr w base F I gb W room L) (o : Nat) (ho : o ≤ 255) (xs : List Int) (va : Value) (hv : SliceOf w .i64 va xs) :
    Calls Tryz.prog 32 #[.pointer (some ⟨gb, 0, none⟩), .int .u8 o, va] w (GPost w base F I gb W room (appR room L o xs)) := by
  unfold appR
  by_cases hc : o ≤ 21 ∧ aryN o ≠ 0 ∧ aryN o = xs.length
  · rw [if_pos hc]; exact app_good h o hc.1 xs va hv hc.2.1 hc.2.2
  · rw [if_neg hc]; exact app_bad h o ho xs va hv hc
end
end Go.Proofs.YteamnchoddegpaaGreatDoor
namespace Go.Proofs.YteamnchoddegpaaGreatDoor
open Go.RowKit Go.Maps
set_option maxHeartbeats 800000
end Go.Proofs.YteamnchoddegpaaGreatDoor
namespace Go.Proofs.YteamnchoddegpaaGreatDoor
open Go.RowKit Go.Maps
set_option maxHeartbeats 800000
/-- What is asked for, as a list gives it: What, Op, Num, N, A. -/
abbrev PAsk := Nat × Nat × Nat × Int × List Int
def PAsk.Ok (a : PAsk) : Prop := a.1 ≤ 255 ∧ a.2.1 ≤ 255 ∧ a.2.2.1 < 18446744073709551616 ∧ (-9223372036854775808 ≤ a.2.2.2.1 ∧ a.2.2.2.1 ≤ 9223372036854775807) ∧ (∀ x ∈ a.2.2.2.2, -9223372036854775808 ≤ x ∧ x ≤ 9223372036854775807) ∧ a.2.2.2.2.length ≤ 9223372036854775807
def PAsk.code (a : PAsk) : Nat := 2 + a.2.1 % 20
def argOf (xs : List Int) (i : Nat) : Int := if xs.length = 0 then 0 else xs.getD (i % xs.length) 0
def addArgs (a : PAsk) (n : Nat) : List Int := (List.range (aryN a.code)).map fun i => argOf a.2.2.2.2 i % (n : Int)
def addR (W room : Nat) (L : List PNode) (a : PAsk) : List PNode × Nat × Nat :=
  if a.1 % 4 = 0 ∨ (L.length = 0 ∧ 1 < a.1 % 4) then constR W room L a.2.2.1
  else if a.1 % 4 = 1 then varR room L (a.2.2.2.1 % 6) else appR room L a.code (addArgs a L.length)
/-- A value that is asked for. -/
def AskV (w : World) (v : Value) (a : PAsk) : Prop := ∃ va, v = .agg #[.int .u8 a.1, .int .u8 a.2.1, .int .u64 a.2.2.1, .int .i64 a.2.2.2.1, va] ∧ SliceOf w .i64 va a.2.2.2.2
theorem AskV.below {w w' : World} {v : Value} {a : PAsk} (h : AskV w v a) (hb : Below w.heap.size w w') : AskV w' v a := by
  obtain ⟨va, h1, h2⟩ := h
  exact ⟨va, h1, h2.below hb⟩
section
variable {w : World} {base : Nat} {F I : List Nat} {gb W room : Nat} {L : List PNode}
theorem addArgs_len (a : PAsk) (n : Nat) : (addArgs a n).length = aryN a.code := by unfold addArgs; simp
end
end Go.Proofs.YteamnchoddegpaaGreatDoor
namespace Go.Proofs.YteamnchoddegpaaGreatDoor
open Go.RowKit Go.Maps
set_option maxHeartbeats 800000
section
variable {w : World} {base : Nat} {F I : List Nat} {gb W room : Nat} {L : List PNode}
end
theorem code_bounds (a : PAsk) : 2 ≤ a.code ∧ a.code ≤ 21 ∧ aryN a.code ≠ 0 := by
  unfold PAsk.code
  have : a.2.1 % 20 < 20 := Nat.mod_lt _ (by decide)
  refine ⟨by omega, by omega, ?_⟩
  unfold aryN
  rw [if_neg (by omega)]
  split
  · decide
  · split <;> decide
theorem addArgs_in (a : PAsk) (n : Nat) (hn : n ≠ 0) : ∀ x ∈ addArgs a n, (0 : Int) ≤ x ∧ x < (n : Int) := by
  intro x hx
  obtain ⟨i, _, rfl⟩ := List.mem_map.1 hx
  exact ⟨Int.emod_nonneg _ (by omega), Int.emod_lt_of_pos _ (by omega)⟩
/-- The node that Add asks for. -/
def addN (W : Nat) (L : List PNode) (a : PAsk) : PNode :=
  if a.1 % 4 = 0 ∨ (L.length = 0 ∧ 1 < a.1 % 4) then (0, a.2.2.1 % 2 ^ W, [])
  else if a.1 % 4 = 1 then (1, (a.2.2.2.1 % 6).toNat, []) else (a.code, 0, addArgs a L.length)
theorem addR_ask (W room : Nat) (L : List PNode) (a : PAsk) : addR W room L a = askP room L (addN W L a) := by
  unfold addR addN
  by_cases h1 : a.1 % 4 = 0 ∨ (L.length = 0 ∧ 1 < a.1 % 4)
  · rw [if_pos h1, if_pos h1]; rfl
  · rw [if_neg h1, if_neg h1]
    by_cases h2 : a.1 % 4 = 1
    · rw [if_pos h2, if_pos h2]
      unfold varR
      rw [if_pos ⟨Int.emod_nonneg _ (by decide), by have := Int.emod_lt_of_pos a.2.2.2.1 (show (0 : Int) < 6 by decide); omega⟩]
    · rw [if_neg h2, if_neg h2]
      have hc := code_bounds a
      unfold appR
      rw [if_pos ⟨hc.2.1, hc.2.2, (addArgs_len a _).symm⟩, if_pos (addArgs_in a _ (by omega))]
end Go.Proofs.YteamnchoddegpaaGreatDoor
