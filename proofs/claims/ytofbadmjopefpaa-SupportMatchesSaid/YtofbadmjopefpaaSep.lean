/- Own slices of integers beside a graph: what each leaves of the other. EqualInts and EqualNode of the kit. A list of what is asked for, as an argument. Fill of law 10. -/
import Derived.Test.YtofbadmjopefpaaGraphH
import Derived.Deep.Slices
import Derived.Deep.Fields
import Derived.ChangeSame
import Derived.OpenShut
namespace Go.Proofs.Ytofbadmjopefpaa
open Go.RowKit Go.Maps
set_option maxHeartbeats 400000

section
variable {w w' : World} {base base' : Nat} {F I : List Nat} {gb W room : Nat} {L : List PNode}
theorem owns_keep {E size n : Nat} {v : Value} {xs : List Value} (h : w.ownsRow base E size v n xs) (hw : ∀ k, v.ownBlock = some k → w'.heap[k]? = w.heap[k]?) : w'.ownsRow base E size v n xs := by
  refine ⟨h.1, ?_⟩
  rcases h.2 with hn | ⟨g, cap, cur, rfl, hb, hg, r⟩
  · exact .inl hn
  · exact .inr ⟨g, cap, cur, rfl, hb, by rw [hw g rfl, hg], r⟩
theorem OwnInts.keep {E : Nat} {k : IntKind} {v : Value} {xs : List Int} (h : OwnInts w base E k v xs) (hw : ∀ k, v.ownBlock = some k → w'.heap[k]? = w.heap[k]?) : OwnInts w' base E k v xs := owns_keep h hw
/-- No block of another type is one that a graph's call may write. -/
theorem Gr.not_of (h : Gr w base F I gb W room L) {k E : Nat} {arr : Array Value} {fr : Nat × Nat} (h1 : E ≠ 89) (h2 : E ≠ 54) (hk : w.heap[k]? = some (.cells arr E fr)) : k ∉ F := by
  obtain ⟨sv, mb, cells, rfl, _, _, h3, h4, _, h6⟩ := h.mem
  intro hm
  simp only [List.mem_cons] at hm
  rcases hm with rfl | rfl | hm
  · rw [h3] at hk; simp at hk; exact h1 hk.2.1.symm
  · obtain ⟨es, c, h7, _⟩ := h6
    rw [h7] at hk; simp at hk
  · have hk' : sv.ownBlock = some k := by simpa using hm
    rcases h4.2 with ⟨rfl, _⟩ | ⟨g, cap, cur, rfl, hb, hg, _⟩
    · simp [Value.ownBlock] at hk'
    · simp [Value.ownBlock] at hk'
      subst hk'
      rw [hg] at hk; simp at hk; exact h2 hk.2.1.symm
theorem Gr.not_own (h : Gr w base F I gb W room L) {E size n : Nat} {v : Value} {xs : List Value} (h1 : E ≠ 89) (h2 : E ≠ 54) (ho : w.ownsRow base' E size v n xs) : ∀ b, v.ownBlock = some b → b ∉ F := by
  intro b hb
  rcases ho.2 with ⟨rfl, _⟩ | ⟨g, cap, cur, rfl, _, hg, _⟩
  · simp [Value.ownBlock] at hb
  · simp only [Value.ownBlock, Option.some.injEq] at hb
    subst hb
    exact h.not_of h1 h2 hg
/-- A graph's call leaves an own row of another type. -/
theorem Touch.owns (ht : Touch F w w') (h : Gr w base F I gb W room L) {E size n : Nat} {v : Value} {xs : List Value} (h1 : E ≠ 89) (h2 : E ≠ 54) (ho : w.ownsRow base' E size v n xs) : w'.ownsRow base' E size v n xs :=
  owns_keep ho fun k hk => ht.block k (ho.lt k hk).2 (h.not_own h1 h2 ho k hk)
theorem Touch.ints (ht : Touch F w w') (h : Gr w base F I gb W room L) {v : Value} {xs : List Int} (ho : OwnInts w base' 3 .i64 v xs) : OwnInts w' base' 3 .i64 v xs :=
  Touch.owns ht h (by decide) (by decide) ho
theorem IntsAt.touch {v : Value} {xs : List Int} (hv : IntsAt w v xs) (ht : Touch F w w') (h : Gr w base F I gb W room L) : IntsAt w' v xs :=
  hv.ints fun k _ _ hk => ht.block k (Array.getElem?_eq_some_iff.1 hk).1 (h.not_ints hk)
/-- The blocks of the arguments are there: others may be left out. -/
theorem Gr.inI (h : Gr w base F I gb W room L) : Gr w base F (I.filter fun k => decide (k < w.heap.size)) gb W room L := by
  obtain ⟨sv, mb, cells, hF, h1, h2, h3, h4, h5, h6⟩ := h.mem
  refine ⟨h.wf, h.len, h.w1, h.w2, h.r2, sv, mb, cells, hF, h1, h2, h3, h4, ⟨h5.1, fun i n hn => ?_⟩, h6⟩
  obtain ⟨va, k1, k2, k3, k4, k5⟩ := h5.2 i n hn
  exact ⟨va, k1, k2, k3, k4, fun k hk => ⟨List.mem_filter.2 ⟨(k5 k hk).1, by simpa using (k5 k hk).2.lt⟩, (k5 k hk).2⟩⟩
/-- A write to a row that is no block of a graph's leaves the graph. -/
theorem Gr.beside (h : Gr w base F I gb W room L) {S : List Nat} (ht : Touch S w w') (hF : ∀ k, k ∈ S → k ∉ F) (hI : ∀ k, k ∈ S → k ∉ I) : Gr w' base F I gb W room L :=
  h.apart ht (fun k hk hm => hF k hm hk) (fun k hk _ hm => hI k hm hk)
end
section
variable {P : Program}
theorem srcOf_new (wr : World) (x : Value) (E : Nat) : SrcOf (wr.alloc (.cells #[x] E)) (.slice (some ⟨wr.heap.size, 0, none⟩) 1 1) 1 1 [x] := by
  refine ⟨_, _, rfl, rfl, fun _ => ⟨_, rfl, fun j u hu => ?_⟩⟩
  rw [Go.WideShapes.add_plain, World.cell?_alloc_at _ _ _ _ rfl, Nat.zero_add, ← hu]
  simp
/-- One element is appended to an own slice: what may have turned. -/
theorem wpList_append1_sep {ops : Array Oper} {rest : List Oper} {o : Oper} {a : Act} {Q : Exit → Act → World → Prop} (T E : Nat) (k : IntKind) (base : Nat) (wr : World) (v : Value) (xs : List Int) (q : Int) (bytes : Nat)
    (hown : OwnInts wr base E k v xs) (s x : Operand) (hgd : o.guard = none) (ho : o.op = .call { callee := .builtin .append, args := #[s, x], argTypes := #[T, T] })
    (ht : P.underlying T = some (.slice E)) (hi : (P.info? E).map (fun i => (i.zero, i.size, i.bytes)) = some (some (.int k 0), 1, bytes)) (hbt : bytes ≤ 1000)
    (hs : a.eval s = v) (hx : a.eval x = .slice (some ⟨wr.heap.size, 0, none⟩) 1 1) (hn : xs.length ≤ 999999999) (hbase : base ≤ wr.heap.size)
    (h : ∀ a' c' w', OwnInts w' base E k (.slice a' (xs.length + 1) c') (xs ++ [q]) → Touch v.ownBlock.toList wr w' → (∀ b, (Value.slice a' (xs.length + 1) c').ownBlock = some b → v.ownBlock = some b ∨ wr.heap.size ≤ b) →
      wpList P ops Q rest (a.put o.dst (.slice a' (xs.length + 1) c')) w') :
    wpList P ops Q (o :: rest) a (wr.alloc (.cells #[.int k q] E)) := by
  have hsrc := srcOf_new wr (.int k q) E
  have hown' : (wr.alloc (.cells #[.int k q] E)).ownsRow base E 1 v xs.length (xs.map (Value.int k)) := hown.alloc _
  have h1 : ∀ u ∈ [Value.int k q], u.oneCell' = true := by simp [Value.oneCell']
  obtain ⟨v', w', hr, h2, h3⟩ := run_append_src (P := P) (wr.alloc (.cells #[.int k q] E)) base T o.type E 1 bytes (.int k 0) ht hi rfl (by decide) hbt v _ xs.length 1 _ [.int k q] hown' hsrc h1 (by omega) (by simp; omega)
  have blk := append_block (P := P) (T := T) (ty := o.type) (bytes := bytes) (z := .int k 0) ht hi hbt hown' hsrc h1 (by decide) (by omega) hr
  obtain ⟨a', c', rfl⟩ : ∃ a' c', v' = .slice a' (xs.length + 1) c' := by
    rcases h2.2 with ⟨_, h0⟩ | ⟨g, cap, cur, rfl, _⟩
    · omega
    · exact ⟨_, _, rfl⟩
  refine wpList_plain hgd fun _ hK => ?_
  unfold Oper.wp execOp
  simp only [ho, resolve, invoke, builtin, Sem.run_bind, Sem.run_pure, Result.andThen_ok, List.map_toArray, List.map_cons, List.map_nil, hs, hx, hr]
  refine hK _ _ (h a' c' w' ?_ ?_ ?_)
  · unfold OwnInts
    rw [List.length_append, List.map_append]
    exact h2
  · refine ⟨h3.os, h3.tape, h3.output, by have := h3.size; simp at this; omega, fun b hb hn => ?_⟩
    rw [h3.block b (by simp; omega) (fun e => hn (by simp [← e])), heap_alloc_old _ _ hb]
  · intro b hb
    exact (blk b hb).imp id (fun h => by simp at h; omega)
end
end Go.Proofs.Ytofbadmjopefpaa
namespace Go.Proofs.Ytofbadmjopefpaa
open Go.RowKit Go.Maps
set_option maxHeartbeats 800000

theorem take_eq_all {α : Type} {xs ys : List α} {n : Nat} (h1 : xs.length = n) (h2 : ys.length = n) (h : xs.take n = ys.take n) : xs = ys := by
  rwa [List.take_of_length_le (by omega), List.take_of_length_le (by omega)] at h
theorem take_ne {α : Type} {xs ys : List α} {k : Nat} {p q : α} (h1 : xs[k]? = some p) (h2 : ys[k]? = some q) (h : p ≠ q) : xs ≠ ys := by
  rintro rfl
  rw [h1] at h2
  exact h (Option.some.inj h2)
theorem equalInts_any {w : World} (va vb : Value) (xs ys : List Int) (ha : SliceOf w .i64 va xs) (hb : SliceOf w .i64 vb ys) (hx : xs.length ≤ 9223372036854775807) (hy : ys.length ≤ 9223372036854775807) :
    Calls Try.prog 20 #[va, vb] w fun e w' => e = .returned (.bool (decide (xs = ys))) ∧ Below w.heap.size w w' := by
  obtain ⟨B, hB⟩ : ∃ B, decide (xs = ys) = B := ⟨_, rfl⟩
  rw [hB]
  obtain ⟨a, n, cap, rfl, hna, hca⟩ := ha.parts
  obtain ⟨b, m, cap', rfl, hnb, hcb⟩ := hb.parts
  rw [hna] at hx
  rw [hnb] at hy
  have HB := Lib.hid hB; have HN := Lib.hid (And.intro hna hnb); have HA := Lib.hid hca; have HC := Lib.hid hcb
  clear ha hb hna hnb hca hcb hB
  by_cases hl : n = m
  · subst hl
    have ht : ((n : Int) != (n : Int)) = false := by simp
    go_enter Try.func20, Try.ntmps20
    go_wp2
    go_loopw [5] (fun i wr => ∃ k : Nat, k ≤ n ∧ i = .int .i64 k ∧ xs.take k = ys.take k ∧ Below w.heap.size w wr) (fun i _ => n - (intOf i).toNat)
    case atStart => exact ⟨0, by omega, rfl, rfl, Below.refl _ _⟩
    case round =>
      obtain ⟨k, hk, rfl, he, hbr⟩ := hrel
      have HE := Lib.hid he; have HBR := Lib.hid hbr
      clear he hbr
      by_cases hlt : k < n
      · obtain ⟨g, off, p, rfl, hc1, hp⟩ := HA.out k hlt
        obtain ⟨g', off', q, rfl, hc2, hq⟩ := HC.out k hlt
        have d1 := cell_later HBR.out hc1
        have d2 := cell_later HBR.out hc2
        have HP := Lib.hid (And.intro hp hq)
        have hlz : decide ((k : Int) < (n : Int)) = true := decide_eq_true (by omega)
        clear hc1 hc2 hp hq
        by_cases hpq : p = q
        · subst hpq
          have ht2 : (p != p) = false := by simp
          have hs := HE.out
          have hs2 : xs.take (k + 1) = ys.take (k + 1) := by rw [← take_snoc' HP.out.1, ← take_snoc' HP.out.2, hs]
          have HS := Lib.hid hs2
          clear hs hs2
          go_wp2
          go_quiet (fail)
          go_wp2
          go_roundw
          case rel => exact ⟨k + 1, by omega, by go_num, HS.out, below_drewN HBR.out _⟩
          case measure => simp [intOf]; omega
        · have ht2 : (p != q) = true := by simpa using hpq
          have hf : B = false := by rw [← HB.out]; exact decide_eq_false (take_ne HP.out.1 HP.out.2 hpq)
          subst hf
          clear hpq
          go_wp2
          go_quiet (fail)
          go_wp2
          go_ret
          exact ⟨rfl, below_drewN HBR.out _⟩
      · obtain rfl : k = n := by omega
        have hf : B = true := by rw [← HB.out]; exact decide_eq_true (take_eq_all HN.out.1 HN.out.2 HE.out)
        subst hf
        go_wp2
        go_ret
        exact ⟨rfl, HBR.out⟩
  · have ht : ((n : Int) != (m : Int)) = true := by rw [bne_iff_ne]; omega
    have hf : B = false := by rw [← HB.out]; exact decide_eq_false (fun e => by have := HN.out; rw [e] at this; omega)
    subst hf
    clear hl
    go_enter Try.func20, Try.ntmps20
    go_wp2
    go_ret
    exact ⟨rfl, Below.refl _ _⟩
/-- A node, as a value. -/
def NodeV (w : World) (v : Value) (n : PNode) : Prop := ∃ va, v = .agg #[.int .u8 n.1, .int .u64 n.2.1, va] ∧ SliceOf w .i64 va n.2.2 ∧ n.2.2.length ≤ 9223372036854775807
theorem equalNode_any {w : World} (va vb : Value) (n m : PNode) (ha : NodeV w va n) (hb : NodeV w vb m) :
    Calls Try.prog 68 #[va, vb] w fun e w' => e = .returned (.bool (decide (n = m))) ∧ Below w.heap.size w w' := by
  obtain ⟨B, hB⟩ : ∃ B, decide (n = m) = B := ⟨_, rfl⟩
  rw [hB]
  obtain ⟨o1, q1, xs⟩ := n
  obtain ⟨o2, q2, ys⟩ := m
  obtain ⟨va, rfl, ha, hx⟩ := ha
  obtain ⟨vb, rfl, hb, hy⟩ := hb
  simp only at ha hb hx hy
  have HB := Lib.hid hB; have HA := Lib.hid ha; have HC := Lib.hid hb
  obtain ⟨a, n, cap, rfl, -, -⟩ := ha.parts
  obtain ⟨b, m, cap', rfl, -, -⟩ := hb.parts
  clear ha hb hB
  by_cases h1 : o1 = o2
  · subst h1
    by_cases h2 : q1 = q2
    · subst h2
      have hB := Lib.hid (show decide (xs = ys) = B by rw [← HB.out]; simp)
      go_enter Try.func68, Try.ntmps68
      go_wp2_with fail
      go_at_call 20
      refine (equalInts_any _ _ xs ys ((HA.out.below (below_new _ _)).below (below_new _ _)) ((HC.out.below (below_new _ _)).below (below_new _ _)) hx hy).mono ?_
      rw [hB.out]
      rintro e w2 ⟨rfl, hb2⟩
      go_wp2
      go_ret
      exact ⟨rfl, ((below_new w _).alloc (by simp) _).trans (hb2.mono (by simp; omega))⟩
    · have ht : ((q1 : Int) == (q2 : Int)) = false := by rw [beq_eq_false_iff_ne]; omega
      have hf : B = false := by rw [← HB.out]; simp [h2]
      subst hf
      clear h2
      go_enter Try.func68, Try.ntmps68
      go_wp2
      go_ret
      exact ⟨rfl, (below_new w _).alloc (by simp) _⟩
  · have ht : ((o1 : Int) == (o2 : Int)) = false := by rw [beq_eq_false_iff_ne]; omega
    have hf : B = false := by rw [← HB.out]; simp [h1]
    subst hf
    clear h1
    go_enter Try.func68, Try.ntmps68
    go_wp2
    go_ret
    exact ⟨rfl, (below_new w _).alloc (by simp) _⟩
end Go.Proofs.Ytofbadmjopefpaa
namespace Go.Proofs.Ytofbadmjopefpaa
open Go.RowKit Go.Maps
set_option maxHeartbeats 800000

theorem ints_of_cell {H : Type} {enc : TypeId × Value → H} {P : Program} {w : World} {base t e fuel : Nat} {k : IntKind} {va : Value} {held : Bool} {x : DataW H × List MemPlace} (ht : P.underlying t = some (.slice e)) (he : P.underlying e = some (.int k)) (hc : P.cellsOf e = 1)
    (h : DataW.trod enc P w base (fun _ => true) held fuel t [va] = some x) :
    ∃ xs, SliceOf w k va xs ∧ (∀ y ∈ xs, (Lit.int k y).wf = true) ∧ xs.length ≤ 9223372036854775807 := by
  have hr : ∃ (a : Option Addr) (n cap : Nat) (zs : List Int), va = .slice a n cap ∧ ((a = none ∧ n = 0 ∧ cap = 0 ∧ zs = []) ∨ ∃ x, a = some x ∧ n ≤ cap ∧ cap ≤ maxLen ∧ zs.length = cap ∧ (∀ i, i < zs.length → w.cell? (x.add i) = some (.int k (zs.getD i 0))) ∧ ∀ n ∈ zs, (Lit.int k n).wf = true) := by
    rcases Go.ChangeShapes.open_ints ht he hc h with ⟨hcs, _⟩ | ⟨x, l, c, zs, hcs, _, hl, hm, hz, _, hcell, hwz⟩
    · simp at hcs
      exact ⟨none, 0, 0, [], hcs, .inl ⟨rfl, rfl, rfl, rfl⟩⟩
    · simp at hcs
      exact ⟨some x, l, c, zs, hcs, .inr ⟨_, rfl, hl, hm, by simpa using hz, hcell, hwz⟩⟩
  obtain ⟨a, n, cap, zs, rfl, hr⟩ := hr
  obtain ⟨xs, h1, h2, h3, h4⟩ := row_slice hr
  exact ⟨xs, h1, h2, by omega⟩
theorem list5 (cs : List Value) (h : cs.length = 5) : ∃ c0 c1 c2 c3 c4, cs = [c0, c1, c2, c3, c4] := by
  match cs, h with
  | [c0, c1, c2, c3, c4], _ => exact ⟨_, _, _, _, _, rfl⟩
/-- The cells of one that is asked for. -/
theorem ask_of_cells {H : Type} {enc : TypeId × Value → H} {w : World} {fuel base : Nat} {held : Bool} {cs : List Value} {x : DataW H × List MemPlace}
    (h : DataW.trod enc Try.prog w base (fun _ => true) held fuel 44 cs = some x) :
    ∃ (a : PAsk) (va : Value), a.Ok ∧ cs = [.int .u8 a.1, .int .u8 a.2.1, .int .u64 a.2.2.1, .int .i64 a.2.2.2.1, va] ∧ SliceOf w .i64 va a.2.2.2.2 := by
  obtain ⟨ys, n, _, _, hl, hyl, hf⟩ := DataW.trod_struct Try.underlying44 h
  have h5 : Try.prog.cellsOf 44 = 5 := by kernel_rfl
  have hl5 : cs.length = 5 := hl.trans h5
  obtain ⟨c0, c1, c2, c3, c4, rfl⟩ := list5 cs hl5
  obtain ⟨y0, e0⟩ : ∃ y, ys[0]? = some y := ⟨_, List.getElem?_eq_getElem (by rw [hyl]; decide)⟩
  obtain ⟨y1, e1⟩ : ∃ y, ys[1]? = some y := ⟨_, List.getElem?_eq_getElem (by rw [hyl]; decide)⟩
  obtain ⟨y2, e2⟩ : ∃ y, ys[2]? = some y := ⟨_, List.getElem?_eq_getElem (by rw [hyl]; decide)⟩
  obtain ⟨y3, e3⟩ : ∃ y, ys[3]? = some y := ⟨_, List.getElem?_eq_getElem (by rw [hyl]; decide)⟩
  obtain ⟨y4, e4⟩ : ∃ y, ys[4]? = some y := ⟨_, List.getElem?_eq_getElem (by rw [hyl]; decide)⟩
  have q0 : Try.prog.cellsOf 5 = 1 := by kernel_rfl
  have q1 : Try.prog.cellsOf 42 = 1 := by kernel_rfl
  have q2 : Try.prog.cellsOf 3 = 1 := by kernel_rfl
  have q3 : Try.prog.cellsOf 26 = 1 := by kernel_rfl
  have g0 : DataW.trod enc Try.prog w base (fun _ => true) held n 5 (([c0, c1, c2, c3, c4].drop 0).take (Try.prog.cellsOf 5)) = ys[0]? := hf 0 _ rfl
  rw [q0, e0] at g0
  replace g0 : DataW.trod enc Try.prog w base (fun _ => true) held n 5 [c0] = some y0 := g0
  have g1 : DataW.trod enc Try.prog w base (fun _ => true) held n 5 (([c0, c1, c2, c3, c4].drop 1).take (Try.prog.cellsOf 5)) = ys[1]? := hf 1 _ rfl
  rw [q0, e1] at g1
  replace g1 : DataW.trod enc Try.prog w base (fun _ => true) held n 5 [c1] = some y1 := g1
  have g2 : DataW.trod enc Try.prog w base (fun _ => true) held n 42 (([c0, c1, c2, c3, c4].drop 2).take (Try.prog.cellsOf 42)) = ys[2]? := hf 2 _ rfl
  rw [q1, e2] at g2
  replace g2 : DataW.trod enc Try.prog w base (fun _ => true) held n 42 [c2] = some y2 := g2
  have g3 : DataW.trod enc Try.prog w base (fun _ => true) held n 3 (([c0, c1, c2, c3, c4].drop 3).take (Try.prog.cellsOf 3)) = ys[3]? := hf 3 _ rfl
  rw [q2, e3] at g3
  replace g3 : DataW.trod enc Try.prog w base (fun _ => true) held n 3 [c3] = some y3 := g3
  have g4 : DataW.trod enc Try.prog w base (fun _ => true) held n 26 (([c0, c1, c2, c3, c4].drop 4).take (Try.prog.cellsOf 26)) = ys[4]? := hf 4 _ rfl
  rw [q3, e4] at g4
  replace g4 : DataW.trod enc Try.prog w base (fun _ => true) held n 26 [c4] = some y4 := g4
  obtain ⟨n0, h0, _, w0⟩ := DataW.trod_int Try.underlying5 g0
  obtain ⟨n1, h1, _, w1⟩ := DataW.trod_int Try.underlying5 g1
  obtain ⟨n2, h2, _, w2⟩ := DataW.trod_int Try.underlying42 g2
  obtain ⟨n3, h3, _, w3⟩ := DataW.trod_int Try.underlying3 g3
  obtain ⟨xs, hs, hw, hxl⟩ := ints_of_cell Try.underlying26 Try.underlying3 q2 g4
  have b0 := Go.bounds_u8 w0; have b1 := Go.bounds_u8 w1; have b2 := Go.bounds_u64 w2; have b3 := Go.bounds_i64 w3
  obtain ⟨m0, rfl⟩ := Int.eq_ofNat_of_zero_le b0.1
  obtain ⟨m1, rfl⟩ := Int.eq_ofNat_of_zero_le b1.1
  obtain ⟨m2, rfl⟩ := Int.eq_ofNat_of_zero_le b2.1
  simp only [List.cons.injEq, and_true] at h0 h1 h2 h3
  subst h0; subst h1; subst h2; subst h3
  exact ⟨(m0, m1, m2, n3, xs), c4, ⟨by show m0 ≤ 255; omega, by show m1 ≤ 255; omega, by show m2 < 18446744073709551616; omega, b3, fun x hx => Go.bounds_i64 (hw x hx), hxl⟩, rfl, hs⟩
/-- A list of what is asked for. -/
def AsksOf (w : World) (v : Value) (qs : List PAsk) : Prop :=
  ∃ a n cap, v = .slice a n cap ∧ qs.length = n ∧ ∀ i, i < n → ∃ b off x va, a = some ⟨b, off, none⟩ ∧ qs[i]? = some x ∧ x.Ok ∧ SliceOf w .i64 va x.2.2.2.2 ∧
    w.cell? ⟨b, off + (i * 5 + 0), none⟩ = some (.int .u8 x.1) ∧ w.cell? ⟨b, off + (i * 5 + 1), none⟩ = some (.int .u8 x.2.1) ∧ w.cell? ⟨b, off + (i * 5 + 2), none⟩ = some (.int .u64 x.2.2.1) ∧
    w.cell? ⟨b, off + (i * 5 + 3), none⟩ = some (.int .i64 x.2.2.2.1) ∧ w.cell? ⟨b, off + (i * 5 + 4), none⟩ = some va
theorem list_of_each {α : Type} {p : Nat → α → Prop} : ∀ n, (∀ i, i < n → ∃ x, p i x) → ∃ l : List α, l.length = n ∧ ∀ i, i < n → ∃ x, l[i]? = some x ∧ p i x
  | 0, _ => ⟨[], rfl, fun i hi => by omega⟩
  | n + 1, h => by
    obtain ⟨l, hl, hp⟩ := list_of_each n (fun i hi => h i (by omega))
    obtain ⟨x, hx⟩ := h n (by omega)
    refine ⟨l ++ [x], by simp [hl], fun i hi => ?_⟩
    rcases Nat.lt_or_ge i n with h1 | h1
    · obtain ⟨y, hy, hpy⟩ := hp i h1
      exact ⟨y, by rw [List.getElem?_append_left (by omega)]; exact hy, hpy⟩
    · obtain rfl : i = n := by omega
      exact ⟨x, by rw [List.getElem?_append_right (by omega)]; simp [hl], hx⟩
theorem AsksOf.nil (w : World) : AsksOf w (.slice none 0 0) [] := ⟨_, _, _, rfl, rfl, fun i hi => by omega⟩
theorem slice_of_trod {H : Type} {enc : TypeId × Value → H} {P : Program} {w : World} {base t e : Nat} {v : Value} {d : DataW H} {p : List MemPlace} (ht : P.underlying t = some (.slice e))
    (h : DataW.Trod enc P w 0 (fun _ => true) true t v d p) (o : Value.okWide P w .any base t v) :
    v = .slice none 0 0 ∨ ∃ (ad : Addr) (n cap fu : Nat) (elems : List (DataW H × List MemPlace)), v = .slice (some ad) n cap ∧ n ≤ cap ∧ cap ≤ maxLen ∧ elems.length = n ∧
      ∀ i, i < n → (w.cells? 0 (ad.add (i * P.cellsOf e)) (P.cellsOf e)).bind (DataW.trod enc P w 0 (fun _ => true) true fu e) = elems[i]? := by
  obtain ⟨a, n, cap, rfl⟩ := Go.WideShapes.okWide_slice ht o
  obtain ⟨fuel, hf⟩ := h
  rcases DataW.trod_slice ht hf with ⟨hcs, _⟩ | ⟨ad, len, cp, elems, rest, fu, _, hcs, _, _, hl, hm, hlen, hel, _⟩
  · simp [Value.cells] at hcs
    obtain ⟨rfl, rfl, rfl⟩ := hcs
    exact .inl rfl
  · simp [Value.cells] at hcs
    obtain ⟨rfl, rfl, rfl⟩ := hcs
    exact .inr ⟨ad, n, cap, fu, elems, rfl, hl, hm, hlen, hel⟩
set_option maxRecDepth 100000 in
/-- What a law's frame tells of such a list. -/
theorem asks_of_trod {H : Type} {enc : TypeId × Value → H} {w : World} {base : Nat} {v : Value} {d : DataW H} {p : List MemPlace}
    (h : DataW.Trod enc Try.prog w 0 (fun _ => true) true 34 v d p) (o : Value.okWide Try.prog w .any base 34 v) :
    ∃ qs, AsksOf w v qs ∧ qs.length ≤ 9223372036854775807 := by
  have h5 : Try.prog.cellsOf 44 = 5 := by kernel_rfl
  rcases slice_of_trod Try.underlying34 h o with rfl | ⟨ad, n, cap, fu, elems, rfl, hl, hm, hlen, hel⟩
  · exact ⟨[], AsksOf.nil w, by rw [List.length_nil]; omega⟩
  · clear h o
    have hspot : 0 < n → ad.spot = none := by
      intro h0
      have he := hel 0 h0
      rw [h5, List.getElem?_eq_getElem (by omega)] at he
      obtain ⟨cs, hc, ht⟩ := Option.bind_eq_some_iff.1 he
      obtain ⟨x, va, hx, rfl, hs⟩ := ask_of_cells ht
      obtain ⟨_, _, hat⟩ := World.cells?_some hc
      have t0 := hat 0 (by decide)
      simpa [Addr.add] using World.cell?_spot t0
    have each : ∀ i, i < n → ∃ b off x va, (ad : Addr) = ⟨b, off, none⟩ ∧ (x : PAsk).Ok ∧ SliceOf w .i64 va x.2.2.2.2 ∧
        w.cell? ⟨b, off + (i * 5 + 0), none⟩ = some (.int .u8 x.1) ∧ w.cell? ⟨b, off + (i * 5 + 1), none⟩ = some (.int .u8 x.2.1) ∧ w.cell? ⟨b, off + (i * 5 + 2), none⟩ = some (.int .u64 x.2.2.1) ∧
        w.cell? ⟨b, off + (i * 5 + 3), none⟩ = some (.int .i64 x.2.2.2.1) ∧ w.cell? ⟨b, off + (i * 5 + 4), none⟩ = some va := by
      intro i hi
      have he := hel i hi
      rw [h5, List.getElem?_eq_getElem (by omega)] at he
      obtain ⟨cs, hc, ht⟩ := Option.bind_eq_some_iff.1 he
      obtain ⟨x, va, hx, rfl, hs⟩ := ask_of_cells ht
      obtain ⟨_, _, hat⟩ := World.cells?_some hc
      have t0 := hat 0 (by decide); have t1 := hat 1 (by decide); have t2 := hat 2 (by decide); have t3 := hat 3 (by decide); have t4 := hat 4 (by decide)
      have hsp := hspot (by omega)
      obtain ⟨b, off, spot⟩ := ad
      simp only at hsp
      subst hsp
      simp only [Go.WideShapes.add_plain, List.getElem?_cons_zero, List.getElem?_cons_succ, Nat.add_assoc] at t0 t1 t2 t3 t4
      exact ⟨b, off, x, va, rfl, hx, hs, t0, t1, t2, t3, t4⟩
    obtain ⟨qs, hq, hp⟩ := list_of_each (p := fun i x => ∃ b off va, (ad : Addr) = ⟨b, off, none⟩ ∧ (x : PAsk).Ok ∧ SliceOf w .i64 va x.2.2.2.2 ∧
        w.cell? ⟨b, off + (i * 5 + 0), none⟩ = some (.int .u8 x.1) ∧ w.cell? ⟨b, off + (i * 5 + 1), none⟩ = some (.int .u8 x.2.1) ∧ w.cell? ⟨b, off + (i * 5 + 2), none⟩ = some (.int .u64 x.2.2.1) ∧
        w.cell? ⟨b, off + (i * 5 + 3), none⟩ = some (.int .i64 x.2.2.2.1) ∧ w.cell? ⟨b, off + (i * 5 + 4), none⟩ = some va) n
      (fun i hi => by obtain ⟨b, off, x, va, r⟩ := each i hi; exact ⟨x, b, off, va, r⟩)
    refine ⟨qs, ⟨some ad, n, cap, rfl, hq, fun i hi => ?_⟩, by rw [hq]; unfold maxLen at hm; omega⟩
    obtain ⟨x, hx, b, off, va, hab, r⟩ := hp i hi
    exact ⟨b, off, x, va, by rw [hab], hx, r⟩
theorem AsksOf.below {w w' : World} {v : Value} {qs : List PAsk} (h : AsksOf w v qs) (hb : Below w.heap.size w w') : AsksOf w' v qs := by
  obtain ⟨a, n, cap, rfl, hl, hc⟩ := h
  refine ⟨a, n, cap, rfl, hl, fun i hi => ?_⟩
  obtain ⟨b, off, x, va, rfl, hx, hok, hs, c0, c1, c2, c3, c4⟩ := hc i hi
  exact ⟨b, off, x, va, rfl, hx, hok, hs.below hb, cell_later hb c0, cell_later hb c1, cell_later hb c2, cell_later hb c3, cell_later hb c4⟩
theorem AsksOf.take {w : World} {a : Option Addr} {n cap : Nat} {qs : List PAsk} (h : AsksOf w (.slice a n cap) qs) (m cap' : Nat) (hm : m ≤ n) : AsksOf w (.slice a m cap') (qs.take m) := by
  obtain ⟨a', n', c', e, hl, hc⟩ := h
  simp only [Value.slice.injEq] at e
  obtain ⟨rfl, rfl, rfl⟩ := e
  refine ⟨a, m, cap', rfl, by simp [hl, hm], fun i hi => ?_⟩
  obtain ⟨b, off, x, va, rfl, hx, r⟩ := hc i (by omega)
  exact ⟨b, off, x, va, rfl, by rw [List.getElem?_take, if_pos hi]; exact hx, r⟩
/-- One of a list, as the walk reads it. -/
theorem AsksOf.at {w : World} {a : Option Addr} {n cap : Nat} {qs : List PAsk} (h : AsksOf w (.slice a n cap) qs) {i : Nat} (hi : i < n) :
    ∃ b off x va, a = some ⟨b, off, none⟩ ∧ qs[i]? = some x ∧ x.Ok ∧ AskV w (.agg #[.int .u8 x.1, .int .u8 x.2.1, .int .u64 x.2.2.1, .int .i64 x.2.2.2.1, va]) x ∧
    w.cell? ⟨b, off + i * 5, none⟩ = some (.int .u8 x.1) ∧ w.cell? ⟨b, off + i * 5 + 1, none⟩ = some (.int .u8 x.2.1) ∧ w.cell? ⟨b, off + i * 5 + 2, none⟩ = some (.int .u64 x.2.2.1) ∧
    w.cell? ⟨b, off + i * 5 + 3, none⟩ = some (.int .i64 x.2.2.2.1) ∧ w.cell? ⟨b, off + i * 5 + 4, none⟩ = some va := by
  obtain ⟨a', n', c', e, hl, hc⟩ := h
  simp only [Value.slice.injEq] at e
  obtain ⟨rfl, rfl, rfl⟩ := e
  obtain ⟨b, off, x, va, rfl, hx, hok, hs, r⟩ := hc i hi
  simp only [Nat.add_zero, ← Nat.add_assoc] at r
  exact ⟨b, off, x, va, rfl, hx, hok, ⟨va, rfl, hs⟩, r⟩
theorem AsksOf.parts {w : World} {v : Value} {qs : List PAsk} (h : AsksOf w v qs) : ∃ a cap, v = .slice a qs.length cap := by
  obtain ⟨a, n, cap, rfl, hl, _⟩ := h
  exact ⟨a, cap, by rw [hl]⟩
end Go.Proofs.Ytofbadmjopefpaa
namespace Go.Proofs.Ytofbadmjopefpaa
open Go.RowKit Go.Maps
set_option maxHeartbeats 800000

/-- The nodes and terms behind a list of what is asked for. -/
def fillStep (W : Nat) (s : List PNode × List Int) (a : PAsk) : List PNode × List Int := ((addR W 1048576 s.1 a).1, s.2 ++ [((addR W 1048576 s.1 a).2.1 : Int)])
def fillS (W : Nat) (qs : List PAsk) : List PNode × List Int := qs.foldl (fillStep W) ([], [])
theorem fillS_snoc (W : Nat) (qs : List PAsk) (a : PAsk) : fillS W (qs ++ [a]) = fillStep W (fillS W qs) a := by simp [fillS]
theorem snoc_ind {α : Type} {p : List α → Prop} (h0 : p []) (hs : ∀ l a, p l → p (l ++ [a])) (l : List α) : p l := by
  have key : ∀ l : List α, p l.reverse := by
    intro l
    induction l with
    | nil => simpa using h0
    | cons a l ih => simpa using hs _ a ih
  simpa using key l.reverse
theorem fillS_len (W : Nat) (qs : List PAsk) : (fillS W qs).1.length ≤ qs.length ∧ (fillS W qs).2.length = qs.length := by
  refine snoc_ind (p := fun qs => (fillS W qs).1.length ≤ qs.length ∧ (fillS W qs).2.length = qs.length) (by simp [fillS]) (fun qs a ih => ?_) qs
  rw [fillS_snoc]
  unfold fillStep
  have := (askP_len 1048576 (fillS W qs).1 (addN W (fillS W qs).1 a)).2
  rw [← addR_ask] at this
  simp only [List.length_append, List.length_singleton]
  omega
theorem take_snoc_at {α : Type} {xs : List α} {k : Nat} {q : α} (h : xs[k]? = some q) : xs.take (k + 1) = xs.take k ++ [q] := by
  rw [List.take_add_one, h]; rfl
theorem fill_step (W : Nat) {qs : List PAsk} {k : Nat} {x : PAsk} (h : qs[k]? = some x) : fillS W (qs.take (k + 1)) = fillStep W (fillS W (qs.take k)) x := by
  rw [take_snoc_at h, fillS_snoc]
set_option maxRecDepth 100000 in
theorem fill_any {w : World} (Wi : Int) (v : Value) (qs : List PAsk) (hv : AsksOf w v qs) (hq : qs.length ≤ 9223372036854775807) :
    Calls Try.prog 21 #[.int .i64 Wi, v] w fun e w' => ∃ gb F I vo, e = .returned (.tuple #[.pointer (some ⟨gb, 0, none⟩), vo]) ∧ Gr w' w.heap.size F I gb ((Wi % 64).toNat + 1) 1048576 (fillS ((Wi % 64).toNat + 1) (qs.take 120)).1 ∧
      OwnInts w' w.heap.size 3 .i64 vo (fillS ((Wi % 64).toNat + 1) (qs.take 120)).2 ∧ (∀ k, vo.ownBlock = some k → k ∉ I) ∧ Below w.heap.size w w' := by
  obtain ⟨W, hW⟩ : ∃ W, (Wi % 64).toNat + 1 = W := ⟨_, rfl⟩
  have hm0 := Int.emod_nonneg Wi (show (64 : Int) ≠ 0 by decide)
  have hm1 := Int.emod_lt_of_pos Wi (show (0 : Int) < 64 by decide)
  have hWi : (Wi % 64 + 1).toNat = W := by omega
  rw [hW]
  obtain ⟨a, cap, rfl⟩ := hv.parts
  obtain ⟨n, hn⟩ : ∃ n, qs.length = n := ⟨_, rfl⟩
  rw [hn] at hv hq ⊢
  have HV := Lib.hid hv; have HN := Lib.hid hn; have HW := Lib.hid hWi
  clear hv hn hWi hW
  go_enter Try.func21, Try.ntmps21
  go_wp2_with fail
  go_at_call 27
  refine (mod_any Wi 64 (by decide) (by decide) _).mono ?_
  rintro e w1 ⟨rfl, rfl⟩
  go_wp2_with fail
  go_at_call 29
  refine (new_any _ 0 ⟨by omega, by omega, by decide, by decide⟩ _).mono ?_
  rintro e w1 ⟨gb, F0, rfl, hg0, hb0⟩
  rw [HW.out] at hg0
  go_wp2
  go_loopw [8, 9] (fun vo i wr => ∃ k : Nat, k ≤ n ∧ k ≤ 120 ∧ i = .int .i64 k ∧ ∃ F I, Gr wr w.heap.size F I gb W 1048576 (fillS W (qs.take k)).1 ∧ OwnInts wr w.heap.size 3 .i64 vo (fillS W (qs.take k)).2 ∧ (∀ b, vo.ownBlock = some b → b ∉ I) ∧ Below w.heap.size w wr) (fun _ i _ => n - (intOf i).toNat)
  case atStart => exact ⟨0, by omega, by omega, rfl, F0, [], hg0, OwnInts.nil _ _ _ _, by simp, hb0⟩
  case round =>
    obtain ⟨k, hk, hk2, rfl, F, I, hg, hown, hni, hb⟩ := hrel
    obtain ⟨ao, mo, co, rfl⟩ := hown.val
    have HG := Lib.hid hg; have HO := Lib.hid hown; have HNI := Lib.hid hni; have HB := Lib.hid hb
    clear hg hown hni hb
    by_cases hlt : k < n
    · by_cases hlt2 : k < 120
      · obtain ⟨b, off, x, va, rfl, hx, hok, hav, c0, c1, c2, c3, c4⟩ := (HV.out.below HB.out).at hlt
        have HX := Lib.hid hx; have HA := Lib.hid hav; have HOK := Lib.hid hok
        clear hx hav hok
        go_wp2_with fail
        go_at_call 26
        refine (ladd_any HG.out x _ HA.out HOK.out).mono ?_
        have hst := fill_step W HX.out
        have hgr := addR_grown W (L := (fillS W (qs.take k)).1) (room := 1048576) (by have := (fillS_len W (qs.take k)).1; have := List.length_take_le k qs; omega) x
        have hl2 : (fillS W (qs.take k)).2.length ≤ 999999999 := by have := (fillS_len W (qs.take k)).2; have := List.length_take_le k qs; omega
        rintro e w2 ⟨F', I', rfl, hg2, ht2, hF2, hI2⟩
        unfold fillStep at hst
        rw [hgr.1]
        generalize addR W 1048576 (fillS W (qs.take k)).1 x = R at *
        have hown2 := ht2.ints HG.out HO.out
        have hlt0 := fun b hb => (HO.out.lt b hb).2
        have hb2 := ht2.below HB.out HB.out.size HG.out.base_le
        have HS := Lib.hid hst; have HGR := Lib.hid hgr; have HG2 := Lib.hid hg2; have HO2 := Lib.hid hown2
        have HI2 := Lib.hid (And.intro hF2 hI2); have HB2 := Lib.hid hb2; have HL := Lib.hid hlt0; have HT := Lib.hid ht2
        clear hst hgr hg2 hown2 hF2 hI2 hb2 hlt0 ht2 c0 c1 c2 c3 c4
        go_wp2_with (at_builtin; refine wpList_append1_sep 26 3 .i64 w.heap.size w2 _ _ (R.2.1 : Int) 8 HO2.out _ _ rfl rfl Try.underlying26 Try.infoI64 (by decide) rfl rfl hl2 HB2.out.size ?_; intro a' c' w3 hown3 ht3 hbk3)
        have hno : ∀ b, b ∈ (Value.slice ao mo co).ownBlock.toList → (Value.slice ao mo co).ownBlock = some b := fun b hb => by simpa using hb
        have hinI : ∀ b, b ∈ (I'.filter fun k => decide (k < w2.heap.size)) → b ∈ I' ∧ b < w2.heap.size := fun b hb => by have := List.mem_filter.1 hb; exact ⟨this.1, by simpa using this.2⟩
        have hg3 := HG2.out.inI.beside ht3 (fun b hb => HG2.out.not_own (by decide) (by decide) HO2.out b (hno b hb)) (fun b hb hm => (HI2.out.2 b (hinI b hm).1).elim (HNI.out b (hno b hb)) (fun h => by have := HL.out b (hno b hb); omega))
        have hb3 := ht3.below HB2.out HB2.out.size (fun b hb => (HO2.out.lt b (hno b hb)).1)
        have hni3 : ∀ b, (Value.slice a' ((fillS W (qs.take k)).2.length + 1) c').ownBlock = some b → b ∉ (I'.filter fun k => decide (k < w2.heap.size)) := fun b hb hm => (hbk3 b hb).elim (fun h => (HI2.out.2 b (hinI b hm).1).elim (HNI.out b h) (fun h' => by have := HL.out b h; omega)) (fun h => by have := (hinI b hm).2; omega)
        have HR := Lib.hid (And.intro hg3 (And.intro hown3 (And.intro hni3 hb3)))
        clear hg3 hown3 hni3 hb3 ht3 hbk3 hno hinI
        go_wp2
        go_roundw
        case rel => exact ⟨k + 1, by omega, by omega, by go_num, F', _, by rw [HS.out]; exact HR.out.1, by rw [HS.out]; exact HR.out.2.1, HR.out.2.2.1, HR.out.2.2.2⟩
        case measure => simp [intOf]; omega
      · obtain rfl : k = 120 := by omega
        go_wp2
        go_ret2
        exact ⟨gb, F, I, _, rfl, HG.out, HO.out, HNI.out, HB.out⟩
    · obtain rfl : k = n := by omega
      have ht : qs.take 120 = qs.take k := by rw [List.take_of_length_le (by have := HN.out; omega), List.take_of_length_le (by have := HN.out; omega)]
      have HT := Lib.hid ht
      clear ht
      go_wp2
      go_ret2
      refine ⟨gb, F, I, _, rfl, ?_, ?_, HNI.out, HB.out⟩
      · rw [HT.out]; exact HG.out
      · rw [HT.out]; exact HO.out
end Go.Proofs.Ytofbadmjopefpaa
