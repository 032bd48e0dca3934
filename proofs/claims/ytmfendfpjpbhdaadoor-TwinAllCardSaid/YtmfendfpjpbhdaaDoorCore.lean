/- Memory and things in memory, without the program's functions. Printed by wip/gencore.py out of the other texts. -/
import Derived.Test.YtmfendfpjpbhdaaDoorChecked
import Derived.Laws.BitsAllLaws
import Derived.Lib.Hide
import Derived.WalkKit
import Derived.WalkSpells
import Derived.WalkLawsBesides
import Derived.BigQuiet
import Derived.Deep.QuietTactic
import Derived.Deep.RegionHeld3
import Derived.ProofKit
import Derived.Deep.Slices
import Derived.Deep.Fields
import Derived.ChangeSame
import Derived.OpenShut
import Derived.Deep.DrawnRows
import Derived.Deep.Upon
import Derived.WideKeyArr2
import Derived.StillTailTactics
import Derived.Laws.CopyOwn
import Derived.Lib.AppendZeros
import Derived.Deep.DeepCutAuto
import Derived.Deep.CutBlock
import Derived.Outline
import Derived.BigRegion
import Derived.StillTail
import Derived.Deep.OwnRows
namespace Go.Proofs.YtmfendfpjpbhdaaDoor
open Go.RowKit Go.Maps
set_option maxHeartbeats 3200000

theorem Tryd.infoU64 : (Tryd.prog.info? 44).map (fun i => (i.zero, i.size, i.bytes)) = some (some (.int .u64 0), 1, 8) := by kernel_rfl
theorem Tryd.infoI64 : (Tryd.prog.info? 3).map (fun i => (i.zero, i.size, i.bytes)) = some (some (.int .i64 0), 1, 8) := by kernel_rfl
section
variable {P : Program}
def SliceOf (w : World) (k : IntKind) (v : Value) (xs : List Int) : Prop :=
  ∃ a n cap, v = .slice a n cap ∧ xs.length = n ∧ ∀ i, i < n → ∃ b off, a = some ⟨b, off, none⟩ ∧ w.cell? ⟨b, off + i, none⟩ = some (.int k (xs.getD i 0))
def U64s (xs : List Int) : Prop := ∀ x ∈ xs, 0 ≤ x ∧ x ≤ 18446744073709551615
theorem sliceOf_new (w : World) (k : IntKind) (T : TypeId) (xs : List Int) (c : Nat) : SliceOf (w.alloc (.cells (xs.map (Value.int k)).toArray T)) k (.slice (some ⟨w.heap.size, 0, none⟩) xs.length c) xs := by
  refine ⟨_, _, c, rfl, rfl, fun i hi => ⟨w.heap.size, 0, rfl, ?_⟩⟩
  rw [World.cell?_alloc_at _ _ _ _ rfl]
  simp [hi]
theorem sliceOf_nil (w : World) (k : IntKind) : SliceOf w k (.slice none 0 0) [] := ⟨_, _, _, rfl, rfl, fun i hi => by simp at hi⟩
theorem sliceOf_owns {w : World} {base T : Nat} {k : IntKind} {v : Value} {xs : List Int} {n : Nat} (h : w.ownsRow base T 1 v n (xs.map (Value.int k))) : SliceOf w k v xs := by
  have hl := h.1
  have hxl : xs.length = n := by simpa using hl
  rcases h.2 with ⟨rfl, rfl⟩ | ⟨g, cap, cur, rfl, hb, hg, hn, hm, hsz, htake⟩
  · exact ⟨_, _, _, rfl, hxl, fun i hi => by omega⟩
  · refine ⟨_, n, cap, rfl, hxl, fun i hi => ⟨g, 0, rfl, ?_⟩⟩
    rw [cell_of_row w g _ cur T (0, 0) hg]
    have := congrArg (fun l => l[i]?) htake
    simp only [List.getElem?_take, Nat.mul_one, show i < n from by omega, if_true, List.getElem?_map] at this
    rw [Nat.zero_add, ← Array.getElem?_toList, this]
    simp [show i < xs.length from by omega]
theorem below_alloc2 {B : Nat} {a w w' : World} (h : Below B a w) (hB : B ≤ w.heap.size) (o : Obj) (h' : Below (w.heap.size + 1) (w.alloc o) w') : Below B a w' :=
  (h.alloc hB o).trans (h'.mono (by omega))
def OwnInts (w : World) (base E : Nat) (k : IntKind) (v : Value) (xs : List Int) : Prop := w.ownsRow base E 1 v xs.length (xs.map (Value.int k))
theorem OwnInts.nil (w : World) (base E : Nat) (k : IntKind) : OwnInts w base E k (.slice none 0 0) [] := World.ownsRow_nil _ _ _ _
theorem OwnInts.slice {w : World} {base E : Nat} {k : IntKind} {v : Value} {xs : List Int} (h : OwnInts w base E k v xs) : SliceOf w k v xs := sliceOf_owns h
theorem ownsRow_below {w w' : World} {base e size n : Nat} {v : Value} {xs : List Value} (h : w.ownsRow base e size v n xs) (hb : Below w.heap.size w w') : w'.ownsRow base e size v n xs := by
  refine ⟨h.1, ?_⟩
  rcases h.2 with h2 | ⟨g, cap, cur, hv, hg, hh, r⟩
  · exact .inl h2
  · exact .inr ⟨g, cap, cur, hv, hg, by rw [hb.block g (Array.getElem?_eq_some_iff.1 hh).1]; exact hh, r⟩
theorem OwnInts.below {w w' : World} {base E : Nat} {k : IntKind} {v : Value} {xs : List Int} (h : OwnInts w base E k v xs) (hb : Below w.heap.size w w') : OwnInts w' base E k v xs := ownsRow_below h hb
theorem below_new (w : World) (o : Obj) : Below w.heap.size w (w.alloc o) := (Below.refl _ _).alloc (Nat.le_refl _) o
theorem wpList_append1 {ops : Array Oper} {rest : List Oper} {o : Oper} {a : Act} {Q : Exit → Act → World → Prop} (T E size bytes : Nat) (base : Nat) (wr : World) (v : Value) (n : Nat) (xs news : List Value)
    (hown : wr.ownsRow base E size v n xs) (s x : Operand) (hgd : o.guard = none) (ho : o.op = .call { callee := .builtin .append, args := #[s, x], argTypes := #[T, T] })
    (z : Value) (ht : P.underlying T = some (.slice E)) (hi : (P.info? E).map (fun i => (i.zero, i.size, i.bytes)) = some (some z, size, bytes)) (hzs : z.cells.size = size) (hsz : 0 < size) (hbt : bytes ≤ 1000)
    (hs : a.eval s = v) (hx : a.eval x = .slice (some ⟨wr.heap.size, 0, none⟩) 1 1) (hl : news.length = size) (h1 : ∀ u ∈ news, u.oneCell' = true)
    (hn : n ≤ 1000000000) (hbase : base ≤ wr.heap.size)
    (h : ∀ v' w', w'.ownsRow base E size v' (n + 1) (xs ++ news) → Below base wr w' → v' ≠ .slice none 0 0 → wpList P ops Q rest (a.put o.dst v') w') :
    wpList P ops Q (o :: rest) a (wr.alloc (.cells news.toArray E)) := by
  obtain ⟨i0, hi0, hz0, hz1, hz2⟩ := info_parts hi
  refine wpList_append_own _ hgd s x T ho base E i0 z size bytes ht hi0 hz0 hz1 hz2 hzs hsz v n xs hs (hown.alloc _) ⟨wr.heap.size, 0, none⟩ 1 1 news hx (by omega) ?_ h1 ?_ ?_ (by simp; omega) ?_
  · intro j u hj
    have hadd : (⟨wr.heap.size, 0, none⟩ : Addr).add j = ⟨wr.heap.size, j, none⟩ := by unfold Addr.add; split <;> simp_all
    rw [hadd, World.cell?_alloc_at _ _ _ _ rfl]
    simpa using hj
  · unfold maxLen; omega
  · have : (n + 1) * bytes ≤ 1000000001 * 1000 := Nat.mul_le_mul (by omega) hbt
    omega
  · intro v' w' hown' hg hnil
    refine h v' w' hown' ?_ (fun e => by have := (hnil.1 e).2; omega)
    refine ((Below.refl base wr).alloc hbase _).grown hg (by simp; omega) ?_
    intro k hk
    exact (hown.lt k hk).1
theorem wpList_append1_int {ops : Array Oper} {rest : List Oper} {o : Oper} {a : Act} {Q : Exit → Act → World → Prop} (T E : Nat) (k : IntKind) (base : Nat) (wr : World) (v : Value) (xs : List Int) (q : Int) (bytes : Nat)
    (hown : OwnInts wr base E k v xs) (s x : Operand) (hgd : o.guard = none) (ho : o.op = .call { callee := .builtin .append, args := #[s, x], argTypes := #[T, T] })
    (ht : P.underlying T = some (.slice E)) (hi : (P.info? E).map (fun i => (i.zero, i.size, i.bytes)) = some (some (.int k 0), 1, bytes)) (hbt : bytes ≤ 1000)
    (hs : a.eval s = v) (hx : a.eval x = .slice (some ⟨wr.heap.size, 0, none⟩) 1 1) (hn : xs.length ≤ 1000000000) (hbase : base ≤ wr.heap.size)
    (h : ∀ v' w', OwnInts w' base E k v' (xs ++ [q]) → Below base wr w' → v' ≠ .slice none 0 0 → wpList P ops Q rest (a.put o.dst v') w') :
    wpList P ops Q (o :: rest) a (wr.alloc (.cells #[.int k q] E)) := by
  refine wpList_append1 T E 1 bytes base wr v xs.length _ [.int k q] hown s x hgd ho (.int k 0) ht hi rfl (by decide) hbt hs hx rfl (by simp [Value.oneCell']) hn hbase ?_
  intro v' w' h1 h2 h3
  refine h v' w' ?_ h2 h3
  unfold OwnInts
  rw [List.length_append, List.map_append]
  exact h1
theorem SliceOf.parts {w : World} {k : IntKind} {v : Value} {xs : List Int} (hs : SliceOf w k v xs) :
    ∃ a n cap, v = .slice a n cap ∧ xs.length = n ∧ ∀ i, i < n → ∃ b off q, a = some ⟨b, off, none⟩ ∧ w.cell? ⟨b, off + i, none⟩ = some (.int k q) ∧ xs[i]? = some q := by
  obtain ⟨a, n, cap, rfl, hl, hc⟩ := hs
  refine ⟨_, _, _, rfl, hl, fun i hi => ?_⟩
  obtain ⟨b, off, ha, h⟩ := hc i hi
  exact ⟨b, off, _, ha, h, by simp [show i < xs.length from by omega]⟩
theorem take_snoc' {xs : List Int} {k : Nat} {q : Int} (h : xs[k]? = some q) : xs.take k ++ [q] = xs.take (k + 1) := by
  rw [List.take_add_one, h]; rfl
--⟦IF kit.CopyNums
theorem row_slice {k : IntKind} {w : World} {a : Option Addr} {len cap : Nat} {zs : List Int}
    (h : (a = none ∧ len = 0 ∧ cap = 0 ∧ zs = []) ∨ ∃ x, a = some x ∧ len ≤ cap ∧ cap ≤ maxLen ∧ zs.length = cap ∧ (∀ i, i < zs.length → w.cell? (x.add i) = some (.int k (zs.getD i 0))) ∧ ∀ n ∈ zs, (Lit.int k n).wf = true) :
    ∃ xs, SliceOf w k (.slice a len cap) xs ∧ (∀ n ∈ xs, (Lit.int k n).wf = true) ∧ xs.length = len ∧ len ≤ 9223372036854775807 := by
  rcases h with ⟨rfl, rfl, rfl, rfl⟩ | ⟨x, rfl, hl, hm, hz, hc, hw⟩
  · exact ⟨[], sliceOf_nil _ _, by simp, rfl, by omega⟩
  · have hlen : (zs.take len).length = len := by rw [List.length_take]; omega
    refine ⟨zs.take len, ⟨_, _, _, rfl, hlen, fun i hi => ?_⟩, fun n hn => hw n (List.mem_of_mem_take hn), hlen, by unfold maxLen at hm; omega⟩
    have h0 := hc i (by omega)
    have hsp : x.spot = none := by
      have h00 := hc 0 (by omega)
      simpa [Addr.add] using World.cell?_spot h00
    obtain ⟨b, off, spot⟩ := x
    simp only at hsp
    subst hsp
    rw [Go.WideShapes.add_plain] at h0
    refine ⟨b, off, rfl, ?_⟩
    rw [h0]
    simp [hi]
theorem u64s_of {xs : List Int} (h : ∀ n ∈ xs, (Lit.int .u64 n).wf = true) : U64s xs := fun n hn => by
  have h' := h n hn
  simp [Lit.wf, Lit.wf, IntKind.min, IntKind.max, IntKind.signed, IntKind.bits] at h'
  omega
theorem ints_of_trod {H : Type} {enc : TypeId × Value → H} {P : Program} {w : World} {base t e : Nat} {k : IntKind} {v : Value} {d : DataW H} {p : List MemPlace} (ht : P.underlying t = some (.slice e)) (he : P.underlying e = some (.int k)) (hc : P.cellsOf e = 1)
    (h : DataW.Trod enc P w 0 (fun _ => true) true t v d p) (o : Value.okWide P w .any base t v) :
    ∃ a n cap xs, v = .slice a n cap ∧ SliceOf w k (.slice a n cap) xs ∧ (∀ x ∈ xs, (Lit.int k x).wf = true) ∧ xs.length = n ∧ n ≤ 9223372036854775807 := by
  obtain ⟨a, n, cap, rfl⟩ := Go.WideShapes.okWide_slice ht o
  obtain ⟨fuel, hf⟩ := h
  have hr : ∃ zs : List Int, (a = none ∧ n = 0 ∧ cap = 0 ∧ zs = []) ∨ ∃ x, a = some x ∧ n ≤ cap ∧ cap ≤ maxLen ∧ zs.length = cap ∧ (∀ i, i < zs.length → w.cell? (x.add i) = some (.int k (zs.getD i 0))) ∧ ∀ n ∈ zs, (Lit.int k n).wf = true := by
    rcases Go.ChangeShapes.open_ints ht he hc hf with ⟨hcs, _⟩ | ⟨x, l, c, zs, hcs, _, hl, hm, hz, _, hcell, hwz⟩
    · simp [Value.cells] at hcs
      obtain ⟨rfl, rfl, rfl⟩ := hcs
      exact ⟨[], .inl ⟨rfl, rfl, rfl, rfl⟩⟩
    · simp [Value.cells] at hcs
      obtain ⟨rfl, rfl, rfl⟩ := hcs
      exact ⟨zs, .inr ⟨_, rfl, hl, hm, by simpa using hz, hcell, hwz⟩⟩
  obtain ⟨zs, hr⟩ := hr
  obtain ⟨xs, h1, h2, h3, h4⟩ := row_slice hr
  exact ⟨a, n, cap, xs, rfl, h1, h2, h3, h4⟩
def SrcOf (w : World) (x : Value) (m size : Nat) (news : List Value) : Prop :=
  ∃ a c, x = .slice a m c ∧ news.length = m * size ∧ (0 < m → ∃ ad, a = some ad ∧ ∀ (j : Nat) (u : Value), news[j]? = some u → w.cell? (ad.add j) = some u)
theorem SliceOf.src {w : World} {k : IntKind} {x : Value} {ys : List Int} (h : SliceOf w k x ys) : SrcOf w x ys.length 1 (ys.map (Value.int k)) := by
  obtain ⟨a, n, c, rfl, rfl, hc⟩ := h
  refine ⟨a, c, rfl, by simp, fun h0 => ?_⟩
  obtain ⟨b, off, rfl, _⟩ := hc 0 h0
  refine ⟨_, rfl, fun j u hu => ?_⟩
  rw [List.getElem?_map] at hu
  cases hj : ys[j]? with
  | none => rw [hj] at hu; cases hu
  | some y =>
    rw [hj] at hu
    have hlt := (List.getElem?_eq_some_iff.1 hj).1
    obtain ⟨b', off', e, h⟩ := hc j hlt
    simp only [Option.some.injEq, Addr.mk.injEq, and_true] at e
    obtain ⟨rfl, rfl⟩ := e
    rw [Go.WideShapes.add_plain, h]
    simp at hu
    simp [hj, hu]
theorem run_append_src (w : World) (base T ty E size bytes : Nat) (z : Value) (ht : P.underlying T = some (.slice E)) (hi : (P.info? E).map (fun i => (i.zero, i.size, i.bytes)) = some (some z, size, bytes)) (hzs : z.cells.size = size) (hsz : 0 < size) (hbt : bytes ≤ 1000)
    (v x : Value) (n m : Nat) (xs news : List Value) (hown : w.ownsRow base E size v n xs) (hsrc : SrcOf w x m size news) (h1 : ∀ u ∈ news, u.oneCell' = true) (hn : n + m ≤ 1000000000) (hbase : base ≤ w.heap.size) :
    ∃ v' w', (Builtin.append_ #[T, T] ty #[v, x]).run P w = .ok v' w' ∧ w'.ownsRow base E size v' (n + m) (xs ++ news) ∧ w.grownBy w' v.ownBlock := by
  obtain ⟨i0, hi0, hz0, hz1, hz2⟩ := info_parts hi
  obtain ⟨a, c, rfl, hl, hs⟩ := hsrc
  rcases Nat.eq_zero_or_pos m with h0 | h0
  · subst h0
    have hnews : news = [] := List.length_eq_zero_iff.1 (by rw [hl]; simp)
    subst hnews
    have hfc : (Builtin.firstCells size 0 (.slice a 0 c)).run P w = .ok #[] w := by
      cases a with
      | none => simp [Builtin.firstCells]
      | some ad => exact run_firstCells_some (P := P) w size 0 ad 0 c [] (by simp) (by simp)
    refine ⟨v, w, ?_, by simpa using hown, ⟨rfl, rfl, rfl, Nat.le_refl _, fun _ _ _ => rfl⟩⟩
    rcases hown.2 with ⟨rfl, rfl⟩ | ⟨g, cap, cur, rfl, hb, hg, hnc, _⟩
    · simp [Builtin.append_, run_underlying ht, sizeOf, typeInfo, hi0, hz1, Builtin.lenOf, hfc]
    · simp [Builtin.append_, run_underlying ht, sizeOf, typeInfo, hi0, hz1, Builtin.lenOf, hfc, hnc, storeCells]
  · obtain ⟨ad, rfl, hc⟩ := hs h0
    have hb : (n + m) * bytes ≤ 1000000000 * 1000 := Nat.mul_le_mul hn hbt
    obtain ⟨v', w', h2, h3, h4, _⟩ := run_append_own (P := P) w base T ty E i0 z size bytes ht hi0 hz0 hz1 hz2 hzs hsz v n xs hown ad m c news hl hc h1 (by unfold maxLen; omega) (by omega) hbase
    exact ⟨v', w', h2, h3, h4⟩
def apV (P : Program) (T ty : TypeId) (s x : Value) (w : World) : Value :=
  match (Builtin.append_ #[T, T] ty #[s, x]).run P w with
  | .ok v _ => v
  | .halt _ _ => default
def apW (P : Program) (T ty : TypeId) (s x : Value) (w : World) : World :=
  match (Builtin.append_ #[T, T] ty #[s, x]).run P w with
  | .ok _ w' => w'
  | .halt _ w' => w'
theorem append_is {T ty : TypeId} {s x v' : Value} {w w' : World} (h : (Builtin.append_ #[T, T] ty #[s, x]).run P w = .ok v' w') : apV P T ty s x w = v' ∧ apW P T ty s x w = w' := by
  unfold apV apW; rw [h]; exact ⟨rfl, rfl⟩
theorem wpList_append_src {ops : Array Oper} {rest : List Oper} {o : Oper} {a : Act} {Q : Exit → Act → World → Prop} (T E size bytes : Nat) (base : Nat) (w : World) (v xv : Value) (n m : Nat) (xs news : List Value)
    (hown : w.ownsRow base E size v n xs) (hsrc : SrcOf w xv m size news) (s x : Operand) (hgd : o.guard = none) (ho : o.op = .call { callee := .builtin .append, args := #[s, x], argTypes := #[T, T] })
    (z : Value) (ht : P.underlying T = some (.slice E)) (hi : (P.info? E).map (fun i => (i.zero, i.size, i.bytes)) = some (some z, size, bytes)) (hzs : z.cells.size = size) (hsz : 0 < size) (hbt : bytes ≤ 1000)
    (hs : a.eval s = v) (hx : a.eval x = xv) (h1 : ∀ u ∈ news, u.oneCell' = true) (hn : n + m ≤ 1000000000) (hbase : base ≤ w.heap.size)
    (h : ∀ v' w', w'.ownsRow base E size v' (n + m) (xs ++ news) → w.grownBy w' v.ownBlock → wpList P ops Q rest (a.put o.dst v') w') : wpList P ops Q (o :: rest) a w := by
  obtain ⟨v', w', hr, h2, h3⟩ := run_append_src (P := P) w base T o.type E size bytes z ht hi hzs hsz hbt v xv n m xs news hown hsrc h1 hn hbase
  refine wpList_plain hgd fun _ hK => ?_
  unfold Oper.wp execOp
  simp only [ho, resolve, invoke, builtin, Sem.run_bind, Sem.run_pure, Result.andThen_ok, List.map_toArray, List.map_cons, List.map_nil, hs, hx, hr]
  exact hK _ _ (h v' w' h2 h3)
theorem wpList_append_copy {ops : Array Oper} {rest : List Oper} {o : Oper} {a : Act} {Q : Exit → Act → World → Prop} (T E : Nat) (k : IntKind) (bytes : Nat) (base : Nat) (w : World) (xv : Value) (ys : List Int)
    (hsrc : SliceOf w k xv ys) (s x : Operand) (hgd : o.guard = none) (ho : o.op = .call { callee := .builtin .append, args := #[s, x], argTypes := #[T, T] })
    (ht : P.underlying T = some (.slice E)) (hi : (P.info? E).map (fun i => (i.zero, i.size, i.bytes)) = some (some (.int k 0), 1, bytes)) (hbt : bytes ≤ 1000)
    (hs : a.eval s = .slice none 0 0) (hx : a.eval x = xv) (hn : ys.length ≤ 1000000000) (hbase : base ≤ w.heap.size)
    (h : ∀ v' w', OwnInts w' base E k v' ys → Below w.heap.size w w' → wpList P ops Q rest (a.put o.dst v') w') : wpList P ops Q (o :: rest) a w := by
  refine wpList_append_src T E 1 bytes base w _ xv 0 ys.length [] _ (World.ownsRow_nil _ _ _ _) hsrc.src s x hgd ho (.int k 0) ht hi rfl (by decide) hbt hs hx ?_ (by omega) hbase ?_
  · intro u hu
    obtain ⟨y, _, rfl⟩ := List.mem_map.1 hu
    rfl
  · intro v' w' h2 h3
    refine h v' w' ?_ ⟨h3.os, h3.tape, h3.output, h3.size, fun k hk => h3.block k hk (by simp [Value.ownBlock])⟩
    unfold OwnInts
    simpa using h2
theorem append_block {P : Program} {w w' : World} {base T ty E size bytes : Nat} {z : Value} (ht : P.underlying T = some (.slice E)) (hi : (P.info? E).map (fun i => (i.zero, i.size, i.bytes)) = some (some z, size, bytes)) (hbt : bytes ≤ 1000)
    {v x v' : Value} {n m : Nat} {xs news : List Value} (hown : w.ownsRow base E size v n xs) (hsrc : SrcOf w x m size news) (h1 : ∀ u ∈ news, u.oneCell' = true) (hm0 : 0 < m) (hn : n + m ≤ 1000000000)
    (hr : (Builtin.append_ #[T, T] ty #[v, x]).run P w = .ok v' w') : ∀ k, v'.ownBlock = some k → v.ownBlock = some k ∨ w.heap.size ≤ k := by
  obtain ⟨i0, hi0, hz0, hz1, hz2⟩ := info_parts hi
  subst hz1; subst hz2
  obtain ⟨a, c, rfl, hl, hs⟩ := hsrc
  obtain ⟨ad, rfl, hc⟩ := hs hm0
  have hb : (n + m) * i0.bytes ≤ 1000000000 * 1000 := Nat.mul_le_mul hn hbt
  have hlen := hown.1
  intro k hk
  rcases hown.2 with ⟨rfl, rfl⟩ | ⟨g, cap, cur, rfl, hbg, hg, hnc, hcm, hcs, htake⟩
  · have hr' := run_append_nil (P := P) w T ty E i0 z ht hi0 hz0 ad m c news hl hc hm0 (by omega) (by simp only [Nat.zero_add] at hb; omega)
    rw [hr'] at hr
    simp only [Result.ok.injEq] at hr
    rw [← hr.1] at hk
    simp only [Value.ownBlock, Option.some.injEq] at hk
    right; omega
  · by_cases hroom : n + m ≤ cap
    · have hfit : n * i0.size + news.length ≤ cur.size := by rw [hl, hcs, ← Nat.add_mul]; exact Nat.mul_le_mul_right _ hroom
      have hr' := run_append_room (P := P) w T ty E i0 ht hi0 g n cap cur hg ad m c news hl hc h1 hroom hfit
      rw [hr'] at hr
      simp only [Result.ok.injEq] at hr
      rw [← hr.1] at hk
      exact .inl hk
    · have hr' := run_append_grow (P := P) w T ty E i0 z ht hi0 hz0 ⟨g, 0, none⟩ n cap xs hlen (hown.cells (g := g) rfl) ad m c news hl hc (by omega) (by omega) (growslice_fits (by omega) (by omega))
      rw [hr'] at hr
      simp only [Result.ok.injEq] at hr
      rw [← hr.1] at hk
      simp only [Value.ownBlock, Option.some.injEq] at hk
      right; omega
end
structure Touch (F : List Nat) (w w' : World) : Prop where
  os : w'.os = w.os
  tape : w'.tape = w.tape
  output : w'.output = w.output
  size : w.heap.size ≤ w'.heap.size
  block : ∀ k, k < w.heap.size → k ∉ F → w'.heap[k]? = w.heap[k]?
theorem Touch.refl (F : List Nat) (w : World) : Touch F w w := ⟨rfl, rfl, rfl, Nat.le_refl _, fun _ _ _ => rfl⟩
theorem Touch.trans {F F' : List Nat} {a b c : World} (h : Touch F a b) (h' : Touch F' b c) (hF : ∀ k, k ∈ F' → k ∈ F ∨ a.heap.size ≤ k) : Touch F a c :=
  ⟨h'.os.trans h.os, h'.tape.trans h.tape, h'.output.trans h.output, Nat.le_trans h.size h'.size, fun k hk hn => by
    have hm : k ∉ F' := fun hm => (hF k hm).elim hn (fun h1 => by omega)
    rw [h'.block k (Nat.lt_of_lt_of_le hk h.size) hm]
    exact h.block k hk hn⟩
theorem Touch.of_below {w w' : World} (h : Below w.heap.size w w') (F : List Nat) : Touch F w w' := ⟨h.os, h.tape, h.output, h.size, fun k hk _ => h.block k hk⟩
theorem Touch.below {F : List Nat} {B : Nat} {w0 w w' : World} (h : Touch F w w') (h0 : Below B w0 w) (hB : B ≤ w.heap.size) (hF : ∀ k, k ∈ F → B ≤ k) : Below B w0 w' :=
  h0.trans ⟨h.os, h.tape, h.output, h.size, fun k hk => h.block k (by omega) (fun hm => by have := hF k hm; omega)⟩
theorem OwnInts.val {w : World} {base E : Nat} {k : IntKind} {v : Value} {xs : List Int} (h : OwnInts w base E k v xs) : ∃ a m c, v = .slice a m c := by
  rcases h.2 with ⟨rfl, _⟩ | ⟨g, cap, cur, rfl, _⟩
  · exact ⟨_, _, _, rfl⟩
  · exact ⟨_, _, _, rfl⟩
theorem cells3 {w : World} {b : Nat} {x y z : Value} {t : TypeId} {fr : Nat × Nat} (h : w.heap[b]? = some (.cells #[x, y, z] t fr)) : w.cell? ⟨b, 0, none⟩ = some x ∧ w.cell? ⟨b, 1, none⟩ = some y ∧ w.cell? ⟨b, 2, none⟩ = some z :=
  ⟨by rw [cell_of_row w b 0 _ _ _ h]; rfl, by rw [cell_of_row w b 1 _ _ _ h]; rfl, by rw [cell_of_row w b 2 _ _ _ h]; rfl⟩
theorem SliceOf.at {w : World} {k : IntKind} {b off n cap i : Nat} {xs : List Int} {q : Int} (h : SliceOf w k (.slice (some ⟨b, off, none⟩) n cap) xs) (hq : xs[i]? = some q) : w.cell? ⟨b, off + i, none⟩ = some (.int k q) := by
  obtain ⟨a, n', c', e, hl, hc⟩ := h
  simp only [Value.slice.injEq] at e
  obtain ⟨rfl, rfl, rfl⟩ := e
  have hlt := (List.getElem?_eq_some_iff.1 hq).1
  obtain ⟨b', off', e', hcell⟩ := hc i (by omega)
  simp only [Option.some.injEq, Addr.mk.injEq, and_true] at e'
  obtain ⟨rfl, rfl⟩ := e'
  rw [hcell]
  rw [List.getElem?_eq_getElem hlt] at hq
  simp at hq
  simp [hlt, hq]
structure Thing where
  W : List Nat
  R : List Nat
  holds : World → Prop
  keep : ∀ w w', holds w → (∀ k, k ∈ W ∨ k ∈ R → w'.heap[k]? = w.heap[k]?) → holds w'
def Apart (s t : Thing) : Prop := (∀ k, k ∈ s.W → k ∉ t.W ∧ k ∉ t.R) ∧ ∀ k, k ∈ s.R → k ∉ t.W
theorem Apart.symm {s t : Thing} (h : Apart s t) : Apart t s :=
  ⟨fun k hk => ⟨fun hm => (h.1 k hm).1 hk, fun hm => h.2 k hm hk⟩, fun k hk hm => (h.1 k hm).2 hk⟩
structure Lab (w0 wr : World) (ts : List Thing) : Prop where
  below : Below w0.heap.size w0 wr
  holds : ∀ t ∈ ts, t.holds wr
  low : ∀ t ∈ ts, ∀ k, k ∈ t.W → w0.heap.size ≤ k
  high : ∀ t ∈ ts, ∀ k, k ∈ t.W ∨ k ∈ t.R → k < wr.heap.size
  apart : ts.Pairwise Apart
section
variable {w0 wr w' : World} {s s' : Thing} {ts : List Thing}
theorem Lab.head (h : Lab w0 wr (s :: ts)) : s.holds wr := h.holds s (by simp)
theorem Lab.second {t : Thing} (h : Lab w0 wr (s :: t :: ts)) : t.holds wr := h.holds t (by simp)
theorem Lab.third {t u : Thing} (h : Lab w0 wr (s :: t :: u :: ts)) : u.holds wr := h.holds u (by simp)
theorem Lab.fourth {t u v : Thing} (h : Lab w0 wr (s :: t :: u :: v :: ts)) : v.holds wr := h.holds v (by simp)
theorem Lab.nil {w0 wr : World} (h : Below w0.heap.size w0 wr) : Lab w0 wr [] := ⟨h, by simp, by simp, by simp, .nil⟩
theorem Lab.size (h : Lab w0 wr ts) : w0.heap.size ≤ wr.heap.size := h.below.size
theorem Lab.drop (h : Lab w0 wr (s :: ts)) : Lab w0 wr ts :=
  ⟨h.below, fun t ht => h.holds t (by simp [ht]), fun t ht => h.low t (by simp [ht]), fun t ht => h.high t (by simp [ht]), (List.pairwise_cons.1 h.apart).2⟩
theorem Lab.swap {t : Thing} (h : Lab w0 wr (s :: t :: ts)) : Lab w0 wr (t :: s :: ts) := by
  have hm : ∀ x, x ∈ t :: s :: ts → x ∈ s :: t :: ts := by intro x hx; simp at hx ⊢; rcases hx with h | h | h <;> simp [h]
  refine ⟨h.below, fun x hx => h.holds x (hm x hx), fun x hx => h.low x (hm x hx), fun x hx => h.high x (hm x hx), ?_⟩
  have hp := h.apart
  rw [List.pairwise_cons, List.pairwise_cons] at hp ⊢
  refine ⟨fun a ha => ?_, fun a ha => hp.1 a (by simp [ha]), hp.2.2⟩
  rcases List.mem_cons.1 ha with rfl | ha
  · exact (hp.1 t (by simp)).symm
  · exact hp.2.1 a ha
theorem Lab.rot3 {t u : Thing} (h : Lab w0 wr (s :: t :: u :: ts)) : Lab w0 wr (u :: s :: t :: ts) := by
  have hm : ∀ x, x ∈ u :: s :: t :: ts → x ∈ s :: t :: u :: ts := by intro x hx; simp at hx ⊢; rcases hx with h | h | h | h <;> simp [h]
  refine ⟨h.below, fun x hx => h.holds x (hm x hx), fun x hx => h.low x (hm x hx), fun x hx => h.high x (hm x hx), ?_⟩
  have hp := h.apart
  rw [List.pairwise_cons, List.pairwise_cons, List.pairwise_cons] at hp ⊢
  refine ⟨fun a ha => ?_, fun a ha => ?_, fun a ha => hp.2.1 a (by simp [ha]), hp.2.2.2⟩
  · rcases List.mem_cons.1 ha with rfl | ha
    · exact (hp.1 u (by simp)).symm
    · rcases List.mem_cons.1 ha with rfl | ha
      · exact (hp.2.1 u (by simp)).symm
      · exact hp.2.2.1 a ha
  · rcases List.mem_cons.1 ha with rfl | ha
    · exact hp.1 _ (by simp)
    · exact hp.1 a (by simp [ha])
theorem Lab.rot3' {t u : Thing} (h : Lab w0 wr (s :: t :: u :: ts)) : Lab w0 wr (t :: u :: s :: ts) := h.rot3.rot3
theorem Lab.later (h : Lab w0 wr ts) (hb : Below wr.heap.size wr w') : Lab w0 w' ts :=
  ⟨h.below.trans (hb.mono h.size), fun t ht => t.keep _ _ (h.holds t ht) fun k hk => hb.block k (h.high t ht k hk), h.low, fun t ht k hk => Nat.lt_of_lt_of_le (h.high t ht k hk) hb.size, h.apart⟩
theorem Lab.turn (h : Lab w0 wr (s :: ts)) (ht : Touch s.W wr w') (hs : s'.holds w') (hW : ∀ k, k ∈ s'.W → k ∈ s.W ∨ wr.heap.size ≤ k) (hR : ∀ k, k ∈ s'.R → k ∈ s.R ∨ wr.heap.size ≤ k) (hz : ∀ k, k ∈ s'.W ∨ k ∈ s'.R → k < w'.heap.size) : Lab w0 w' (s' :: ts) := by
  have hp := List.pairwise_cons.1 h.apart
  refine ⟨ht.below h.below h.size (h.low s (by simp)), fun t hm => ?_, fun t hm k hk => ?_, fun t hm k hk => ?_, ?_⟩
  · rcases List.mem_cons.1 hm with rfl | hm
    · exact hs
    · exact t.keep _ _ (h.holds t (by simp [hm])) fun k hk => ht.block k (h.high t (by simp [hm]) k hk) fun hsW => hk.elim (fun hw => ((hp.1 t hm).1 k hsW).1 hw) (fun hr => ((hp.1 t hm).1 k hsW).2 hr)
  · rcases List.mem_cons.1 hm with rfl | hm
    · exact (hW k hk).elim (h.low s (by simp) k) (fun hl => Nat.le_trans h.size hl)
    · exact h.low t (by simp [hm]) k hk
  · rcases List.mem_cons.1 hm with rfl | hm
    · exact hz k hk
    · exact Nat.lt_of_lt_of_le (h.high t (by simp [hm]) k hk) ht.size
  · rw [List.pairwise_cons]
    refine ⟨fun t hm => ⟨fun k hk => ⟨fun htW => ?_, fun htR => ?_⟩, fun k hk htW => ?_⟩, hp.2⟩
    · exact (hW k hk).elim (fun hs => ((hp.1 t hm).1 k hs).1 htW) (fun hl => by have := h.high t (by simp [hm]) k (.inl htW); omega)
    · exact (hW k hk).elim (fun hs => ((hp.1 t hm).1 k hs).2 htR) (fun hl => by have := h.high t (by simp [hm]) k (.inr htR); omega)
    · exact (hR k hk).elim (fun hs => (hp.1 t hm).2 k hs htW) (fun hl => by have := h.high t (by simp [hm]) k (.inl htW); omega)
theorem Lab.new (h : Lab w0 wr ts) (hb : Below wr.heap.size wr w') (hs : s.holds w') (hW : ∀ k, k ∈ s.W → wr.heap.size ≤ k) (hR : ∀ k, k ∈ s.R → (∀ t ∈ ts, k ∉ t.W)) (hz : ∀ k, k ∈ s.W ∨ k ∈ s.R → k < w'.heap.size) : Lab w0 w' (s :: ts) := by
  have hl := h.later hb
  refine ⟨hl.below, fun t hm => ?_, fun t hm k hk => ?_, fun t hm k hk => ?_, ?_⟩
  · rcases List.mem_cons.1 hm with rfl | hm
    · exact hs
    · exact hl.holds t hm
  · rcases List.mem_cons.1 hm with rfl | hm
    · exact Nat.le_trans h.size (hW k hk)
    · exact hl.low t hm k hk
  · rcases List.mem_cons.1 hm with rfl | hm
    · exact hz k hk
    · exact hl.high t hm k hk
  · rw [List.pairwise_cons]
    refine ⟨fun t hm => ⟨fun k hk => ⟨fun htW => ?_, fun htR => ?_⟩, fun k hk htW => hR k hk t hm htW⟩, hl.apart⟩
    · have := h.high t hm k (.inl htW); have := hW k hk; omega
    · have := h.high t hm k (.inr htR); have := hW k hk; omega
end
section
variable {w w' : World} {base : Nat}
theorem owns_keep {E size n : Nat} {v : Value} {xs : List Value} (h : w.ownsRow base E size v n xs) (hw : ∀ k, v.ownBlock = some k → w'.heap[k]? = w.heap[k]?) : w'.ownsRow base E size v n xs := by
  refine ⟨h.1, ?_⟩
  rcases h.2 with hn | ⟨g, cap, cur, rfl, hb, hg, r⟩
  · exact .inl hn
  · exact .inr ⟨g, cap, cur, rfl, hb, by rw [hw g rfl, hg], r⟩
end
theorem ownsRow_mono0 {w : World} {base E size n : Nat} {v : Value} {xs : List Value} (h : w.ownsRow base E size v n xs) : w.ownsRow 0 E size v n xs := by
  refine ⟨h.1, ?_⟩
  rcases h.2 with hn | ⟨g, cap, cur, hv, hg, r⟩
  · exact .inl hn
  · exact .inr ⟨g, cap, cur, hv, Nat.zero_le _, r⟩
def Thing.row (E size : Nat) (v : Value) (n : Nat) (cells : List Value) : Thing :=
  ⟨v.ownBlock.toList, [], fun w => w.ownsRow 0 E size v n cells, fun _ _ h hk => owns_keep h fun k hm => hk k (.inl (by simp [hm]))⟩
def Thing.ints (v : Value) (xs : List Int) : Thing := Thing.row 3 1 v xs.length (xs.map (Value.int .i64))
def Thing.box (b T : Nat) (arr : Array Value) : Thing :=
  ⟨[b], [], fun w => w.heap[b]? = some (.cells arr T (0, 0)), fun _ _ h hk => (hk b (.inl (by simp))).trans h⟩
section
variable {w0 wr w' : World} {ts : List Thing}
theorem Lab.ints {v : Value} {xs : List Int} (h : Lab w0 wr (Thing.ints v xs :: ts)) : OwnInts wr 0 3 .i64 v xs := h.head
theorem Lab.ints2 {x : Thing} {v : Value} {xs : List Int} (h : Lab w0 wr (x :: Thing.ints v xs :: ts)) : OwnInts wr 0 3 .i64 v xs := h.second
theorem Lab.ints3 {x y : Thing} {v : Value} {xs : List Int} (h : Lab w0 wr (x :: y :: Thing.ints v xs :: ts)) : OwnInts wr 0 3 .i64 v xs := h.third
theorem Lab.box1 {b T : Nat} {arr : Array Value} (h : Lab w0 wr (Thing.box b T arr :: ts)) : wr.heap[b]? = some (.cells arr T (0, 0)) := h.head
theorem Lab.box2 {x : Thing} {b T : Nat} {arr : Array Value} (h : Lab w0 wr (x :: Thing.box b T arr :: ts)) : wr.heap[b]? = some (.cells arr T (0, 0)) := h.second
theorem Lab.box3 {x y : Thing} {b T : Nat} {arr : Array Value} (h : Lab w0 wr (x :: y :: Thing.box b T arr :: ts)) : wr.heap[b]? = some (.cells arr T (0, 0)) := h.third
theorem Lab.drewN (h : Lab w0 wr ts) (n : Nat) : Lab w0 (wr.drewN n) ts := h.later (below_drewN (Below.refl _ _) n)
theorem Lab.new_row {E size n : Nat} {v : Value} {cells : List Value} (h : Lab w0 wr ts) (hb : Below wr.heap.size wr w') (hv : w'.ownsRow wr.heap.size E size v n cells) : Lab w0 w' (Thing.row E size v n cells :: ts) := by
  refine h.new (s := Thing.row E size v n cells) hb (ownsRow_mono0 hv) (fun k hk => (hv.lt k (by simpa [Thing.row] using hk)).1) (fun k hk => by simp [Thing.row] at hk) (fun k hk => ?_)
  rcases hk with hk | hk
  · exact (hv.lt k (by simpa [Thing.row] using hk)).2
  · simp [Thing.row] at hk
theorem Lab.new_ints {v : Value} {xs : List Int} (h : Lab w0 wr ts) (hb : Below wr.heap.size wr w') (hv : OwnInts w' wr.heap.size 3 .i64 v xs) : Lab w0 w' (Thing.ints v xs :: ts) := h.new_row hb hv
theorem Lab.alloc (h : Lab w0 wr ts) (arr : Array Value) (T : Nat) : Lab w0 (wr.alloc (.cells arr T)) (Thing.box wr.heap.size T arr :: ts) := by
  refine h.new (s := Thing.box wr.heap.size T arr) (below_new wr _) (heap_alloc_new wr _) (fun k hk => by simp [Thing.box] at hk; omega) (fun k hk => by simp [Thing.box] at hk) (fun k hk => ?_)
  rcases hk with hk | hk
  · simp [Thing.box] at hk; simp; omega
  · simp [Thing.box] at hk
theorem Lab.nil_ints (h : Lab w0 wr ts) : Lab w0 wr (Thing.ints (.slice none 0 0) [] :: ts) := h.new_ints (Below.refl _ _) (OwnInts.nil _ _ _ _)
theorem Lab.grown_ints {v : Value} {xs : List Int} {a' : Option Addr} {c' m : Nat} {q : Int} (h : Lab w0 wr (Thing.ints v xs :: ts)) (hown : OwnInts w' 0 3 .i64 (.slice a' m c') (xs ++ [q])) (ht : Touch v.ownBlock.toList wr w') (hb : ∀ b, (Value.slice a' m c').ownBlock = some b → v.ownBlock = some b ∨ wr.heap.size ≤ b) :
    Lab w0 w' (Thing.ints (.slice a' m c') (xs ++ [q]) :: ts) := by
  refine h.turn (s' := Thing.ints (.slice a' m c') (xs ++ [q])) ht hown (fun k hk => ?_) (fun k hk => by simp [Thing.ints, Thing.row] at hk) (fun k hk => ?_)
  · have hk' : (Value.slice a' m c').ownBlock = some k := by simpa [Thing.ints, Thing.row] using hk
    exact (hb k hk').imp (fun e => by simp [Thing.ints, Thing.row, e]) id
  · rcases hk with hk | hk
    · exact (World.ownsRow.lt hown k (by simpa [Thing.ints, Thing.row] using hk)).2
    · simp [Thing.ints, Thing.row] at hk
theorem Lab.perm {ts' : List Thing} (h : Lab w0 wr ts) (hp : ts.Perm ts') : Lab w0 wr ts' :=
  ⟨h.below, fun t ht => h.holds t (hp.mem_iff.2 ht), fun t ht => h.low t (hp.mem_iff.2 ht), fun t ht => h.high t (hp.mem_iff.2 ht), (hp.pairwise_iff (fun {_ _} hs => hs.symm)).1 h.apart⟩
theorem Lab.rot4 {s t u v : Thing} (h : Lab w0 wr (s :: t :: u :: v :: ts)) : Lab w0 wr (v :: s :: t :: u :: ts) := h.perm (List.perm_middle (l₁ := [s, t, u]))
theorem Lab.rot5 {s t u v x : Thing} (h : Lab w0 wr (s :: t :: u :: v :: x :: ts)) : Lab w0 wr (x :: s :: t :: u :: v :: ts) := h.perm (List.perm_middle (l₁ := [s, t, u, v]))
theorem Lab.rot6 {s t u v x y : Thing} (h : Lab w0 wr (s :: t :: u :: v :: x :: y :: ts)) : Lab w0 wr (y :: s :: t :: u :: v :: x :: ts) := h.perm (List.perm_middle (l₁ := [s, t, u, v, x]))
end
theorem slice_of_trod {H : Type} {enc : TypeId × Value → H} {P : Program} {w : World} {base t e : Nat} {v : Value} {d : DataW H} {p : List MemPlace} (ht : P.underlying t = some (.slice e))
    (h : DataW.Trod enc P w 0 (fun _ => true) true t v d p) (o : Value.okWide P w .any base t v) :
    v = .slice none 0 0 ∨ ∃ (ad : Addr) (n cap fu : Nat) (elems : List (DataW H × List MemPlace)), v = .slice (some ad) n cap ∧ n ≤ cap ∧ cap ≤ maxLen ∧ elems.length = n ∧
      ∀ i, i < n → (w.cells? 0 (ad.add (i * P.cellsOf e)) (P.cellsOf e)).bind (DataW.trod enc P w 0 (fun _ => true) true fu e) = elems[i]? := by
  obtain ⟨a, n, cap, rfl⟩ := Go.WideShapes.okWide_slice ht o
  obtain ⟨fuel, hf⟩ := h
  rcases DataW.trod_slice ht hf with ⟨hcs, _⟩ | ⟨ad, len, cp, elems, rest, fu, _, hcs, _, _, hl, hm, hlen, hel, _⟩
  · simp [Value.cells] at hcs
    obtain ⟨rfl, rfl, rfl⟩ := hcs
    exact .inl rfl
  · simp [Value.cells] at hcs
    obtain ⟨rfl, rfl, rfl⟩ := hcs
    exact .inr ⟨ad, n, cap, fu, elems, rfl, hl, hm, hlen, hel⟩
theorem list_of_each {α : Type} {p : Nat → α → Prop} : ∀ n, (∀ i, i < n → ∃ x, p i x) → ∃ l : List α, l.length = n ∧ ∀ i, i < n → ∃ x, l[i]? = some x ∧ p i x
  | 0, _ => ⟨[], rfl, fun i hi => by omega⟩
  | n + 1, h => by
    obtain ⟨l, hl, hp⟩ := list_of_each n (fun i hi => h i (by omega))
    obtain ⟨x, hx⟩ := h n (by omega)
    refine ⟨l ++ [x], by simp [hl], fun i hi => ?_⟩
    rcases Nat.lt_or_ge i n with h1 | h1
    · obtain ⟨y, hy, hpy⟩ := hp i h1
      exact ⟨y, by rw [List.getElem?_append_left (by omega)]; exact hy, hpy⟩
    · obtain rfl : i = n := by omega
      exact ⟨x, by rw [List.getElem?_append_right (by omega)]; simp [hl], hx⟩
theorem ints_of_cell {H : Type} {enc : TypeId × Value → H} {P : Program} {w : World} {base t e fuel : Nat} {k : IntKind} {va : Value} {held : Bool} {x : DataW H × List MemPlace} (ht : P.underlying t = some (.slice e)) (he : P.underlying e = some (.int k)) (hc : P.cellsOf e = 1)
    (h : DataW.trod enc P w base (fun _ => true) held fuel t [va] = some x) :
    ∃ xs, SliceOf w k va xs ∧ (∀ y ∈ xs, (Lit.int k y).wf = true) ∧ xs.length ≤ 9223372036854775807 := by
  have hr : ∃ (a : Option Addr) (n cap : Nat) (zs : List Int), va = .slice a n cap ∧ ((a = none ∧ n = 0 ∧ cap = 0 ∧ zs = []) ∨ ∃ x, a = some x ∧ n ≤ cap ∧ cap ≤ maxLen ∧ zs.length = cap ∧ (∀ i, i < zs.length → w.cell? (x.add i) = some (.int k (zs.getD i 0))) ∧ ∀ n ∈ zs, (Lit.int k n).wf = true) := by
    rcases Go.ChangeShapes.open_ints ht he hc h with ⟨hcs, _⟩ | ⟨x, l, c, zs, hcs, _, hl, hm, hz, _, hcell, hwz⟩
    · simp at hcs
      exact ⟨none, 0, 0, [], hcs, .inl ⟨rfl, rfl, rfl, rfl⟩⟩
    · simp at hcs
      exact ⟨some x, l, c, zs, hcs, .inr ⟨_, rfl, hl, hm, by simpa using hz, hcell, hwz⟩⟩
  obtain ⟨a, n, cap, zs, rfl, hr⟩ := hr
  obtain ⟨xs, h1, h2, h3, h4⟩ := row_slice hr
  exact ⟨xs, h1, h2, by omega⟩
theorem cap_of_trod {H : Type} {enc : TypeId × Value → H} {P : Program} {w : World} {base t e : Nat} {v : Value} {d : DataW H} {p : List MemPlace} (ht : P.underlying t = some (.slice e))
    (h : DataW.Trod enc P w 0 (fun _ => true) true t v d p) (o : Value.okWide P w .any base t v) : ∀ a n c, v = .slice a n c → n ≤ c := by
  intro a n c hv
  rcases slice_of_trod ht h o with h0 | ⟨ad, n', cap, _, _, h1, h2, _⟩
  · rw [hv] at h0
    simp only [Value.slice.injEq] at h0
    omega
  · rw [hv] at h1
    simp only [Value.slice.injEq] at h1
    omega
theorem SliceOf.take {w : World} {k : IntKind} {a : Option Addr} {n cap : Nat} {xs : List Int} (h : SliceOf w k (.slice a n cap) xs) (m cap' : Nat) (hm : m ≤ n) : SliceOf w k (.slice a m cap') (xs.take m) := by
  obtain ⟨a', n', c', e, hl, hc⟩ := h.parts
  simp only [Value.slice.injEq] at e
  obtain ⟨rfl, rfl, rfl⟩ := e
  refine ⟨a, m, cap', rfl, by rw [List.length_take]; omega, fun i hi => ?_⟩
  obtain ⟨b, off, q, rfl, hq, hx⟩ := hc i (by omega)
  refine ⟨b, off, rfl, ?_⟩
  rw [hq, List.getD_eq_getElem?_getD, List.getElem?_take, if_pos hi, hx]; rfl
theorem SliceOf.parts' {w : World} {k : IntKind} {a : Option Addr} {n cap : Nat} {xs : List Int} (h : SliceOf w k (.slice a n cap) xs) {i : Nat} (hi : i < n) : ∃ b off q, a = some ⟨b, off, none⟩ ∧ w.cell? ⟨b, off + i, none⟩ = some (.int k q) ∧ xs[i]? = some q := by
  obtain ⟨a', n', cap', e, _, hc⟩ := h.parts
  simp only [Value.slice.injEq] at e
  obtain ⟨rfl, rfl, rfl⟩ := e
  exact hc i hi
theorem madeCells_at (z : Array Value) (n i : Nat) (hi : i < n) : (madeCells z n)[i]? = some (z[i % z.size]!) := by simp [madeCells, hi]
theorem rowIs_later {w w' : World} {b t n : Nat} {f : Nat → Value} (h : w.rowIs b t n f) (hb : Below w.heap.size w w') : w'.rowIs b t n f := h.of_block (hb.block b h.lt)
def Thing.fn (b T n : Nat) (f : Nat → Value) : Thing := ⟨[b], [], fun w => w.rowIs b T n f, fun _ _ h hk => h.of_block (hk b (.inl (by simp)))⟩
section
variable {w0 wr w' : World} {ts : List Thing} {b T n : Nat} {f g : Nat → Value}
theorem Lab.fn1 (h : Lab w0 wr (Thing.fn b T n f :: ts)) : wr.rowIs b T n f := h.head
theorem Lab.fn2 {s : Thing} (h : Lab w0 wr (s :: Thing.fn b T n f :: ts)) : wr.rowIs b T n f := h.second
theorem Lab.fn3 {s t : Thing} (h : Lab w0 wr (s :: t :: Thing.fn b T n f :: ts)) : wr.rowIs b T n f := h.third
theorem Lab.fn4 {s t u : Thing} (h : Lab w0 wr (s :: t :: u :: Thing.fn b T n f :: ts)) : wr.rowIs b T n f := h.fourth
theorem Lab.fifth {s t u v x : Thing} (h : Lab w0 wr (s :: t :: u :: v :: x :: ts)) : x.holds wr := h.holds x (by simp)
theorem Lab.sixth {s t u v x y : Thing} (h : Lab w0 wr (s :: t :: u :: v :: x :: y :: ts)) : y.holds wr := h.holds y (by simp)
theorem Lab.say {s s' : Thing} (h : Lab w0 wr (s :: ts)) (hW : s'.W = s.W) (hR : ∀ k, k ∈ s'.R → k ∈ s.R) (hs : s.holds wr → s'.holds wr) : Lab w0 wr (s' :: ts) := by
  refine h.turn (s' := s') (Touch.refl _ _) (hs h.head) (fun k hk => .inl (by rw [← hW]; exact hk)) (fun k hk => .inl (hR k hk)) (fun k hk => h.high s (by simp) k ?_)
  rcases hk with hk | hk
  · exact .inl (by rw [← hW]; exact hk)
  · exact .inr (hR k hk)
theorem Lab.fn_congr (h : Lab w0 wr (Thing.fn b T n f :: ts)) (e : ∀ i, i < n → f i = g i) : Lab w0 wr (Thing.fn b T n g :: ts) :=
  h.say (s' := Thing.fn b T n g) rfl (fun _ hk => hk) fun hh => World.rowIs.congr hh e
theorem Lab.make (h : Lab w0 wr ts) (arr : Array Value) (T : Nat) (f : Nat → Value) (hs : arr.size = n) (hf : ∀ i, i < n → arr[i]? = some (f i)) : Lab w0 (wr.alloc (.cells arr T)) (Thing.fn wr.heap.size T n f :: ts) := by
  have hl := h.alloc arr T
  exact hl.say (s' := Thing.fn wr.heap.size T n f) rfl (fun _ hk => hk) fun hh => ⟨arr, hh, hs, hf⟩
theorem Lab.set (h : Lab w0 wr (Thing.fn b T n f :: ts)) (i : Nat) (v : Value) : Lab w0 (wr.setCell ⟨b, i, none⟩ v) (Thing.fn b T n (fun j => if j = i then v else f j) :: ts) := by
  refine h.turn (s' := Thing.fn b T n _) ⟨rfl, rfl, rfl, by rw [World.size_setCell]; exact Nat.le_refl _, fun k hk hn => heap_setCell_other _ _ _ _ (by simpa [Thing.fn] using hn)⟩ (h.fn1.set i v) (fun k hk => .inl hk) (fun k hk => .inl hk) (fun k hk => ?_)
  rw [World.size_setCell]
  exact h.high (Thing.fn b T n f) (by simp) k hk
theorem Lab.store {w0 wr : World} {ts : List Thing} {b T : Nat} {arr : Array Value} (h : Lab w0 wr (Thing.box b T arr :: ts)) (i : Nat) (v : Value) : Lab w0 (wr.setCell ⟨b, i, none⟩ v) (Thing.box b T (arr.setIfInBounds i v) :: ts) := by
  refine h.turn (s' := Thing.box b T (arr.setIfInBounds i v)) ⟨rfl, rfl, rfl, by rw [World.size_setCell]; exact Nat.le_refl _, fun k hk hn => heap_setCell_other _ _ _ _ (by simpa [Thing.box] using hn)⟩ (heap_setCell_same _ _ _ _ _ _ h.box1) (fun k hk => .inl hk) (fun k hk => .inl hk) (fun k hk => ?_)
  rw [World.size_setCell]
  exact h.high (Thing.box b T arr) (by simp) k hk
theorem Lab.subl {w0 wr : World} {ts ts' : List Thing} (h : Lab w0 wr ts) (hs : ts'.Sublist ts) : Lab w0 wr ts' :=
  ⟨h.below, fun t ht => h.holds t (hs.subset ht), fun t ht => h.low t (hs.subset ht), fun t ht => h.high t (hs.subset ht), h.apart.sublist hs⟩
theorem own_some' {w : World} {B E : Nat} {k : IntKind} {v : Value} {xs : List Int} (h : OwnInts w B E k v xs) (h0 : xs ≠ []) : ∃ g cap, v = .slice (some ⟨g, 0, none⟩) xs.length cap := by
  rcases h.2 with ⟨-, h1⟩ | ⟨g, cap, cur, rfl, -⟩
  · exact absurd (List.length_eq_zero_iff.1 h1) h0
  · exact ⟨g, cap, rfl⟩
theorem Lab.pop {a : Option Addr} {c : Nat} {xs : List Int} {t : Int} (h : Lab w0 wr (Thing.ints (.slice a (xs.length + 1) c) (xs ++ [t]) :: ts)) : Lab w0 wr (Thing.ints (.slice a xs.length c) xs :: ts) := by
  refine h.say (s' := Thing.ints (.slice a xs.length c) xs) ?_ (fun k hk => by simp [Thing.ints, Thing.row] at hk) (fun hh => ?_)
  · cases a <;> rfl
  · have hh' : OwnInts wr 0 3 .i64 (.slice a (xs.length + 1) c) (xs ++ [t]) := hh
    obtain ⟨g, cap, e⟩ := own_some' hh' (by simp)
    simp only [Value.slice.injEq] at e
    obtain ⟨rfl, -, rfl⟩ := e
    unfold OwnInts at hh'
    rw [List.length_append, List.map_append] at hh'
    exact ownsRow_pop (by rw [List.length_map, Nat.mul_one]) hh'
theorem Lab.ints_cap {a : Option Addr} {m c : Nat} {xs : List Int} (h : Lab w0 wr (Thing.ints (.slice a m c) xs :: ts)) : m ≤ c ∧ m = xs.length := by
  rcases h.ints.2 with ⟨h1, h2⟩ | ⟨g, cap, cur, h1, -, -, h2, -⟩
  · simp only [Value.slice.injEq] at h1; omega
  · simp only [Value.slice.injEq] at h1; omega
theorem wpList_append_lab {ops : Array Oper} {rest : List Oper} {o : Oper} {a : Act} {Q : Exit → Act → World → Prop} {ao : Option Addr} {c : Nat} {xv : Value} {xs ys : List Int} (s x : Operand) (h : Lab w0 wr (Thing.ints (.slice ao xs.length c) xs :: ts)) (hsrc : SliceOf wr .i64 xv ys) (hgd : o.guard = none)
    (ho : o.op = .call { callee := .builtin .append, args := #[s, x], argTypes := #[23, 23] }) (hs : a.eval s = .slice ao xs.length c) (hx : a.eval x = xv) (hn : xs.length + ys.length ≤ 1000000000)
    (hK : ∀ a' c' w', Lab w0 w' (Thing.ints (.slice a' (xs ++ ys).length c') (xs ++ ys) :: ts) → wpList Tryd.prog ops Q rest (a.put o.dst (.slice a' (xs ++ ys).length c')) w') : wpList Tryd.prog ops Q (o :: rest) a wr := by
  by_cases hy : ys = []
  · subst hy
    obtain ⟨i0, hi0, hz0, hz1, hz2⟩ := info_parts Tryd.infoI64
    obtain ⟨a2, c2, hxv, -, -⟩ := hsrc.src
    have hrun := run_append_nothing (P := Tryd.prog) wr 23 23 o.type 3 i0 Tryd.underlying23 hi0 ao xs.length c (h.ints_cap.1) xv (by subst hxv; cases a2 with | none => exact Src.ofNil wr Tryd.underlying23 c2 | some ad => exact Src.ofSlice wr Tryd.underlying23 ad 0 c2 [] (by simp) (by simp) (by simp))
    refine wpList_plain hgd fun _ hK' => ?_
    unfold Oper.wp execOp
    simp only [ho, resolve, invoke, builtin, Sem.run_bind, Sem.run_pure, Result.andThen_ok, List.map_toArray, List.map_cons, List.map_nil, hs, hx, hrun]
    have := hK ao c wr (by rw [List.append_nil]; exact h)
    rw [List.append_nil] at this
    exact hK' _ _ this
  · have hown : wr.ownsRow 0 3 1 (.slice ao xs.length c) xs.length (xs.map (Value.int .i64)) := h.ints
    have h1 : ∀ u ∈ ys.map (Value.int .i64), u.oneCell' = true := fun u hu => by
      obtain ⟨y, _, rfl⟩ := List.mem_map.1 hu
      rfl
    obtain ⟨v', w', hr, h2, h3⟩ := run_append_src (P := Tryd.prog) wr 0 23 o.type 3 1 8 (.int .i64 0) Tryd.underlying23 Tryd.infoI64 rfl (by decide) (by decide) _ xv xs.length ys.length _ _ hown hsrc.src h1 hn (Nat.zero_le _)
    have hpos : 0 < ys.length := List.length_pos_iff.2 hy
    have blk := append_block (P := Tryd.prog) (T := 23) (ty := o.type) (bytes := 8) (z := .int .i64 0) Tryd.underlying23 Tryd.infoI64 (by decide) hown hsrc.src h1 hpos hn hr
    obtain ⟨a', c', rfl⟩ : ∃ a' c', v' = .slice a' (xs.length + ys.length) c' := by
      rcases h2.2 with ⟨_, h0⟩ | ⟨g, cap, cur, rfl, _⟩
      · omega
      · exact ⟨_, _, rfl⟩
    refine wpList_plain hgd fun _ hK' => ?_
    unfold Oper.wp execOp
    simp only [ho, resolve, invoke, builtin, Sem.run_bind, Sem.run_pure, Result.andThen_ok, List.map_toArray, List.map_cons, List.map_nil, hs, hx, hr]
    have hl : Lab w0 w' (Thing.ints (.slice a' (xs.length + ys.length) c') (xs ++ ys) :: ts) := by
      have hown2 : OwnInts w' 0 3 .i64 (.slice a' (xs.length + ys.length) c') (xs ++ ys) := by
        unfold OwnInts
        rw [List.length_append, List.map_append]
        exact h2
      refine h.turn (s' := Thing.ints (.slice a' (xs.length + ys.length) c') (xs ++ ys)) ⟨h3.os, h3.tape, h3.output, h3.size, fun b hb hn => h3.block b hb (fun e => hn (by simp [Thing.ints, Thing.row, ← e]))⟩ hown2 (fun k hk => ?_) (fun k hk => by simp [Thing.ints, Thing.row] at hk) (fun k hk => ?_)
      · have hk' : (Value.slice a' (xs.length + ys.length) c').ownBlock = some k := by simpa [Thing.ints, Thing.row] using hk
        exact (blk k hk').imp (fun e => by simp [Thing.ints, Thing.row, e]) id
      · rcases hk with hk | hk
        · exact (World.ownsRow.lt hown2 k (by simpa [Thing.ints, Thing.row] using hk)).2
        · simp [Thing.ints, Thing.row] at hk
    have := hK a' c' w' (by rw [List.length_append]; exact hl)
    rw [List.length_append] at this
    exact hK' _ _ this
theorem Lab.make1 {w0 wr : World} {ts : List Thing} (h : Lab w0 wr ts) (n T : Nat) (z : Value) : Lab w0 (wr.alloc (.cells (madeCells #[z] n) T)) (Thing.fn wr.heap.size T n (fun _ => z) :: ts) :=
  h.make (n := n) (madeCells #[z] n) T (fun _ => z) (size_madeCells _ _) (fun i hi => by rw [madeCells_at _ _ i hi]; simp [Nat.mod_one])
theorem Lab.drew1 {w0 wr : World} {ts : List Thing} (h : Lab w0 wr ts) : Lab w0 wr.drew ts := h.later ((Below.refl _ _).drew)
theorem wpList_append_labn {ops : Array Oper} {rest : List Oper} {o : Oper} {a : Act} {Q : Exit → Act → World → Prop} {ao : Option Addr} {c n : Nat} {xv : Value} {xs ys : List Int} (s x : Operand) (hl : xs.length = n) (h : Lab w0 wr (Thing.ints (.slice ao n c) xs :: ts)) (hsrc : SliceOf wr .i64 xv ys) (hgd : o.guard = none)
    (ho : o.op = .call { callee := .builtin .append, args := #[s, x], argTypes := #[23, 23] }) (hs : a.eval s = .slice ao n c) (hx : a.eval x = xv) (hn : n + ys.length ≤ 1000000000)
    (hK : ∀ a' c' w', Lab w0 w' (Thing.ints (.slice a' (n + ys.length) c') (xs ++ ys) :: ts) → wpList Tryd.prog ops Q rest (a.put o.dst (.slice a' (n + ys.length) c')) w') : wpList Tryd.prog ops Q (o :: rest) a wr := by
  subst hl
  refine wpList_append_lab s x h hsrc hgd ho hs hx hn fun a' c' w' hl' => ?_
  rw [List.length_append] at hl' ⊢
  exact hK a' c' w' hl'
theorem step_append_labs {ops : Array Oper} {o : Oper} {a : Act} {K : Act → World → Prop} {Q : Exit → Act → World → Prop} {E0 : Prop} {ao : Option Addr} {c n : Nat} {xv : Value} {xs ys : List Int} (s x : Operand) (h : Lab w0 wr (Thing.ints (.slice ao n c) xs :: ts)) (hl : xs.length = n) (hsrc : SliceOf wr .i64 xv ys) (hy : ys ≠ []) (hgd : o.guard = none)
    (ho : o.op = .call { callee := .builtin .append, args := #[s, x], argTypes := #[23, 23] }) (hs : a.eval s = .slice ao n c) (hx : a.eval x = xv) (hn : xs.length + ys.length ≤ 1000000000)
    (hK : ∀ a' c' w', Lab w0 w' (Thing.ints (.slice a' (n + ys.length) c') (xs ++ ys) :: ts) → K (a.put o.dst (.slice a' (n + ys.length) c')) w') :
    if Region.wanted o (yielded ops a.tmps) = true then Oper.wp Tryd.prog o a wr K Q else E0 := by
  subst hl
  have hw : Region.wanted o (yielded ops a.tmps) = true := by simp [Region.wanted, hgd]
  rw [if_pos hw]
  have hown : wr.ownsRow 0 3 1 (.slice ao xs.length c) xs.length (xs.map (Value.int .i64)) := h.ints
  have h1 : ∀ u ∈ ys.map (Value.int .i64), u.oneCell' = true := fun u hu => by
    obtain ⟨y, _, rfl⟩ := List.mem_map.1 hu
    rfl
  obtain ⟨v', w', hr, h2, h3⟩ := run_append_src (P := Tryd.prog) wr 0 23 o.type 3 1 8 (.int .i64 0) Tryd.underlying23 Tryd.infoI64 rfl (by decide) (by decide) _ xv xs.length ys.length _ _ hown hsrc.src h1 hn (Nat.zero_le _)
  have hpos : 0 < ys.length := List.length_pos_iff.2 hy
  have blk := append_block (P := Tryd.prog) (T := 23) (ty := o.type) (bytes := 8) (z := .int .i64 0) Tryd.underlying23 Tryd.infoI64 (by decide) hown hsrc.src h1 hpos hn hr
  obtain ⟨a', c', rfl⟩ : ∃ a' c', v' = .slice a' (xs.length + ys.length) c' := by
    rcases h2.2 with ⟨_, h0⟩ | ⟨g, cap, cur, rfl, _⟩
    · omega
    · exact ⟨_, _, rfl⟩
  unfold Oper.wp execOp
  simp only [ho, resolve, invoke, builtin, Sem.run_bind, Sem.run_pure, Result.andThen_ok, List.map_toArray, List.map_cons, List.map_nil, hs, hx, hr]
  refine hK a' c' w' ?_
  have hown2 : OwnInts w' 0 3 .i64 (.slice a' (xs.length + ys.length) c') (xs ++ ys) := by
    unfold OwnInts
    rw [List.length_append, List.map_append]
    exact h2
  refine h.turn (s' := Thing.ints (.slice a' (xs.length + ys.length) c') (xs ++ ys)) ⟨h3.os, h3.tape, h3.output, h3.size, fun b hb hn => h3.block b hb (fun e => hn (by simp [Thing.ints, Thing.row, ← e]))⟩ hown2 (fun k hk => ?_) (fun k hk => by simp [Thing.ints, Thing.row] at hk) (fun k hk => ?_)
  · have hk' : (Value.slice a' (xs.length + ys.length) c').ownBlock = some k := by simpa [Thing.ints, Thing.row] using hk
    exact (blk k hk').imp (fun e => by simp [Thing.ints, Thing.row, e]) id
  · rcases hk with hk | hk
    · exact (World.ownsRow.lt hown2 k (by simpa [Thing.ints, Thing.row] using hk)).2
    · simp [Thing.ints, Thing.row] at hk
theorem slice_of_box {w : World} {b T c : Nat} {k : IntKind} {xs : List Int} (h : w.heap[b]? = some (.cells (xs.map (Value.int k)).toArray T (0, 0))) : SliceOf w k (.slice (some ⟨b, 0, none⟩) xs.length c) xs := by
  refine ⟨_, _, c, rfl, rfl, fun i hi => ⟨b, 0, rfl, ?_⟩⟩
  simp [World.cell?, h, hi]
theorem Lab.box4 {x y z : Thing} {b T : Nat} {arr : Array Value} (h : Lab w0 wr (x :: y :: z :: Thing.box b T arr :: ts)) : wr.heap[b]? = some (.cells arr T (0, 0)) := h.fourth
theorem Lab.box5 {x y z t : Thing} {b T : Nat} {arr : Array Value} (h : Lab w0 wr (x :: y :: z :: t :: Thing.box b T arr :: ts)) : wr.heap[b]? = some (.cells arr T (0, 0)) := h.fifth
theorem box_cell {w : World} {b T i : Nat} {xs : List Int} {x : Int} (h : w.heap[b]? = some (.cells (xs.map (Value.int .u64)).toArray T (0, 0))) (hx : xs[i]? = some x) : w.cell? ⟨b, i, none⟩ = some (.int .u64 x) := by
  rw [cell_of_row w b i _ _ _ h]
  simp [hx]
theorem ints_frozen {w : World} {g n c T : Nat} {k : IntKind} {xs : List Int} (h : OwnInts w 0 T k (.slice (some ⟨g, 0, none⟩) n c) xs) (j : Nat) : w.frozen? ⟨g, j, none⟩ = false := by
  obtain ⟨h1, h2⟩ := h
  rcases h2 with ⟨e, -⟩ | ⟨g', c', cur, e, -, hg, -⟩
  · simp at e
  · simp only [Value.slice.injEq, Option.some.injEq, Addr.mk.injEq, and_true] at e
    obtain ⟨rfl, -⟩ := e
    exact frozen_of_row w g j _ _ hg
theorem Lab.row_set {E g n cap : Nat} {cells : List Value} (h : Lab w0 wr (Thing.row E 1 (.slice (some ⟨g, 0, none⟩) n cap) n cells :: ts)) (j : Nat) (u : Value) : Lab w0 (wr.setCell ⟨g, j, none⟩ u) (Thing.row E 1 (.slice (some ⟨g, 0, none⟩) n cap) n (cells.set j u) :: ts) := by
  have hs := World.ownsRow.stored h.head j u
  refine h.turn (s' := Thing.row E 1 (.slice (some ⟨g, 0, none⟩) n cap) n (cells.set j u)) ⟨rfl, rfl, rfl, by rw [World.size_setCell]; exact Nat.le_refl _, fun k hk hn => heap_setCell_other _ _ _ _ (by simpa [Thing.row, Value.ownBlock] using hn)⟩ hs.1 (fun k hk => .inl hk) (fun k hk => .inl hk) (fun k hk => ?_)
  rw [World.size_setCell]
  exact h.high (Thing.row E 1 (.slice (some ⟨g, 0, none⟩) n cap) n cells) (by simp) k hk
theorem Lab.ints_set {g c : Nat} {xs : List Int} {n : Nat} (hl : xs.length = n) (h : Lab w0 wr (Thing.ints (.slice (some ⟨g, 0, none⟩) n c) xs :: ts)) (j : Nat) (x : Int) : Lab w0 (wr.setCell ⟨g, j, none⟩ (.int .i64 x)) (Thing.ints (.slice (some ⟨g, 0, none⟩) n c) (xs.set j x) :: ts) := by
  subst hl
  have := Lab.row_set h j (.int .i64 x)
  unfold Thing.ints
  rw [List.length_set, List.map_set]
  exact this
end
theorem Tryd.infoBool : (Tryd.prog.info? 4).map (fun i => (i.zero, i.size, i.bytes)) = some (some (.bool false), 1, 1) := by kernel_rfl
theorem wp_abs {P : Program} {c : Code} {Q : Exit → Act → World → Prop} {a : Act} {w : World} (Φ : World → Prop) (hΦ : Φ w) (h : ∀ w', Φ w' → c.wp P Q a w') : c.wp P Q a w := h w hΦ
def PairsOf (w : World) (v : Value) (ps : List (Int × Int)) : Prop :=
  ∃ a n cap, v = .slice a n cap ∧ ps.length = n ∧ ∀ i, i < n → ∃ b off x, a = some ⟨b, off, none⟩ ∧ ps[i]? = some x ∧ w.cell? ⟨b, off + i * 2, none⟩ = some (.int .i64 x.1) ∧ w.cell? ⟨b, off + i * 2 + 1, none⟩ = some (.int .i64 x.2)
theorem PairsOf.nil (w : World) : PairsOf w (.slice none 0 0) [] := ⟨_, _, _, rfl, rfl, fun i hi => by omega⟩
theorem list2 (cs : List Value) (h : cs.length = 2) : ∃ c0 c1, cs = [c0, c1] := by
  match cs, h with
  | [c0, c1], _ => exact ⟨_, _, rfl⟩
set_option maxRecDepth 100000 in
theorem pair_of_cells {H : Type} {enc : TypeId × Value → H} {w : World} {fuel base : Nat} {held : Bool} {cs : List Value} {x : DataW H × List MemPlace}
    (h : DataW.trod enc Tryd.prog w base (fun _ => true) held fuel 67 cs = some x) : ∃ p q : Int, cs = [.int .i64 p, .int .i64 q] := by
  obtain ⟨ys, m, _, _, hl, hyl, hf⟩ := DataW.trod_array Tryd.underlying67 h
  have h2 : Tryd.prog.cellsOf 67 = 2 := by kernel_rfl
  have h1 : Tryd.prog.cellsOf 3 = 1 := by kernel_rfl
  obtain ⟨c0, c1, rfl⟩ := list2 cs (hl.trans h2)
  obtain ⟨y0, e0⟩ : ∃ y, ys[0]? = some y := ⟨_, List.getElem?_eq_getElem (by rw [hyl]; decide)⟩
  obtain ⟨y1, e1⟩ : ∃ y, ys[1]? = some y := ⟨_, List.getElem?_eq_getElem (by rw [hyl]; decide)⟩
  have g0 := hf 0 (by decide)
  rw [h1, e0] at g0
  replace g0 : DataW.trod enc Tryd.prog w base (fun _ => true) held m 3 [c0] = some y0 := g0
  have g1 := hf 1 (by decide)
  rw [h1, e1] at g1
  replace g1 : DataW.trod enc Tryd.prog w base (fun _ => true) held m 3 [c1] = some y1 := g1
  obtain ⟨n0, q0, _, _⟩ := DataW.trod_int Tryd.underlying3 g0
  obtain ⟨n1, q1, _, _⟩ := DataW.trod_int Tryd.underlying3 g1
  simp only [List.cons.injEq, and_true] at q0 q1
  subst q0; subst q1
  exact ⟨n0, n1, rfl⟩
set_option maxRecDepth 100000 in
theorem pairs_of_trod {H : Type} {enc : TypeId × Value → H} {w : World} {base : Nat} {v : Value} {d : DataW H} {p : List MemPlace}
    (h : DataW.Trod enc Tryd.prog w 0 (fun _ => true) true 22 v d p) (o : Value.okWide Tryd.prog w .any base 22 v) :
    ∃ ps, PairsOf w v ps ∧ ps.length ≤ 9223372036854775807 := by
  have h2 : Tryd.prog.cellsOf 67 = 2 := by kernel_rfl
  rcases slice_of_trod Tryd.underlying22 h o with rfl | ⟨ad, n, cap, fu, elems, rfl, hl, hm, hlen, hel⟩
  · exact ⟨[], PairsOf.nil w, by rw [List.length_nil]; omega⟩
  · clear h o
    have each : ∀ i, i < n → ∃ b off, ∃ x : Int × Int, (ad : Addr) = ⟨b, off, none⟩ ∧ w.cell? ⟨b, off + i * 2, none⟩ = some (.int .i64 x.1) ∧ w.cell? ⟨b, off + i * 2 + 1, none⟩ = some (.int .i64 x.2) := by
      have cells : ∀ i, i < n → ∃ x : Int × Int, w.cell? ((ad.add (i * 2)).add 0) = some (.int .i64 x.1) ∧ w.cell? ((ad.add (i * 2)).add 1) = some (.int .i64 x.2) := by
        intro i hi
        have he := hel i hi
        rw [h2, List.getElem?_eq_getElem (by omega)] at he
        obtain ⟨cs, hc, ht⟩ := Option.bind_eq_some_iff.1 he
        obtain ⟨x, y, rfl⟩ := pair_of_cells ht
        obtain ⟨_, _, hat⟩ := World.cells?_some hc
        exact ⟨(x, y), hat 0 (by decide), hat 1 (by decide)⟩
      intro i hi
      have hsp : ad.spot = none := by
        obtain ⟨x, t0, _⟩ := cells 0 (by omega)
        simpa [Addr.add] using World.cell?_spot t0
      obtain ⟨x, t0, t1⟩ := cells i hi
      obtain ⟨b, off, spot⟩ := ad
      simp only at hsp
      subst hsp
      simp only [Go.WideShapes.add_plain, Nat.add_zero] at t0 t1
      exact ⟨b, off, x, rfl, t0, t1⟩
    obtain ⟨ps, hq, hp⟩ := list_of_each (p := fun i (x : Int × Int) => ∃ b off, (ad : Addr) = ⟨b, off, none⟩ ∧ w.cell? ⟨b, off + i * 2, none⟩ = some (.int .i64 x.1) ∧ w.cell? ⟨b, off + i * 2 + 1, none⟩ = some (.int .i64 x.2)) n
      (fun i hi => by obtain ⟨b, off, x, r⟩ := each i hi; exact ⟨x, b, off, r⟩)
    refine ⟨ps, ⟨some ad, n, cap, rfl, hq, fun i hi => ?_⟩, by rw [hq]; unfold maxLen at hm; omega⟩
    obtain ⟨x, hx, b, off, hab, r⟩ := hp i hi
    exact ⟨b, off, x, by rw [hab], hx, r⟩
theorem PairsOf.below {w w' : World} {v : Value} {ps : List (Int × Int)} (h : PairsOf w v ps) (hb : Below w.heap.size w w') : PairsOf w' v ps := by
  obtain ⟨a, n, cap, rfl, hl, hc⟩ := h
  refine ⟨a, n, cap, rfl, hl, fun i hi => ?_⟩
  obtain ⟨b, off, x, rfl, hx, c0, c1⟩ := hc i hi
  exact ⟨b, off, x, rfl, hx, cell_later hb c0, cell_later hb c1⟩
end Go.Proofs.YtmfendfpjpbhdaaDoor
