/- Slices of integers in memory; copies of lists. append from whatever slice, onto a slice of the call's own. -/
import Derived.Test.YtpboinmmhlgdaaaWordC
import Derived.ProofKit
namespace Go.Proofs.Ytpboinmmhlgdaaa
open Go.RowKit
set_option maxHeartbeats 400000

theorem sliceOf_new (w : World) (k : IntKind) (T : TypeId) (xs : List Int) (c : Nat) : SliceOf (w.alloc (.cells (xs.map (Value.int k)).toArray T)) k (.slice (some ⟨w.heap.size, 0, none⟩) xs.length c) xs := by
  refine ⟨_, _, c, rfl, rfl, fun i hi => ⟨w.heap.size, 0, rfl, ?_⟩⟩
  rw [World.cell?_alloc_at _ _ _ _ rfl]
  simp [hi]
theorem sliceOf_nil (w : World) (k : IntKind) : SliceOf w k (.slice none 0 0) [] := ⟨_, _, _, rfl, rfl, fun i hi => by simp at hi⟩
theorem sliceOf_owns {w : World} {base T : Nat} {k : IntKind} {v : Value} {xs : List Int} {n : Nat} (h : w.ownsRow base T 1 v n (xs.map (Value.int k))) : SliceOf w k v xs := by
  have hl := h.1
  have hxl : xs.length = n := by simpa using hl
  rcases h.2 with ⟨rfl, rfl⟩ | ⟨g, cap, cur, rfl, hb, hg, hn, hm, hsz, htake⟩
  · exact ⟨_, _, _, rfl, hxl, fun i hi => by omega⟩
  · refine ⟨_, n, cap, rfl, hxl, fun i hi => ⟨g, 0, rfl, ?_⟩⟩
    rw [cell_of_row w g _ cur T (0, 0) hg]
    have := congrArg (fun l => l[i]?) htake
    simp only [List.getElem?_take, Nat.mul_one, show i < n from by omega, if_true, List.getElem?_map] at this
    rw [Nat.zero_add, ← Array.getElem?_toList, this]
    simp [show i < xs.length from by omega]
theorem below_alloc2 {B : Nat} {a w w' : World} (h : Below B a w) (hB : B ≤ w.heap.size) (o : Obj) (h' : Below (w.heap.size + 1) (w.alloc o) w') : Below B a w' :=
  (h.alloc hB o).trans (h'.mono (by omega))

theorem Try.infoU64 : (Try.prog.info? 22).map (fun i => (i.zero, i.size, i.bytes)) = some (some (.int .u64 0), 1, 8) := by kernel_rfl
theorem Try.infoI64 : (Try.prog.info? 3).map (fun i => (i.zero, i.size, i.bytes)) = some (some (.int .i64 0), 1, 8) := by kernel_rfl
/-- A slice that owns a list of integers. -/
def OwnInts (w : World) (base E : Nat) (k : IntKind) (v : Value) (xs : List Int) : Prop := w.ownsRow base E 1 v xs.length (xs.map (Value.int k))
theorem OwnInts.nil (w : World) (base E : Nat) (k : IntKind) : OwnInts w base E k (.slice none 0 0) [] := World.ownsRow_nil _ _ _ _
theorem OwnInts.slice {w : World} {base E : Nat} {k : IntKind} {v : Value} {xs : List Int} (h : OwnInts w base E k v xs) : SliceOf w k v xs := sliceOf_owns h
/-- Blocks below the heap's size stay as they are: so does an owned row. -/
theorem ownsRow_below {w w' : World} {base e size n : Nat} {v : Value} {xs : List Value} (h : w.ownsRow base e size v n xs) (hb : Below w.heap.size w w') : w'.ownsRow base e size v n xs := by
  refine ⟨h.1, ?_⟩
  rcases h.2 with h2 | ⟨g, cap, cur, hv, hg, hh, r⟩
  · exact .inl h2
  · exact .inr ⟨g, cap, cur, hv, hg, by rw [hb.block g (Array.getElem?_eq_some_iff.1 hh).1]; exact hh, r⟩
theorem OwnInts.below {w w' : World} {base E : Nat} {k : IntKind} {v : Value} {xs : List Int} (h : OwnInts w base E k v xs) (hb : Below w.heap.size w w') : OwnInts w' base E k v xs := ownsRow_below h hb
theorem below_new (w : World) (o : Obj) : Below w.heap.size w (w.alloc o) := (Below.refl _ _).alloc (Nat.le_refl _) o

section
variable {P : Program}
/-- One element is appended to a slice of the call's own, whatever its size. -/
theorem wpList_append1 {ops : Array Oper} {rest : List Oper} {o : Oper} {a : Act} {Q : Exit → Act → World → Prop} (T E size bytes : Nat) (base : Nat) (wr : World) (v : Value) (n : Nat) (xs news : List Value)
    (hown : wr.ownsRow base E size v n xs) (s x : Operand) (hgd : o.guard = none) (ho : o.op = .call { callee := .builtin .append, args := #[s, x], argTypes := #[T, T] })
    (z : Value) (ht : P.underlying T = some (.slice E)) (hi : (P.info? E).map (fun i => (i.zero, i.size, i.bytes)) = some (some z, size, bytes)) (hzs : z.cells.size = size) (hsz : 0 < size) (hbt : bytes ≤ 1000)
    (hs : a.eval s = v) (hx : a.eval x = .slice (some ⟨wr.heap.size, 0, none⟩) 1 1) (hl : news.length = size) (h1 : ∀ u ∈ news, u.oneCell' = true)
    (hn : n ≤ 1000000000) (hbase : base ≤ wr.heap.size)
    (h : ∀ v' w', w'.ownsRow base E size v' (n + 1) (xs ++ news) → Below base wr w' → v' ≠ .slice none 0 0 → wpList P ops Q rest (a.put o.dst v') w') :
    wpList P ops Q (o :: rest) a (wr.alloc (.cells news.toArray E)) := by
  obtain ⟨i0, hi0, hz0, hz1, hz2⟩ := info_parts hi
  refine wpList_append_own _ hgd s x T ho base E i0 z size bytes ht hi0 hz0 hz1 hz2 hzs hsz v n xs hs (hown.alloc _) ⟨wr.heap.size, 0, none⟩ 1 1 news hx (by omega) ?_ h1 ?_ ?_ (by simp; omega) ?_
  · intro j u hj
    have hadd : (⟨wr.heap.size, 0, none⟩ : Addr).add j = ⟨wr.heap.size, j, none⟩ := by unfold Addr.add; split <;> simp_all
    rw [hadd, World.cell?_alloc_at _ _ _ _ rfl]
    simpa using hj
  · unfold maxLen; omega
  · have : (n + 1) * bytes ≤ 1000000001 * 1000 := Nat.mul_le_mul (by omega) hbt
    omega
  · intro v' w' hown' hg hnil
    refine h v' w' hown' ?_ (fun e => by have := (hnil.1 e).2; omega)
    refine ((Below.refl base wr).alloc hbase _).grown hg (by simp; omega) ?_
    intro k hk
    exact (hown.lt k hk).1
theorem wpList_append1_int {ops : Array Oper} {rest : List Oper} {o : Oper} {a : Act} {Q : Exit → Act → World → Prop} (T E : Nat) (k : IntKind) (base : Nat) (wr : World) (v : Value) (xs : List Int) (q : Int) (bytes : Nat)
    (hown : OwnInts wr base E k v xs) (s x : Operand) (hgd : o.guard = none) (ho : o.op = .call { callee := .builtin .append, args := #[s, x], argTypes := #[T, T] })
    (ht : P.underlying T = some (.slice E)) (hi : (P.info? E).map (fun i => (i.zero, i.size, i.bytes)) = some (some (.int k 0), 1, bytes)) (hbt : bytes ≤ 1000)
    (hs : a.eval s = v) (hx : a.eval x = .slice (some ⟨wr.heap.size, 0, none⟩) 1 1) (hn : xs.length ≤ 1000000000) (hbase : base ≤ wr.heap.size)
    (h : ∀ v' w', OwnInts w' base E k v' (xs ++ [q]) → Below base wr w' → v' ≠ .slice none 0 0 → wpList P ops Q rest (a.put o.dst v') w') :
    wpList P ops Q (o :: rest) a (wr.alloc (.cells #[.int k q] E)) := by
  refine wpList_append1 T E 1 bytes base wr v xs.length _ [.int k q] hown s x hgd ho (.int k 0) ht hi rfl (by decide) hbt hs hx rfl (by simp [Value.oneCell']) hn hbase ?_
  intro v' w' h1 h2 h3
  refine h v' w' ?_ h2 h3
  unfold OwnInts
  rw [List.length_append, List.map_append]
  exact h1
end

/-- The elements of a slice that is an argument: its value, and each cell. -/
theorem SliceOf.parts {w : World} {k : IntKind} {v : Value} {xs : List Int} (hs : SliceOf w k v xs) :
    ∃ a n cap, v = .slice a n cap ∧ xs.length = n ∧ ∀ i, i < n → ∃ b off q, a = some ⟨b, off, none⟩ ∧ w.cell? ⟨b, off + i, none⟩ = some (.int k q) ∧ xs[i]? = some q := by
  obtain ⟨a, n, cap, rfl, hl, hc⟩ := hs
  refine ⟨_, _, _, rfl, hl, fun i hi => ?_⟩
  obtain ⟨b, off, ha, h⟩ := hc i hi
  exact ⟨b, off, _, ha, h, by simp [show i < xs.length from by omega]⟩
theorem take_snoc' {xs : List Int} {k : Nat} {q : Int} (h : xs[k]? = some q) : xs.take k ++ [q] = xs.take (k + 1) := by
  rw [List.take_add_one, h]; rfl

/-- What the frame of a law tells of a slice of integers. -/
theorem row_slice {k : IntKind} {w : World} {a : Option Addr} {len cap : Nat} {zs : List Int}
    (h : (a = none ∧ len = 0 ∧ cap = 0 ∧ zs = []) ∨ ∃ x, a = some x ∧ len ≤ cap ∧ cap ≤ maxLen ∧ zs.length = cap ∧ (∀ i, i < zs.length → w.cell? (x.add i) = some (.int k (zs.getD i 0))) ∧ ∀ n ∈ zs, (Lit.int k n).wf = true) :
    ∃ xs, SliceOf w k (.slice a len cap) xs ∧ (∀ n ∈ xs, (Lit.int k n).wf = true) ∧ xs.length = len ∧ len ≤ 9223372036854775807 := by
  rcases h with ⟨rfl, rfl, rfl, rfl⟩ | ⟨x, rfl, hl, hm, hz, hc, hw⟩
  · exact ⟨[], sliceOf_nil _ _, by simp, rfl, by omega⟩
  · have hlen : (zs.take len).length = len := by rw [List.length_take]; omega
    refine ⟨zs.take len, ⟨_, _, _, rfl, hlen, fun i hi => ?_⟩, fun n hn => hw n (List.mem_of_mem_take hn), hlen, by unfold maxLen at hm; omega⟩
    have h0 := hc i (by omega)
    have hsp : x.spot = none := by
      have h00 := hc 0 (by omega)
      simpa [Addr.add] using World.cell?_spot h00
    obtain ⟨b, off, spot⟩ := x
    simp only at hsp
    subst hsp
    rw [Go.WideShapes.add_plain] at h0
    refine ⟨b, off, rfl, ?_⟩
    rw [h0]
    simp [hi]
theorem u64s_of {xs : List Int} (h : ∀ n ∈ xs, (Lit.int .u64 n).wf = true) : U64s xs := fun n hn => by
  have h' := h n hn
  simp [Lit.wf, Lit.wf, IntKind.min, IntKind.max, IntKind.signed, IntKind.bits] at h'
  omega
/-- A slice of integers that came in, out of the form's own reading. -/
theorem ints_of_trod {H : Type} {enc : TypeId × Value → H} {P : Program} {w : World} {base t e : Nat} {k : IntKind} {v : Value} {d : DataW H} {p : List MemPlace} (ht : P.underlying t = some (.slice e)) (he : P.underlying e = some (.int k)) (hc : P.cellsOf e = 1)
    (h : DataW.Trod enc P w 0 (fun _ => true) true t v d p) (o : Value.okWide P w .any base t v) :
    ∃ a n cap xs, v = .slice a n cap ∧ SliceOf w k (.slice a n cap) xs ∧ (∀ x ∈ xs, (Lit.int k x).wf = true) ∧ xs.length = n ∧ n ≤ 9223372036854775807 := by
  obtain ⟨a, n, cap, rfl⟩ := Go.WideShapes.okWide_slice ht o
  obtain ⟨fuel, hf⟩ := h
  have hr : ∃ zs : List Int, (a = none ∧ n = 0 ∧ cap = 0 ∧ zs = []) ∨ ∃ x, a = some x ∧ n ≤ cap ∧ cap ≤ maxLen ∧ zs.length = cap ∧ (∀ i, i < zs.length → w.cell? (x.add i) = some (.int k (zs.getD i 0))) ∧ ∀ n ∈ zs, (Lit.int k n).wf = true := by
    rcases Go.ChangeShapes.open_ints ht he hc hf with ⟨hcs, _⟩ | ⟨x, l, c, zs, hcs, _, hl, hm, hz, _, hcell, hwz⟩
    · simp [Value.cells] at hcs
      obtain ⟨rfl, rfl, rfl⟩ := hcs
      exact ⟨[], .inl ⟨rfl, rfl, rfl, rfl⟩⟩
    · simp [Value.cells] at hcs
      obtain ⟨rfl, rfl, rfl⟩ := hcs
      exact ⟨zs, .inr ⟨_, rfl, hl, hm, by simpa using hz, hcell, hwz⟩⟩
  obtain ⟨zs, hr⟩ := hr
  obtain ⟨xs, h1, h2, h3, h4⟩ := row_slice hr
  exact ⟨a, n, cap, xs, rfl, h1, h2, h3, h4⟩
end Go.Proofs.Ytpboinmmhlgdaaa
namespace Go.Proofs.Ytpboinmmhlgdaaa
open Go.RowKit
set_option maxHeartbeats 400000

/-- The cells of a slice that is appended. -/
def SrcOf (w : World) (x : Value) (m size : Nat) (news : List Value) : Prop :=
  ∃ a c, x = .slice a m c ∧ news.length = m * size ∧ (0 < m → ∃ ad, a = some ad ∧ ∀ (j : Nat) (u : Value), news[j]? = some u → w.cell? (ad.add j) = some u)
theorem SliceOf.src {w : World} {k : IntKind} {x : Value} {ys : List Int} (h : SliceOf w k x ys) : SrcOf w x ys.length 1 (ys.map (Value.int k)) := by
  obtain ⟨a, n, c, rfl, rfl, hc⟩ := h
  refine ⟨a, c, rfl, by simp, fun h0 => ?_⟩
  obtain ⟨b, off, rfl, _⟩ := hc 0 h0
  refine ⟨_, rfl, fun j u hu => ?_⟩
  rw [List.getElem?_map] at hu
  cases hj : ys[j]? with
  | none => rw [hj] at hu; cases hu
  | some y =>
    rw [hj] at hu
    have hlt := (List.getElem?_eq_some_iff.1 hj).1
    obtain ⟨b', off', e, h⟩ := hc j hlt
    simp only [Option.some.injEq, Addr.mk.injEq, and_true] at e
    obtain ⟨rfl, rfl⟩ := e
    rw [Go.WideShapes.add_plain, h]
    simp at hu
    simp [hj, hu]
section
variable {P : Program}
theorem run_append_src (w : World) (base T ty E size bytes : Nat) (z : Value) (ht : P.underlying T = some (.slice E)) (hi : (P.info? E).map (fun i => (i.zero, i.size, i.bytes)) = some (some z, size, bytes)) (hzs : z.cells.size = size) (hsz : 0 < size) (hbt : bytes ≤ 1000)
    (v x : Value) (n m : Nat) (xs news : List Value) (hown : w.ownsRow base E size v n xs) (hsrc : SrcOf w x m size news) (h1 : ∀ u ∈ news, u.oneCell' = true) (hn : n + m ≤ 1000000000) (hbase : base ≤ w.heap.size) :
    ∃ v' w', (Builtin.append_ #[T, T] ty #[v, x]).run P w = .ok v' w' ∧ w'.ownsRow base E size v' (n + m) (xs ++ news) ∧ w.grownBy w' v.ownBlock := by
  obtain ⟨i0, hi0, hz0, hz1, hz2⟩ := info_parts hi
  obtain ⟨a, c, rfl, hl, hs⟩ := hsrc
  rcases Nat.eq_zero_or_pos m with h0 | h0
  · subst h0
    have hnews : news = [] := List.length_eq_zero_iff.1 (by rw [hl]; simp)
    subst hnews
    have hfc : (Builtin.firstCells size 0 (.slice a 0 c)).run P w = .ok #[] w := by
      cases a with
      | none => simp [Builtin.firstCells]
      | some ad => exact run_firstCells_some (P := P) w size 0 ad 0 c [] (by simp) (by simp)
    refine ⟨v, w, ?_, by simpa using hown, ⟨rfl, rfl, rfl, Nat.le_refl _, fun _ _ _ => rfl⟩⟩
    rcases hown.2 with ⟨rfl, rfl⟩ | ⟨g, cap, cur, rfl, hb, hg, hnc, _⟩
    · simp [Builtin.append_, run_underlying ht, sizeOf, typeInfo, hi0, hz1, Builtin.lenOf, hfc]
    · simp [Builtin.append_, run_underlying ht, sizeOf, typeInfo, hi0, hz1, Builtin.lenOf, hfc, hnc, storeCells]
  · obtain ⟨ad, rfl, hc⟩ := hs h0
    have hb : (n + m) * bytes ≤ 1000000000 * 1000 := Nat.mul_le_mul hn hbt
    obtain ⟨v', w', h2, h3, h4, _⟩ := run_append_own (P := P) w base T ty E i0 z size bytes ht hi0 hz0 hz1 hz2 hzs hsz v n xs hown ad m c news hl hc h1 (by unfold maxLen; omega) (by omega) hbase
    exact ⟨v', w', h2, h3, h4⟩
/-- What append gives, and the world behind it. -/
def apV (P : Program) (T ty : TypeId) (s x : Value) (w : World) : Value :=
  match (Builtin.append_ #[T, T] ty #[s, x]).run P w with
  | .ok v _ => v
  | .halt _ _ => default
def apW (P : Program) (T ty : TypeId) (s x : Value) (w : World) : World :=
  match (Builtin.append_ #[T, T] ty #[s, x]).run P w with
  | .ok _ w' => w'
  | .halt _ w' => w'
theorem append_is {T ty : TypeId} {s x v' : Value} {w w' : World} (h : (Builtin.append_ #[T, T] ty #[s, x]).run P w = .ok v' w') : apV P T ty s x w = v' ∧ apW P T ty s x w = w' := by
  unfold apV apW; rw [h]; exact ⟨rfl, rfl⟩
theorem wpList_append_src {ops : Array Oper} {rest : List Oper} {o : Oper} {a : Act} {Q : Exit → Act → World → Prop} (T E size bytes : Nat) (base : Nat) (w : World) (v xv : Value) (n m : Nat) (xs news : List Value)
    (hown : w.ownsRow base E size v n xs) (hsrc : SrcOf w xv m size news) (s x : Operand) (hgd : o.guard = none) (ho : o.op = .call { callee := .builtin .append, args := #[s, x], argTypes := #[T, T] })
    (z : Value) (ht : P.underlying T = some (.slice E)) (hi : (P.info? E).map (fun i => (i.zero, i.size, i.bytes)) = some (some z, size, bytes)) (hzs : z.cells.size = size) (hsz : 0 < size) (hbt : bytes ≤ 1000)
    (hs : a.eval s = v) (hx : a.eval x = xv) (h1 : ∀ u ∈ news, u.oneCell' = true) (hn : n + m ≤ 1000000000) (hbase : base ≤ w.heap.size)
    (h : ∀ v' w', w'.ownsRow base E size v' (n + m) (xs ++ news) → w.grownBy w' v.ownBlock → wpList P ops Q rest (a.put o.dst v') w') : wpList P ops Q (o :: rest) a w := by
  obtain ⟨v', w', hr, h2, h3⟩ := run_append_src (P := P) w base T o.type E size bytes z ht hi hzs hsz hbt v xv n m xs news hown hsrc h1 hn hbase
  refine wpList_plain hgd fun _ hK => ?_
  unfold Oper.wp execOp
  simp only [ho, resolve, invoke, builtin, Sem.run_bind, Sem.run_pure, Result.andThen_ok, List.map_toArray, List.map_cons, List.map_nil, hs, hx, hr]
  exact hK _ _ (h v' w' h2 h3)
/-- A copy of a list of integers: append onto nil. -/
theorem wpList_append_copy {ops : Array Oper} {rest : List Oper} {o : Oper} {a : Act} {Q : Exit → Act → World → Prop} (T E : Nat) (k : IntKind) (bytes : Nat) (base : Nat) (w : World) (xv : Value) (ys : List Int)
    (hsrc : SliceOf w k xv ys) (s x : Operand) (hgd : o.guard = none) (ho : o.op = .call { callee := .builtin .append, args := #[s, x], argTypes := #[T, T] })
    (ht : P.underlying T = some (.slice E)) (hi : (P.info? E).map (fun i => (i.zero, i.size, i.bytes)) = some (some (.int k 0), 1, bytes)) (hbt : bytes ≤ 1000)
    (hs : a.eval s = .slice none 0 0) (hx : a.eval x = xv) (hn : ys.length ≤ 1000000000) (hbase : base ≤ w.heap.size)
    (h : ∀ v' w', OwnInts w' base E k v' ys → Below w.heap.size w w' → wpList P ops Q rest (a.put o.dst v') w') : wpList P ops Q (o :: rest) a w := by
  refine wpList_append_src T E 1 bytes base w _ xv 0 ys.length [] _ (World.ownsRow_nil _ _ _ _) hsrc.src s x hgd ho (.int k 0) ht hi rfl (by decide) hbt hs hx ?_ (by omega) hbase ?_
  · intro u hu
    obtain ⟨y, _, rfl⟩ := List.mem_map.1 hu
    rfl
  · intro v' w' h2 h3
    refine h v' w' ?_ ⟨h3.os, h3.tape, h3.output, h3.size, fun k hk => h3.block k hk (by simp [Value.ownBlock])⟩
    unfold OwnInts
    simpa using h2
end
end Go.Proofs.Ytpboinmmhlgdaaa
