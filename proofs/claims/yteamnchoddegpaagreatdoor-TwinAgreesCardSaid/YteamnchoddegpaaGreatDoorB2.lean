/- Base, Map, GraphA: joined by wip/bundle.py. -/
import Derived.Test.YteamnchoddegpaaGreatDoorB1
import Derived.ProofKit
import Derived.WalkKit
import Derived.WalkSpells
import Derived.Maps.Keyed
import Derived.BigQuiet
import Derived.Deep.QuietTactic
import Derived.Deep.RegionHeld3
namespace Go.Proofs.YteamnchoddegpaaGreatDoor
open Go.RowKit
set_option maxHeartbeats 400000
theorem sliceOf_new (w : World) (k : IntKind) (T : TypeId) (xs : List Int) (c : Nat) : SliceOf (w.alloc (.cells (xs.map (Value.int k)).toArray T)) k (.slice (some ⟨w.heap.size, 0, none⟩) xs.length c) xs := by
  refine ⟨_, _, c, rfl, rfl, fun i hi => ⟨w.heap.size, 0, rfl, ?_⟩⟩
  rw [World.cell?_alloc_at _ _ _ _ rfl]
  simp [hi]
theorem sliceOf_nil (w : World) (k : IntKind) : SliceOf w k (.slice none 0 0) [] := ⟨_, _, _, rfl, rfl, fun i hi => by simp at hi⟩
theorem sliceOf_owns {w : World} {base T : Nat} {k : IntKind} {v : Value} {xs : List Int} {n : Nat} (h : w.ownsRow base T 1 v n (xs.map (Value.int k))) : SliceOf w k v xs := by
  have hl := h.1
  have hxl : xs.length = n := by simpa using hl
  rcases h.2 with ⟨rfl, rfl⟩ | ⟨g, cap, cur, rfl, hb, hg, hn, hm, hsz, htake⟩
  · exact ⟨_, _, _, rfl, hxl, fun i hi => by omega⟩
  · refine ⟨_, n, cap, rfl, hxl, fun i hi => ⟨g, 0, rfl, ?_⟩⟩
    rw [cell_of_row w g _ cur T (0, 0) hg]
    have := congrArg (fun l => l[i]?) htake
    simp only [List.getElem?_take, Nat.mul_one, show i < n from by omega, if_true, List.getElem?_map] at this
    rw [Nat.zero_add, ← Array.getElem?_toList, this]
    simp [show i < xs.length from by omega]
theorem Tryz.infoU64 : (Tryz.prog.info? 43).map (fun i => (i.zero, i.size, i.bytes)) = some (some (.int .u64 0), 1, 8) := by kernel_rfl
theorem Tryz.infoI64 : (Tryz.prog.info? 3).map (fun i => (i.zero, i.size, i.bytes)) = some (some (.int .i64 0), 1, 8) := by kernel_rfl
/-- A slice that owns a list of integers. -/
def OwnInts (w : World) (base E : Nat) (k : IntKind) (v : Value) (xs : List Int) : Prop := w.ownsRow base E 1 v xs.length (xs.map (Value.int k))
theorem OwnInts.nil (w : World) (base E : Nat) (k : IntKind) : OwnInts w base E k (.slice none 0 0) [] := World.ownsRow_nil _ _ _ _
theorem OwnInts.slice {w : World} {base E : Nat} {k : IntKind} {v : Value} {xs : List Int} (h : OwnInts w base E k v xs) : SliceOf w k v xs := sliceOf_owns h
/-- Blocks below the heap's size stay as they are: so does an owned row. -/
theorem ownsRow_below {w w' : World} {base e size n : Nat} {v : Value} {xs : List Value} (h : w.ownsRow base e size v n xs) (hb : Below w.heap.size w w') : w'.ownsRow base e size v n xs := by
  refine ⟨h.1, ?_⟩
  rcases h.2 with h2 | ⟨g, cap, cur, hv, hg, hh, r⟩
  · exact .inl h2
  · exact .inr ⟨g, cap, cur, hv, hg, by rw [hb.block g (Array.getElem?_eq_some_iff.1 hh).1]; exact hh, r⟩
theorem OwnInts.below {w w' : World} {base E : Nat} {k : IntKind} {v : Value} {xs : List Int} (h : OwnInts w base E k v xs) (hb : Below w.heap.size w w') : OwnInts w' base E k v xs := ownsRow_below h hb
theorem below_new (w : World) (o : Obj) : Below w.heap.size w (w.alloc o) := (Below.refl _ _).alloc (Nat.le_refl _) o
section
variable {P : Program}
/-- One element is appended to a slice of the call's own, whatever its size. -/
theorem wpList_append1 {ops : Array Oper} {rest : List Oper} {o : Oper} {a : Act} {Q : Exit → Act → World → Prop} (T E size bytes : Nat) (base : Nat) (wr : World) (v : Value) (n : Nat) (xs news : List Value)
    (hown : wr.ownsRow base E size v n xs) (s x : Operand) (hgd : o.guard = none) (ho : o.op = .call { callee := .builtin .append, args := #[s, x], argTypes := #[T, T] })
    (z : Value) (ht : P.underlying T = some (.slice E)) (hi : (P.info? E).map (fun i => (i.zero, i.size, i.bytes)) = some (some z, size, bytes)) (hzs : z.cells.size = size) (hsz : 0 < size) (hbt : bytes ≤ 1000)
    (hs : a.eval s = v) (hx : a.eval x = .slice (some ⟨wr.heap.size, 0, none⟩) 1 1) (hl : news.length = size) (h1 : ∀ u ∈ news, u.oneCell' = true)
    (hn : n ≤ 1000000000) (hbase : base ≤ wr.heap.size)
    (h : ∀ v' w', w'.ownsRow base E size v' (n + 1) (xs ++ news) → Below base wr w' → v' ≠ .slice none 0 0 → wpList P ops Q rest (a.put o.dst v') w') :
    wpList P ops Q (o :: rest) a (wr.alloc (.cells news.toArray E)) := by
  obtain ⟨i0, hi0, hz0, hz1, hz2⟩ := info_parts hi
  refine wpList_append_own _ hgd s x T ho base E i0 z size bytes ht hi0 hz0 hz1 hz2 hzs hsz v n xs hs (hown.alloc _) ⟨wr.heap.size, 0, none⟩ 1 1 news hx (by omega) ?_ h1 ?_ ?_ (by simp; omega) ?_
  · intro j u hj
    have hadd : (⟨wr.heap.size, 0, none⟩ : Addr).add j = ⟨wr.heap.size, j, none⟩ := by unfold Addr.add; split <;> simp_all
    rw [hadd, World.cell?_alloc_at _ _ _ _ rfl]
    simpa using hj
  · unfold maxLen; omega
  · have : (n + 1) * bytes ≤ 1000000001 * 1000 := Nat.mul_le_mul (by omega) hbt
    omega
  · intro v' w' hown' hg hnil
    refine h v' w' hown' ?_ (fun e => by have := (hnil.1 e).2; omega)
    refine ((Below.refl base wr).alloc hbase _).grown hg (by simp; omega) ?_
    intro k hk
    exact (hown.lt k hk).1
theorem wpList_append1_int {ops : Array Oper} {rest : List Oper} {o : Oper} {a : Act} {Q : Exit → Act → World → Prop} (T E : Nat) (k : IntKind) (base : Nat) (wr : World) (v : Value) (xs : List Int) (q : Int) (bytes : Nat)
    (hown : OwnInts wr base E k v xs) (s x : Operand) (hgd : o.guard = none) (ho : o.op = .call { callee := .builtin .append, args := #[s, x], argTypes := #[T, T] })
    (ht : P.underlying T = some (.slice E)) (hi : (P.info? E).map (fun i => (i.zero, i.size, i.bytes)) = some (some (.int k 0), 1, bytes)) (hbt : bytes ≤ 1000)
    (hs : a.eval s = v) (hx : a.eval x = .slice (some ⟨wr.heap.size, 0, none⟩) 1 1) (hn : xs.length ≤ 1000000000) (hbase : base ≤ wr.heap.size)
    (h : ∀ v' w', OwnInts w' base E k v' (xs ++ [q]) → Below base wr w' → v' ≠ .slice none 0 0 → wpList P ops Q rest (a.put o.dst v') w') :
    wpList P ops Q (o :: rest) a (wr.alloc (.cells #[.int k q] E)) := by
  refine wpList_append1 T E 1 bytes base wr v xs.length _ [.int k q] hown s x hgd ho (.int k 0) ht hi rfl (by decide) hbt hs hx rfl (by simp [Value.oneCell']) hn hbase ?_
  intro v' w' h1 h2 h3
  refine h v' w' ?_ h2 h3
  unfold OwnInts
  rw [List.length_append, List.map_append]
  exact h1
end
/-- The elements of a slice that is an argument: its value, and each cell. -/
theorem SliceOf.parts {w : World} {k : IntKind} {v : Value} {xs : List Int} (hs : SliceOf w k v xs) :
    ∃ a n cap, v = .slice a n cap ∧ xs.length = n ∧ ∀ i, i < n → ∃ b off q, a = some ⟨b, off, none⟩ ∧ w.cell? ⟨b, off + i, none⟩ = some (.int k q) ∧ xs[i]? = some q := by
  obtain ⟨a, n, cap, rfl, hl, hc⟩ := hs
  refine ⟨_, _, _, rfl, hl, fun i hi => ?_⟩
  obtain ⟨b, off, ha, h⟩ := hc i hi
  exact ⟨b, off, _, ha, h, by simp [show i < xs.length from by omega]⟩
theorem take_snoc' {xs : List Int} {k : Nat} {q : Int} (h : xs[k]? = some q) : xs.take k ++ [q] = xs.take (k + 1) := by
  rw [List.take_add_one, h]; rfl
theorem copyInts_any (xs : List Int) (v : Value) (w : World) (hs : SliceOf w .i64 v xs) (hn : xs.length ≤ 1000000000) :
    Calls Tryz.prog 62 #[v] w fun e w' => ∃ v', e = .returned v' ∧ OwnInts w' w.heap.size 3 .i64 v' xs ∧ Below w.heap.size w w' := by
  obtain ⟨a, n, cap, rfl, hna, hcell⟩ := hs.parts
  have hn' : n ≤ 1000000000 := by omega
  have Hna := Lib.hid hna; have Hc := Lib.hid hcell; clear hna hcell hs hn
  go_enter Tryz.func62, Tryz.ntmps62
  go_wp2
  go_loopw [3, 4] (fun v i wr => ∃ k : Nat, k ≤ n ∧ i = .int .i64 k ∧ OwnInts wr w.heap.size 3 .i64 v (xs.take k) ∧ Below w.heap.size w wr) (fun _ i _ => n - (intOf i).toNat)
  case atStart => exact ⟨0, by omega, rfl, OwnInts.nil _ _ _ _, Below.refl _ _⟩
  case round =>
    obtain ⟨k, hk, rfl, hown, hb⟩ := hrel
    by_cases hlt : k < n
    · obtain ⟨b, off, q, rfl, hc, hq⟩ := Hc.out k hlt
      have hc' := cell_later hb hc
      have hbl : b < wr.heap.size := World.block_lt_of_cell? _ _ hc'
      have hbs := hb.size
      have Hq := Lib.hid hq
      have hl : (xs.take k).length ≤ 1000000000 := by have := List.length_take_le k xs; omega
      clear hc hq
      go_wp2_with (at_builtin; refine wpList_append1_int 24 3 .i64 w.heap.size wr _ (xs.take k) q 8 hown _ _ rfl rfl Tryz.underlying24 Tryz.infoI64 (by decide) rfl rfl hl hbs ?_; intro v' w' hown' hb' hv')
      go_roundw
      case rel => exact ⟨k + 1, by omega, by go_num, by rw [← take_snoc' Hq.out]; exact hown', hb.trans hb'⟩
      case measure => simp [intOf]; omega
    · go_wp2
      go_ret
      obtain rfl : k = n := by omega
      exact ⟨_, rfl, by rw [← Hna.out, List.take_length] at hown; exact hown, hb⟩
/-- What the frame of a law tells of a slice of integers. -/
theorem row_slice {k : IntKind} {w : World} {a : Option Addr} {len cap : Nat} {zs : List Int}
    (h : (a = none ∧ len = 0 ∧ cap = 0 ∧ zs = []) ∨ ∃ x, a = some x ∧ len ≤ cap ∧ cap ≤ maxLen ∧ zs.length = cap ∧ (∀ i, i < zs.length → w.cell? (x.add i) = some (.int k (zs.getD i 0))) ∧ ∀ n ∈ zs, (Lit.int k n).wf = true) :
    ∃ xs, SliceOf w k (.slice a len cap) xs ∧ (∀ n ∈ xs, (Lit.int k n).wf = true) ∧ xs.length = len ∧ len ≤ 9223372036854775807 := by
  rcases h with ⟨rfl, rfl, rfl, rfl⟩ | ⟨x, rfl, hl, hm, hz, hc, hw⟩
  · exact ⟨[], sliceOf_nil _ _, by simp, rfl, by omega⟩
  · have hlen : (zs.take len).length = len := by rw [List.length_take]; omega
    refine ⟨zs.take len, ⟨_, _, _, rfl, hlen, fun i hi => ?_⟩, fun n hn => hw n (List.mem_of_mem_take hn), hlen, by unfold maxLen at hm; omega⟩
    have h0 := hc i (by omega)
    have hsp : x.spot = none := by
      have h00 := hc 0 (by omega)
      simpa [Addr.add] using World.cell?_spot h00
    obtain ⟨b, off, spot⟩ := x
    simp only at hsp
    subst hsp
    rw [Go.WideShapes.add_plain] at h0
    refine ⟨b, off, rfl, ?_⟩
    rw [h0]
    simp [hi]
theorem u64s_of {xs : List Int} (h : ∀ n ∈ xs, (Lit.int .u64 n).wf = true) : U64s xs := fun n hn => by
  have h' := h n hn
  simp [Lit.wf, Lit.wf, IntKind.min, IntKind.max, IntKind.signed, IntKind.bits] at h'
  omega
/-- A slice of integers that came in, out of the form's own reading. -/
theorem ints_of_trod {H : Type} {enc : TypeId × Value → H} {P : Program} {w : World} {base t e : Nat} {k : IntKind} {v : Value} {d : DataW H} {p : List MemPlace} (ht : P.underlying t = some (.slice e)) (he : P.underlying e = some (.int k)) (hc : P.cellsOf e = 1)
    (h : DataW.Trod enc P w 0 (fun _ => true) true t v d p) (o : Value.okWide P w .any base t v) :
    ∃ a n cap xs, v = .slice a n cap ∧ SliceOf w k (.slice a n cap) xs ∧ (∀ x ∈ xs, (Lit.int k x).wf = true) ∧ xs.length = n ∧ n ≤ 9223372036854775807 := by
  obtain ⟨a, n, cap, rfl⟩ := Go.WideShapes.okWide_slice ht o
  obtain ⟨fuel, hf⟩ := h
  have hr : ∃ zs : List Int, (a = none ∧ n = 0 ∧ cap = 0 ∧ zs = []) ∨ ∃ x, a = some x ∧ n ≤ cap ∧ cap ≤ maxLen ∧ zs.length = cap ∧ (∀ i, i < zs.length → w.cell? (x.add i) = some (.int k (zs.getD i 0))) ∧ ∀ n ∈ zs, (Lit.int k n).wf = true := by
    rcases Go.ChangeShapes.open_ints ht he hc hf with ⟨hcs, _⟩ | ⟨x, l, c, zs, hcs, _, hl, hm, hz, _, hcell, hwz⟩
    · simp [Value.cells] at hcs
      obtain ⟨rfl, rfl, rfl⟩ := hcs
      exact ⟨[], .inl ⟨rfl, rfl, rfl, rfl⟩⟩
    · simp [Value.cells] at hcs
      obtain ⟨rfl, rfl, rfl⟩ := hcs
      exact ⟨zs, .inr ⟨_, rfl, hl, hm, by simpa using hz, hcell, hwz⟩⟩
  obtain ⟨zs, hr⟩ := hr
  obtain ⟨xs, h1, h2, h3, h4⟩ := row_slice hr
  exact ⟨a, n, cap, xs, rfl, h1, h2, h3, h4⟩
end Go.Proofs.YteamnchoddegpaaGreatDoor
namespace Go.Proofs.YteamnchoddegpaaGreatDoor
open Go.RowKit
set_option maxHeartbeats 400000
/-- The cells of a slice that is appended. -/
def SrcOf (w : World) (x : Value) (m size : Nat) (news : List Value) : Prop :=
  ∃ a c, x = .slice a m c ∧ news.length = m * size ∧ (0 < m → ∃ ad, a = some ad ∧ ∀ (j : Nat) (u : Value), news[j]? = some u → w.cell? (ad.add j) = some u)
theorem SliceOf.src {w : World} {k : IntKind} {x : Value} {ys : List Int} (h : SliceOf w k x ys) : SrcOf w x ys.length 1 (ys.map (Value.int k)) := by
  obtain ⟨a, n, c, rfl, rfl, hc⟩ := h
  refine ⟨a, c, rfl, by simp, fun h0 => ?_⟩
  obtain ⟨b, off, rfl, _⟩ := hc 0 h0
  refine ⟨_, rfl, fun j u hu => ?_⟩
  rw [List.getElem?_map] at hu
  cases hj : ys[j]? with
  | none => rw [hj] at hu; cases hu
  | some y =>
    rw [hj] at hu
    have hlt := (List.getElem?_eq_some_iff.1 hj).1
    obtain ⟨b', off', e, h⟩ := hc j hlt
    simp only [Option.some.injEq, Addr.mk.injEq, and_true] at e
    obtain ⟨rfl, rfl⟩ := e
    rw [Go.WideShapes.add_plain, h]
    simp at hu
    simp [hj, hu]
section
variable {P : Program}
theorem run_append_src (w : World) (base T ty E size bytes : Nat) (z : Value) (ht : P.underlying T = some (.slice E)) (hi : (P.info? E).map (fun i => (i.zero, i.size, i.bytes)) = some (some z, size, bytes)) (hzs : z.cells.size = size) (hsz : 0 < size) (hbt : bytes ≤ 1000)
    (v x : Value) (n m : Nat) (xs news : List Value) (hown : w.ownsRow base E size v n xs) (hsrc : SrcOf w x m size news) (h1 : ∀ u ∈ news, u.oneCell' = true) (hn : n + m ≤ 1000000000) (hbase : base ≤ w.heap.size) :
    ∃ v' w', (Builtin.append_ #[T, T] ty #[v, x]).run P w = .ok v' w' ∧ w'.ownsRow base E size v' (n + m) (xs ++ news) ∧ w.grownBy w' v.ownBlock := by
  obtain ⟨i0, hi0, hz0, hz1, hz2⟩ := info_parts hi
  obtain ⟨a, c, rfl, hl, hs⟩ := hsrc
  rcases Nat.eq_zero_or_pos m with h0 | h0
  · subst h0
    have hnews : news = [] := List.length_eq_zero_iff.1 (by rw [hl]; simp)
    subst hnews
    have hfc : (Builtin.firstCells size 0 (.slice a 0 c)).run P w = .ok #[] w := by
      cases a with
      | none => simp [Builtin.firstCells]
      | some ad => exact run_firstCells_some (P := P) w size 0 ad 0 c [] (by simp) (by simp)
    refine ⟨v, w, ?_, by simpa using hown, ⟨rfl, rfl, rfl, Nat.le_refl _, fun _ _ _ => rfl⟩⟩
    rcases hown.2 with ⟨rfl, rfl⟩ | ⟨g, cap, cur, rfl, hb, hg, hnc, _⟩
    · simp [Builtin.append_, run_underlying ht, sizeOf, typeInfo, hi0, hz1, Builtin.lenOf, hfc]
    · simp [Builtin.append_, run_underlying ht, sizeOf, typeInfo, hi0, hz1, Builtin.lenOf, hfc, hnc, storeCells]
  · obtain ⟨ad, rfl, hc⟩ := hs h0
    have hb : (n + m) * bytes ≤ 1000000000 * 1000 := Nat.mul_le_mul hn hbt
    obtain ⟨v', w', h2, h3, h4, _⟩ := run_append_own (P := P) w base T ty E i0 z size bytes ht hi0 hz0 hz1 hz2 hzs hsz v n xs hown ad m c news hl hc h1 (by unfold maxLen; omega) (by omega) hbase
    exact ⟨v', w', h2, h3, h4⟩
theorem wpList_append_src {ops : Array Oper} {rest : List Oper} {o : Oper} {a : Act} {Q : Exit → Act → World → Prop} (T E size bytes : Nat) (base : Nat) (w : World) (v xv : Value) (n m : Nat) (xs news : List Value)
    (hown : w.ownsRow base E size v n xs) (hsrc : SrcOf w xv m size news) (s x : Operand) (hgd : o.guard = none) (ho : o.op = .call { callee := .builtin .append, args := #[s, x], argTypes := #[T, T] })
    (z : Value) (ht : P.underlying T = some (.slice E)) (hi : (P.info? E).map (fun i => (i.zero, i.size, i.bytes)) = some (some z, size, bytes)) (hzs : z.cells.size = size) (hsz : 0 < size) (hbt : bytes ≤ 1000)
    (hs : a.eval s = v) (hx : a.eval x = xv) (h1 : ∀ u ∈ news, u.oneCell' = true) (hn : n + m ≤ 1000000000) (hbase : base ≤ w.heap.size)
    (h : ∀ v' w', w'.ownsRow base E size v' (n + m) (xs ++ news) → w.grownBy w' v.ownBlock → wpList P ops Q rest (a.put o.dst v') w') : wpList P ops Q (o :: rest) a w := by
  obtain ⟨v', w', hr, h2, h3⟩ := run_append_src (P := P) w base T o.type E size bytes z ht hi hzs hsz hbt v xv n m xs news hown hsrc h1 hn hbase
  refine wpList_plain hgd fun _ hK => ?_
  unfold Oper.wp execOp
  simp only [ho, resolve, invoke, builtin, Sem.run_bind, Sem.run_pure, Result.andThen_ok, List.map_toArray, List.map_cons, List.map_nil, hs, hx, hr]
  exact hK _ _ (h v' w' h2 h3)
/-- A copy of a list of integers: append onto nil. -/
theorem wpList_append_copy {ops : Array Oper} {rest : List Oper} {o : Oper} {a : Act} {Q : Exit → Act → World → Prop} (T E : Nat) (k : IntKind) (bytes : Nat) (base : Nat) (w : World) (xv : Value) (ys : List Int)
    (hsrc : SliceOf w k xv ys) (s x : Operand) (hgd : o.guard = none) (ho : o.op = .call { callee := .builtin .append, args := #[s, x], argTypes := #[T, T] })
    (ht : P.underlying T = some (.slice E)) (hi : (P.info? E).map (fun i => (i.zero, i.size, i.bytes)) = some (some (.int k 0), 1, bytes)) (hbt : bytes ≤ 1000)
    (hs : a.eval s = .slice none 0 0) (hx : a.eval x = xv) (hn : ys.length ≤ 1000000000) (hbase : base ≤ w.heap.size)
    (h : ∀ v' w', OwnInts w' base E k v' ys → Below w.heap.size w w' → wpList P ops Q rest (a.put o.dst v') w') : wpList P ops Q (o :: rest) a w := by
  refine wpList_append_src T E 1 bytes base w _ xv 0 ys.length [] _ (World.ownsRow_nil _ _ _ _) hsrc.src s x hgd ho (.int k 0) ht hi rfl (by decide) hbt hs hx ?_ (by omega) hbase ?_
  · intro u hu
    obtain ⟨y, _, rfl⟩ := List.mem_map.1 hu
    rfl
  · intro v' w' h2 h3
    refine h v' w' ?_ ⟨h3.os, h3.tape, h3.output, h3.size, fun k hk => h3.block k hk (by simp [Value.ownBlock])⟩
    unfold OwnInts
    simpa using h2
end
end Go.Proofs.YteamnchoddegpaaGreatDoor
namespace Go.Proofs.YteamnchoddegpaaGreatDoor
open Go.RowKit Go.Maps
set_option maxHeartbeats 400000
/-- Block mb is a map of these pairs. -/
def MapIs (P : Program) (K : TypeId) (w : World) (mb : Nat) (m : List (Value × Value)) : Prop :=
  ∃ es clock, w.heap[mb]? = some (.map es clock) ∧ (∀ e ∈ es.toList, ∃ l, keyOf P K e.key = some l) ∧ (es.toList.map fun e => (e.key, e.val)).Perm m ∧
    (m.map (·.1)).Nodup ∧ (es.toList.map (·.born)).Nodup ∧ ∀ e ∈ es.toList, e.born < clock
section
variable {P : Program} {K : TypeId} {w : World} {mb : Nat} {m : List (Value × Value)}
theorem MapIs.block {w' : World} (h : MapIs P K w mb m) (hb : w'.heap[mb]? = w.heap[mb]?) : MapIs P K w' mb m := by
  obtain ⟨es, c, h1, h2⟩ := h
  exact ⟨es, c, by rw [hb, h1], h2⟩
theorem MapIs.lt (h : MapIs P K w mb m) : mb < w.heap.size := by
  obtain ⟨es, c, h1, h2⟩ := h
  exact (Array.getElem?_eq_some_iff.1 h1).1
theorem MapIs.below {w' : World} (h : MapIs P K w mb m) (hb : Below w.heap.size w w') : MapIs P K w' mb m := h.block (hb.block _ h.lt)
theorem MapIs.new (w : World) : MapIs P K (w.alloc (.map #[] 0)) w.heap.size [] :=
  ⟨#[], 0, heap_alloc_new w _, by simp, by simp, by simp, by simp, by simp⟩
theorem pair_unique {k v v' : Value} : ∀ {m : List (Value × Value)}, (m.map (·.1)).Nodup → (k, v) ∈ m → (k, v') ∈ m → v = v' := by
  intro m
  induction m with
  | nil => intro _ h; cases h
  | cons p m ih =>
    intro hn h h'
    simp only [List.map_cons, List.nodup_cons] at hn
    rcases List.mem_cons.1 h with h1 | h1 <;> rcases List.mem_cons.1 h' with h2 | h2
    · rw [← h1] at h2; exact ((Prod.mk.inj h2).2).symm
    · exact absurd (List.mem_map.2 ⟨_, h2, by rw [← h1]⟩) hn.1
    · exact absurd (List.mem_map.2 ⟨_, h1, by rw [← h2]⟩) hn.1
    · exact ih hn.2 h1 h2
/-- A key that is there. -/
theorem MapIs.lookup_hit {T E : TypeId} (h : MapIs P K w mb m) (KL : Keyed P K) (hT : P.underlying T = some (.map K E)) {k v : Value} {l : Lit} (hk : keyOf P K k = some l) (hm : (k, v) ∈ m) (c : Bool) :
    (Instr.lookup T (.map (some mb)) k c).run P w = .ok (if c then .tuple #[v, .bool true] else v) w := by
  obtain ⟨es, clock, h1, h2, h3, h4, h5, h6⟩ := h
  rcases KL.find w hk es.toList h2 with ⟨_, hno⟩ | ⟨j, e, hf, hj, hek⟩
  · obtain ⟨e, he, hee⟩ := List.mem_map.1 (h3.mem_iff.2 hm)
    exact absurd (Prod.mk.inj hee).1 (hno e he)
  · have hv : e.val = v := pair_unique h4 (h3.mem_iff.1 (List.mem_map.2 ⟨e, List.mem_of_getElem? hj, by rw [hek]⟩)) hm
    cases c <;> simp [Instr.lookup, run_underlying hT, MapKept.run_getObj_map h1, KL.check w _ hk, hf, Result.andThen, hv]
/-- A key that is not there. -/
theorem MapIs.lookup_miss {T E : TypeId} (h : MapIs P K w mb m) (KL : Keyed P K) (hT : P.underlying T = some (.map K E)) {z : Value} (hz : (zeroValue E).run P w = .ok z w) {k : Value} {l : Lit} (hk : keyOf P K k = some l) (hm : ∀ v, (k, v) ∉ m) (c : Bool) :
    (Instr.lookup T (.map (some mb)) k c).run P w = .ok (if c then .tuple #[z, .bool false] else z) w := by
  obtain ⟨es, clock, h1, h2, h3, h4, h5, h6⟩ := h
  rcases KL.find w hk es.toList h2 with ⟨hf, hno⟩ | ⟨j, e, hf, hj, hek⟩
  · cases c <;> simp [Instr.lookup, run_underlying hT, MapKept.run_getObj_map h1, KL.check w _ hk, hf, hz, Result.andThen]
  · exact absurd (h3.mem_iff.1 (List.mem_map.2 ⟨e, List.mem_of_getElem? hj, by rw [hek]⟩)) (hm e.val)
end
/-- The world behind 'm[k] = v'. -/
def mapW (P : Program) (T : TypeId) (mb : Nat) (k v : Value) (w : World) : World :=
  match (Instr.mapUpdate T (.map (some mb)) k v).run P w with
  | .ok _ w' => w'
  | .halt _ w' => w'
/-- w' is w but for block b. -/
structure But (b : Nat) (w w' : World) : Prop where
  os : w'.os = w.os
  tape : w'.tape = w.tape
  output : w'.output = w.output
  size : w'.heap.size = w.heap.size
  block : ∀ k, k ≠ b → w'.heap[k]? = w.heap[k]?
theorem But.set (b : Nat) (w : World) (o : Obj) : But b w { w with heap := w.heap.setIfInBounds b o } :=
  ⟨rfl, rfl, rfl, by simp, fun k hk => by simp [Ne.symm hk]⟩
theorem But.cell {b : Nat} {w w' : World} (h : But b w w') {a : Addr} (ha : a.block ≠ b) : w'.cell? a = w.cell? a := World.cell?_of_block (h.block _ ha)
theorem But.frozen {b : Nat} {w w' : World} (h : But b w w') {a : Addr} (ha : a.block ≠ b) : w'.frozen? a = w.frozen? a := World.frozen?_of_block (h.block _ ha)
theorem But.below {b B : Nat} {w0 w w' : World} (h : But b w w') (hb : B ≤ b) (h0 : Below B w0 w) : Below B w0 w' :=
  h0.trans ⟨h.os, h.tape, h.output, by rw [h.size]; exact Nat.le_refl _, fun k hk => h.block k (by omega)⟩
section
variable {P : Program} {K : TypeId} {w : World} {mb : Nat} {m : List (Value × Value)}
theorem MapIs.put_new {T E : TypeId} (h : MapIs P K w mb m) (KL : Keyed P K) (hT : P.underlying T = some (.map K E)) {k : Value} {l : Lit} (hk : keyOf P K k = some l) (hm : ∀ v, (k, v) ∉ m) (v : Value) :
    (Instr.mapUpdate T (.map (some mb)) k v).run P w = .ok () (mapW P T mb k v w) ∧ MapIs P K (mapW P T mb k v w) mb (m ++ [(k, v)]) ∧ But mb w (mapW P T mb k v w) := by
  obtain ⟨es, clock, h1, h2, h3, h4, h5, h6⟩ := h
  rcases KL.find w hk es.toList h2 with ⟨hf, hno⟩ | ⟨j, e, hf, hj, hek⟩
  · have hr : (Instr.mapUpdate T (.map (some mb)) k v).run P w = .ok () { w with heap := w.heap.setIfInBounds mb (.map (es.push ⟨k, v, clock⟩) (clock + 1)) } := by
      simp [Instr.mapUpdate, run_underlying hT, MapKept.run_getObj_map h1, KL.check w _ hk, hf, MapKept.run_setObj_map _ h1, Result.andThen]
    have hw : mapW P T mb k v w = { w with heap := w.heap.setIfInBounds mb (.map (es.push ⟨k, v, clock⟩) (clock + 1)) } := by unfold mapW; rw [hr]
    rw [hw]
    refine ⟨hr, ⟨es.push ⟨k, v, clock⟩, clock + 1, ?_, ?_, ?_, ?_, ?_, ?_⟩, But.set _ _ _⟩
    · have := (Array.getElem?_eq_some_iff.1 h1).1
      simp [this]
    · intro e he
      simp only [Array.toList_push, List.mem_append, List.mem_singleton] at he
      rcases he with he | rfl
      · exact h2 e he
      · exact ⟨l, hk⟩
    · simp only [Array.toList_push, List.map_append, List.map_cons, List.map_nil]
      exact h3.append_right _
    · rw [List.map_append, List.nodup_append]
      refine ⟨h4, by simp, ?_⟩
      intro a ha b hb hab
      simp at hb
      subst hb
      subst hab
      obtain ⟨p, hp, hp2⟩ := List.mem_map.1 ha
      exact hm p.2 (by rw [← hp2]; exact hp)
    · simp only [Array.toList_push, List.map_append, List.map_cons, List.map_nil, List.nodup_append]
      refine ⟨h5, by simp, ?_⟩
      intro a ha b hb hab
      simp at hb
      obtain ⟨e, he, rfl⟩ := List.mem_map.1 ha
      have := h6 e he
      omega
    · intro e he
      simp only [Array.toList_push, List.mem_append, List.mem_singleton] at he
      rcases he with he | rfl
      · have := h6 e he; omega
      · simp
  · exact absurd (h3.mem_iff.1 (List.mem_map.2 ⟨e, List.mem_of_getElem? hj, by rw [hek]⟩)) (hm e.val)
theorem MapIs.len {T E : TypeId} (h : MapIs P K w mb m) (hT : P.underlying T = some (.map K E)) (ty : TypeId) : (Builtin.len_ #[T] ty #[.map (some mb)]).run P w = .ok (.int .i64 m.length) w := by
  obtain ⟨es, clock, h1, h2, h3, h4, h5, h6⟩ := h
  have hl : es.size = m.length := by have := h3.length_eq; simpa using this
  simp [Builtin.len_, run_underlying hT, MapKept.run_getObj_map h1, goInt, hl]
end
end Go.Proofs.YteamnchoddegpaaGreatDoor
namespace Go.Proofs.YteamnchoddegpaaGreatDoor
open Go.RowKit Go.Maps
set_option maxHeartbeats 400000
/-- A slice in a block of ints reads as a list. -/
def IntsAt (w : World) (v : Value) (xs : List Int) : Prop :=
  ∃ a n cap, v = .slice a n cap ∧ xs.length = n ∧ (0 < n → ∃ b off arr fr, a = some ⟨b, off, none⟩ ∧ w.heap[b]? = some (.cells arr 3 fr) ∧ ∀ i, i < n → arr[off + i]? = some (.int .i64 (xs.getD i 0)))
theorem IntsAt.slice {w : World} {v : Value} {xs : List Int} (h : IntsAt w v xs) : SliceOf w .i64 v xs := by
  obtain ⟨a, n, cap, rfl, hl, hc⟩ := h
  refine ⟨a, n, cap, rfl, hl, fun i hi => ?_⟩
  obtain ⟨b, off, arr, fr, rfl, hh, hg⟩ := hc (by omega)
  exact ⟨b, off, rfl, by rw [cell_of_row w b _ arr _ fr hh]; exact hg i hi⟩
theorem IntsAt.nil (w : World) : IntsAt w (.slice none 0 0) [] := ⟨_, _, _, rfl, rfl, fun h => by omega⟩
theorem IntsAt.ints {w w' : World} {v : Value} {xs : List Int} (h : IntsAt w v xs) (hw : ∀ (k : Nat) (arr : Array Value) (fr : Nat × Nat), w.heap[k]? = some (Obj.cells arr 3 fr) → w'.heap[k]? = w.heap[k]?) : IntsAt w' v xs := by
  obtain ⟨a, n, cap, rfl, hl, hc⟩ := h
  refine ⟨a, n, cap, rfl, hl, fun hn => ?_⟩
  obtain ⟨b, off, arr, fr, rfl, hh, hg⟩ := hc hn
  exact ⟨b, off, arr, fr, rfl, by rw [hw b arr fr hh, hh], hg⟩
theorem IntsAt.own {w w' : World} {v : Value} {xs : List Int} (h : IntsAt w v xs) (hw : ∀ k, v.ownBlock = some k → w'.heap[k]? = w.heap[k]?) : IntsAt w' v xs := by
  obtain ⟨a, n, cap, rfl, hl, hc⟩ := h
  refine ⟨a, n, cap, rfl, hl, fun hn => ?_⟩
  obtain ⟨b, off, arr, fr, rfl, hh, hg⟩ := hc hn
  exact ⟨b, off, arr, fr, rfl, by rw [hw b rfl, hh], hg⟩
theorem IntsAt.below {w w' : World} {v : Value} {xs : List Int} (h : IntsAt w v xs) (hb : Below w.heap.size w w') : IntsAt w' v xs :=
  h.ints fun k _ _ hk => hb.block k (Array.getElem?_eq_some_iff.1 hk).1
theorem intsAt_owns {w : World} {base : Nat} {v : Value} {xs : List Int} (h : OwnInts w base 3 .i64 v xs) : IntsAt w v xs := by
  rcases h.2 with ⟨rfl, h0⟩ | ⟨g, cap, cur, rfl, hb, hg, hn, hm, hsz, htake⟩
  · exact ⟨none, _, 0, rfl, h0, fun h => by omega⟩
  · refine ⟨_, _, cap, rfl, rfl, fun _ => ⟨g, 0, cur, (0, 0), rfl, hg, fun i hi => ?_⟩⟩
    have := congrArg (fun l => l[i]?) htake
    simp only [List.getElem?_take, Nat.mul_one, hi, if_true, List.getElem?_map] at this
    rw [Nat.zero_add, ← Array.getElem?_toList, this]
    simp [hi]
/-- A block of ints. -/
def IntBlk (w : World) (k : Nat) : Prop := ∃ (arr : Array Value) (fr : Nat × Nat), w.heap[k]? = some (Obj.cells arr 3 fr)
theorem IntBlk.lt {w : World} {k : Nat} (h : IntBlk w k) : k < w.heap.size := by
  obtain ⟨arr, fr, h⟩ := h
  exact (Array.getElem?_eq_some_iff.1 h).1
theorem IntBlk.of {w w' : World} {k : Nat} (h : IntBlk w k) (hk : w'.heap[k]? = w.heap[k]?) : IntBlk w' k := by
  obtain ⟨arr, fr, h⟩ := h
  exact ⟨arr, fr, hk.trans h⟩
/-- Three cells a node. -/
def NodeRow (w : World) (I : List Nat) (cells : List Value) (L : List PNode) : Prop :=
  cells.length = L.length * 3 ∧ ∀ (i : Nat) (n : PNode), L[i]? = some n → ∃ va, cells[3 * i]? = some (.int .u8 n.1) ∧ cells[3 * i + 1]? = some (.int .u64 n.2.1) ∧ cells[3 * i + 2]? = some va ∧ IntsAt w va n.2.2 ∧ ∀ k, va.ownBlock = some k → k ∈ I ∧ IntBlk w k
theorem NodeRow.nil (w : World) (I : List Nat) : NodeRow w I [] [] := ⟨rfl, fun i n h => by simp at h⟩
theorem NodeRow.keep {w w' : World} {I : List Nat} {cells : List Value} {L : List PNode} (h : NodeRow w I cells L) (hw : ∀ k, k ∈ I → IntBlk w k → w'.heap[k]? = w.heap[k]?) : NodeRow w' I cells L := by
  refine ⟨h.1, fun i n hn => ?_⟩
  obtain ⟨va, h1, h2, h3, h4, h5⟩ := h.2 i n hn
  exact ⟨va, h1, h2, h3, h4.own fun k hk => hw k (h5 k hk).1 (h5 k hk).2, fun k hk => ⟨(h5 k hk).1, (h5 k hk).2.of (hw k (h5 k hk).1 (h5 k hk).2)⟩⟩
theorem NodeRow.snoc {w : World} {I : List Nat} {cells : List Value} {L : List PNode} (h : NodeRow w I cells L) {n : PNode} {va : Value} (hv : IntsAt w va n.2.2) (hb : ∀ k, va.ownBlock = some k → IntBlk w k) : NodeRow w (va.ownBlock.toList ++ I) (cells ++ [.int .u8 n.1, .int .u64 n.2.1, va]) (L ++ [n]) := by
  refine ⟨by rw [List.length_append, List.length_append, h.1]; simp; omega, fun i m hm => ?_⟩
  rcases Nat.lt_or_ge i L.length with hl | hl
  · rw [List.getElem?_append_left hl] at hm
    obtain ⟨vb, h1, h2, h3, h4, h5⟩ := h.2 i m hm
    have hc := h.1
    exact ⟨vb, by rw [List.getElem?_append_left (by omega)]; exact h1, by rw [List.getElem?_append_left (by omega)]; exact h2, by rw [List.getElem?_append_left (by omega)]; exact h3, h4, fun k hk => ⟨List.mem_append_right _ (h5 k hk).1, (h5 k hk).2⟩⟩
  · rw [List.getElem?_append_right hl] at hm
    have h0 : i - L.length = 0 := by
      rcases Nat.eq_zero_or_pos (i - L.length) with h0 | h0
      · exact h0
      · rw [List.getElem?_eq_none (by simp; omega)] at hm; cases hm
    rw [h0] at hm
    simp at hm; subst hm
    have hi : i = L.length := by omega
    subst hi
    have hc := h.1
    refine ⟨va, ?_, ?_, ?_, hv, fun k hk => ⟨List.mem_append_left _ (by simp [hk]), hb k hk⟩⟩
    · rw [List.getElem?_append_right (by omega), show 3 * L.length - cells.length = 0 from by omega]; rfl
    · rw [List.getElem?_append_right (by omega), show 3 * L.length + 1 - cells.length = 1 from by omega]; rfl
    · rw [List.getElem?_append_right (by omega), show 3 * L.length + 2 - cells.length = 2 from by omega]; rfl
def keyV (n : PNode) : Value := .agg #[.int .u8 n.1, .int .u64 n.2.1, .int .i64 (n.2.2.getD 0 0), .int .i64 (n.2.2.getD 1 0), .int .i64 (n.2.2.getD 2 0)]
/-- The pairs of a graph's map. -/
def gm (L : List PNode) : List (Value × Value) := L.zipIdx.map fun p => (keyV p.1, Value.int .i64 p.2)
theorem keyV_inj {n m : PNode} (hn : NodeOk n) (hm : NodeOk m) (h : keyV n = keyV m) : n = m := by
  obtain ⟨o, k, l⟩ := n
  obtain ⟨o', k', l'⟩ := m
  simp only [keyV, Value.agg.injEq] at h
  have h' := Array.toList_inj.2 h
  simp only [List.cons.injEq, Value.int.injEq, true_and, and_true] at h'
  obtain ⟨h1, h2, h3, h4, h5⟩ := h'
  have e1 : o = o' := by omega
  have e2 : k = k' := by omega
  subst e1; subst e2
  have e3 : l = l' := by
    have hl : l.length = l'.length := hn.2.2.trans hm.2.2.symm
    have hle : l.length ≤ 3 := by rw [hn.2.2]; exact aryN_le o
    match l, l', hl, hle with
    | [], [], _, _ => rfl
    | [a], [b], _, _ => simpa using h3
    | [a, a'], [b, b'], _, _ => simp at h3 h4; simp [h3, h4]
    | [a, a', a''], [b, b', b''], _, _ => simp at h3 h4 h5; simp [h3, h4, h5]
    | _ :: _ :: _ :: _ :: _, _, _, h => simp at h
  subst e3
  rfl
theorem mem_gm {L : List PNode} {k v : Value} (h : (k, v) ∈ gm L) : ∃ (i : Nat) (n : PNode), L[i]? = some n ∧ k = keyV n ∧ v = .int .i64 i := by
  obtain ⟨p, hp, he⟩ := List.mem_map.1 h
  have := List.mem_zipIdx_iff_getElem?.1 hp
  exact ⟨p.2, p.1, this, (Prod.mk.inj he).1.symm, (Prod.mk.inj he).2.symm⟩
theorem gm_mem {L : List PNode} {i : Nat} {n : PNode} (h : L[i]? = some n) : (keyV n, Value.int .i64 i) ∈ gm L :=
  List.mem_map.2 ⟨(n, i), List.mem_zipIdx_iff_getElem?.2 h, rfl⟩
theorem gm_snoc (L : List PNode) (n : PNode) : gm (L ++ [n]) = gm L ++ [(keyV n, .int .i64 L.length)] := by
  simp [gm, List.zipIdx_append]
/-- A pointer leads to a graph: its width, room and nodes; F: the blocks that a call of the graph may write. -/
structure Gr (w : World) (base : Nat) (F I : List Nat) (gb W room : Nat) (L : List PNode) : Prop where
  wf : WFL L
  len : L.length ≤ room
  w1 : 1 ≤ W
  w2 : W ≤ 64
  r2 : room ≤ 1048576
  mem : ∃ sv mb cells, F = gb :: mb :: sv.ownBlock.toList ∧ base ≤ gb ∧ base ≤ mb ∧
    w.heap[gb]? = some (.cells #[.int .i64 W, .int .i64 room, sv, .map (some mb)] 102 (0, 0)) ∧
    w.ownsRow base 88 3 sv L.length cells ∧ NodeRow w I cells L ∧ MapIs Tryz.prog 145 w mb (gm L)
/-- Only the blocks of F may have turned. -/
structure Touch (F : List Nat) (w w' : World) : Prop where
  os : w'.os = w.os
  tape : w'.tape = w.tape
  output : w'.output = w.output
  size : w.heap.size ≤ w'.heap.size
  block : ∀ k, k < w.heap.size → k ∉ F → w'.heap[k]? = w.heap[k]?
theorem Touch.refl (F : List Nat) (w : World) : Touch F w w := ⟨rfl, rfl, rfl, Nat.le_refl _, fun _ _ _ => rfl⟩
theorem Touch.trans {F F' : List Nat} {a b c : World} (h : Touch F a b) (h' : Touch F' b c) (hF : ∀ k, k ∈ F' → k ∈ F ∨ a.heap.size ≤ k) : Touch F a c :=
  ⟨h'.os.trans h.os, h'.tape.trans h.tape, h'.output.trans h.output, Nat.le_trans h.size h'.size, fun k hk hn => by
    have hm : k ∉ F' := fun hm => (hF k hm).elim hn (fun h1 => by omega)
    rw [h'.block k (Nat.lt_of_lt_of_le hk h.size) hm]
    exact h.block k hk hn⟩
theorem Touch.of_below {w w' : World} (h : Below w.heap.size w w') (F : List Nat) : Touch F w w' := ⟨h.os, h.tape, h.output, h.size, fun k hk _ => h.block k hk⟩
theorem Touch.below {F : List Nat} {B : Nat} {w0 w w' : World} (h : Touch F w w') (h0 : Below B w0 w) (hB : B ≤ w.heap.size) (hF : ∀ k, k ∈ F → B ≤ k) : Below B w0 w' :=
  h0.trans ⟨h.os, h.tape, h.output, h.size, fun k hk => h.block k (by omega) (fun hm => by have := hF k hm; omega)⟩
section
variable {w w' : World} {base : Nat} {F I : List Nat} {gb W room : Nat} {L : List PNode}
theorem Gr.base_le (h : Gr w base F I gb W room L) : ∀ k, k ∈ F → base ≤ k := by
  obtain ⟨sv, mb, cells, rfl, h1, h2, h3, h4, h5, h6⟩ := h.mem
  intro k hk
  simp only [List.mem_cons] at hk
  rcases hk with rfl | rfl | hk
  · exact h1
  · exact h2
  · have hk' : sv.ownBlock = some k := by simpa using hk
    exact (h4.lt k hk').1
theorem Gr.lt (h : Gr w base F I gb W room L) : ∀ k, k ∈ F → k < w.heap.size := by
  obtain ⟨sv, mb, cells, rfl, h1, h2, h3, h4, h5, h6⟩ := h.mem
  intro k hk
  simp only [List.mem_cons] at hk
  rcases hk with rfl | rfl | hk
  · exact (Array.getElem?_eq_some_iff.1 h3).1
  · exact h6.lt
  · have hk' : sv.ownBlock = some k := by simpa using hk
    exact (h4.lt k hk').2
/-- What leaves a graph's own blocks and those of its nodes' arguments as they are leaves the graph. -/
theorem Gr.keep (h : Gr w base F I gb W room L) (hF : ∀ k, k ∈ F → w'.heap[k]? = w.heap[k]?) (hI : ∀ k, k ∈ I → IntBlk w k → w'.heap[k]? = w.heap[k]?) : Gr w' base F I gb W room L := by
  obtain ⟨sv, mb, cells, rfl, h1, h2, h3, h4, h5, h6⟩ := h.mem
  refine ⟨h.wf, h.len, h.w1, h.w2, h.r2, sv, mb, cells, rfl, h1, h2, by rw [hF gb (by simp), h3], ⟨h4.1, ?_⟩, h5.keep hI, h6.block (hF mb (by simp))⟩
  rcases h4.2 with hn | ⟨g, cap, cur, rfl, hb, hg, r⟩
  · exact .inl hn
  · exact .inr ⟨g, cap, cur, rfl, hb, by rw [hF g (by simp [Value.ownBlock]), hg], r⟩
theorem Gr.later (h : Gr w base F I gb W room L) (hb : Below w.heap.size w w') : Gr w' base F I gb W room L :=
  h.keep (fun k hk => hb.block k (h.lt k hk)) (fun k _ hk => hb.block k hk.lt)
/-- Another graph's call. -/
theorem Gr.apart {F' : List Nat} (h : Gr w base F I gb W room L) (ht : Touch F' w w') (hd : ∀ k, k ∈ F → k ∉ F') (hi : ∀ k, k ∈ I → IntBlk w k → k ∉ F') : Gr w' base F I gb W room L :=
  h.keep (fun k hk => ht.block k (h.lt k hk) (hd k hk)) (fun k hk hl => ht.block k hl.lt (hi k hk hl))
end
end Go.Proofs.YteamnchoddegpaaGreatDoor
namespace Go.Proofs.YteamnchoddegpaaGreatDoor
open Go.RowKit Go.Maps
set_option maxHeartbeats 400000
theorem Gr.parts {w : World} {base : Nat} {F I : List Nat} {gb W room : Nat} {L : List PNode} (h : Gr w base F I gb W room L) :
    ∃ a cap mb, w.cell? ⟨gb, 0, none⟩ = some (.int .i64 W) ∧ w.cell? ⟨gb, 1, none⟩ = some (.int .i64 room) ∧ w.cell? ⟨gb, 2, none⟩ = some (.slice a L.length cap) ∧ w.cell? ⟨gb, 3, none⟩ = some (.map (some mb)) ∧
      (∀ i, w.frozen? ⟨gb, i, none⟩ = false) ∧ MapIs Tryz.prog 145 w mb (gm L) ∧ L.length ≤ 1048576 := by
  obtain ⟨sv, mb, cells, rfl, h1, h2, h3, h4, h5, h6⟩ := h.mem
  obtain ⟨a, cap, rfl⟩ : ∃ a cap, sv = .slice a L.length cap := by
    rcases h4.2 with ⟨rfl, h0⟩ | ⟨g, cap, cur, rfl, _⟩
    · exact ⟨none, 0, by rw [h0]⟩
    · exact ⟨_, _, rfl⟩
  have hl := h.len
  have hr := h.r2
  exact ⟨a, cap, mb, by rw [cell_of_row w gb 0 _ _ _ h3]; rfl, by rw [cell_of_row w gb 1 _ _ _ h3]; rfl, by rw [cell_of_row w gb 2 _ _ _ h3]; rfl, by rw [cell_of_row w gb 3 _ _ _ h3]; rfl,
    fun i => frozen_of_row w gb i _ _ h3, h6, by omega⟩
theorem Gr.mono {w : World} {base base' : Nat} {F I : List Nat} {gb W room : Nat} {L : List PNode} (h : Gr w base F I gb W room L) (hb : base' ≤ base) : Gr w base' F I gb W room L := by
  obtain ⟨sv, mb, cells, hF, h1, h2, h3, h4, h5, h6⟩ := h.mem
  refine ⟨h.wf, h.len, h.w1, h.w2, h.r2, sv, mb, cells, hF, by omega, by omega, h3, ⟨h4.1, ?_⟩, h5, h6⟩
  rcases h4.2 with hn | ⟨g, cap, cur, hv, hg, r⟩
  · exact .inl hn
  · exact .inr ⟨g, cap, cur, hv, by omega, r⟩
theorem len_any {w : World} {base : Nat} {F I : List Nat} {gb W room : Nat} {L : List PNode} (h : Gr w base F I gb W room L) :
    Calls Tryz.prog 22 #[.pointer (some ⟨gb, 0, none⟩)] w fun e w' => e = .returned (.int .i64 L.length) ∧ w = w' := by
  obtain ⟨a, cap, mb, c0, c1, c2, c3, cf, cm, hl⟩ := h.parts
  clear h cf cm
  go_enter Tryz.func22, Tryz.ntmps22
  go_wp2
  go_ret
  exact ⟨rfl, rfl⟩
theorem width_any {w : World} {base : Nat} {F I : List Nat} {gb W room : Nat} {L : List PNode} (h : Gr w base F I gb W room L) :
    Calls Tryz.prog 70 #[.pointer (some ⟨gb, 0, none⟩)] w fun e w' => e = .returned (.int .i64 W) ∧ w = w' := by
  obtain ⟨a, cap, mb, c0, c1, c2, c3, cf, cm, hl⟩ := h.parts
  clear h cf cm
  go_enter Tryz.func70, Tryz.ntmps70
  go_wp2
  go_ret
  exact ⟨rfl, rfl⟩
def newOk (W most : Int) : Prop := 1 ≤ W ∧ W ≤ 64 ∧ 0 ≤ most ∧ most ≤ 1048576
def roomOf (most : Int) : Nat := if most = 0 then 1048576 else most.toNat
theorem new_bad (W most : Int) (h : ¬ newOk W most) (w : World) :
    Calls Tryz.prog 26 #[.int .i64 W, .int .i64 most] w fun e w' => e = .returned (.tuple #[.pointer none, .int .i64 3]) ∧ w = w' := by
  by_cases hW : 1 ≤ W ∧ W ≤ 64
  · have hc := chk_in hW.1 hW.2
    by_cases h0 : most < 0
    · go_enter Tryz.func26, Tryz.ntmps26
      go_wp2_with (go_at_call 55; refine (check_any _ _).mono ?_; rintro e w' ⟨rfl, rfl⟩)
      go_ret2
      exact ⟨rfl, rfl⟩
    · have h2 : 1048576 < most := by unfold newOk at h; omega
      clear h
      go_enter Tryz.func26, Tryz.ntmps26
      go_wp2_with (go_at_call 55; refine (check_any _ _).mono ?_; rintro e w' ⟨rfl, rfl⟩)
      go_ret2
      exact ⟨rfl, rfl⟩
  · have hc := chk_out hW
    clear h
    go_enter Tryz.func26, Tryz.ntmps26
    go_wp2_with (go_at_call 55; refine (check_any _ _).mono ?_; rintro e w' ⟨rfl, rfl⟩)
    go_ret2
    exact ⟨rfl, rfl⟩
theorem new_gr (W most : Nat) (h1 : 1 ≤ W) (h2 : W ≤ 64) (hm : most ≤ 1048576) (w : World) :
    Gr ((w.alloc (.map #[] 0)).alloc (.cells #[.int .i64 W, .int .i64 most, .slice none 0 0, .map (some w.heap.size)] 102)) w.heap.size [w.heap.size + 1, w.heap.size] [] (w.heap.size + 1) W most [] := by
  refine ⟨WFL.nil, by simp, h1, h2, hm, .slice none 0 0, w.heap.size, [], rfl, by omega, Nat.le_refl _, heap_alloc2_new _ _ _, World.ownsRow_nil _ _ _ _, NodeRow.nil _ _, ?_⟩
  exact (MapIs.new w).below (below_new _ _)
theorem new_any (W most : Int) (h : newOk W most) (w : World) :
    Calls Tryz.prog 26 #[.int .i64 W, .int .i64 most] w fun e w' => ∃ gb F, e = .returned (.tuple #[.pointer (some ⟨gb, 0, none⟩), .int .i64 0]) ∧ Gr w' w.heap.size F [] gb W.toNat (roomOf most) [] ∧ Below w.heap.size w w' := by
  obtain ⟨h1, h2, h3, h4⟩ := h
  obtain ⟨n, rfl⟩ := Int.eq_ofNat_of_zero_le (show 0 ≤ W by omega)
  obtain ⟨m, rfl⟩ := Int.eq_ofNat_of_zero_le h3
  have hc := chk_in h1 h2
  have hmm := @run_makeMap Tryz.prog
  by_cases h0 : m = 0
  · subst h0
    have hr : roomOf ((0 : Nat) : Int) = 1048576 := rfl
    rw [hr]; clear hr
    go_enter Tryz.func26, Tryz.ntmps26
    go_wp2_with (go_at_call 55; refine (check_any _ _).mono ?_; rintro e w' ⟨rfl, rfl⟩)
    go_ret2
    exact ⟨w.heap.size + 1, _, by simp, new_gr n 1048576 (by omega) (by omega) (by omega) w, (below_new w _).alloc (by simp) _⟩
  · have hr : roomOf (m : Int) = m := by unfold roomOf; rw [if_neg (by omega)]; simp
    have hz : ((m : Int) == 0) = false := by rw [beq_eq_false_iff_ne]; omega
    rw [hr]; clear hr
    go_enter Tryz.func26, Tryz.ntmps26
    go_wp2_with (go_at_call 55; refine (check_any _ _).mono ?_; rintro e w' ⟨rfl, rfl⟩)
    go_ret2
    exact ⟨w.heap.size + 1, _, by simp, new_gr n m (by omega) (by omega) (by omega) w, (below_new w _).alloc (by simp) _⟩
end Go.Proofs.YteamnchoddegpaaGreatDoor
namespace Go.Proofs.YteamnchoddegpaaGreatDoor
open Go.RowKit Go.Maps
set_option maxHeartbeats 400000
/-- A row's cells. -/
theorem NodeRow.at {w : World} {base : Nat} {sv : Value} {cells : List Value} {L : List PNode} {I : List Nat} (h : NodeRow w I cells L) (hown : w.ownsRow base 88 3 sv L.length cells) {i : Nat} {n : PNode} (hi : L[i]? = some n) :
    ∃ g cap va, sv = .slice (some ⟨g, 0, none⟩) L.length cap ∧ base ≤ g ∧ w.cell? ⟨g, i * 3, none⟩ = some (.int .u8 n.1) ∧ w.cell? ⟨g, i * 3 + 1, none⟩ = some (.int .u64 n.2.1) ∧ w.cell? ⟨g, i * 3 + 2, none⟩ = some va ∧ IntsAt w va n.2.2 := by
  have hl := (List.getElem?_eq_some_iff.1 hi).1
  obtain ⟨va, h1, h2, h3, h4, -⟩ := h.2 i n hi
  rcases hown.2 with ⟨rfl, h0⟩ | ⟨g, cap, cur, rfl, hb, hg, hn, hm, hsz, htake⟩
  · omega
  · have hcell : ∀ j, j < L.length * 3 → w.cell? ⟨g, j, none⟩ = cells[j]? := by
      intro j hj
      rw [cell_of_row w g j cur _ _ hg, ← htake, List.getElem?_take, if_pos hj, Array.getElem?_toList]
    exact ⟨g, cap, va, rfl, hb, by rw [hcell _ (by omega), Nat.mul_comm]; exact h1, by rw [hcell _ (by omega), Nat.mul_comm]; exact h2, by rw [hcell _ (by omega), Nat.mul_comm]; exact h3, h4⟩
theorem Gr.node {w : World} {base : Nat} {F I : List Nat} {gb W room : Nat} {L : List PNode} (h : Gr w base F I gb W room L) {i : Nat} {n : PNode} (hi : L[i]? = some n) :
    ∃ g cap va, w.cell? ⟨gb, 2, none⟩ = some (.slice (some ⟨g, 0, none⟩) L.length cap) ∧ w.cell? ⟨g, i * 3, none⟩ = some (.int .u8 n.1) ∧ w.cell? ⟨g, i * 3 + 1, none⟩ = some (.int .u64 n.2.1) ∧ w.cell? ⟨g, i * 3 + 2, none⟩ = some va ∧ IntsAt w va n.2.2 := by
  obtain ⟨sv, mb, cells, rfl, h1, h2, h3, h4, h5, h6⟩ := h.mem
  obtain ⟨g, cap, va, rfl, _, k1, k2, k3, k4⟩ := h5.at h4 hi
  exact ⟨g, cap, va, by rw [cell_of_row w gb 2 _ _ _ h3]; rfl, k1, k2, k3, k4⟩
theorem OwnInts.val {w : World} {base E : Nat} {k : IntKind} {v : Value} {xs : List Int} (h : OwnInts w base E k v xs) : ∃ a m c, v = .slice a m c := by
  rcases h.2 with ⟨rfl, _⟩ | ⟨g, cap, cur, rfl, _⟩
  · exact ⟨_, _, _, rfl⟩
  · exact ⟨_, _, _, rfl⟩
theorem OwnInts.setCell {w : World} {base E : Nat} {k : IntKind} {v : Value} {xs : List Int} (h : OwnInts w base E k v xs) {a : Addr} (ha : a.block < base) (u : Value) : OwnInts (w.setCell a u) base E k v xs := ownsRow_setCell_below h ha u
theorem OwnInts.mono {w : World} {base base' E : Nat} {k : IntKind} {v : Value} {xs : List Int} (h : OwnInts w base E k v xs) (hb : base' ≤ base) : OwnInts w base' E k v xs := by
  refine ⟨h.1, ?_⟩
  rcases h.2 with hn | ⟨g, cap, cur, hv, hg, r⟩
  · exact .inl hn
  · exact .inr ⟨g, cap, cur, hv, by omega, r⟩
theorem cells3 {w : World} {b : Nat} {x y z : Value} {t : TypeId} {fr : Nat × Nat} (h : w.heap[b]? = some (.cells #[x, y, z] t fr)) : w.cell? ⟨b, 0, none⟩ = some x ∧ w.cell? ⟨b, 1, none⟩ = some y ∧ w.cell? ⟨b, 2, none⟩ = some z :=
  ⟨by rw [cell_of_row w b 0 _ _ _ h]; rfl, by rw [cell_of_row w b 1 _ _ _ h]; rfl, by rw [cell_of_row w b 2 _ _ _ h]; rfl⟩
theorem node_out {w : World} {base : Nat} {F I : List Nat} {gb W room : Nat} {L : List PNode} (h : Gr w base F I gb W room L) (t : Int) (ht : t < 0 ∨ (L.length : Int) ≤ t) :
    Calls Tryz.prog 67 #[.pointer (some ⟨gb, 0, none⟩), .int .i64 t] w fun e w' => e = .returned (.tuple #[.agg #[.int .u8 0, .int .u64 0, .slice none 0 0], .int .i64 3]) ∧ Below w.heap.size w w' := by
  obtain ⟨a, cap, mb, c0, c1, c2, c3, cf, cm, hl⟩ := h.parts
  have hgb := World.block_lt_of_cell? _ _ c0
  simp only at hgb
  clear h cf cm c0 c1 c3
  rcases ht with ht | ht
  · go_enter Tryz.func67, Tryz.ntmps67
    go_wp2
    refine bodyPost_ret (v := .tuple #[.agg #[.int .u8 0, .int .u64 0, .slice none 0 0], .int .i64 3]) (by simp [results, Tryz.results67, go_sem]) rfl ⟨rfl, below_new _ _⟩
  · have h0 : ¬ t < 0 := by omega
    go_enter Tryz.func67, Tryz.ntmps67
    go_wp2
    refine bodyPost_ret (v := .tuple #[.agg #[.int .u8 0, .int .u64 0, .slice none 0 0], .int .i64 3]) (by simp [results, Tryz.results67, go_sem]) rfl ⟨rfl, below_new _ _⟩
theorem node_at {w : World} {base : Nat} {F I : List Nat} {gb W room : Nat} {L : List PNode} (h : Gr w base F I gb W room L) (i : Nat) (n : PNode) (hi : L[i]? = some n) :
    Calls Tryz.prog 67 #[.pointer (some ⟨gb, 0, none⟩), .int .i64 i] w fun e w' => ∃ va, e = .returned (.tuple #[.agg #[.int .u8 n.1, .int .u64 n.2.1, va], .int .i64 0]) ∧ OwnInts w' w.heap.size 3 .i64 va n.2.2 ∧ Below w.heap.size w w' := by
  obtain ⟨g, cap, va, c2, k1, k2, k3, k4⟩ := h.node hi
  have hlt := (List.getElem?_eq_some_iff.1 hi).1
  have hle := h.len
  have hr2 := h.r2
  have hgb := World.block_lt_of_cell? _ _ c2
  have hg := World.block_lt_of_cell? _ _ k1
  simp only at hgb hg
  have hn3 : n.2.2.length ≤ 1000000000 := by
    have := (h.wf.ok n (List.mem_of_getElem? hi)).2.2
    have := aryN_le n.1
    omega
  have k5 := k4
  obtain ⟨a0, m0, cp0, rfl, -, -⟩ := k5
  have H4 := Lib.hid k4
  have H3 := Lib.hid hn3
  have Hi := Lib.hid hi
  clear h k4 hn3 hi
  go_enter Tryz.func67, Tryz.ntmps67
  go_wp2_with (at_builtin; refine wpList_append_copy 24 3 .i64 8 (w.heap.size + 1 + 1) _ _ n.2.2 ?cs _ _ rfl rfl Tryz.underlying24 Tryz.infoI64 (by decide) rfl rfl H3.out ?cb ?_)
  case cs => exact (H4.out.slice.below (below_new _ _)).below (below_new _ _)
  case cb => simp
  intro v' w' hv' hb'
  have B6 := (hb'.block (w.heap.size + 1) (by simp)).trans (heap_alloc2_new _ _ _)
  have B4 := (hb'.block w.heap.size (by omega)).trans (heap_alloc2_old _ _ _)
  have hz : w.heap.size + 1 < w'.heap.size := by have := hb'.size; first | omega | (simp only [World.size_alloc] at this; omega)
  obtain ⟨d0, d1, d2⟩ := cells3 B6
  obtain ⟨e0, e1, e2⟩ := cells3 B4
  have f6 := fun j => frozen_of_row w' (w.heap.size + 1) j _ _ B6
  have f4 := fun j => frozen_of_row w' w.heap.size j _ _ B4
  have HV := Lib.hid hv'
  have HB := Lib.hid (((below_new w _).alloc (by simp) _).trans (hb'.mono (by omega)))
  obtain ⟨a1, m1, cp1, rfl⟩ := hv'.val
  clear hb' B6 B4 hv' c2 k1 k2 k3
  go_wp2
  refine bodyPost_ret (v := .tuple #[.agg #[.int .u8 n.1, .int .u64 n.2.1, .slice a1 m1 cp1], .int .i64 0]) (by simp [results, Tryz.results67, go_sem, e0, e1, e2]) rfl ⟨_, rfl, ?_, ?_⟩
  · exact ((((HV.out.setCell (show w.heap.size + 1 < w.heap.size + 1 + 1 by omega) _).setCell (show w.heap.size < w.heap.size + 1 + 1 by omega) _).setCell (show w.heap.size < w.heap.size + 1 + 1 by omega) _).setCell (show w.heap.size < w.heap.size + 1 + 1 by omega) _).mono (by omega)
  · exact (((HB.out.setCell (by simp) _).setCell (by simp) _).setCell (by simp) _).setCell (by simp) _
end Go.Proofs.YteamnchoddegpaaGreatDoor
namespace Go.Proofs.YteamnchoddegpaaGreatDoor
open Go.RowKit
variable {P : Program}
theorem step_append_own {ops : Array Oper} {o : Oper} {a : Act} {K : Act → World → Prop} {Q : Exit → Act → World → Prop} {E0 : Prop} (B T E : Nat) (k : IntKind) (bytes : Nat) (w : World) (v xv : Value) (xs ys : List Int)
    (hown : OwnInts w B E k v xs) (hsrc : SliceOf w k xv ys) (hbase : B ≤ w.heap.size) (hgd : o.guard = none) (s x : Operand) (ho : o.op = .call { callee := .builtin .append, args := #[s, x], argTypes := #[T, T] })
    (ht : P.underlying T = some (.slice E)) (hi : (P.info? E).map (fun i => (i.zero, i.size, i.bytes)) = some (some (.int k 0), 1, bytes)) (hbt : bytes ≤ 1000)
    (hs : a.eval s = v) (hx : a.eval x = xv) (hn : xs.length + ys.length ≤ 1000000000)
    (h : ∀ a' m' c' w', OwnInts w' B E k (.slice a' m' c') (xs ++ ys) → Below B w w' → K (a.put o.dst (.slice a' m' c')) w') :
    if Region.wanted o (yielded ops a.tmps) = true then Oper.wp P o a w K Q else E0 := by
  have hw : Region.wanted o (yielded ops a.tmps) = true := by simp [Region.wanted, hgd]
  rw [if_pos hw]
  obtain ⟨v', w', hr, h2, h3⟩ := run_append_src (P := P) w B T o.type E 1 bytes (.int k 0) ht hi rfl (by decide) hbt v xv xs.length ys.length _ _ hown hsrc.src (by
    intro u hu
    obtain ⟨y, _, rfl⟩ := List.mem_map.1 hu
    rfl) hn hbase
  have h2' : OwnInts w' B E k v' (xs ++ ys) := by
    unfold OwnInts
    rw [List.length_append, List.map_append]
    exact h2
  obtain ⟨a', m', c', rfl⟩ := h2'.val
  unfold Oper.wp execOp
  simp only [ho, resolve, invoke, builtin, Sem.run_bind, Sem.run_pure, Result.andThen_ok, List.map_toArray, List.map_cons, List.map_nil, hs, hx, hr]
  exact h a' m' c' w' h2' ((Below.refl B w).grown h3 hbase fun k hk => (hown.lt k hk).1)
end Go.Proofs.YteamnchoddegpaaGreatDoor
