/- append from whatever slice, onto a slice of the call's own. -/
import Derived.Test.YteofgmjejocleaaBase
namespace Go.Proofs.Yteofgmjejocleaa
open Go.RowKit
set_option maxHeartbeats 400000

/-- The cells of a slice that is appended. -/
def SrcOf (w : World) (x : Value) (m size : Nat) (news : List Value) : Prop :=
  ∃ a c, x = .slice a m c ∧ news.length = m * size ∧ (0 < m → ∃ ad, a = some ad ∧ ∀ (j : Nat) (u : Value), news[j]? = some u → w.cell? (ad.add j) = some u)
theorem SliceOf.src {w : World} {k : IntKind} {x : Value} {ys : List Int} (h : SliceOf w k x ys) : SrcOf w x ys.length 1 (ys.map (Value.int k)) := by
  obtain ⟨a, n, c, rfl, rfl, hc⟩ := h
  refine ⟨a, c, rfl, by simp, fun h0 => ?_⟩
  obtain ⟨b, off, rfl, _⟩ := hc 0 h0
  refine ⟨_, rfl, fun j u hu => ?_⟩
  rw [List.getElem?_map] at hu
  cases hj : ys[j]? with
  | none => rw [hj] at hu; cases hu
  | some y =>
    rw [hj] at hu
    have hlt := (List.getElem?_eq_some_iff.1 hj).1
    obtain ⟨b', off', e, h⟩ := hc j hlt
    simp only [Option.some.injEq, Addr.mk.injEq, and_true] at e
    obtain ⟨rfl, rfl⟩ := e
    rw [Go.WideShapes.add_plain, h]
    simp at hu
    simp [hj, hu]
section
variable {P : Program}
theorem run_append_src (w : World) (base T ty E size bytes : Nat) (z : Value) (ht : P.underlying T = some (.slice E)) (hi : (P.info? E).map (fun i => (i.zero, i.size, i.bytes)) = some (some z, size, bytes)) (hzs : z.cells.size = size) (hsz : 0 < size) (hbt : bytes ≤ 1000)
    (v x : Value) (n m : Nat) (xs news : List Value) (hown : w.ownsRow base E size v n xs) (hsrc : SrcOf w x m size news) (h1 : ∀ u ∈ news, u.oneCell' = true) (hn : n + m ≤ 1000000000) (hbase : base ≤ w.heap.size) :
    ∃ v' w', (Builtin.append_ #[T, T] ty #[v, x]).run P w = .ok v' w' ∧ w'.ownsRow base E size v' (n + m) (xs ++ news) ∧ w.grownBy w' v.ownBlock := by
  obtain ⟨i0, hi0, hz0, hz1, hz2⟩ := info_parts hi
  obtain ⟨a, c, rfl, hl, hs⟩ := hsrc
  rcases Nat.eq_zero_or_pos m with h0 | h0
  · subst h0
    have hnews : news = [] := List.length_eq_zero_iff.1 (by rw [hl]; simp)
    subst hnews
    have hfc : (Builtin.firstCells size 0 (.slice a 0 c)).run P w = .ok #[] w := by
      cases a with
      | none => simp [Builtin.firstCells]
      | some ad => exact run_firstCells_some (P := P) w size 0 ad 0 c [] (by simp) (by simp)
    refine ⟨v, w, ?_, by simpa using hown, ⟨rfl, rfl, rfl, Nat.le_refl _, fun _ _ _ => rfl⟩⟩
    rcases hown.2 with ⟨rfl, rfl⟩ | ⟨g, cap, cur, rfl, hb, hg, hnc, _⟩
    · simp [Builtin.append_, run_underlying ht, sizeOf, typeInfo, hi0, hz1, Builtin.lenOf, hfc]
    · simp [Builtin.append_, run_underlying ht, sizeOf, typeInfo, hi0, hz1, Builtin.lenOf, hfc, hnc, storeCells]
  · obtain ⟨ad, rfl, hc⟩ := hs h0
    have hb : (n + m) * bytes ≤ 1000000000 * 1000 := Nat.mul_le_mul hn hbt
    obtain ⟨v', w', h2, h3, h4, _⟩ := run_append_own (P := P) w base T ty E i0 z size bytes ht hi0 hz0 hz1 hz2 hzs hsz v n xs hown ad m c news hl hc h1 (by unfold maxLen; omega) (by omega) hbase
    exact ⟨v', w', h2, h3, h4⟩
/-- What append gives, and the world behind it. -/
def apV (P : Program) (T ty : TypeId) (s x : Value) (w : World) : Value :=
  match (Builtin.append_ #[T, T] ty #[s, x]).run P w with
  | .ok v _ => v
  | .halt _ _ => default
def apW (P : Program) (T ty : TypeId) (s x : Value) (w : World) : World :=
  match (Builtin.append_ #[T, T] ty #[s, x]).run P w with
  | .ok _ w' => w'
  | .halt _ w' => w'
theorem append_is {T ty : TypeId} {s x v' : Value} {w w' : World} (h : (Builtin.append_ #[T, T] ty #[s, x]).run P w = .ok v' w') : apV P T ty s x w = v' ∧ apW P T ty s x w = w' := by
  unfold apV apW; rw [h]; exact ⟨rfl, rfl⟩
theorem wpList_append_src {ops : Array Oper} {rest : List Oper} {o : Oper} {a : Act} {Q : Exit → Act → World → Prop} (T E size bytes : Nat) (base : Nat) (w : World) (v xv : Value) (n m : Nat) (xs news : List Value)
    (hown : w.ownsRow base E size v n xs) (hsrc : SrcOf w xv m size news) (s x : Operand) (hgd : o.guard = none) (ho : o.op = .call { callee := .builtin .append, args := #[s, x], argTypes := #[T, T] })
    (z : Value) (ht : P.underlying T = some (.slice E)) (hi : (P.info? E).map (fun i => (i.zero, i.size, i.bytes)) = some (some z, size, bytes)) (hzs : z.cells.size = size) (hsz : 0 < size) (hbt : bytes ≤ 1000)
    (hs : a.eval s = v) (hx : a.eval x = xv) (h1 : ∀ u ∈ news, u.oneCell' = true) (hn : n + m ≤ 1000000000) (hbase : base ≤ w.heap.size)
    (h : ∀ v' w', w'.ownsRow base E size v' (n + m) (xs ++ news) → w.grownBy w' v.ownBlock → wpList P ops Q rest (a.put o.dst v') w') : wpList P ops Q (o :: rest) a w := by
  obtain ⟨v', w', hr, h2, h3⟩ := run_append_src (P := P) w base T o.type E size bytes z ht hi hzs hsz hbt v xv n m xs news hown hsrc h1 hn hbase
  refine wpList_plain hgd fun _ hK => ?_
  unfold Oper.wp execOp
  simp only [ho, resolve, invoke, builtin, Sem.run_bind, Sem.run_pure, Result.andThen_ok, List.map_toArray, List.map_cons, List.map_nil, hs, hx, hr]
  exact hK _ _ (h v' w' h2 h3)
/-- A copy of a list of integers: append onto nil. -/
theorem wpList_append_copy {ops : Array Oper} {rest : List Oper} {o : Oper} {a : Act} {Q : Exit → Act → World → Prop} (T E : Nat) (k : IntKind) (bytes : Nat) (base : Nat) (w : World) (xv : Value) (ys : List Int)
    (hsrc : SliceOf w k xv ys) (s x : Operand) (hgd : o.guard = none) (ho : o.op = .call { callee := .builtin .append, args := #[s, x], argTypes := #[T, T] })
    (ht : P.underlying T = some (.slice E)) (hi : (P.info? E).map (fun i => (i.zero, i.size, i.bytes)) = some (some (.int k 0), 1, bytes)) (hbt : bytes ≤ 1000)
    (hs : a.eval s = .slice none 0 0) (hx : a.eval x = xv) (hn : ys.length ≤ 1000000000) (hbase : base ≤ w.heap.size)
    (h : ∀ v' w', OwnInts w' base E k v' ys → Below w.heap.size w w' → wpList P ops Q rest (a.put o.dst v') w') : wpList P ops Q (o :: rest) a w := by
  refine wpList_append_src T E 1 bytes base w _ xv 0 ys.length [] _ (World.ownsRow_nil _ _ _ _) hsrc.src s x hgd ho (.int k 0) ht hi rfl (by decide) hbt hs hx ?_ (by omega) hbase ?_
  · intro u hu
    obtain ⟨y, _, rfl⟩ := List.mem_map.1 hu
    rfl
  · intro v' w' h2 h3
    refine h v' w' ?_ ⟨h3.os, h3.tape, h3.output, h3.size, fun k hk => h3.block k hk (by simp [Value.ownBlock])⟩
    unfold OwnInts
    simpa using h2
end
end Go.Proofs.Yteofgmjejocleaa
