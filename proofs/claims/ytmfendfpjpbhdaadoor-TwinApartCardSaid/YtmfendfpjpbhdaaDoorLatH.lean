/- A matrix among a law's things; an append of one value to a list of one's own. -/
import Derived.Test.YtmfendfpjpbhdaaDoorLatG
import Derived.StillTailTactics
namespace Go.Proofs.YtmfendfpjpbhdaaDoor
open Go.RowKit Go.Maps
set_option maxHeartbeats 3200000

/-- A matrix in rows of truth values. -/
def Thing.mat (bs : List Nat) (n : Nat) (R : Rel) : Thing :=
  ⟨bs, [], fun w => bs.Nodup ∧ ∀ i b, bs[i]? = some b → w.rowIs b 4 n (fun j => .bool (R i j)), fun _ _ h hk => ⟨h.1, fun i b hb => (h.2 i b hb).of_block (hk b (.inl (List.mem_of_getElem? hb)))⟩⟩
theorem srcOf_new (wr : World) (x : Value) (E : Nat) : SrcOf (wr.alloc (.cells #[x] E)) (.slice (some ⟨wr.heap.size, 0, none⟩) 1 1) 1 1 [x] := by
  refine ⟨_, _, rfl, rfl, fun _ => ⟨_, rfl, fun j u hu => ?_⟩⟩
  rw [Go.WideShapes.add_plain, World.cell?_alloc_at _ _ _ _ rfl, Nat.zero_add, ← hu]
  simp
section
variable {w0 wr w' : World} {ts : List Thing} {bs : List Nat} {n : Nat} {R R' : Rel}
theorem Lab.mat_nil (h : Lab w0 wr ts) (n : Nat) (R : Rel) : Lab w0 wr (Thing.mat [] n R :: ts) := by
  refine h.new (s := Thing.mat [] n R) (Below.refl _ _) ⟨List.nodup_nil, fun i b hb => by simp at hb⟩ (fun k hk => ?_) (fun k hk => ?_) (fun k hk => ?_)
  · simp [Thing.mat] at hk
  · simp [Thing.mat] at hk
  · simp [Thing.mat] at hk
theorem Lab.mat_congr (h : Lab w0 wr (Thing.mat bs n R :: ts)) (hR : ∀ i j, i < bs.length → j < n → R' i j = R i j) : Lab w0 wr (Thing.mat bs n R' :: ts) :=
  h.say (s' := Thing.mat bs n R') rfl (fun _ hk => hk) fun hh => ⟨hh.1, fun i b hb => World.rowIs.congr (hh.2 i b hb) fun j hj => by rw [hR i j (List.getElem?_eq_some_iff.1 hb).1 hj]⟩
theorem Lab.mat_row (h : Lab w0 wr (Thing.mat bs n R :: ts)) {i b : Nat} (hb : bs[i]? = some b) : wr.rowIs b 4 n (fun j => .bool (R i j)) := h.head.2 i b hb
theorem Lab.mat_cell (h : Lab w0 wr (Thing.mat bs n R :: ts)) {i b : Nat} (hb : bs[i]? = some b) {j : Nat} (hj : j < n) : wr.cell? ⟨b, j, none⟩ = some (.bool (R i j)) := (h.mat_row hb).cell hj
theorem Lab.mat_more (h : Lab w0 wr (Thing.mat bs n R :: ts)) (hR : ∀ i j, i < bs.length → j < n → R' i j = R i j) (h0 : ∀ j, j < n → R' bs.length j = false) :
    Lab w0 (wr.alloc (.cells (madeCells #[.bool false] n) 4)) (Thing.mat (bs ++ [wr.heap.size]) n R' :: ts) := by
  have hhi : ∀ k, k ∈ bs → k < wr.heap.size := fun k hk => h.high (Thing.mat bs n R) (by simp) k (.inl hk)
  have hb := below_new wr (.cells (madeCells #[.bool false] n) 4)
  refine h.turn (s' := Thing.mat (bs ++ [wr.heap.size]) n R') (Touch.of_below hb _) ⟨?_, fun i b hb' => ?_⟩ (fun k hk => ?_) (fun k hk => by simp [Thing.mat] at hk) (fun k hk => ?_)
  · rw [List.nodup_append]
    refine ⟨h.head.1, by simp, fun a ha b hb => ?_⟩
    have := hhi a ha
    simp at hb
    omega
  · rcases Nat.lt_or_ge i bs.length with hi | hi
    · rw [List.getElem?_append_left hi] at hb'
      have := rowIs_later (h.mat_row hb') hb
      exact World.rowIs.congr this fun j hj => by rw [hR i j hi hj]
    · rw [List.getElem?_append_right hi] at hb'
      have hi' : i = bs.length := by
        have := (List.getElem?_eq_some_iff.1 hb').1
        simp at this
        omega
      subst hi'
      simp at hb'
      subst hb'
      refine ⟨_, heap_alloc_new _ _, by simp [madeCells], fun j hj => ?_⟩
      rw [madeCells_at _ _ _ hj]
      show _ = some (Value.bool (R' bs.length j))
      rw [h0 j hj]
      simp [Nat.mod_one]
  · rcases List.mem_append.1 hk with h1 | h1
    · exact .inl h1
    · simp at h1; right; omega
  · rcases hk with hk | hk
    · rcases List.mem_append.1 hk with h1 | h1
      · have := hhi k h1; simp; omega
      · simp at h1; simp; omega
    · simp [Thing.mat] at hk
theorem Lab.mat_set (h : Lab w0 wr (Thing.mat bs n R :: ts)) {i b j : Nat} (hb : bs[i]? = some b) (v : Bool) (hR : ∀ i' j', R' i' j' = if i' = i ∧ j' = j then v else R i' j') :
    Lab w0 (wr.setCell ⟨b, j, none⟩ (.bool v)) (Thing.mat bs n R' :: ts) := by
  refine h.turn (s' := Thing.mat bs n R') ⟨rfl, rfl, rfl, by rw [World.size_setCell]; exact Nat.le_refl _, fun k hk hn => heap_setCell_other _ _ _ _ (fun e => hn (by rw [e]; exact List.mem_of_getElem? hb))⟩ ⟨h.head.1, fun i' b' hb' => ?_⟩ (fun k hk => .inl hk) (fun k hk => .inl hk) (fun k hk => ?_)
  · by_cases e : i' = i
    · subst e
      rw [hb] at hb'
      obtain rfl := Option.some.inj hb'
      have := (h.mat_row hb).set j (.bool v)
      refine World.rowIs.congr this fun j' hj' => ?_
      show (if j' = j then Value.bool v else Value.bool (R i' j')) = Value.bool (R' i' j')
      rw [hR i' j']
      by_cases e2 : j' = j
      · rw [if_pos e2, if_pos ⟨rfl, e2⟩]
      · rw [if_neg e2, if_neg (fun h => e2 h.2)]
    · have hne : b' ≠ b := fun e2 => by
        subst e2
        exact e ((List.getElem?_inj (List.getElem?_eq_some_iff.1 hb').1 h.head.1).1 (hb'.trans hb.symm))
      have := (h.mat_row hb').of_block (heap_setCell_other wr ⟨b, j, none⟩ b' (.bool v) hne)
      refine World.rowIs.congr this fun j' hj' => ?_
      show Value.bool (R i' j') = Value.bool (R' i' j')
      rw [hR i' j', if_neg (fun h => e h.1)]
  · rw [World.size_setCell]
    exact h.high (Thing.mat bs n R) (by simp) k hk
theorem Lab.nil_row (h : Lab w0 wr ts) (E : Nat) : Lab w0 wr (Thing.row E 1 (.slice none 0 0) 0 [] :: ts) := h.new_row (Below.refl _ _) (World.ownsRow_nil _ _ _ _)
theorem row_some {E m cap : Nat} {ao : Option Addr} {cells : List Value} (h : (Thing.row E 1 (.slice ao m cap) m cells).holds wr) (h0 : 0 < m) : ∃ g, ao = some ⟨g, 0, none⟩ := by
  have h' : wr.ownsRow 0 E 1 (.slice ao m cap) m cells := h
  rcases h'.2 with ⟨h1, h2⟩ | ⟨g, c2, cur, h1, -⟩
  · omega
  · simp only [Value.slice.injEq] at h1; exact ⟨g, h1.1⟩
theorem row_cellAt {E g m cap : Nat} {cells : List Value} (h : (Thing.row E 1 (.slice (some ⟨g, 0, none⟩) m cap) m cells).holds wr) {j : Nat} (hj : j < m) : wr.cell? ⟨g, j, none⟩ = cells[j]? ∧ wr.frozen? ⟨g, j, none⟩ = false :=
  ⟨World.ownsRow.cellAt h j (by omega), World.ownsRow.frozenAt h j⟩
/-- One value is appended to a list of one's own. -/
theorem run_append_row {ao : Option Addr} {c m : Nat} {cells : List Value} {u : Value} (T ty E bytes : Nat) (z : Value)
    (h : Lab w0 wr (Thing.row E 1 (.slice ao m c) m cells :: ts)) {nb : Nat} (hnb : wr.heap.size = nb) (hu : u.oneCell' = true)
    (ht : Tryd.prog.underlying T = some (.slice E)) (hi : (Tryd.prog.info? E).map (fun i => (i.zero, i.size, i.bytes)) = some (some z, 1, bytes)) (hz : z.cells.size = 1) (hbt : bytes ≤ 1000) (hn : m ≤ 999999999) :
    ∃ a' c' w', (Builtin.append_ #[T, T] ty #[.slice ao m c, .slice (some ⟨nb, 0, none⟩) 1 1]).run Tryd.prog (wr.alloc (.cells #[u] E)) = .ok (.slice a' (m + 1) c') w' ∧ Lab w0 w' (Thing.row E 1 (.slice a' (m + 1) c') (m + 1) (cells ++ [u]) :: ts) := by
  subst hnb
  have hl := h.later (below_new wr (.cells #[u] E))
  have hown : (wr.alloc (.cells #[u] E)).ownsRow 0 E 1 (.slice ao m c) m cells := hl.head
  have hsrc := srcOf_new wr u E
  have h1 : ∀ v ∈ [u], v.oneCell' = true := by intro v hv; simp at hv; rw [hv]; exact hu
  obtain ⟨v', w', hr, h2, h3⟩ := run_append_src (P := Tryd.prog) (wr.alloc (.cells #[u] E)) 0 T ty E 1 bytes z ht hi hz (by decide) hbt _ _ m 1 _ [u] hown hsrc h1 (by omega) (Nat.zero_le _)
  have blk := append_block (P := Tryd.prog) (T := T) (ty := ty) (bytes := bytes) (z := z) ht hi hbt hown hsrc h1 (by decide) (by omega) hr
  obtain ⟨a', c', rfl⟩ : ∃ a' c', v' = .slice a' (m + 1) c' := by
    rcases h2.2 with ⟨_, h0⟩ | ⟨g, cap, cur, rfl, _⟩
    · omega
    · exact ⟨_, _, rfl⟩
  refine ⟨a', c', w', hr, ?_⟩
  refine hl.turn (s' := Thing.row E 1 (.slice a' (m + 1) c') (m + 1) (cells ++ [u])) ⟨h3.os, h3.tape, h3.output, h3.size, fun b hb hn => h3.block b hb (fun e => hn (by simp [Thing.row, ← e]))⟩ h2 (fun k hk => ?_) (fun k hk => by simp [Thing.row] at hk) (fun k hk => ?_)
  · have hk' : (Value.slice a' (m + 1) c').ownBlock = some k := by simpa [Thing.row] using hk
    exact (blk k hk').imp (fun e => by simp [Thing.row, e]) id
  · rcases hk with hk | hk
    · exact (World.ownsRow.lt h2 k (by simpa [Thing.row] using hk)).2
    · simp [Thing.row] at hk
theorem step_append_is {P : Program} {ops : Array Oper} {o : Oper} {a : Act} {w : World} {K : Act → World → Prop} {Q : Exit → Act → World → Prop} {E : Prop}
    (hg : o.guard = none) (s x : Operand) (t : TypeId) (hop : o.op = Op.call { callee := Callee.builtin Builtin.append, args := #[s, x], argTypes := #[t, t] }) (sv xv : Value) (hs : a.eval s = sv) (hx : a.eval x = xv)
    (v' : Value) (w' : World) (hr : (Builtin.append_ #[t, t] o.type #[sv, xv]).run P w = .ok v' w') (hK : K (a.put o.dst v') w') :
    if Region.wanted o (yielded ops a.tmps) = true then Oper.wp P o a w K Q else E := by
  have hw : Region.wanted o (yielded ops a.tmps) = true := by simp [Region.wanted, hg]
  rw [if_pos hw]
  unfold Oper.wp
  simp [execOp, hop, resolve, invoke, builtin, hs, hx, hr, Result.andThen]
  exact hK
/-- What only reads, walked as a quiet thing, stands still. -/
theorem wpStill_of_quiet {P : Program} {ops : Array Oper} {w : World} {Q : Act → Prop} : ∀ (l : List Oper) (a : Act), wpQuiet P ops (fun w' => w' = w) Q l a → wpStill P ops w Q l a
  | [], _, h => h
  | o :: rest, a, h => by
    unfold wpQuiet at h
    unfold wpStill
    split
    · rename_i hw
      rw [if_pos hw] at h
      obtain ⟨v, hv, hn⟩ := h
      have hv' := hv w rfl
      unfold Oper.quietAt at hv'
      unfold Oper.still
      generalize (execOp a.eval o).run P w = r at hv' ⊢
      have hnext := wpStill_of_quiet rest _ hn
      unfold Oper.quietUpon at hv'
      unfold Oper.stillUpon
      split at hv'
      · obtain ⟨rfl, rfl⟩ := hv'
        exact ⟨rfl, hnext⟩
      · obtain ⟨rfl, rfl⟩ := hv'
        exact ⟨rfl, hnext⟩
      · obtain ⟨rfl, hc⟩ := hv'
        exact ⟨rfl, v, hc, hnext⟩
      · exact hv'.elim
    · rename_i hw
      rw [if_neg hw] at h
      exact wpStill_of_quiet rest _ h
/-- A region that only reads, but for its tail, which is a forced chain. -/
theorem wp_region_quiet_tail {P : Program} {id : Nat} {Q : Exit → Act → World → Prop} {a : Act} {w : World} {l : List Oper} (n : Nat) (hm : P.follows .mixedOrders = true) (hB : Region.lexTailB .any l.toArray n = true)
    (h : wpQuiet P l.toArray (fun w' => w' = w.drew) (fun a' => wpList P l.toArray Q (l.drop n) a' w.drew) (l.take n) a) : (Code.region id l.toArray true).wp P Q a w :=
  wp_region_still_tail n hm hB (wpStill_of_quiet _ _ h)
theorem Tryd.infoBools : (Tryd.prog.info? 74).map (fun i => (i.zero, i.size, i.bytes)) = some (some (.slice none 0 0), 1, 24) := by kernel_rfl
end
end Go.Proofs.YtmfendfpjpbhdaaDoor
