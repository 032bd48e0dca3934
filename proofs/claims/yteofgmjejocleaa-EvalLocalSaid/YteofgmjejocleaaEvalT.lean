/- What eval's and other walks over nodes hold in memory: rows by their index, nodes that were taken. -/
import Derived.Test.YteofgmjejocleaaLabP
import Derived.Test.YteofgmjejocleaaPlainV
import Derived.Deep.OwnRows
namespace Go.Proofs.Yteofgmjejocleaa
open Go.RowKit Go.Maps
set_option maxHeartbeats 400000

theorem rowIs_later {w w' : World} {b t n : Nat} {f : Nat → Value} (h : w.rowIs b t n f) (hb : Below w.heap.size w w') : w'.rowIs b t n f := h.of_block (hb.block b h.lt)
theorem slice_of_row {w : World} {b n c : Nat} {k : IntKind} {T : TypeId} {f : Nat → Value} {xs : List Int} (h : w.rowIs b T n f) (hl : xs.length = n) (hf : ∀ i, i < n → f i = .int k (xs.getD i 0)) : SliceOf w k (.slice (some ⟨b, 0, none⟩) n c) xs :=
  ⟨_, _, _, rfl, hl, fun i hi => ⟨b, 0, rfl, by rw [Nat.zero_add, h.cell hi, hf i hi]⟩⟩
theorem SliceOf.parts' {w : World} {k : IntKind} {a : Option Addr} {n cap : Nat} {xs : List Int} (h : SliceOf w k (.slice a n cap) xs) {i : Nat} (hi : i < n) : ∃ b off q, a = some ⟨b, off, none⟩ ∧ w.cell? ⟨b, off + i, none⟩ = some (.int k q) ∧ xs[i]? = some q := by
  obtain ⟨a', n', cap', e, _, hc⟩ := h.parts
  simp only [Value.slice.injEq] at e
  obtain ⟨rfl, rfl, rfl⟩ := e
  exact hc i hi
/-- A row whose cells are a list of numbers is an own slice. -/
theorem owns_of_row {w : World} {base b n : Nat} {k : IntKind} {T : TypeId} {f : Nat → Value} {xs : List Int} (h : w.rowIs b T n f) (hb : base ≤ b) (hl : xs.length = n) (hm : n ≤ maxLen) (hf : ∀ i, i < n → f i = .int k (xs.getD i 0)) : OwnInts w base T k (.slice (some ⟨b, 0, none⟩) n n) xs := by
  subst hl
  obtain ⟨c, hc, hn, hi⟩ := h
  refine ⟨by simp, .inr ⟨b, _, c, rfl, hb, hc, Nat.le_refl _, hm, by omega, ?_⟩⟩
  apply List.ext_getElem?
  intro i
  rw [Nat.mul_one, List.getElem?_take, List.getElem?_map]
  by_cases hlt : i < xs.length
  · rw [if_pos hlt, Array.getElem?_toList, hi i hlt, hf i hlt, List.getD_eq_getElem?_getD, List.getElem?_eq_getElem hlt]; rfl
  · rw [if_neg hlt, List.getElem?_eq_none (by omega)]; rfl
theorem madeCells_at (z : Array Value) (n i : Nat) (hi : i < n) : (madeCells z n)[i]? = some (z[i % z.size]!) := by simp [madeCells, hi]

/-- A row by its index. -/
def Thing.fn (b T n : Nat) (f : Nat → Value) : Thing := ⟨[b], [], fun w => w.rowIs b T n f, fun _ _ h hk => h.of_block (hk b (.inl (by simp)))⟩
section
variable {w0 wr w' : World} {ts : List Thing} {b T n : Nat} {f g : Nat → Value}
theorem Lab.fn1 (h : Lab w0 wr (Thing.fn b T n f :: ts)) : wr.rowIs b T n f := h.head
theorem Lab.fn2 {s : Thing} (h : Lab w0 wr (s :: Thing.fn b T n f :: ts)) : wr.rowIs b T n f := h.second
theorem Lab.fn3 {s t : Thing} (h : Lab w0 wr (s :: t :: Thing.fn b T n f :: ts)) : wr.rowIs b T n f := h.third
theorem Lab.fn4 {s t u : Thing} (h : Lab w0 wr (s :: t :: u :: Thing.fn b T n f :: ts)) : wr.rowIs b T n f := h.fourth
theorem Lab.fifth {s t u v x : Thing} (h : Lab w0 wr (s :: t :: u :: v :: x :: ts)) : x.holds wr := h.holds x (by simp)
theorem Lab.sixth {s t u v x y : Thing} (h : Lab w0 wr (s :: t :: u :: v :: x :: y :: ts)) : y.holds wr := h.holds y (by simp)
/-- The first thing is said otherwise. -/
theorem Lab.say {s s' : Thing} (h : Lab w0 wr (s :: ts)) (hW : s'.W = s.W) (hR : ∀ k, k ∈ s'.R → k ∈ s.R) (hs : s.holds wr → s'.holds wr) : Lab w0 wr (s' :: ts) := by
  refine h.turn (s' := s') (Touch.refl _ _) (hs h.head) (fun k hk => .inl (by rw [← hW]; exact hk)) (fun k hk => .inl (hR k hk)) (fun k hk => h.high s (by simp) k ?_)
  rcases hk with hk | hk
  · exact .inl (by rw [← hW]; exact hk)
  · exact .inr (hR k hk)
theorem Lab.fn_congr (h : Lab w0 wr (Thing.fn b T n f :: ts)) (e : ∀ i, i < n → f i = g i) : Lab w0 wr (Thing.fn b T n g :: ts) :=
  h.say (s' := Thing.fn b T n g) rfl (fun _ hk => hk) fun hh => World.rowIs.congr hh e
/-- A row is laid. -/
theorem Lab.make (h : Lab w0 wr ts) (arr : Array Value) (T : Nat) (f : Nat → Value) (hs : arr.size = n) (hf : ∀ i, i < n → arr[i]? = some (f i)) : Lab w0 (wr.alloc (.cells arr T)) (Thing.fn wr.heap.size T n f :: ts) := by
  have hl := h.alloc arr T
  exact hl.say (s' := Thing.fn wr.heap.size T n f) rfl (fun _ hk => hk) fun hh => ⟨arr, hh, hs, hf⟩
/-- A cell of the first row is written. -/
theorem Lab.set (h : Lab w0 wr (Thing.fn b T n f :: ts)) (i : Nat) (v : Value) : Lab w0 (wr.setCell ⟨b, i, none⟩ v) (Thing.fn b T n (fun j => if j = i then v else f j) :: ts) := by
  refine h.turn (s' := Thing.fn b T n _) ⟨rfl, rfl, rfl, by rw [World.size_setCell]; exact Nat.le_refl _, fun k hk hn => heap_setCell_other _ _ _ _ (by simpa [Thing.fn] using hn)⟩ (h.fn1.set i v) (fun k hk => .inl hk) (fun k hk => .inl hk) (fun k hk => ?_)
  rw [World.size_setCell]
  exact h.high (Thing.fn b T n f) (by simp) k hk
end
/-- Blocks of numbers stay as they are. -/
def KeepI (w w' : World) : Prop := ∀ (k : Nat) (arr : Array Value) (fr : Nat × Nat), w.heap[k]? = some (Obj.cells arr 3 fr) → w'.heap[k]? = w.heap[k]?
theorem KeepI.refl (w : World) : KeepI w w := fun _ _ _ _ => rfl
theorem KeepI.trans {a b c : World} (h : KeepI a b) (h' : KeepI b c) : KeepI a c := fun k arr fr hk => (h' k arr fr ((h k arr fr hk).trans hk)).trans (h k arr fr hk)
theorem KeepI.below {w w' : World} (h : Below w.heap.size w w') : KeepI w w' := fun k _ _ hk => h.block k (Array.getElem?_eq_some_iff.1 hk).1
theorem KeepI.set {w : World} {b T n : Nat} {f : Nat → Value} (h : w.rowIs b T n f) (hT : T ≠ 3) (i : Nat) (v : Value) : KeepI w (w.setCell ⟨b, i, none⟩ v) := by
  intro k arr fr hk
  refine heap_setCell_other _ _ _ _ ?_
  intro e
  obtain ⟨c, hc, _⟩ := h
  simp only at e
  subst e
  rw [hk] at hc
  simp at hc
  exact hT hc.2.1.symm
/-- The nodes that a walk from the last term down has taken: those above a place that are needed; above another place, with all that they need. -/
def Taken (w : World) (I : List Nat) (nb M : Nat) (L : List PNode) (need : Nat → Bool) (c c2 : Int) : Prop :=
  ∃ f, w.rowIs nb 62 (M * 3) f ∧ ∀ i : Nat, c < (i : Int) → i < M → need i = true → ∃ n va, L[i]? = some n ∧ f (i * 3) = .int .u8 n.1 ∧ f (i * 3 + 1) = .int .u64 n.2.1 ∧ f (i * 3 + 2) = va ∧ IntsAt w va n.2.2 ∧ (∀ k, va.ownBlock = some k → k ∈ I) ∧ (c2 < (i : Int) → ∀ a ∈ n.2.2, need a.toNat = true)
theorem Taken.keep {w w' : World} {I : List Nat} {nb M : Nat} {L : List PNode} {need : Nat → Bool} {c c2 : Int} (h : Taken w I nb M L need c c2) (hk : ∀ k, k ∈ [nb] ∨ k ∈ I → w'.heap[k]? = w.heap[k]?) : Taken w' I nb M L need c c2 := by
  obtain ⟨f, hf, h⟩ := h
  refine ⟨f, hf.of_block (hk nb (.inl (by simp))), fun i h1 h2 h3 => ?_⟩
  obtain ⟨n, va, k1, k2, k3, k4, k5, k6, k7⟩ := h i h1 h2 h3
  exact ⟨n, va, k1, k2, k3, k4, k5.own fun k hm => hk k (.inr (k6 k hm)), k6, k7⟩
def Thing.taken (I : List Nat) (nb M : Nat) (L : List PNode) (need : Nat → Bool) (c c2 : Int) : Thing :=
  ⟨[nb], I, fun w => Taken w I nb M L need c c2, fun _ _ h hk => Taken.keep h hk⟩
theorem Taken.congr {w : World} {I : List Nat} {nb M : Nat} {L : List PNode} {need need' : Nat → Bool} {c c2 : Int} (h : Taken w I nb M L need c c2) (h1 : ∀ j : Nat, c < (j : Int) → need' j = need j) (h2 : ∀ j, need j = true → need' j = true) : Taken w I nb M L need' c c2 := by
  obtain ⟨f, hf, h⟩ := h
  refine ⟨f, hf, fun i k1 k2 k3 => ?_⟩
  obtain ⟨n, va, e1, e2, e3, e4, e5, e6, e7⟩ := h i k1 k2 (by rw [← h1 i k1]; exact k3)
  exact ⟨n, va, e1, e2, e3, e4, e5, e6, fun hc a ha => h2 _ (e7 hc a ha)⟩
section
variable {w0 wr w' : World} {ts : List Thing} {I : List Nat} {nb M : Nat} {L : List PNode} {need need' : Nat → Bool} {c c2 : Int}
theorem Lab.taken (h : Lab w0 wr (Thing.taken I nb M L need c c2 :: ts)) : Taken wr I nb M L need c c2 := h.head
theorem Lab.taken_congr (h : Lab w0 wr (Thing.taken I nb M L need c c2 :: ts)) (h1 : ∀ j : Nat, c < (j : Int) → need' j = need j) (h2 : ∀ j, need j = true → need' j = true) : Lab w0 wr (Thing.taken I nb M L need' c c2 :: ts) :=
  h.say (s' := Thing.taken I nb M L need' c c2) rfl (fun _ hk => hk) fun hh => Taken.congr hh h1 h2
/-- One that is not needed is left out. -/
theorem Lab.taken_skip {t : Nat} (h : Lab w0 wr (Thing.taken I nb M L need (t : Int) (t : Int) :: ts)) (hn : need t = false) : Lab w0 wr (Thing.taken I nb M L need ((t : Int) - 1) ((t : Int) - 1) :: ts) :=
  h.say (s' := Thing.taken I nb M L need ((t : Int) - 1) ((t : Int) - 1)) rfl (fun _ hk => hk) fun hh => by
    obtain ⟨f, hf, hh⟩ := hh
    refine ⟨f, hf, fun i k1 k2 k3 => ?_⟩
    have hne : i ≠ t := fun e => by subst e; rw [hn] at k3; cases k3
    obtain ⟨n, va, e1, e2, e3, e4, e5, e6, e7⟩ := hh i (by omega) k2 k3
    exact ⟨n, va, e1, e2, e3, e4, e5, e6, fun _ => e7 (by omega)⟩
/-- One whose arguments are needed. -/
theorem Lab.taken_close {t : Nat} {n : PNode} (h : Lab w0 wr (Thing.taken I nb M L need ((t : Int) - 1) (t : Int) :: ts)) (hi : L[t]? = some n) (hn : ∀ a ∈ n.2.2, need a.toNat = true) : Lab w0 wr (Thing.taken I nb M L need ((t : Int) - 1) ((t : Int) - 1) :: ts) :=
  h.say (s' := Thing.taken I nb M L need ((t : Int) - 1) ((t : Int) - 1)) rfl (fun _ hk => hk) fun hh => by
    obtain ⟨f, hf, hh⟩ := hh
    refine ⟨f, hf, fun i k1 k2 k3 => ?_⟩
    obtain ⟨m, va, e1, e2, e3, e4, e5, e6, e7⟩ := hh i k1 k2 k3
    refine ⟨m, va, e1, e2, e3, e4, e5, e6, fun _ => ?_⟩
    by_cases he : i = t
    · subst he
      rw [hi] at e1
      obtain rfl : n = m := by simpa using e1
      exact hn
    · exact e7 (by omega)
/-- A node is stored. -/
theorem Lab.taken_store {t : Nat} {n : PNode} {va : Value} (h : Lab w0 wr (Thing.taken I nb M L need (t : Int) (t : Int) :: Thing.ints va n.2.2 :: ts)) (hi : L[t]? = some n) (htM : t < M) :
    Lab w0 (((wr.setCell ⟨nb, t * 3, none⟩ (.int .u8 n.1)).setCell ⟨nb, t * 3 + 1, none⟩ (.int .u64 n.2.1)).setCell ⟨nb, t * 3 + 2, none⟩ va) (Thing.taken (va.ownBlock.toList ++ I) nb M L need ((t : Int) - 1) (t : Int) :: ts) := by
  obtain ⟨f, hf, hh⟩ := h.taken
  have hv := h.ints2
  have f1 := hf.set (t * 3) (.int .u8 n.1)
  have f2 := f1.set (t * 3 + 1) (.int .u64 n.2.1)
  have f3 := f2.set (t * 3 + 2) va
  have k1 : KeepI wr _ := KeepI.set hf (by decide) (t * 3) (.int .u8 n.1)
  have k2 := k1.trans (KeepI.set f1 (by decide) (t * 3 + 1) (.int .u64 n.2.1))
  have k3 := k2.trans (KeepI.set f2 (by decide) (t * 3 + 2) va)
  refine h.absorb (s' := Thing.taken (va.ownBlock.toList ++ I) nb M L need ((t : Int) - 1) (t : Int)) ⟨rfl, rfl, rfl, by simp only [World.size_setCell]; exact Nat.le_refl _, fun k hk hn => ?_⟩ ⟨_, f3, fun i h1 h2 h3 => ?_⟩ (fun k hk => .inl hk) (fun k hk => ?_) (fun k hk => ?_)
  · have hn' : k ≠ nb := by simpa [Thing.taken] using hn
    rw [heap_setCell_other _ _ _ _ hn', heap_setCell_other _ _ _ _ hn', heap_setCell_other _ _ _ _ hn']
  · by_cases he : i = t
    · subst he
      refine ⟨n, va, hi, ?_, ?_, ?_, (intsAt_owns hv).ints k3, fun k hk => List.mem_append_left _ (by simp [hk]), fun hc => by omega⟩
      · show (if i * 3 = i * 3 + 2 then va else if i * 3 = i * 3 + 1 then _ else if i * 3 = i * 3 then _ else _) = _
        rw [if_neg (by omega), if_neg (by omega), if_pos rfl]
      · show (if i * 3 + 1 = i * 3 + 2 then va else if i * 3 + 1 = i * 3 + 1 then _ else _) = _
        rw [if_neg (by omega), if_pos rfl]
      · show (if i * 3 + 2 = i * 3 + 2 then va else _) = _
        rw [if_pos rfl]
    · obtain ⟨m, vb, e1, e2, e3, e4, e5, e6, e7⟩ := hh i (by omega) h2 h3
      refine ⟨m, vb, e1, ?_, ?_, ?_, e5.ints k3, fun k hk => List.mem_append_right _ (e6 k hk), e7⟩
      · show (if i * 3 = t * 3 + 2 then va else if i * 3 = t * 3 + 1 then _ else if i * 3 = t * 3 then _ else _) = _
        rw [if_neg (by omega), if_neg (by omega), if_neg (by omega)]; exact e2
      · show (if i * 3 + 1 = t * 3 + 2 then va else if i * 3 + 1 = t * 3 + 1 then _ else if i * 3 + 1 = t * 3 then _ else _) = _
        rw [if_neg (by omega), if_neg (by omega), if_neg (by omega)]; exact e3
      · show (if i * 3 + 2 = t * 3 + 2 then va else if i * 3 + 2 = t * 3 + 1 then _ else if i * 3 + 2 = t * 3 then _ else _) = _
        rw [if_neg (by omega), if_neg (by omega), if_neg (by omega)]; exact e4
  · rcases List.mem_append.1 hk with hk | hk
    · exact .inr (.inl (by simpa [Thing.ints, Thing.row] using hk))
    · exact .inl hk
  · simp only [World.size_setCell]
    rcases hk with hk | hk
    · exact h.high (Thing.taken I nb M L need (t : Int) (t : Int)) (by simp) k (.inl hk)
    · rcases List.mem_append.1 hk with hk | hk
      · exact h.high (Thing.ints va n.2.2) (by simp) k (.inl (by simpa [Thing.ints, Thing.row] using hk))
      · exact h.high (Thing.taken I nb M L need (t : Int) (t : Int)) (by simp) k (.inr hk)
/-- A node that was taken, in memory. -/
theorem Taken.at {w : World} {t : Nat} {n : PNode} (h : Taken w I nb M L need c c2) (hc : c < (t : Int)) (htM : t < M) (hn : need t = true) (hi : L[t]? = some n) :
    ∃ va, w.cell? ⟨nb, t * 3, none⟩ = some (.int .u8 n.1) ∧ w.cell? ⟨nb, t * 3 + 1, none⟩ = some (.int .u64 n.2.1) ∧ w.cell? ⟨nb, t * 3 + 2, none⟩ = some va ∧ IntsAt w va n.2.2 ∧ (c2 < (t : Int) → ∀ a ∈ n.2.2, need a.toNat = true) := by
  obtain ⟨f, hf, h⟩ := h
  obtain ⟨m, va, e1, e2, e3, e4, e5, _, e7⟩ := h t hc htM hn
  rw [hi] at e1
  obtain rfl : n = m := by simpa using e1
  exact ⟨va, by rw [hf.cell (by omega), e2], by rw [hf.cell (by omega), e3], by rw [hf.cell (by omega), e4], e5, e7⟩
theorem Taken.start {w : World} {f : Nat → Value} (h : w.rowIs nb 62 (M * 3) f) : Taken w [] nb M L need ((M : Int) - 1) ((M : Int) - 1) := ⟨f, h, fun i h1 h2 => by omega⟩
end
end Go.Proofs.Yteofgmjejocleaa
