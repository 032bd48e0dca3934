/- EvalT, RefW, BothA, SimpA: joined by wip/bundle.py. -/
import Derived.Test.YtiklidgcmheofaaDoorB1
import Derived.Test.YtiklidgcmheofaaDoorB2
import Derived.Test.YtiklidgcmheofaaDoorB3
import Derived.Test.YtiklidgcmheofaaDoorB4
import Derived.Deep.OwnRows
import Derived.Maps.RangeWalk
import Derived.Deep.DrawnRows
import Derived.BigQuiet
namespace Go.Proofs.YtiklidgcmheofaaDoor
open Go.RowKit Go.Maps
set_option maxHeartbeats 400000
theorem rowIs_later {w w' : World} {b t n : Nat} {f : Nat → Value} (h : w.rowIs b t n f) (hb : Below w.heap.size w w') : w'.rowIs b t n f := h.of_block (hb.block b h.lt)
theorem slice_of_row {w : World} {b n c : Nat} {k : IntKind} {T : TypeId} {f : Nat → Value} {xs : List Int} (h : w.rowIs b T n f) (hl : xs.length = n) (hf : ∀ i, i < n → f i = .int k (xs.getD i 0)) : SliceOf w k (.slice (some ⟨b, 0, none⟩) n c) xs :=
  ⟨_, _, _, rfl, hl, fun i hi => ⟨b, 0, rfl, by rw [Nat.zero_add, h.cell hi, hf i hi]⟩⟩
theorem SliceOf.parts' {w : World} {k : IntKind} {a : Option Addr} {n cap : Nat} {xs : List Int} (h : SliceOf w k (.slice a n cap) xs) {i : Nat} (hi : i < n) : ∃ b off q, a = some ⟨b, off, none⟩ ∧ w.cell? ⟨b, off + i, none⟩ = some (.int k q) ∧ xs[i]? = some q := by
  obtain ⟨a', n', cap', e, _, hc⟩ := h.parts
  simp only [Value.slice.injEq] at e
  obtain ⟨rfl, rfl, rfl⟩ := e
  exact hc i hi
/-- A row whose cells are a list of numbers is an own slice. -/
theorem owns_of_row {w : World} {base b n : Nat} {k : IntKind} {T : TypeId} {f : Nat → Value} {xs : List Int} (h : w.rowIs b T n f) (hb : base ≤ b) (hl : xs.length = n) (hm : n ≤ maxLen) (hf : ∀ i, i < n → f i = .int k (xs.getD i 0)) : OwnInts w base T k (.slice (some ⟨b, 0, none⟩) n n) xs := by
  subst hl
  obtain ⟨c, hc, hn, hi⟩ := h
  refine ⟨by simp, .inr ⟨b, _, c, rfl, hb, hc, Nat.le_refl _, hm, by omega, ?_⟩⟩
  apply List.ext_getElem?
  intro i
  rw [Nat.mul_one, List.getElem?_take, List.getElem?_map]
  by_cases hlt : i < xs.length
  · rw [if_pos hlt, Array.getElem?_toList, hi i hlt, hf i hlt, List.getD_eq_getElem?_getD, List.getElem?_eq_getElem hlt]; rfl
  · rw [if_neg hlt, List.getElem?_eq_none (by omega)]; rfl
theorem madeCells_at (z : Array Value) (n i : Nat) (hi : i < n) : (madeCells z n)[i]? = some (z[i % z.size]!) := by simp [madeCells, hi]
/-- A row by its index. -/
def Thing.fn (b T n : Nat) (f : Nat → Value) : Thing := ⟨[b], [], fun w => w.rowIs b T n f, fun _ _ h hk => h.of_block (hk b (.inl (by simp)))⟩
section
variable {w0 wr w' : World} {ts : List Thing} {b T n : Nat} {f g : Nat → Value}
theorem Lab.fn1 (h : Lab w0 wr (Thing.fn b T n f :: ts)) : wr.rowIs b T n f := h.head
theorem Lab.fn2 {s : Thing} (h : Lab w0 wr (s :: Thing.fn b T n f :: ts)) : wr.rowIs b T n f := h.second
theorem Lab.fn3 {s t : Thing} (h : Lab w0 wr (s :: t :: Thing.fn b T n f :: ts)) : wr.rowIs b T n f := h.third
theorem Lab.fn4 {s t u : Thing} (h : Lab w0 wr (s :: t :: u :: Thing.fn b T n f :: ts)) : wr.rowIs b T n f := h.fourth
theorem Lab.fifth {s t u v x : Thing} (h : Lab w0 wr (s :: t :: u :: v :: x :: ts)) : x.holds wr := h.holds x (by simp)
theorem Lab.sixth {s t u v x y : Thing} (h : Lab w0 wr (s :: t :: u :: v :: x :: y :: ts)) : y.holds wr := h.holds y (by simp)
/-- The first thing is said otherwise. -/
theorem Lab.say {s s' : Thing} (h : Lab w0 wr (s :: ts)) (hW : s'.W = s.W) (hR : ∀ k, k ∈ s'.R → k ∈ s.R) (hs : s.holds wr → s'.holds wr) : Lab w0 wr (s' :: ts) := by
  refine h.turn (s' := s') (Touch.refl _ _) (hs h.head) (fun k hk => .inl (by rw [← hW]; exact hk)) (fun k hk => .inl (hR k hk)) (fun k hk => h.high s (by simp) k ?_)
  rcases hk with hk | hk
  · exact .inl (by rw [← hW]; exact hk)
  · exact .inr (hR k hk)
theorem Lab.fn_congr (h : Lab w0 wr (Thing.fn b T n f :: ts)) (e : ∀ i, i < n → f i = g i) : Lab w0 wr (Thing.fn b T n g :: ts) :=
  h.say (s' := Thing.fn b T n g) rfl (fun _ hk => hk) fun hh => World.rowIs.congr hh e
/-- A row is laid. -/
theorem Lab.make (h : Lab w0 wr ts) (arr : Array Value) (T : Nat) (f : Nat → Value) (hs : arr.size = n) (hf : ∀ i, i < n → arr[i]? = some (f i)) : Lab w0 (wr.alloc (.cells arr T)) (Thing.fn wr.heap.size T n f :: ts) := by
  have hl := h.alloc arr T
  exact hl.say (s' := Thing.fn wr.heap.size T n f) rfl (fun _ hk => hk) fun hh => ⟨arr, hh, hs, hf⟩
/-- A cell of the first row is written. -/
theorem Lab.set (h : Lab w0 wr (Thing.fn b T n f :: ts)) (i : Nat) (v : Value) : Lab w0 (wr.setCell ⟨b, i, none⟩ v) (Thing.fn b T n (fun j => if j = i then v else f j) :: ts) := by
  refine h.turn (s' := Thing.fn b T n _) ⟨rfl, rfl, rfl, by rw [World.size_setCell]; exact Nat.le_refl _, fun k hk hn => heap_setCell_other _ _ _ _ (by simpa [Thing.fn] using hn)⟩ (h.fn1.set i v) (fun k hk => .inl hk) (fun k hk => .inl hk) (fun k hk => ?_)
  rw [World.size_setCell]
  exact h.high (Thing.fn b T n f) (by simp) k hk
end
/-- Blocks of numbers stay as they are. -/
def KeepI (w w' : World) : Prop := ∀ (k : Nat) (arr : Array Value) (fr : Nat × Nat), w.heap[k]? = some (Obj.cells arr 3 fr) → w'.heap[k]? = w.heap[k]?
theorem KeepI.refl (w : World) : KeepI w w := fun _ _ _ _ => rfl
theorem KeepI.trans {a b c : World} (h : KeepI a b) (h' : KeepI b c) : KeepI a c := fun k arr fr hk => (h' k arr fr ((h k arr fr hk).trans hk)).trans (h k arr fr hk)
theorem KeepI.below {w w' : World} (h : Below w.heap.size w w') : KeepI w w' := fun k _ _ hk => h.block k (Array.getElem?_eq_some_iff.1 hk).1
theorem KeepI.set {w : World} {b T n : Nat} {f : Nat → Value} (h : w.rowIs b T n f) (hT : T ≠ 3) (i : Nat) (v : Value) : KeepI w (w.setCell ⟨b, i, none⟩ v) := by
  intro k arr fr hk
  refine heap_setCell_other _ _ _ _ ?_
  intro e
  obtain ⟨c, hc, _⟩ := h
  simp only at e
  subst e
  rw [hk] at hc
  simp at hc
  exact hT hc.2.1.symm
/-- Each three cells are those of a node. -/
def ShapeF (M : Nat) (f : Nat → Value) : Prop := ∀ i, i < M → ∃ a b v m c, f (i * 3) = .int .u8 a ∧ f (i * 3 + 1) = .int .u64 b ∧ f (i * 3 + 2) = .slice v m c
theorem shape_made (M : Nat) : ShapeF M (fun i => (#[.int .u8 0, .int .u64 0, .slice none 0 0] : Array Value)[i % 3]!) := fun i _ =>
  ⟨0, 0, none, 0, 0, by show _ = _; simp only [show i * 3 % 3 = 0 by omega]; rfl, by show _ = _; simp only [show (i * 3 + 1) % 3 = 1 by omega]; rfl, by show _ = _; simp only [show (i * 3 + 2) % 3 = 2 by omega]; rfl⟩
/-- The nodes that a walk from the last term down has taken: those above a place that are needed; above another place, with all that they need. -/
def Taken (w : World) (I : List Nat) (nb M : Nat) (L : List PNode) (need : Nat → Bool) (c c2 : Int) : Prop :=
  ∃ f, w.rowIs nb 64 (M * 3) f ∧ ShapeF M f ∧ ∀ i : Nat, c < (i : Int) → i < M → need i = true → ∃ n va, L[i]? = some n ∧ f (i * 3) = .int .u8 n.1 ∧ f (i * 3 + 1) = .int .u64 n.2.1 ∧ f (i * 3 + 2) = va ∧ IntsAt w va n.2.2 ∧ (∀ k, va.ownBlock = some k → k ∈ I) ∧ (c2 < (i : Int) → ∀ a ∈ n.2.2, need a.toNat = true)
theorem Taken.keep {w w' : World} {I : List Nat} {nb M : Nat} {L : List PNode} {need : Nat → Bool} {c c2 : Int} (h : Taken w I nb M L need c c2) (hk : ∀ k, k ∈ [nb] ∨ k ∈ I → w'.heap[k]? = w.heap[k]?) : Taken w' I nb M L need c c2 := by
  obtain ⟨f, hf, hs, h⟩ := h
  refine ⟨f, hf.of_block (hk nb (.inl (by simp))), hs, fun i h1 h2 h3 => ?_⟩
  obtain ⟨n, va, k1, k2, k3, k4, k5, k6, k7⟩ := h i h1 h2 h3
  exact ⟨n, va, k1, k2, k3, k4, k5.own fun k hm => hk k (.inr (k6 k hm)), k6, k7⟩
def Thing.taken (I : List Nat) (nb M : Nat) (L : List PNode) (need : Nat → Bool) (c c2 : Int) : Thing :=
  ⟨[nb], I, fun w => Taken w I nb M L need c c2, fun _ _ h hk => Taken.keep h hk⟩
theorem Taken.congr {w : World} {I : List Nat} {nb M : Nat} {L : List PNode} {need need' : Nat → Bool} {c c2 : Int} (h : Taken w I nb M L need c c2) (h1 : ∀ j : Nat, c < (j : Int) → need' j = need j) (h2 : ∀ j, need j = true → need' j = true) : Taken w I nb M L need' c c2 := by
  obtain ⟨f, hf, hs, h⟩ := h
  refine ⟨f, hf, hs, fun i k1 k2 k3 => ?_⟩
  obtain ⟨n, va, e1, e2, e3, e4, e5, e6, e7⟩ := h i k1 k2 (by rw [← h1 i k1]; exact k3)
  exact ⟨n, va, e1, e2, e3, e4, e5, e6, fun hc a ha => h2 _ (e7 hc a ha)⟩
section
variable {w0 wr w' : World} {ts : List Thing} {I : List Nat} {nb M : Nat} {L : List PNode} {need need' : Nat → Bool} {c c2 : Int}
theorem Lab.taken (h : Lab w0 wr (Thing.taken I nb M L need c c2 :: ts)) : Taken wr I nb M L need c c2 := h.head
theorem Lab.taken_congr (h : Lab w0 wr (Thing.taken I nb M L need c c2 :: ts)) (h1 : ∀ j : Nat, c < (j : Int) → need' j = need j) (h2 : ∀ j, need j = true → need' j = true) : Lab w0 wr (Thing.taken I nb M L need' c c2 :: ts) :=
  h.say (s' := Thing.taken I nb M L need' c c2) rfl (fun _ hk => hk) fun hh => Taken.congr hh h1 h2
/-- One that is not needed is left out. -/
theorem Lab.taken_skip {t : Nat} (h : Lab w0 wr (Thing.taken I nb M L need (t : Int) (t : Int) :: ts)) (hn : need t = false) : Lab w0 wr (Thing.taken I nb M L need ((t : Int) - 1) ((t : Int) - 1) :: ts) :=
  h.say (s' := Thing.taken I nb M L need ((t : Int) - 1) ((t : Int) - 1)) rfl (fun _ hk => hk) fun hh => by
    obtain ⟨f, hf, hs, hh⟩ := hh
    refine ⟨f, hf, hs, fun i k1 k2 k3 => ?_⟩
    have hne : i ≠ t := fun e => by subst e; rw [hn] at k3; cases k3
    obtain ⟨n, va, e1, e2, e3, e4, e5, e6, e7⟩ := hh i (by omega) k2 k3
    exact ⟨n, va, e1, e2, e3, e4, e5, e6, fun _ => e7 (by omega)⟩
/-- One whose arguments are needed. -/
theorem Lab.taken_close {t : Nat} {n : PNode} (h : Lab w0 wr (Thing.taken I nb M L need ((t : Int) - 1) (t : Int) :: ts)) (hi : L[t]? = some n) (hn : ∀ a ∈ n.2.2, need a.toNat = true) : Lab w0 wr (Thing.taken I nb M L need ((t : Int) - 1) ((t : Int) - 1) :: ts) :=
  h.say (s' := Thing.taken I nb M L need ((t : Int) - 1) ((t : Int) - 1)) rfl (fun _ hk => hk) fun hh => by
    obtain ⟨f, hf, hs, hh⟩ := hh
    refine ⟨f, hf, hs, fun i k1 k2 k3 => ?_⟩
    obtain ⟨m, va, e1, e2, e3, e4, e5, e6, e7⟩ := hh i k1 k2 k3
    refine ⟨m, va, e1, e2, e3, e4, e5, e6, fun _ => ?_⟩
    by_cases he : i = t
    · subst he
      rw [hi] at e1
      obtain rfl : n = m := by simpa using e1
      exact hn
    · exact e7 (by omega)
/-- A node is stored. -/
theorem Lab.taken_store {t : Nat} {n : PNode} {va : Value} (h : Lab w0 wr (Thing.taken I nb M L need (t : Int) (t : Int) :: Thing.ints va n.2.2 :: ts)) (hi : L[t]? = some n) (htM : t < M) :
    Lab w0 (((wr.setCell ⟨nb, t * 3, none⟩ (.int .u8 n.1)).setCell ⟨nb, t * 3 + 1, none⟩ (.int .u64 n.2.1)).setCell ⟨nb, t * 3 + 2, none⟩ va) (Thing.taken (va.ownBlock.toList ++ I) nb M L need ((t : Int) - 1) (t : Int) :: ts) := by
  obtain ⟨f, hf, hsh, hh⟩ := h.taken
  have hv := h.ints2
  have f1 := hf.set (t * 3) (.int .u8 n.1)
  have f2 := f1.set (t * 3 + 1) (.int .u64 n.2.1)
  have f3 := f2.set (t * 3 + 2) va
  have k1 : KeepI wr _ := KeepI.set hf (by decide) (t * 3) (.int .u8 n.1)
  have k2 := k1.trans (KeepI.set f1 (by decide) (t * 3 + 1) (.int .u64 n.2.1))
  have k3 := k2.trans (KeepI.set f2 (by decide) (t * 3 + 2) va)
  refine h.absorb (s' := Thing.taken (va.ownBlock.toList ++ I) nb M L need ((t : Int) - 1) (t : Int)) ⟨rfl, rfl, rfl, by simp only [World.size_setCell]; exact Nat.le_refl _, fun k hk hn => ?_⟩ ⟨_, f3, fun i hi' => ?_, fun i h1 h2 h3 => ?_⟩ (fun k hk => .inl hk) (fun k hk => ?_) (fun k hk => ?_)
  · have hn' : k ≠ nb := by simpa [Thing.taken] using hn
    rw [heap_setCell_other _ _ _ _ hn', heap_setCell_other _ _ _ _ hn', heap_setCell_other _ _ _ _ hn']
  · obtain ⟨va1, va2, va3, rfl⟩ := hv.val
    by_cases he : i = t
    · subst he
      refine ⟨n.1, n.2.1, va1, va2, va3, ?_, ?_, ?_⟩
      · show (if i * 3 = i * 3 + 2 then _ else if i * 3 = i * 3 + 1 then _ else if i * 3 = i * 3 then _ else _) = _
        rw [if_neg (by omega), if_neg (by omega), if_pos rfl]
      · show (if i * 3 + 1 = i * 3 + 2 then _ else if i * 3 + 1 = i * 3 + 1 then _ else _) = _
        rw [if_neg (by omega), if_pos rfl]
      · show (if i * 3 + 2 = i * 3 + 2 then _ else _) = _
        rw [if_pos rfl]
    · obtain ⟨a, b, v, m, c, e1, e2, e3⟩ := hsh i hi'
      refine ⟨a, b, v, m, c, ?_, ?_, ?_⟩
      · show (if i * 3 = t * 3 + 2 then _ else if i * 3 = t * 3 + 1 then _ else if i * 3 = t * 3 then _ else _) = _
        rw [if_neg (by omega), if_neg (by omega), if_neg (by omega)]; exact e1
      · show (if i * 3 + 1 = t * 3 + 2 then _ else if i * 3 + 1 = t * 3 + 1 then _ else if i * 3 + 1 = t * 3 then _ else _) = _
        rw [if_neg (by omega), if_neg (by omega), if_neg (by omega)]; exact e2
      · show (if i * 3 + 2 = t * 3 + 2 then _ else if i * 3 + 2 = t * 3 + 1 then _ else if i * 3 + 2 = t * 3 then _ else _) = _
        rw [if_neg (by omega), if_neg (by omega), if_neg (by omega)]; exact e3
  · by_cases he : i = t
    · subst he
      refine ⟨n, va, hi, ?_, ?_, ?_, (intsAt_owns hv).ints k3, fun k hk => List.mem_append_left _ (by simp [hk]), fun hc => by omega⟩
      · show (if i * 3 = i * 3 + 2 then va else if i * 3 = i * 3 + 1 then _ else if i * 3 = i * 3 then _ else _) = _
        rw [if_neg (by omega), if_neg (by omega), if_pos rfl]
      · show (if i * 3 + 1 = i * 3 + 2 then va else if i * 3 + 1 = i * 3 + 1 then _ else _) = _
        rw [if_neg (by omega), if_pos rfl]
      · show (if i * 3 + 2 = i * 3 + 2 then va else _) = _
        rw [if_pos rfl]
    · obtain ⟨m, vb, e1, e2, e3, e4, e5, e6, e7⟩ := hh i (by omega) h2 h3
      refine ⟨m, vb, e1, ?_, ?_, ?_, e5.ints k3, fun k hk => List.mem_append_right _ (e6 k hk), e7⟩
      · show (if i * 3 = t * 3 + 2 then va else if i * 3 = t * 3 + 1 then _ else if i * 3 = t * 3 then _ else _) = _
        rw [if_neg (by omega), if_neg (by omega), if_neg (by omega)]; exact e2
      · show (if i * 3 + 1 = t * 3 + 2 then va else if i * 3 + 1 = t * 3 + 1 then _ else if i * 3 + 1 = t * 3 then _ else _) = _
        rw [if_neg (by omega), if_neg (by omega), if_neg (by omega)]; exact e3
      · show (if i * 3 + 2 = t * 3 + 2 then va else if i * 3 + 2 = t * 3 + 1 then _ else if i * 3 + 2 = t * 3 then _ else _) = _
        rw [if_neg (by omega), if_neg (by omega), if_neg (by omega)]; exact e4
  · rcases List.mem_append.1 hk with hk | hk
    · exact .inr (.inl (by simpa [Thing.ints, Thing.row] using hk))
    · exact .inl hk
  · simp only [World.size_setCell]
    rcases hk with hk | hk
    · exact h.high (Thing.taken I nb M L need (t : Int) (t : Int)) (by simp) k (.inl hk)
    · rcases List.mem_append.1 hk with hk | hk
      · exact h.high (Thing.ints va n.2.2) (by simp) k (.inl (by simpa [Thing.ints, Thing.row] using hk))
      · exact h.high (Thing.taken I nb M L need (t : Int) (t : Int)) (by simp) k (.inr hk)
/-- A node that was taken, in memory. -/
theorem Taken.at {w : World} {t : Nat} {n : PNode} (h : Taken w I nb M L need c c2) (hc : c < (t : Int)) (htM : t < M) (hn : need t = true) (hi : L[t]? = some n) :
    ∃ va, w.cell? ⟨nb, t * 3, none⟩ = some (.int .u8 n.1) ∧ w.cell? ⟨nb, t * 3 + 1, none⟩ = some (.int .u64 n.2.1) ∧ w.cell? ⟨nb, t * 3 + 2, none⟩ = some va ∧ IntsAt w va n.2.2 ∧ (c2 < (t : Int) → ∀ a ∈ n.2.2, need a.toNat = true) := by
  obtain ⟨f, hf, -, h⟩ := h
  obtain ⟨m, va, e1, e2, e3, e4, e5, _, e7⟩ := h t hc htM hn
  rw [hi] at e1
  obtain rfl : n = m := by simpa using e1
  exact ⟨va, by rw [hf.cell (by omega), e2], by rw [hf.cell (by omega), e3], by rw [hf.cell (by omega), e4], e5, e7⟩
theorem Taken.start {w : World} {f : Nat → Value} (h : w.rowIs nb 64 (M * 3) f) (hs : ShapeF M f) : Taken w [] nb M L need ((M : Int) - 1) ((M : Int) - 1) := ⟨f, h, hs, fun i h1 h2 => by omega⟩
/-- Whatever node it is, its cells have a node's form. -/
theorem Taken.cells {w : World} {t : Nat} (h : Taken w I nb M L need c c2) (htM : t < M) : ∃ a b v m k, w.cell? ⟨nb, t * 3, none⟩ = some (.int .u8 a) ∧ w.cell? ⟨nb, t * 3 + 1, none⟩ = some (.int .u64 b) ∧ w.cell? ⟨nb, t * 3 + 2, none⟩ = some (.slice v m k) := by
  obtain ⟨f, hf, hs, -⟩ := h
  obtain ⟨a, b, v, m, k, e1, e2, e3⟩ := hs t htM
  exact ⟨a, b, v, m, k, by rw [hf.cell (by omega), e1], by rw [hf.cell (by omega), e2], by rw [hf.cell (by omega), e3]⟩
end
end Go.Proofs.YtiklidgcmheofaaDoor
namespace Go.Proofs.YtiklidgcmheofaaDoor
open Go.RowKit Go.Maps
set_option maxHeartbeats 400000
section
variable {P : Program} {K : TypeId} {w : World} {mb : Nat} {m : List (Value × Value)}
/-- A store at a key that is there. -/
theorem MapIs.put_old {T E : TypeId} (h : MapIs P K w mb m) (KL : Keyed P K) (hT : P.underlying T = some (.map K E)) {k : Value} {l : Lit} (hk : keyOf P K k = some l) {v0 : Value} (hm : (k, v0) ∈ m) (v : Value) :
    (Instr.mapUpdate T (.map (some mb)) k v).run P w = .ok () (mapW P T mb k v w) ∧ (∃ m', MapIs P K (mapW P T mb k v w) mb m' ∧ m'.length = m.length ∧ ∀ p, p ∈ m' ↔ p = (k, v) ∨ (p ∈ m ∧ p.1 ≠ k)) ∧ But mb w (mapW P T mb k v w) := by
  obtain ⟨es, clock, h1, h2, h3, h4, h5, h6⟩ := h
  rcases KL.find w hk es.toList h2 with ⟨_, hno⟩ | ⟨j, e, hf, hj, hek⟩
  · obtain ⟨e, he, hee⟩ := List.mem_map.1 (h3.mem_iff.2 hm)
    exact absurd (Prod.mk.inj hee).1 (hno e he)
  · have hjl : j < es.toList.length := (List.getElem?_eq_some_iff.1 hj).1
    have hje : es[j]? = some e := by rw [← Array.getElem?_toList]; exact hj
    have hst := KL.stays w hk
    have hr : (Instr.mapUpdate T (.map (some mb)) k v).run P w = .ok () { w with heap := w.heap.setIfInBounds mb (.map (es.modify j fun e => { e with key := k, val := v }) clock) } := by
      simp [Instr.mapUpdate, run_underlying hT, MapKept.run_getObj_map h1, KL.check w _ hk, hf, MapKept.run_setObj_map _ h1, Result.andThen, hje, hek, hst]
    have hw : mapW P T mb k v w = { w with heap := w.heap.setIfInBounds mb (.map (es.modify j fun e => { e with key := k, val := v }) clock) } := by unfold mapW; rw [hr]
    rw [hw]
    -- the entries, one turned
    have hlist : (es.modify j fun e => { e with key := k, val := v }).toList = es.toList.set j { e with key := k, val := v } := by
      apply List.ext_getElem?
      intro i
      rw [Array.getElem?_toList, Array.getElem?_modify, List.getElem?_set]
      by_cases hi : j = i
      · subst hi
        rw [if_pos rfl, if_pos rfl, if_pos hjl, hje]; rfl
      · rw [if_neg hi, if_neg hi, Array.getElem?_toList]
    have hkeys : (es.toList.set j { e with key := k, val := v }).map (·.key) = es.toList.map (·.key) := by
      apply List.ext_getElem?
      intro i
      rw [List.getElem?_map, List.getElem?_map, List.getElem?_set]
      by_cases hi : j = i
      · subst hi
        rw [if_pos rfl, if_pos hjl, hj]; simp [hek]
      · rw [if_neg hi]
    have hborn : (es.toList.set j { e with key := k, val := v }).map (·.born) = es.toList.map (·.born) := by
      apply List.ext_getElem?
      intro i
      rw [List.getElem?_map, List.getElem?_map, List.getElem?_set]
      by_cases hi : j = i
      · subst hi
        rw [if_pos rfl, if_pos hjl, hj]; rfl
      · rw [if_neg hi]
    have hnd : (es.toList.map (·.key)).Nodup := by
      have := (h3.map (·.1)).nodup_iff.2 h4
      rw [List.map_map] at this
      exact this
    refine ⟨hr, ⟨(es.toList.set j { e with key := k, val := v }).map fun e => (e.key, e.val), ⟨_, clock, ?_, ?_, by rw [hlist], ?_, by rw [hlist, hborn]; exact h5, ?_⟩, ?_, fun p => ?_⟩, But.set _ _ _⟩
    · have := (Array.getElem?_eq_some_iff.1 h1).1
      simp [this]
    · intro x hx
      rw [hlist] at hx
      have hxk : x.key ∈ es.toList.map (·.key) := by rw [← hkeys]; exact List.mem_map.2 ⟨x, hx, rfl⟩
      obtain ⟨y, hy, hyx⟩ := List.mem_map.1 hxk
      rw [← hyx]; exact h2 y hy
    · rw [List.map_map]
      show ((es.toList.set j { e with key := k, val := v }).map (·.key)).Nodup
      rw [hkeys]; exact hnd
    · intro x hx
      rw [hlist] at hx
      have hxb : x.born ∈ es.toList.map (·.born) := by rw [← hborn]; exact List.mem_map.2 ⟨x, hx, rfl⟩
      obtain ⟨y, hy, hyx⟩ := List.mem_map.1 hxb
      rw [← hyx]; exact h6 y hy
    · rw [List.length_map, List.length_set]
      have := h3.length_eq
      simpa using this
    · constructor
      · intro hp
        obtain ⟨x, hx, rfl⟩ := List.mem_map.1 hp
        obtain ⟨i, hi, hxi⟩ := List.getElem_of_mem hx
        have hxi' : (es.toList.set j { e with key := k, val := v })[i]? = some x := by rw [List.getElem?_eq_getElem hi, hxi]
        rw [List.getElem?_set] at hxi'
        by_cases hij : j = i
        · rw [if_pos hij, if_pos (by rw [List.length_set] at hi; omega)] at hxi'
          left
          simp only [Option.some.injEq] at hxi'
          rw [← hxi']
        · rw [if_neg hij] at hxi'
          right
          refine ⟨h3.mem_iff.1 (List.mem_map.2 ⟨x, List.mem_of_getElem? hxi', rfl⟩), ?_⟩
          intro hk2
          have a1 : (es.toList.map (·.key))[i]? = some k := by rw [List.getElem?_map, hxi']; simp only [Option.map_some]; rw [← hk2]
          have a2 : (es.toList.map (·.key))[j]? = some k := by rw [List.getElem?_map, hj]; simp only [Option.map_some]; rw [← hek]
          obtain ⟨l1, e1⟩ := List.getElem?_eq_some_iff.1 a1
          obtain ⟨l2, e2⟩ := List.getElem?_eq_some_iff.1 a2
          exact hij ((List.getElem_inj hnd).1 (e2.trans e1.symm))
      · rintro (rfl | ⟨hp, hne⟩)
        · refine List.mem_map.2 ⟨{ e with key := k, val := v }, List.mem_of_getElem? (i := j) ?_, rfl⟩
          rw [List.getElem?_set, if_pos rfl, if_pos hjl]
        · obtain ⟨x, hx, rfl⟩ := List.mem_map.1 (h3.mem_iff.2 hp)
          obtain ⟨i, hi, hxi⟩ := List.getElem_of_mem hx
          refine List.mem_map.2 ⟨x, List.mem_of_getElem? (i := i) ?_, rfl⟩
          rw [List.getElem?_set]
          by_cases hij : j = i
          · subst hij
            rw [List.getElem?_eq_getElem hi, hxi] at hj
            simp only [Option.some.injEq] at hj
            rw [← hj] at hek
            exact absurd hek hne
          · rw [if_neg hij, List.getElem?_eq_getElem hi, hxi]
/-- A map, as a function of its keys, and how many there are. -/
def MapF (P : Program) (K : TypeId) (kd : IntKind) (w : World) (mb : Nat) (f : Int → Option Value) (c : Nat) : Prop :=
  ∃ m, MapIs P K w mb m ∧ m.length = c ∧ (∀ p ∈ m, ∃ k v, p = (Value.int kd k, v) ∧ f k = some v) ∧ ∀ k v, f k = some v → (Value.int kd k, v) ∈ m
variable {kd : IntKind} {f : Int → Option Value} {c : Nat}
theorem MapF.block {w' : World} (h : MapF P K kd w mb f c) (hb : w'.heap[mb]? = w.heap[mb]?) : MapF P K kd w' mb f c := by
  obtain ⟨m, h1, h2⟩ := h
  exact ⟨m, h1.block hb, h2⟩
theorem MapF.lt (h : MapF P K kd w mb f c) : mb < w.heap.size := by
  obtain ⟨m, h1, h2⟩ := h
  exact h1.lt
theorem MapF.new (P : Program) (K : TypeId) (kd : IntKind) (w : World) : MapF P K kd (w.alloc (.map #[] 0)) w.heap.size (fun _ => none) 0 := ⟨[], MapIs.new w, rfl, by simp, by simp⟩
theorem MapF.congr {g : Int → Option Value} (h : MapF P K kd w mb f c) (e : ∀ k, f k = g k) : MapF P K kd w mb g c := by
  obtain rfl : f = g := funext e
  exact h
theorem MapF.hit {T E : TypeId} (h : MapF P K kd w mb f c) (hK : P.underlying K = some (.int kd)) (hT : P.underlying T = some (.map K E)) {k : Int} {v : Value} (hw : (Lit.int kd k).wf = true) (hf : f k = some v) (b : Bool) :
    (Instr.lookup T (.map (some mb)) (.int kd k) b).run P w = .ok (if b then .tuple #[v, .bool true] else v) w := by
  obtain ⟨m, h1, h2, h3, h4⟩ := h
  exact h1.lookup_hit (int_keyed hK) hT (keyOf_int_mk hK hw) (h4 k v hf) b
theorem MapF.put {T E : TypeId} (h : MapF P K kd w mb f c) (hK : P.underlying K = some (.int kd)) (hT : P.underlying T = some (.map K E)) {k : Int} (hw : (Lit.int kd k).wf = true) (v : Value) :
    (Instr.mapUpdate T (.map (some mb)) (.int kd k) v).run P w = .ok () (mapW P T mb (.int kd k) v w) ∧ MapF P K kd (mapW P T mb (.int kd k) v w) mb (fun j => if j = k then some v else f j) (if (f k).isSome then c else c + 1) ∧ But mb w (mapW P T mb (.int kd k) v w) := by
  obtain ⟨m, h1, h2, h3, h4⟩ := h
  cases hf : f k with
  | some v0 =>
    obtain ⟨hr, ⟨m', g1, g2, g3⟩, hb⟩ := h1.put_old (int_keyed hK) hT (keyOf_int_mk hK hw) (h4 k v0 hf) v
    refine ⟨hr, ⟨m', g1, by rw [g2, h2]; rfl, fun p hp => ?_, fun j u hj => ?_⟩, hb⟩
    · rcases (g3 p).1 hp with rfl | ⟨hpm, hne⟩
      · exact ⟨k, v, rfl, if_pos rfl⟩
      · obtain ⟨j, u, rfl, hj⟩ := h3 p hpm
        refine ⟨j, u, rfl, ?_⟩
        show (if j = k then some v else f j) = some u
        rw [if_neg (fun e => hne (by simp [e]))]; exact hj
    · replace hj : (if j = k then some v else f j) = some u := hj
      by_cases e : j = k
      · rw [if_pos e] at hj
        simp only [Option.some.injEq] at hj
        rw [e, ← hj]; exact (g3 _).2 (.inl rfl)
      · rw [if_neg e] at hj
        exact (g3 _).2 (.inr ⟨h4 j u hj, fun h => e (by simpa using h)⟩)
  | none =>
    obtain ⟨hr, g1, hb⟩ := h1.put_new (int_keyed hK) hT (keyOf_int_mk hK hw) (fun u hm => by
      obtain ⟨k', v', e, he⟩ := h3 _ hm
      simp only [Prod.mk.injEq, Value.int.injEq, true_and] at e
      rw [e.1, he] at hf; cases hf) v
    refine ⟨hr, ⟨_, g1, by rw [List.length_append, h2]; rfl, fun p hp => ?_, fun j u hj => ?_⟩, hb⟩
    · rcases List.mem_append.1 hp with hp | hp
      · obtain ⟨j, u, rfl, hj⟩ := h3 p hp
        refine ⟨j, u, rfl, ?_⟩
        show (if j = k then some v else f j) = some u
        rw [if_neg (fun e => by rw [e, hf] at hj; cases hj)]; exact hj
      · simp at hp; subst hp
        exact ⟨k, v, rfl, if_pos rfl⟩
    · replace hj : (if j = k then some v else f j) = some u := hj
      by_cases e : j = k
      · rw [if_pos e] at hj
        simp only [Option.some.injEq] at hj
        rw [e, ← hj]; simp
      · rw [if_neg e] at hj
        exact List.mem_append_left _ (h4 j u hj)
theorem MapF.len {T E : TypeId} (h : MapF P K kd w mb f c) (hT : P.underlying T = some (.map K E)) (ty : TypeId) : (Builtin.len_ #[T] ty #[.map (some mb)]).run P w = .ok (.int .i64 c) w := by
  obtain ⟨m, h1, h2, _⟩ := h
  rw [← h2]; exact h1.len hT ty
end
section
variable {w0 wr w' : World} {ts : List Thing} {K T E : TypeId} {kd : IntKind} {mb c : Nat} {f g : Int → Option Value}
end
end Go.Proofs.YtiklidgcmheofaaDoor
namespace Go.Proofs.YtiklidgcmheofaaDoor
open Go.RowKit Go.Maps
set_option maxHeartbeats 800000
section
variable {w0 wr w' : World} {ts : List Thing} {I : List Nat} {nb M : Nat} {L : List PNode} {need : Nat → Bool} {c c2 : Int}
end
end Go.Proofs.YtiklidgcmheofaaDoor
namespace Go.Proofs.YtiklidgcmheofaaDoor
open Go.RowKit
set_option maxHeartbeats 400000
theorem rcheck_any (n : Int) (w : World) :
    Calls Tryd.prog 76 #[.int .i64 n] w fun e w' => e = .returned (.int .i64 (chk n)) ∧ w = w' := by
  by_cases h1 : n < 1
  · go_enter Tryd.func76, Tryd.ntmps76
    go_wp2
    go_ret
    simp [h1, chk]
  · by_cases h2 : 64 < n
    · go_enter Tryd.func76, Tryd.ntmps76
      go_wp2
      go_ret
      simp [h2, chk]
    · go_enter Tryd.func76, Tryd.ntmps76
      go_wp2
      go_ret
      simp [h1, h2, chk]
theorem rarity_any (o : Int) (h0 : 0 ≤ o) (h1 : o ≤ 255) (w : World) :
    Calls Tryd.prog 59 #[.int .u8 o] w fun e w' => e = .returned (.tuple #[.int .i64 (if 21 < o then 0 else aryN o.toNat), .int .i64 (if 21 < o then 3 else 0)]) ∧ w = w' := by
  obtain ⟨n, rfl⟩ := Int.eq_ofNat_of_zero_le h0
  by_cases a1 : n ≤ 1
  · have hr : aryN n = 0 := by unfold aryN; rw [if_pos a1]
    go_enter Tryd.func59, Tryd.ntmps59
    go_wp2
    go_ret2
    simp 
  by_cases a2 : n ≤ 3
  · have hr : aryN n = 1 := by unfold aryN; rw [if_neg a1, if_pos a2]
    go_enter Tryd.func59, Tryd.ntmps59
    go_wp2
    go_ret2
    simp 
  by_cases a3 : n = 21
  · subst a3
    go_enter Tryd.func59, Tryd.ntmps59
    go_wp2
    go_ret2
    exact ⟨rfl, rfl⟩
  have hr : aryN n = 2 := by unfold aryN; rw [if_neg a1, if_neg a2, if_neg a3]
  have hd : ((n : Int) == 21) = false := by simp; omega
  by_cases a4 : 21 < n
  · have h4 : 21 < (n : Int) := by omega
    go_enter Tryd.func59, Tryd.ntmps59
    go_wp2
    go_ret2
    simp 
  · have h4 : ¬ 21 < (n : Int) := by omega
    go_enter Tryd.func59, Tryd.ntmps59
    go_wp2
    go_ret2
    simp 
end Go.Proofs.YtiklidgcmheofaaDoor
namespace Go.Proofs.YtiklidgcmheofaaDoor
open Go.RowKit Go.Maps
set_option maxHeartbeats 800000
section
variable {w0 wr w' : World} {ts : List Thing} {F I : List Nat} {rb W room : Nat} {L : List PNode}
end
/-- A cell of a block of one's own is written. -/
theorem Lab.store {w0 wr : World} {ts : List Thing} {b T : Nat} {arr : Array Value} (h : Lab w0 wr (Thing.box b T arr :: ts)) (i : Nat) (v : Value) : Lab w0 (wr.setCell ⟨b, i, none⟩ v) (Thing.box b T (arr.setIfInBounds i v) :: ts) := by
  refine h.turn (s' := Thing.box b T (arr.setIfInBounds i v)) ⟨rfl, rfl, rfl, by rw [World.size_setCell]; exact Nat.le_refl _, fun k hk hn => heap_setCell_other _ _ _ _ (by simpa [Thing.box] using hn)⟩ (heap_setCell_same _ _ _ _ _ _ h.box1) (fun k hk => .inl hk) (fun k hk => .inl hk) (fun k hk => ?_)
  rw [World.size_setCell]
  exact h.high (Thing.box b T arr) (by simp) k hk
/-- A slice that a graph's call leaves as it is. -/
def Stays (w : World) (S : List Nat) (va : Value) (xs : List Int) : Prop := ∀ wx, Touch S w wx → SliceOf wx .i64 va xs
theorem Stays.slice {w : World} {S : List Nat} {va : Value} {xs : List Int} (h : Stays w S va xs) : SliceOf w .i64 va xs := h w (Touch.refl _ _)
theorem Lab.stays {w0 wr : World} {ts : List Thing} {F I : List Nat} {gb W room : Nat} {L : List PNode} (h : Lab w0 wr (Thing.graph F I gb W room L :: ts)) {va : Value} {xs : List Int} (hs : SliceOf w0 .i64 va xs) : Stays wr F va xs :=
  fun _ ht => hs.below (ht.below h.below h.size (h.low (Thing.graph F I gb W room L) (by simp)))
end Go.Proofs.YtiklidgcmheofaaDoor
namespace Go.Proofs.YtiklidgcmheofaaDoor
open Go.RowKit Go.Maps
set_option maxHeartbeats 800000
/-- What Node answers: the node and the error. -/
def nodeAt (L : List PNode) (t : Int) : PNode × Nat := if 0 ≤ t ∧ t < (L.length : Int) then (L.getD t.toNat (0, 0, []), 0) else ((0, 0, []), 3)
theorem nodeAt_in {L : List PNode} {i : Nat} {n : PNode} (h : L[i]? = some n) : nodeAt L (i : Int) = (n, 0) := by
  have hl := (List.getElem?_eq_some_iff.1 h).1
  unfold nodeAt
  rw [if_pos (by omega), Int.toNat_natCast, List.getD_eq_getElem?_getD, h]; rfl
section
variable {w : World} {base : Nat} {F I F' I' : List Nat} {gb rb W room : Nat} {L : List PNode}
theorem node_t (h : Gr w base F I gb W room L) (t : Int) :
    Calls Tryd.prog 23 #[.pointer (some ⟨gb, 0, none⟩), .int .i64 t] w fun e w' => ∃ a m c, e = .returned (.tuple #[.agg #[.int .u8 (nodeAt L t).1.1, .int .u64 (nodeAt L t).1.2.1, .slice a m c], .int .i64 (nodeAt L t).2]) ∧ OwnInts w' w.heap.size 3 .i64 (.slice a m c) (nodeAt L t).1.2.2 ∧ Below w.heap.size w w' := by
  by_cases ht : 0 ≤ t ∧ t < (L.length : Int)
  · obtain ⟨i, rfl⟩ := Int.eq_ofNat_of_zero_le ht.1
    obtain ⟨n, hn⟩ : ∃ n, L[i]? = some n := ⟨_, List.getElem?_eq_getElem (by omega)⟩
    rw [nodeAt_in hn]
    refine (node_at h i n hn).mono ?_
    rintro e w' ⟨va, rfl, hv, hb⟩
    obtain ⟨a, m, c, rfl⟩ := hv.val
    exact ⟨a, m, c, rfl, hv, hb⟩
  · have : nodeAt L t = ((0, 0, []), 3) := by unfold nodeAt; rw [if_neg ht]
    rw [this]
    refine (node_out h t (by omega)).mono ?_
    rintro e w' ⟨rfl, hb⟩
    exact ⟨none, 0, 0, rfl, OwnInts.nil _ _ _ _, hb⟩
end
end Go.Proofs.YtiklidgcmheofaaDoor
namespace Go.Proofs.YtiklidgcmheofaaDoor
open Go.RowKit Go.Maps
set_option maxHeartbeats 800000
theorem numOf_nodeAt (L : List PNode) (t : Int) : numOf L t = if (nodeAt L t).2 = 0 ∧ (nodeAt L t).1.1 = 0 then some (nodeAt L t).1.2.1 else none := by
  by_cases hc : 0 ≤ t ∧ t < (L.length : Int)
  · obtain ⟨z, rfl⟩ := Int.eq_ofNat_of_zero_le hc.1
    obtain ⟨n, hn⟩ : ∃ n, L[z]? = some n := ⟨_, List.getElem?_eq_getElem (by omega)⟩
    rw [nodeAt_in hn]
    unfold numOf
    rw [if_pos hc.1, Int.toNat_natCast, hn]
    by_cases h : n.1 = 0 <;> simp [h]
  · have e : nodeAt L t = ((0, 0, []), 3) := if_neg hc
    rw [e]
    unfold numOf
    by_cases h0 : 0 ≤ t
    · rw [if_pos h0, List.getElem?_eq_none (by omega)]; simp
    · rw [if_neg h0]; simp
theorem numD_at (L : List PNode) (t : Int) : numD L t = if (nodeAt L t).2 = 0 ∧ (nodeAt L t).1.1 = 0 then (nodeAt L t).1.2.1 else 0 := by
  unfold numD; rw [numOf_nodeAt]; split <;> rfl
theorem isNum_at (L : List PNode) (t : Int) : isNum L t = decide ((nodeAt L t).2 = 0 ∧ (nodeAt L t).1.1 = 0) := by
  unfold isNum; rw [numOf_nodeAt]; split <;> simp [*]
theorem number_any {w : World} {base : Nat} {F I : List Nat} {gb W room : Nat} {L : List PNode} (h : Gr w base F I gb W room L) (t : Int) :
    Calls Tryd.prog 50 #[.pointer (some ⟨gb, 0, none⟩), .int .i64 t] w fun e w' => e = .returned (.tuple #[.int .u64 (numD L t), .bool (isNum L t)]) ∧ Below w.heap.size w w' := by
  have hn := node_t h t
  rw [numD_at, isNum_at]
  obtain ⟨R, hR⟩ : ∃ R, nodeAt L t = R := ⟨_, rfl⟩
  rw [hR] at hn ⊢
  obtain ⟨⟨op, num, xs⟩, er⟩ := R
  simp only at hn ⊢
  have HN := Lib.hid hn
  clear hn h hR
  by_cases he : er = 0
  · subst he
    by_cases h0 : op = 0
    · subst h0
      have e1 : (((0 : Nat) : Int) != 0) = false := by simp
      go_enter Tryd.func50, Tryd.ntmps50
      go_wp2_with fail
      go_at_call 23
      refine HN.out.mono ?_
      rintro e w1 ⟨a, m, c, rfl, -, hb⟩
      have HB := Lib.hid (hb.alloc hb.size (.cells #[.int .u8 ((0 : Nat) : Int), .int .u64 num, .slice a m c] 64))
      clear hb
      go_wp2
      go_ret2
      exact ⟨by simp, HB.out⟩
    · have e1 : (((0 : Nat) : Int) != 0) = false := by simp
      have e2 : ((op : Int) != 0) = true := by rw [bne_iff_ne]; omega
      have HR : ¬ ((0 : Nat) = 0 ∧ op = 0) := fun h => h0 h.2
      rw [if_neg HR, decide_eq_false HR]
      clear HR h0
      go_enter Tryd.func50, Tryd.ntmps50
      go_wp2_with fail
      go_at_call 23
      refine HN.out.mono ?_
      rintro e w1 ⟨a, m, c, rfl, -, hb⟩
      have HB := Lib.hid (hb.alloc hb.size (.cells #[.int .u8 op, .int .u64 num, .slice a m c] 64))
      clear hb
      go_wp2
      go_ret2
      exact ⟨rfl, HB.out⟩
  · have e1 : ((er : Int) != 0) = true := by rw [bne_iff_ne]; omega
    have HR : ¬ (er = 0 ∧ op = 0) := fun h => he h.1
    rw [if_neg HR, decide_eq_false HR]
    clear HR he
    go_enter Tryd.func50, Tryd.ntmps50
    go_wp2_with fail
    go_at_call 23
    refine HN.out.mono ?_
    rintro e w1 ⟨a, m, c, rfl, -, hb⟩
    have HB := Lib.hid (hb.alloc hb.size (.cells #[.int .u8 op, .int .u64 num, .slice a m c] 64))
    clear hb
    go_wp2
    go_ret2
    exact ⟨rfl, HB.out⟩
/-- An operator with its arguments, in memory. -/
structure Asked (w : World) (xb gb ab ca nb ib n : Nat) (L : List PNode) (o : Nat) (xs : List Int) : Prop where
  len : xs.length = n
  nlt : n ≤ 3
  ncap : n ≤ ca
  c0 : w.cell? ⟨xb, 0, none⟩ = some (.pointer (some ⟨gb, 0, none⟩))
  c1 : w.cell? ⟨xb, 1, none⟩ = some (.int .u8 o)
  c2 : w.cell? ⟨xb, 2, none⟩ = some (.slice (some ⟨ab, 0, none⟩) n ca)
  c3 : w.cell? ⟨xb, 3, none⟩ = some (.slice (some ⟨nb, 0, none⟩) n n)
  c4 : w.cell? ⟨xb, 4, none⟩ = some (.slice (some ⟨ib, 0, none⟩) n n)
  a : ∀ i, i < n → w.cell? ⟨ab, i, none⟩ = some (.int .i64 (xs.getD i 0))
  num : ∀ i, i < n → w.cell? ⟨nb, i, none⟩ = some (.int .u64 (numD L (xs.getD i 0)))
  is : ∀ i, i < n → w.cell? ⟨ib, i, none⟩ = some (.bool (isNum L (xs.getD i 0)))
section
variable {w w' : World} {xb gb ab ca nb ib n W room : Nat} {L : List PNode} {o : Nat} {xs : List Int} {base : Nat} {F I : List Nat}
theorem Asked.below (h : Asked w xb gb ab ca nb ib n L o xs) (hb : Below w.heap.size w w') : Asked w' xb gb ab ca nb ib n L o xs :=
  ⟨h.len, h.nlt, h.ncap, cell_later hb h.c0, cell_later hb h.c1, cell_later hb h.c2, cell_later hb h.c3, cell_later hb h.c4, fun i hi => cell_later hb (h.a i hi), fun i hi => cell_later hb (h.num i hi), fun i hi => cell_later hb (h.is i hi)⟩
theorem anumber_any (h : Asked w xb gb ab ca nb ib n L o xs) (i : Nat) (hi : i < n) (v : Nat) :
    Calls Tryd.prog 97 #[.pointer (some ⟨xb, 0, none⟩), .int .i64 i, .int .u64 v] w fun e w' => e = .returned (.bool (decide (isNum L (xs.getD i 0) = true ∧ numD L (xs.getD i 0) = v))) ∧ w = w' := by
  have c3 := h.c3
  have c4 := h.c4
  have d1 := h.num i hi
  have d2 := h.is i hi
  have hn3 := h.nlt
  obtain ⟨q, hq⟩ : ∃ q, numD L (xs.getD i 0) = q := ⟨_, rfl⟩
  rw [hq] at d1 ⊢
  clear h hq
  cases hc : isNum L (xs.getD i 0) with
  | true =>
    rw [hc] at d2
    by_cases hv : q = v
    · have e1 : ((q : Int) == (v : Int)) = true := by rw [beq_iff_eq]; omega
      rw [decide_eq_true ⟨rfl, hv⟩]
      clear hv hc
      go_enter Tryd.func97, Tryd.ntmps97
      go_wp2
      go_ret
      exact ⟨rfl, rfl⟩
    · have e1 : ((q : Int) == (v : Int)) = false := by rw [beq_eq_false_iff_ne]; omega
      rw [decide_eq_false (fun h => hv h.2)]
      clear hv hc
      go_enter Tryd.func97, Tryd.ntmps97
      go_wp2
      go_ret
      exact ⟨rfl, rfl⟩
  | false =>
    rw [hc] at d2
    rw [decide_eq_false (fun h => by cases h.1)]
    clear hc
    go_enter Tryd.func97, Tryd.ntmps97
    go_wp2
    go_ret
    exact ⟨rfl, rfl⟩
theorem ones_any (h : Asked w xb gb ab ca nb ib n L o xs) (hg : Gr w base F I gb W room L) :
    Calls Tryd.prog 101 #[.pointer (some ⟨xb, 0, none⟩)] w fun e w' => e = .returned (.int .u64 ((2 ^ W - 1 : Nat) : Int)) ∧ w = w' := by
  have c0 := h.c0
  have h1 := hg.w1
  have h2 := hg.w2
  have htr := trim_any W 18446744073709551615 (by omega) (by omega) w
  have e3 : trimI W 18446744073709551615 = ((2 ^ W - 1 : Nat) : Int) := by
    unfold trimI
    rw [if_pos (chk_in (by omega) (by omega)), Int.toNat_natCast]
    congr 1
    exact ones_mod' h2
  rw [e3, chk_in (by omega) (by omega)] at htr
  have HT := Lib.hid htr; have HG := Lib.hid hg
  clear h hg htr e3
  generalize 2 ^ W - 1 = M at *
  go_enter Tryd.func101, Tryd.ntmps101
  go_wp2_with (first | (go_at_call 30; refine (width_any HG.out).mono ?_; rintro e w1 ⟨rfl, rfl⟩) | (go_at_call 47; refine HT.out.mono ?_; rintro e w2 ⟨rfl, rfl⟩))
  go_ret
  exact ⟨rfl, rfl⟩
end
end Go.Proofs.YtiklidgcmheofaaDoor
