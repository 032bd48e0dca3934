/- EvalT, EvalA: joined by wip/bundle.py. -/
import Derived.Test.YteamnchoddegpaaGreatDoorB1
import Derived.Test.YteamnchoddegpaaGreatDoorB2
import Derived.Test.YteamnchoddegpaaGreatDoorB3
import Derived.Test.YteamnchoddegpaaGreatDoorB4
import Derived.Test.YteamnchoddegpaaGreatDoorB5
import Derived.Deep.OwnRows
import Derived.Maps.RangeWalk
import Derived.Deep.DeepCutAuto
import Derived.Deep.CutBlock
import Derived.Outline
import Derived.BigQuiet
namespace Go.Proofs.YteamnchoddegpaaGreatDoor
open Go.RowKit Go.Maps
set_option maxHeartbeats 400000
theorem rowIs_later {w w' : World} {b t n : Nat} {f : Nat → Value} (h : w.rowIs b t n f) (hb : Below w.heap.size w w') : w'.rowIs b t n f := h.of_block (hb.block b h.lt)
theorem slice_of_row {w : World} {b n c : Nat} {k : IntKind} {T : TypeId} {f : Nat → Value} {xs : List Int} (h : w.rowIs b T n f) (hl : xs.length = n) (hf : ∀ i, i < n → f i = .int k (xs.getD i 0)) : SliceOf w k (.slice (some ⟨b, 0, none⟩) n c) xs :=
  ⟨_, _, _, rfl, hl, fun i hi => ⟨b, 0, rfl, by rw [Nat.zero_add, h.cell hi, hf i hi]⟩⟩
theorem SliceOf.parts' {w : World} {k : IntKind} {a : Option Addr} {n cap : Nat} {xs : List Int} (h : SliceOf w k (.slice a n cap) xs) {i : Nat} (hi : i < n) : ∃ b off q, a = some ⟨b, off, none⟩ ∧ w.cell? ⟨b, off + i, none⟩ = some (.int k q) ∧ xs[i]? = some q := by
  obtain ⟨a', n', cap', e, _, hc⟩ := h.parts
  simp only [Value.slice.injEq] at e
  obtain ⟨rfl, rfl, rfl⟩ := e
  exact hc i hi
/-- A row whose cells are a list of numbers is an own slice. -/
theorem owns_of_row {w : World} {base b n : Nat} {k : IntKind} {T : TypeId} {f : Nat → Value} {xs : List Int} (h : w.rowIs b T n f) (hb : base ≤ b) (hl : xs.length = n) (hm : n ≤ maxLen) (hf : ∀ i, i < n → f i = .int k (xs.getD i 0)) : OwnInts w base T k (.slice (some ⟨b, 0, none⟩) n n) xs := by
  subst hl
  obtain ⟨c, hc, hn, hi⟩ := h
  refine ⟨by simp, .inr ⟨b, _, c, rfl, hb, hc, Nat.le_refl _, hm, by omega, ?_⟩⟩
  apply List.ext_getElem?
  intro i
  rw [Nat.mul_one, List.getElem?_take, List.getElem?_map]
  by_cases hlt : i < xs.length
  · rw [if_pos hlt, Array.getElem?_toList, hi i hlt, hf i hlt, List.getD_eq_getElem?_getD, List.getElem?_eq_getElem hlt]; rfl
  · rw [if_neg hlt, List.getElem?_eq_none (by omega)]; rfl
theorem madeCells_at (z : Array Value) (n i : Nat) (hi : i < n) : (madeCells z n)[i]? = some (z[i % z.size]!) := by simp [madeCells, hi]
/-- A row by its index. -/
def Thing.fn (b T n : Nat) (f : Nat → Value) : Thing := ⟨[b], [], fun w => w.rowIs b T n f, fun _ _ h hk => h.of_block (hk b (.inl (by simp)))⟩
section
variable {w0 wr w' : World} {ts : List Thing} {b T n : Nat} {f g : Nat → Value}
theorem Lab.fn1 (h : Lab w0 wr (Thing.fn b T n f :: ts)) : wr.rowIs b T n f := h.head
theorem Lab.fn2 {s : Thing} (h : Lab w0 wr (s :: Thing.fn b T n f :: ts)) : wr.rowIs b T n f := h.second
theorem Lab.fn3 {s t : Thing} (h : Lab w0 wr (s :: t :: Thing.fn b T n f :: ts)) : wr.rowIs b T n f := h.third
theorem Lab.fn4 {s t u : Thing} (h : Lab w0 wr (s :: t :: u :: Thing.fn b T n f :: ts)) : wr.rowIs b T n f := h.fourth
theorem Lab.fifth {s t u v x : Thing} (h : Lab w0 wr (s :: t :: u :: v :: x :: ts)) : x.holds wr := h.holds x (by simp)
theorem Lab.sixth {s t u v x y : Thing} (h : Lab w0 wr (s :: t :: u :: v :: x :: y :: ts)) : y.holds wr := h.holds y (by simp)
/-- The first thing is said otherwise. -/
theorem Lab.say {s s' : Thing} (h : Lab w0 wr (s :: ts)) (hW : s'.W = s.W) (hR : ∀ k, k ∈ s'.R → k ∈ s.R) (hs : s.holds wr → s'.holds wr) : Lab w0 wr (s' :: ts) := by
  refine h.turn (s' := s') (Touch.refl _ _) (hs h.head) (fun k hk => .inl (by rw [← hW]; exact hk)) (fun k hk => .inl (hR k hk)) (fun k hk => h.high s (by simp) k ?_)
  rcases hk with hk | hk
  · exact .inl (by rw [← hW]; exact hk)
  · exact .inr (hR k hk)
theorem Lab.fn_congr (h : Lab w0 wr (Thing.fn b T n f :: ts)) (e : ∀ i, i < n → f i = g i) : Lab w0 wr (Thing.fn b T n g :: ts) :=
  h.say (s' := Thing.fn b T n g) rfl (fun _ hk => hk) fun hh => World.rowIs.congr hh e
/-- A row is laid. -/
theorem Lab.make (h : Lab w0 wr ts) (arr : Array Value) (T : Nat) (f : Nat → Value) (hs : arr.size = n) (hf : ∀ i, i < n → arr[i]? = some (f i)) : Lab w0 (wr.alloc (.cells arr T)) (Thing.fn wr.heap.size T n f :: ts) := by
  have hl := h.alloc arr T
  exact hl.say (s' := Thing.fn wr.heap.size T n f) rfl (fun _ hk => hk) fun hh => ⟨arr, hh, hs, hf⟩
/-- A cell of the first row is written. -/
theorem Lab.set (h : Lab w0 wr (Thing.fn b T n f :: ts)) (i : Nat) (v : Value) : Lab w0 (wr.setCell ⟨b, i, none⟩ v) (Thing.fn b T n (fun j => if j = i then v else f j) :: ts) := by
  refine h.turn (s' := Thing.fn b T n _) ⟨rfl, rfl, rfl, by rw [World.size_setCell]; exact Nat.le_refl _, fun k hk hn => heap_setCell_other _ _ _ _ (by simpa [Thing.fn] using hn)⟩ (h.fn1.set i v) (fun k hk => .inl hk) (fun k hk => .inl hk) (fun k hk => ?_)
  rw [World.size_setCell]
  exact h.high (Thing.fn b T n f) (by simp) k hk
end
/-- Blocks of numbers stay as they are. -/
def KeepI (w w' : World) : Prop := ∀ (k : Nat) (arr : Array Value) (fr : Nat × Nat), w.heap[k]? = some (Obj.cells arr 3 fr) → w'.heap[k]? = w.heap[k]?
theorem KeepI.refl (w : World) : KeepI w w := fun _ _ _ _ => rfl
theorem KeepI.trans {a b c : World} (h : KeepI a b) (h' : KeepI b c) : KeepI a c := fun k arr fr hk => (h' k arr fr ((h k arr fr hk).trans hk)).trans (h k arr fr hk)
theorem KeepI.below {w w' : World} (h : Below w.heap.size w w') : KeepI w w' := fun k _ _ hk => h.block k (Array.getElem?_eq_some_iff.1 hk).1
theorem KeepI.set {w : World} {b T n : Nat} {f : Nat → Value} (h : w.rowIs b T n f) (hT : T ≠ 3) (i : Nat) (v : Value) : KeepI w (w.setCell ⟨b, i, none⟩ v) := by
  intro k arr fr hk
  refine heap_setCell_other _ _ _ _ ?_
  intro e
  obtain ⟨c, hc, _⟩ := h
  simp only at e
  subst e
  rw [hk] at hc
  simp at hc
  exact hT hc.2.1.symm
/-- Each three cells are those of a node. -/
def ShapeF (M : Nat) (f : Nat → Value) : Prop := ∀ i, i < M → ∃ a b v m c, f (i * 3) = .int .u8 a ∧ f (i * 3 + 1) = .int .u64 b ∧ f (i * 3 + 2) = .slice v m c
theorem shape_made (M : Nat) : ShapeF M (fun i => (#[.int .u8 0, .int .u64 0, .slice none 0 0] : Array Value)[i % 3]!) := fun i _ =>
  ⟨0, 0, none, 0, 0, by show _ = _; simp only [show i * 3 % 3 = 0 by omega]; rfl, by show _ = _; simp only [show (i * 3 + 1) % 3 = 1 by omega]; rfl, by show _ = _; simp only [show (i * 3 + 2) % 3 = 2 by omega]; rfl⟩
/-- The nodes that a walk from the last term down has taken: those above a place that are needed; above another place, with all that they need. -/
def Taken (w : World) (I : List Nat) (nb M : Nat) (L : List PNode) (need : Nat → Bool) (c c2 : Int) : Prop :=
  ∃ f, w.rowIs nb 88 (M * 3) f ∧ ShapeF M f ∧ ∀ i : Nat, c < (i : Int) → i < M → need i = true → ∃ n va, L[i]? = some n ∧ f (i * 3) = .int .u8 n.1 ∧ f (i * 3 + 1) = .int .u64 n.2.1 ∧ f (i * 3 + 2) = va ∧ IntsAt w va n.2.2 ∧ (∀ k, va.ownBlock = some k → k ∈ I) ∧ (c2 < (i : Int) → ∀ a ∈ n.2.2, need a.toNat = true)
theorem Taken.keep {w w' : World} {I : List Nat} {nb M : Nat} {L : List PNode} {need : Nat → Bool} {c c2 : Int} (h : Taken w I nb M L need c c2) (hk : ∀ k, k ∈ [nb] ∨ k ∈ I → w'.heap[k]? = w.heap[k]?) : Taken w' I nb M L need c c2 := by
  obtain ⟨f, hf, hs, h⟩ := h
  refine ⟨f, hf.of_block (hk nb (.inl (by simp))), hs, fun i h1 h2 h3 => ?_⟩
  obtain ⟨n, va, k1, k2, k3, k4, k5, k6, k7⟩ := h i h1 h2 h3
  exact ⟨n, va, k1, k2, k3, k4, k5.own fun k hm => hk k (.inr (k6 k hm)), k6, k7⟩
def Thing.taken (I : List Nat) (nb M : Nat) (L : List PNode) (need : Nat → Bool) (c c2 : Int) : Thing :=
  ⟨[nb], I, fun w => Taken w I nb M L need c c2, fun _ _ h hk => Taken.keep h hk⟩
theorem Taken.congr {w : World} {I : List Nat} {nb M : Nat} {L : List PNode} {need need' : Nat → Bool} {c c2 : Int} (h : Taken w I nb M L need c c2) (h1 : ∀ j : Nat, c < (j : Int) → need' j = need j) (h2 : ∀ j, need j = true → need' j = true) : Taken w I nb M L need' c c2 := by
  obtain ⟨f, hf, hs, h⟩ := h
  refine ⟨f, hf, hs, fun i k1 k2 k3 => ?_⟩
  obtain ⟨n, va, e1, e2, e3, e4, e5, e6, e7⟩ := h i k1 k2 (by rw [← h1 i k1]; exact k3)
  exact ⟨n, va, e1, e2, e3, e4, e5, e6, fun hc a ha => h2 _ (e7 hc a ha)⟩
section
variable {w0 wr w' : World} {ts : List Thing} {I : List Nat} {nb M : Nat} {L : List PNode} {need need' : Nat → Bool} {c c2 : Int}
theorem Lab.taken (h : Lab w0 wr (Thing.taken I nb M L need c c2 :: ts)) : Taken wr I nb M L need c c2 := h.head
theorem Lab.taken_congr (h : Lab w0 wr (Thing.taken I nb M L need c c2 :: ts)) (h1 : ∀ j : Nat, c < (j : Int) → need' j = need j) (h2 : ∀ j, need j = true → need' j = true) : Lab w0 wr (Thing.taken I nb M L need' c c2 :: ts) :=
  h.say (s' := Thing.taken I nb M L need' c c2) rfl (fun _ hk => hk) fun hh => Taken.congr hh h1 h2
/-- One that is not needed is left out. -/
theorem Lab.taken_skip {t : Nat} (h : Lab w0 wr (Thing.taken I nb M L need (t : Int) (t : Int) :: ts)) (hn : need t = false) : Lab w0 wr (Thing.taken I nb M L need ((t : Int) - 1) ((t : Int) - 1) :: ts) :=
  h.say (s' := Thing.taken I nb M L need ((t : Int) - 1) ((t : Int) - 1)) rfl (fun _ hk => hk) fun hh => by
    obtain ⟨f, hf, hs, hh⟩ := hh
    refine ⟨f, hf, hs, fun i k1 k2 k3 => ?_⟩
    have hne : i ≠ t := fun e => by subst e; rw [hn] at k3; cases k3
    obtain ⟨n, va, e1, e2, e3, e4, e5, e6, e7⟩ := hh i (by omega) k2 k3
    exact ⟨n, va, e1, e2, e3, e4, e5, e6, fun _ => e7 (by omega)⟩
/-- One whose arguments are needed. -/
theorem Lab.taken_close {t : Nat} {n : PNode} (h : Lab w0 wr (Thing.taken I nb M L need ((t : Int) - 1) (t : Int) :: ts)) (hi : L[t]? = some n) (hn : ∀ a ∈ n.2.2, need a.toNat = true) : Lab w0 wr (Thing.taken I nb M L need ((t : Int) - 1) ((t : Int) - 1) :: ts) :=
  h.say (s' := Thing.taken I nb M L need ((t : Int) - 1) ((t : Int) - 1)) rfl (fun _ hk => hk) fun hh => by
    obtain ⟨f, hf, hs, hh⟩ := hh
    refine ⟨f, hf, hs, fun i k1 k2 k3 => ?_⟩
    obtain ⟨m, va, e1, e2, e3, e4, e5, e6, e7⟩ := hh i k1 k2 k3
    refine ⟨m, va, e1, e2, e3, e4, e5, e6, fun _ => ?_⟩
    by_cases he : i = t
    · subst he
      rw [hi] at e1
      obtain rfl : n = m := by simpa using e1
      exact hn
    · exact e7 (by omega)
/-- A node is stored. -/
theorem Lab.taken_store {t : Nat} {n : PNode} {va : Value} (h : Lab w0 wr (Thing.taken I nb M L need (t : Int) (t : Int) :: Thing.ints va n.2.2 :: ts)) (hi : L[t]? = some n) (htM : t < M) :
    Lab w0 (((wr.setCell ⟨nb, t * 3, none⟩ (.int .u8 n.1)).setCell ⟨nb, t * 3 + 1, none⟩ (.int .u64 n.2.1)).setCell ⟨nb, t * 3 + 2, none⟩ va) (Thing.taken (va.ownBlock.toList ++ I) nb M L need ((t : Int) - 1) (t : Int) :: ts) := by
  obtain ⟨f, hf, hsh, hh⟩ := h.taken
  have hv := h.ints2
  have f1 := hf.set (t * 3) (.int .u8 n.1)
  have f2 := f1.set (t * 3 + 1) (.int .u64 n.2.1)
  have f3 := f2.set (t * 3 + 2) va
  have k1 : KeepI wr _ := KeepI.set hf (by decide) (t * 3) (.int .u8 n.1)
  have k2 := k1.trans (KeepI.set f1 (by decide) (t * 3 + 1) (.int .u64 n.2.1))
  have k3 := k2.trans (KeepI.set f2 (by decide) (t * 3 + 2) va)
  refine h.absorb (s' := Thing.taken (va.ownBlock.toList ++ I) nb M L need ((t : Int) - 1) (t : Int)) ⟨rfl, rfl, rfl, by simp only [World.size_setCell]; exact Nat.le_refl _, fun k hk hn => ?_⟩ ⟨_, f3, fun i hi' => ?_, fun i h1 h2 h3 => ?_⟩ (fun k hk => .inl hk) (fun k hk => ?_) (fun k hk => ?_)
  · have hn' : k ≠ nb := by simpa [Thing.taken] using hn
    rw [heap_setCell_other _ _ _ _ hn', heap_setCell_other _ _ _ _ hn', heap_setCell_other _ _ _ _ hn']
  · obtain ⟨va1, va2, va3, rfl⟩ := hv.val
    by_cases he : i = t
    · subst he
      refine ⟨n.1, n.2.1, va1, va2, va3, ?_, ?_, ?_⟩
      · show (if i * 3 = i * 3 + 2 then _ else if i * 3 = i * 3 + 1 then _ else if i * 3 = i * 3 then _ else _) = _
        rw [if_neg (by omega), if_neg (by omega), if_pos rfl]
      · show (if i * 3 + 1 = i * 3 + 2 then _ else if i * 3 + 1 = i * 3 + 1 then _ else _) = _
        rw [if_neg (by omega), if_pos rfl]
      · show (if i * 3 + 2 = i * 3 + 2 then _ else _) = _
        rw [if_pos rfl]
    · obtain ⟨a, b, v, m, c, e1, e2, e3⟩ := hsh i hi'
      refine ⟨a, b, v, m, c, ?_, ?_, ?_⟩
      · show (if i * 3 = t * 3 + 2 then _ else if i * 3 = t * 3 + 1 then _ else if i * 3 = t * 3 then _ else _) = _
        rw [if_neg (by omega), if_neg (by omega), if_neg (by omega)]; exact e1
      · show (if i * 3 + 1 = t * 3 + 2 then _ else if i * 3 + 1 = t * 3 + 1 then _ else if i * 3 + 1 = t * 3 then _ else _) = _
        rw [if_neg (by omega), if_neg (by omega), if_neg (by omega)]; exact e2
      · show (if i * 3 + 2 = t * 3 + 2 then _ else if i * 3 + 2 = t * 3 + 1 then _ else if i * 3 + 2 = t * 3 then _ else _) = _
        rw [if_neg (by omega), if_neg (by omega), if_neg (by omega)]; exact e3
  · by_cases he : i = t
    · subst he
      refine ⟨n, va, hi, ?_, ?_, ?_, (intsAt_owns hv).ints k3, fun k hk => List.mem_append_left _ (by simp [hk]), fun hc => by omega⟩
      · show (if i * 3 = i * 3 + 2 then va else if i * 3 = i * 3 + 1 then _ else if i * 3 = i * 3 then _ else _) = _
        rw [if_neg (by omega), if_neg (by omega), if_pos rfl]
      · show (if i * 3 + 1 = i * 3 + 2 then va else if i * 3 + 1 = i * 3 + 1 then _ else _) = _
        rw [if_neg (by omega), if_pos rfl]
      · show (if i * 3 + 2 = i * 3 + 2 then va else _) = _
        rw [if_pos rfl]
    · obtain ⟨m, vb, e1, e2, e3, e4, e5, e6, e7⟩ := hh i (by omega) h2 h3
      refine ⟨m, vb, e1, ?_, ?_, ?_, e5.ints k3, fun k hk => List.mem_append_right _ (e6 k hk), e7⟩
      · show (if i * 3 = t * 3 + 2 then va else if i * 3 = t * 3 + 1 then _ else if i * 3 = t * 3 then _ else _) = _
        rw [if_neg (by omega), if_neg (by omega), if_neg (by omega)]; exact e2
      · show (if i * 3 + 1 = t * 3 + 2 then va else if i * 3 + 1 = t * 3 + 1 then _ else if i * 3 + 1 = t * 3 then _ else _) = _
        rw [if_neg (by omega), if_neg (by omega), if_neg (by omega)]; exact e3
      · show (if i * 3 + 2 = t * 3 + 2 then va else if i * 3 + 2 = t * 3 + 1 then _ else if i * 3 + 2 = t * 3 then _ else _) = _
        rw [if_neg (by omega), if_neg (by omega), if_neg (by omega)]; exact e4
  · rcases List.mem_append.1 hk with hk | hk
    · exact .inr (.inl (by simpa [Thing.ints, Thing.row] using hk))
    · exact .inl hk
  · simp only [World.size_setCell]
    rcases hk with hk | hk
    · exact h.high (Thing.taken I nb M L need (t : Int) (t : Int)) (by simp) k (.inl hk)
    · rcases List.mem_append.1 hk with hk | hk
      · exact h.high (Thing.ints va n.2.2) (by simp) k (.inl (by simpa [Thing.ints, Thing.row] using hk))
      · exact h.high (Thing.taken I nb M L need (t : Int) (t : Int)) (by simp) k (.inr hk)
/-- A node that was taken, in memory. -/
theorem Taken.at {w : World} {t : Nat} {n : PNode} (h : Taken w I nb M L need c c2) (hc : c < (t : Int)) (htM : t < M) (hn : need t = true) (hi : L[t]? = some n) :
    ∃ va, w.cell? ⟨nb, t * 3, none⟩ = some (.int .u8 n.1) ∧ w.cell? ⟨nb, t * 3 + 1, none⟩ = some (.int .u64 n.2.1) ∧ w.cell? ⟨nb, t * 3 + 2, none⟩ = some va ∧ IntsAt w va n.2.2 ∧ (c2 < (t : Int) → ∀ a ∈ n.2.2, need a.toNat = true) := by
  obtain ⟨f, hf, -, h⟩ := h
  obtain ⟨m, va, e1, e2, e3, e4, e5, _, e7⟩ := h t hc htM hn
  rw [hi] at e1
  obtain rfl : n = m := by simpa using e1
  exact ⟨va, by rw [hf.cell (by omega), e2], by rw [hf.cell (by omega), e3], by rw [hf.cell (by omega), e4], e5, e7⟩
theorem Taken.start {w : World} {f : Nat → Value} (h : w.rowIs nb 88 (M * 3) f) (hs : ShapeF M f) : Taken w [] nb M L need ((M : Int) - 1) ((M : Int) - 1) := ⟨f, h, hs, fun i h1 h2 => by omega⟩
/-- Whatever node it is, its cells have a node's form. -/
theorem Taken.cells {w : World} {t : Nat} (h : Taken w I nb M L need c c2) (htM : t < M) : ∃ a b v m k, w.cell? ⟨nb, t * 3, none⟩ = some (.int .u8 a) ∧ w.cell? ⟨nb, t * 3 + 1, none⟩ = some (.int .u64 b) ∧ w.cell? ⟨nb, t * 3 + 2, none⟩ = some (.slice v m k) := by
  obtain ⟨f, hf, hs, -⟩ := h
  obtain ⟨a, b, v, m, k, e1, e2, e3⟩ := hs t htM
  exact ⟨a, b, v, m, k, by rw [hf.cell (by omega), e1], by rw [hf.cell (by omega), e2], by rw [hf.cell (by omega), e3]⟩
end
end Go.Proofs.YteamnchoddegpaaGreatDoor
namespace Go.Proofs.YteamnchoddegpaaGreatDoor
open Go.RowKit Go.Maps
set_option maxHeartbeats 400000
section
variable {P : Program} {K : TypeId} {w : World} {mb : Nat} {m : List (Value × Value)}
/-- A store at a key that is there. -/
theorem MapIs.put_old {T E : TypeId} (h : MapIs P K w mb m) (KL : Keyed P K) (hT : P.underlying T = some (.map K E)) {k : Value} {l : Lit} (hk : keyOf P K k = some l) {v0 : Value} (hm : (k, v0) ∈ m) (v : Value) :
    (Instr.mapUpdate T (.map (some mb)) k v).run P w = .ok () (mapW P T mb k v w) ∧ (∃ m', MapIs P K (mapW P T mb k v w) mb m' ∧ m'.length = m.length ∧ ∀ p, p ∈ m' ↔ p = (k, v) ∨ (p ∈ m ∧ p.1 ≠ k)) ∧ But mb w (mapW P T mb k v w) := by
  obtain ⟨es, clock, h1, h2, h3, h4, h5, h6⟩ := h
  rcases KL.find w hk es.toList h2 with ⟨_, hno⟩ | ⟨j, e, hf, hj, hek⟩
  · obtain ⟨e, he, hee⟩ := List.mem_map.1 (h3.mem_iff.2 hm)
    exact absurd (Prod.mk.inj hee).1 (hno e he)
  · have hjl : j < es.toList.length := (List.getElem?_eq_some_iff.1 hj).1
    have hje : es[j]? = some e := by rw [← Array.getElem?_toList]; exact hj
    have hst := KL.stays w hk
    have hr : (Instr.mapUpdate T (.map (some mb)) k v).run P w = .ok () { w with heap := w.heap.setIfInBounds mb (.map (es.modify j fun e => { e with key := k, val := v }) clock) } := by
      simp [Instr.mapUpdate, run_underlying hT, MapKept.run_getObj_map h1, KL.check w _ hk, hf, MapKept.run_setObj_map _ h1, Result.andThen, hje, hek, hst]
    have hw : mapW P T mb k v w = { w with heap := w.heap.setIfInBounds mb (.map (es.modify j fun e => { e with key := k, val := v }) clock) } := by unfold mapW; rw [hr]
    rw [hw]
    -- the entries, one turned
    have hlist : (es.modify j fun e => { e with key := k, val := v }).toList = es.toList.set j { e with key := k, val := v } := by
      apply List.ext_getElem?
      intro i
      rw [Array.getElem?_toList, Array.getElem?_modify, List.getElem?_set]
      by_cases hi : j = i
      · subst hi
        rw [if_pos rfl, if_pos rfl, if_pos hjl, hje]; rfl
      · rw [if_neg hi, if_neg hi, Array.getElem?_toList]
    have hkeys : (es.toList.set j { e with key := k, val := v }).map (·.key) = es.toList.map (·.key) := by
      apply List.ext_getElem?
      intro i
      rw [List.getElem?_map, List.getElem?_map, List.getElem?_set]
      by_cases hi : j = i
      · subst hi
        rw [if_pos rfl, if_pos hjl, hj]; simp [hek]
      · rw [if_neg hi]
    have hborn : (es.toList.set j { e with key := k, val := v }).map (·.born) = es.toList.map (·.born) := by
      apply List.ext_getElem?
      intro i
      rw [List.getElem?_map, List.getElem?_map, List.getElem?_set]
      by_cases hi : j = i
      · subst hi
        rw [if_pos rfl, if_pos hjl, hj]; rfl
      · rw [if_neg hi]
    have hnd : (es.toList.map (·.key)).Nodup := by
      have := (h3.map (·.1)).nodup_iff.2 h4
      rw [List.map_map] at this
      exact this
    refine ⟨hr, ⟨(es.toList.set j { e with key := k, val := v }).map fun e => (e.key, e.val), ⟨_, clock, ?_, ?_, by rw [hlist], ?_, by rw [hlist, hborn]; exact h5, ?_⟩, ?_, fun p => ?_⟩, But.set _ _ _⟩
    · have := (Array.getElem?_eq_some_iff.1 h1).1
      simp [this]
    · intro x hx
      rw [hlist] at hx
      have hxk : x.key ∈ es.toList.map (·.key) := by rw [← hkeys]; exact List.mem_map.2 ⟨x, hx, rfl⟩
      obtain ⟨y, hy, hyx⟩ := List.mem_map.1 hxk
      rw [← hyx]; exact h2 y hy
    · rw [List.map_map]
      show ((es.toList.set j { e with key := k, val := v }).map (·.key)).Nodup
      rw [hkeys]; exact hnd
    · intro x hx
      rw [hlist] at hx
      have hxb : x.born ∈ es.toList.map (·.born) := by rw [← hborn]; exact List.mem_map.2 ⟨x, hx, rfl⟩
      obtain ⟨y, hy, hyx⟩ := List.mem_map.1 hxb
      rw [← hyx]; exact h6 y hy
    · rw [List.length_map, List.length_set]
      have := h3.length_eq
      simpa using this
    · constructor
      · intro hp
        obtain ⟨x, hx, rfl⟩ := List.mem_map.1 hp
        obtain ⟨i, hi, hxi⟩ := List.getElem_of_mem hx
        have hxi' : (es.toList.set j { e with key := k, val := v })[i]? = some x := by rw [List.getElem?_eq_getElem hi, hxi]
        rw [List.getElem?_set] at hxi'
        by_cases hij : j = i
        · rw [if_pos hij, if_pos (by rw [List.length_set] at hi; omega)] at hxi'
          left
          simp only [Option.some.injEq] at hxi'
          rw [← hxi']
        · rw [if_neg hij] at hxi'
          right
          refine ⟨h3.mem_iff.1 (List.mem_map.2 ⟨x, List.mem_of_getElem? hxi', rfl⟩), ?_⟩
          intro hk2
          have a1 : (es.toList.map (·.key))[i]? = some k := by rw [List.getElem?_map, hxi']; simp only [Option.map_some]; rw [← hk2]
          have a2 : (es.toList.map (·.key))[j]? = some k := by rw [List.getElem?_map, hj]; simp only [Option.map_some]; rw [← hek]
          obtain ⟨l1, e1⟩ := List.getElem?_eq_some_iff.1 a1
          obtain ⟨l2, e2⟩ := List.getElem?_eq_some_iff.1 a2
          exact hij ((List.getElem_inj hnd).1 (e2.trans e1.symm))
      · rintro (rfl | ⟨hp, hne⟩)
        · refine List.mem_map.2 ⟨{ e with key := k, val := v }, List.mem_of_getElem? (i := j) ?_, rfl⟩
          rw [List.getElem?_set, if_pos rfl, if_pos hjl]
        · obtain ⟨x, hx, rfl⟩ := List.mem_map.1 (h3.mem_iff.2 hp)
          obtain ⟨i, hi, hxi⟩ := List.getElem_of_mem hx
          refine List.mem_map.2 ⟨x, List.mem_of_getElem? (i := i) ?_, rfl⟩
          rw [List.getElem?_set]
          by_cases hij : j = i
          · subst hij
            rw [List.getElem?_eq_getElem hi, hxi] at hj
            simp only [Option.some.injEq] at hj
            rw [← hj] at hek
            exact absurd hek hne
          · rw [if_neg hij, List.getElem?_eq_getElem hi, hxi]
/-- A map, as a function of its keys, and how many there are. -/
def MapF (P : Program) (K : TypeId) (kd : IntKind) (w : World) (mb : Nat) (f : Int → Option Value) (c : Nat) : Prop :=
  ∃ m, MapIs P K w mb m ∧ m.length = c ∧ (∀ p ∈ m, ∃ k v, p = (Value.int kd k, v) ∧ f k = some v) ∧ ∀ k v, f k = some v → (Value.int kd k, v) ∈ m
variable {kd : IntKind} {f : Int → Option Value} {c : Nat}
theorem MapF.block {w' : World} (h : MapF P K kd w mb f c) (hb : w'.heap[mb]? = w.heap[mb]?) : MapF P K kd w' mb f c := by
  obtain ⟨m, h1, h2⟩ := h
  exact ⟨m, h1.block hb, h2⟩
theorem MapF.lt (h : MapF P K kd w mb f c) : mb < w.heap.size := by
  obtain ⟨m, h1, h2⟩ := h
  exact h1.lt
theorem MapF.new (P : Program) (K : TypeId) (kd : IntKind) (w : World) : MapF P K kd (w.alloc (.map #[] 0)) w.heap.size (fun _ => none) 0 := ⟨[], MapIs.new w, rfl, by simp, by simp⟩
theorem MapF.congr {g : Int → Option Value} (h : MapF P K kd w mb f c) (e : ∀ k, f k = g k) : MapF P K kd w mb g c := by
  obtain rfl : f = g := funext e
  exact h
theorem MapF.hit {T E : TypeId} (h : MapF P K kd w mb f c) (hK : P.underlying K = some (.int kd)) (hT : P.underlying T = some (.map K E)) {k : Int} {v : Value} (hw : (Lit.int kd k).wf = true) (hf : f k = some v) (b : Bool) :
    (Instr.lookup T (.map (some mb)) (.int kd k) b).run P w = .ok (if b then .tuple #[v, .bool true] else v) w := by
  obtain ⟨m, h1, h2, h3, h4⟩ := h
  exact h1.lookup_hit (int_keyed hK) hT (keyOf_int_mk hK hw) (h4 k v hf) b
theorem MapF.miss {T E : TypeId} (h : MapF P K kd w mb f c) (hK : P.underlying K = some (.int kd)) (hT : P.underlying T = some (.map K E)) {z : Value} (hz : (zeroValue E).run P w = .ok z w) {k : Int} (hw : (Lit.int kd k).wf = true) (hf : f k = none) (b : Bool) :
    (Instr.lookup T (.map (some mb)) (.int kd k) b).run P w = .ok (if b then .tuple #[z, .bool false] else z) w := by
  obtain ⟨m, h1, h2, h3, h4⟩ := h
  refine h1.lookup_miss (int_keyed hK) hT hz (keyOf_int_mk hK hw) (fun v hm => ?_) b
  obtain ⟨k', v', e, he⟩ := h3 _ hm
  simp only [Prod.mk.injEq, Value.int.injEq, true_and] at e
  rw [e.1] at hf
  rw [hf] at he; cases he
theorem MapF.put {T E : TypeId} (h : MapF P K kd w mb f c) (hK : P.underlying K = some (.int kd)) (hT : P.underlying T = some (.map K E)) {k : Int} (hw : (Lit.int kd k).wf = true) (v : Value) :
    (Instr.mapUpdate T (.map (some mb)) (.int kd k) v).run P w = .ok () (mapW P T mb (.int kd k) v w) ∧ MapF P K kd (mapW P T mb (.int kd k) v w) mb (fun j => if j = k then some v else f j) (if (f k).isSome then c else c + 1) ∧ But mb w (mapW P T mb (.int kd k) v w) := by
  obtain ⟨m, h1, h2, h3, h4⟩ := h
  cases hf : f k with
  | some v0 =>
    obtain ⟨hr, ⟨m', g1, g2, g3⟩, hb⟩ := h1.put_old (int_keyed hK) hT (keyOf_int_mk hK hw) (h4 k v0 hf) v
    refine ⟨hr, ⟨m', g1, by rw [g2, h2]; rfl, fun p hp => ?_, fun j u hj => ?_⟩, hb⟩
    · rcases (g3 p).1 hp with rfl | ⟨hpm, hne⟩
      · exact ⟨k, v, rfl, if_pos rfl⟩
      · obtain ⟨j, u, rfl, hj⟩ := h3 p hpm
        refine ⟨j, u, rfl, ?_⟩
        show (if j = k then some v else f j) = some u
        rw [if_neg (fun e => hne (by simp [e]))]; exact hj
    · replace hj : (if j = k then some v else f j) = some u := hj
      by_cases e : j = k
      · rw [if_pos e] at hj
        simp only [Option.some.injEq] at hj
        rw [e, ← hj]; exact (g3 _).2 (.inl rfl)
      · rw [if_neg e] at hj
        exact (g3 _).2 (.inr ⟨h4 j u hj, fun h => e (by simpa using h)⟩)
  | none =>
    obtain ⟨hr, g1, hb⟩ := h1.put_new (int_keyed hK) hT (keyOf_int_mk hK hw) (fun u hm => by
      obtain ⟨k', v', e, he⟩ := h3 _ hm
      simp only [Prod.mk.injEq, Value.int.injEq, true_and] at e
      rw [e.1, he] at hf; cases hf) v
    refine ⟨hr, ⟨_, g1, by rw [List.length_append, h2]; rfl, fun p hp => ?_, fun j u hj => ?_⟩, hb⟩
    · rcases List.mem_append.1 hp with hp | hp
      · obtain ⟨j, u, rfl, hj⟩ := h3 p hp
        refine ⟨j, u, rfl, ?_⟩
        show (if j = k then some v else f j) = some u
        rw [if_neg (fun e => by rw [e, hf] at hj; cases hj)]; exact hj
      · simp at hp; subst hp
        exact ⟨k, v, rfl, if_pos rfl⟩
    · replace hj : (if j = k then some v else f j) = some u := hj
      by_cases e : j = k
      · rw [if_pos e] at hj
        simp only [Option.some.injEq] at hj
        rw [e, ← hj]; simp
      · rw [if_neg e] at hj
        exact List.mem_append_left _ (h4 j u hj)
theorem MapF.len {T E : TypeId} (h : MapF P K kd w mb f c) (hT : P.underlying T = some (.map K E)) (ty : TypeId) : (Builtin.len_ #[T] ty #[.map (some mb)]).run P w = .ok (.int .i64 c) w := by
  obtain ⟨m, h1, h2, _⟩ := h
  rw [← h2]; exact h1.len hT ty
end
/-- A map of integers' keys. -/
def Thing.mapf (K : TypeId) (kd : IntKind) (mb : Nat) (f : Int → Option Value) (c : Nat) : Thing := ⟨[mb], [], fun w => MapF Tryz.prog K kd w mb f c, fun _ _ h hk => h.block (hk mb (.inl (by simp)))⟩
section
variable {w0 wr w' : World} {ts : List Thing} {K T E : TypeId} {kd : IntKind} {mb c : Nat} {f g : Int → Option Value}
theorem Lab.mapf (h : Lab w0 wr (Thing.mapf K kd mb f c :: ts)) : MapF Tryz.prog K kd wr mb f c := h.head
theorem Lab.new_map (h : Lab w0 wr ts) (K : TypeId) (kd : IntKind) : Lab w0 (wr.alloc (.map #[] 0)) (Thing.mapf K kd wr.heap.size (fun _ => none) 0 :: ts) := by
  refine h.new (s := Thing.mapf K kd wr.heap.size _ 0) (below_new wr _) (MapF.new _ _ _ _) (fun k hk => by simp [Thing.mapf] at hk; omega) (fun k hk => by simp [Thing.mapf] at hk) (fun k hk => ?_)
  rcases hk with hk | hk
  · simp [Thing.mapf] at hk; simp; omega
  · simp [Thing.mapf] at hk
/-- A store into the first map. -/
theorem Lab.mput (h : Lab w0 wr (Thing.mapf K kd mb f c :: ts)) (hK : Tryz.prog.underlying K = some (.int kd)) (hT : Tryz.prog.underlying T = some (.map K E)) {k : Int} (hw : (Lit.int kd k).wf = true) (v : Value) :
    (Instr.mapUpdate T (.map (some mb)) (.int kd k) v).run Tryz.prog wr = .ok () (mapW Tryz.prog T mb (.int kd k) v wr) ∧ Lab w0 (mapW Tryz.prog T mb (.int kd k) v wr) (Thing.mapf K kd mb (fun j => if j = k then some v else f j) (if (f k).isSome then c else c + 1) :: ts) := by
  obtain ⟨hr, hm, hb⟩ := h.mapf.put hK hT hw v
  refine ⟨hr, h.turn (s' := Thing.mapf K kd mb _ _) ⟨hb.os, hb.tape, hb.output, by rw [hb.size]; exact Nat.le_refl _, fun k hk hn => hb.block k (by simpa [Thing.mapf] using hn)⟩ hm (fun k hk => .inl hk) (fun k hk => .inl hk) (fun k hk => ?_)⟩
  rw [hb.size]
  exact h.high (Thing.mapf K kd mb f c) (by simp) k hk
theorem Lab.mapf_congr (h : Lab w0 wr (Thing.mapf K kd mb f c :: ts)) (e : ∀ k, f k = g k) : Lab w0 wr (Thing.mapf K kd mb g c :: ts) := h.say (s' := Thing.mapf K kd mb g c) rfl (fun _ hk => hk) fun hh => MapF.congr hh e
end
end Go.Proofs.YteamnchoddegpaaGreatDoor
namespace Go.Proofs.YteamnchoddegpaaGreatDoor
open Go.RowKit Go.Maps
set_option maxHeartbeats 800000
/-- A slice of integers that is only read. -/
def Thing.reads (va : Value) (xs : List Int) : Thing :=
  ⟨[], if xs = [] then [] else va.ownBlock.toList, fun w => IntsAt w va xs, fun w w' h hk => by
    by_cases hx : xs = []
    · subst hx
      obtain ⟨a, n, cap, rfl, hl, _⟩ := h
      exact ⟨a, n, cap, rfl, hl, fun h0 => by simp at hl; omega⟩
    · exact h.own fun k hk' => hk k (.inr (by rw [if_neg hx]; simp [hk']))⟩
section
variable {w0 wr w' : World} {ts : List Thing} {I : List Nat} {nb M : Nat} {L : List PNode} {need : Nat → Bool} {c c2 : Int}
theorem Lab.reads {t : Nat} {n : PNode} (h : Lab w0 wr (Thing.taken I nb M L need c c2 :: ts)) (hc : c < (t : Int)) (htM : t < M) (hn : need t = true) (hi : L[t]? = some n) :
    ∃ va, wr.cell? ⟨nb, t * 3, none⟩ = some (.int .u8 n.1) ∧ wr.cell? ⟨nb, t * 3 + 1, none⟩ = some (.int .u64 n.2.1) ∧ wr.cell? ⟨nb, t * 3 + 2, none⟩ = some va ∧ Lab w0 wr (Thing.reads va n.2.2 :: Thing.taken I nb M L need c c2 :: ts) := by
  obtain ⟨f, hf, -, hh⟩ := h.taken
  obtain ⟨m, va, e1, e2, e3, e4, e5, e6, e7⟩ := hh t hc htM hn
  rw [hi] at e1
  obtain rfl : n = m := by simpa using e1
  refine ⟨va, by rw [hf.cell (by omega), e2], by rw [hf.cell (by omega), e3], by rw [hf.cell (by omega), e4], ?_⟩
  have hR : ∀ k, k ∈ (Thing.reads va n.2.2).R → va.ownBlock = some k ∧ n.2.2 ≠ [] := by
    intro k hk
    by_cases hx : n.2.2 = []
    · simp [Thing.reads, hx] at hk
    · simp [Thing.reads, hx] at hk; exact ⟨hk, hx⟩
  refine h.new (s := Thing.reads va n.2.2) (Below.refl _ _) e5 (fun k hk => by cases hk) (fun k hk s hs => ?_) (fun k hk => ?_)
  · obtain ⟨hk1, hk2⟩ := hR k hk
    rcases List.mem_cons.1 hs with rfl | hs
    · intro hm
      obtain rfl : k = nb := by simpa [Thing.taken] using hm
      obtain ⟨a, n', cap, rfl, hl, hb⟩ := e5
      obtain ⟨b, off, arr, fr, rfl, hheap, _⟩ := hb (by
        have : n.2.2.length ≠ 0 := fun e => hk2 (List.length_eq_zero_iff.1 e)
        omega)
      obtain rfl : b = k := by simpa [Value.ownBlock] using hk1
      obtain ⟨cc, hcc, _⟩ := hf
      rw [hheap] at hcc
      simp at hcc
    · have := (List.pairwise_cons.1 h.apart).1 s hs
      exact this.2 k (e6 k hk1)
  · rcases hk with hk | hk
    · cases hk
    · have := hR k hk
      exact h.high (Thing.taken I nb M L need c c2) (by simp) k (.inr (e6 k this.1))
/-- Slices that were taken. -/
theorem reads_slice {va : Value} {xs : List Int} (h : (Thing.reads va xs).holds wr) : SliceOf wr .i64 va xs := IntsAt.slice h
end
/-- The marks of a node's first arguments. -/
def markA (f : Nat → Bool) (xs : List Int) : Nat → Bool := fun i => f i || xs.any fun a => a.toNat == i
theorem markA_nil (f : Nat → Bool) : markA f [] = f := by funext i; simp [markA]
theorem markA_snoc {f : Nat → Bool} {xs : List Int} {k g : Nat} (h : xs[k]? = some (g : Int)) : (fun i => if i = g then true else markA f (xs.take k) i) = markA f (xs.take (k + 1)) := by
  funext i
  unfold markA
  rw [← take_snoc' h, List.any_append]
  by_cases e : i = g
  · subst e; simp
  · rw [if_neg e]
    have : ([(g : Int)].any fun a => a.toNat == i) = false := by simp; omega
    rw [this]; simp
theorem markA_all {f : Nat → Bool} {L : List PNode} {j : Nat} {n : PNode} (hn : L[j]? = some n) (hf : f j = true) : markA f n.2.2 = occStep L j f := by
  funext i
  unfold markA occStep argsOf
  rw [hn, hf]; simp
end Go.Proofs.YteamnchoddegpaaGreatDoor
namespace Go.Proofs.YteamnchoddegpaaGreatDoor
open Go.RowKit Go.Maps
set_option maxHeartbeats 800000
theorem value_any {w : World} (vb wb xb yb M W : Nat) (vv va : Value) (vals acc : List Int) (f : Nat → Value) (n : PNode)
    (c1 : w.cell? ⟨vb, 0, none⟩ = some vv) (hv : SliceOf w .u64 vv vals) (hvl : vals.length ≤ 9223372036854775807) (hvu : U64s vals)
    (c2 : w.cell? ⟨wb, 0, none⟩ = some (.int .i64 W)) (h1 : 1 ≤ W) (h2 : W ≤ 64)
    (c3 : w.cell? ⟨xb, 0, none⟩ = some (.slice (some ⟨yb, 0, none⟩) M M)) (hy : w.rowIs yb 43 M f) 
    (hva : SliceOf w .i64 va n.2.2) (hn : NodeOk n) (hM : ∀ a ∈ n.2.2, (0 : Int) ≤ a ∧ a < (M : Int)) (hacc : ∀ a ∈ n.2.2, f a.toNat = .int .u64 (acc.getD a.toNat 0) ∧ 0 ≤ acc.getD a.toNat 0 ∧ acc.getD a.toNat 0 ≤ 18446744073709551615) :
    Calls Tryz.prog 71 #[.agg #[.int .u8 n.1, .int .u64 n.2.1, va], .pointer (some ⟨vb, 0, none⟩), .pointer (some ⟨wb, 0, none⟩), .pointer (some ⟨xb, 0, none⟩)] w fun e w' => e = .returned (.int .u64 (valN W vals acc n)) ∧ Below w.heap.size w w' := by
  obtain ⟨ap, m, cap, rfl, hlm, -⟩ := hva.parts
  obtain ⟨av, nv, cv, rfl, hlv, hcv⟩ := hv.parts
  obtain ⟨p, hp⟩ : ∃ p, w.heap.size = p := ⟨_, rfl⟩
  obtain ⟨op, num, xs⟩ := n
  simp only at hva hn hM hacc hlm ⊢
  have hm3 : m ≤ 3 := by have := hn.2.2; have := aryN_le op; simp only at *; omega
  have hop : op ≤ 21 := hn.1
  have hnum : num ≤ 18446744073709551615 := hn.2.1
  obtain ⟨R, hR⟩ : ∃ R, valN W vals acc (op, num, xs) = R := ⟨_, rfl⟩
  rw [hR]
  have hb1 := below_new w (.cells #[.int .u8 op, .int .u64 num, .slice ap m cap] 88)
  have hk1 : (w.alloc (.cells #[.int .u8 op, .int .u64 num, .slice ap m cap] 88)).heap[p]? = some (.cells #[.int .u8 op, .int .u64 num, .slice ap m cap] 88 (0, 0)) := by rw [← hp]; exact heap_alloc_new w _
  have HB := Lib.hid hb1; have HK := Lib.hid hk1; have HR := Lib.hid hR; have HN := Lib.hid hn; have HV := Lib.hid hcv; have HA := Lib.hid hva; have HM := Lib.hid hM; have HACC := Lib.hid hacc; have HVU := Lib.hid hvu; have HLV := Lib.hid hlv; have HLM := Lib.hid hlm
  have HC := Lib.hid (And.intro c1 (And.intro c2 (And.intro c3 hy)))
  have hnv : nv ≤ 9223372036854775807 := by omega
  clear hb1 hk1 hR hn hcv hva hM hacc hvu hlv hlm c1 c2 c3 hy hvl hv
  go_enter Tryz.func71, Tryz.ntmps71
  go_upto_region 1 with fail
  clear hp
  refine wp_abs (fun w1 => Below w.heap.size w w1 ∧ w1.heap[p]? = some (.cells #[.int .u8 op, .int .u64 num, .slice ap m cap] 88 (0, 0))) ⟨HB.out, HK.out⟩ ?_
  rintro w1 ⟨hb1, hx1⟩
  obtain ⟨d0, d1, d2⟩ := cells3 hx1
  obtain ⟨c1, c2, c3, hy⟩ := HC.out
  have k1 := cell_later hb1 c1
  have k2 := cell_later hb1 c2
  have k3 := cell_later hb1 c3
  have hy1 := rowIs_later hy hb1
  have HB1 := Lib.hid hb1; have HX1 := Lib.hid hx1; have HY1 := Lib.hid hy1
  clear c1 c2 c3 hy hb1 hx1 hy1 HK HB
  by_cases e0 : op = 0
  · have ht : ((op : Int) == 0) = true := by rw [beq_iff_eq]; omega
    have hr : R = num := by rw [← HR.out]; exact valN_const e0
    subst hr
    clear e0
    go_wp2
    go_ret
    exact ⟨rfl, HB1.out⟩
  have ht : ((op : Int) == 0) = false := by rw [beq_eq_false_iff_ne]; omega
  by_cases e1 : op = 1
  · have ht1 : ((op : Int) == 1) = true := by rw [beq_iff_eq]; omega
    by_cases hlt : num < nv
    · have hle : ¬ (nv : Int) ≤ (num : Int) := by omega
      obtain ⟨vb', off, q, rfl, hq, hqv⟩ := HV.out num hlt
      have hq0 : 0 ≤ q ∧ q ≤ 18446744073709551615 := HVU.out q (List.mem_of_getElem? hqv)
      have hr : R = ((q.toNat % 2 ^ W : Nat) : Int) := by rw [← HR.out, valN_var e1 (by rw [HLV.out]; exact hlt)]; rw [List.getD_eq_getElem?_getD, hqv]; rfl
      have e3 : trimI W q = R := by rw [hr]; unfold trimI; rw [if_pos (chk_in (by omega) (by omega)), Int.toNat_natCast]
      have htr : ∀ wx, Calls Tryz.prog 56 #[.int .i64 W, .int .u64 q] wx fun e w' => e = .returned (.tuple #[.int .u64 R, .int .i64 0]) ∧ w' = wx := fun wx => by
        refine (trim_any W q hq0.1 hq0.2 wx).mono ?_
        rintro e w' ⟨rfl, rfl⟩
        rw [e3, chk_in (by omega) (by omega)]
        exact ⟨rfl, rfl⟩
      have k4 := cell_later HB1.out hq
      have HTR := Lib.hid htr
      clear hq hqv hq0 hr htr e1 e0 e3
      go_wp2
      go_quiet ((go_at_call 56; refine Calls.quiet_of_same (HTR.out _)))
      go_wp2
      go_ret
      exact ⟨rfl, below_drewN HB1.out _⟩
    · have hle : (nv : Int) ≤ (num : Int) := by omega
      have hr : R = 0 := by rw [← HR.out]; exact valN_no e1 (by rw [HLV.out]; exact hlt)
      subst hr
      clear e1 e0 hlt
      go_wp2
      go_ret
      exact ⟨rfl, HB1.out⟩
  · have ht1 : ((op : Int) == 1) = false := by rw [beq_eq_false_iff_ne]; omega
    have hmk := run_make_row' (P := Tryz.prog) 25 43 (.int .u64 0) 8 Tryz.underlying25 Tryz.infoU64 rfl .i64 .i64 m (by omega) (by omega)
    have hb2 := below_new w1 (.cells (madeCells #[.int .u64 0] m) 43)
    have hz := World.rowIs_made w1 (.int .u64 0) m 43
    obtain ⟨q, hq⟩ : ∃ q, w1.heap.size = q := ⟨_, rfl⟩
    rw [hq] at hz
    have HB2 := Lib.hid hb2; have HZ := Lib.hid hz
    clear hb2 hz
    go_upto_region 10 with fail
    have HQ := Lib.hid hq
    have HD := Lib.hid (And.intro d0 (And.intro d2 (And.intro k2 k3)))
    clear hq d0 d1 d2 k1 k2 k3
    refine wp_abs (fun w2 => Below w1.heap.size w1 w2 ∧ w2.rowIs q 43 m (fun _ => .int .u64 0)) ⟨HB2.out, HZ.out⟩ ?_
    rintro w2 ⟨hb2, hz⟩
    have d2 := cell_later hb2 HD.out.2.1
    have HB2 := Lib.hid hb2; have HZ := Lib.hid hz
    clear hb2 hz
    go_wp2
    go_loopw [45] (fun i wr => ∃ k : Nat, k ≤ m ∧ i = .int .i64 k ∧ wr.rowIs q 43 m (fun j => .int .u64 (if j < k then acc.getD (xs.getD j 0).toNat 0 else 0)) ∧ Below w1.heap.size w1 wr) (fun i _ => m - (intOf i).toNat)
    case atStart => exact ⟨0, by omega, rfl, HZ.out.congr (fun i hi => by simp), HB2.out⟩
    case round =>
      obtain ⟨k, hk, rfl, hrow, hb⟩ := hrel
      have hd := HD.out
      have r0 := cell_later hb hd.1
      have r2 := cell_later hb hd.2.2.1
      have r3 := cell_later hb hd.2.2.2
      have HB3 := Lib.hid hb; have HROW := Lib.hid hrow
      by_cases hlt : k < m
      · obtain ⟨xb0, xo, x, rfl, hx, hxq⟩ := HA.out.parts' hlt
        have hx1 := cell_later hb (cell_later HB1.out hx)
        have hmem := List.mem_of_getElem? hxq
        obtain ⟨z, rfl⟩ := Int.eq_ofNat_of_zero_le (HM.out x hmem).1
        have hzM : (z : Int) < (M : Int) := (HM.out _ hmem).2
        have hy := (rowIs_later (rowIs_later HY1.out (Below.refl _ _)) hb).cell (i := z) (by omega)
        have hac := (HACC.out _ hmem).1
        rw [Int.toNat_natCast] at hac
        rw [hac] at hy
        have hc := hrow.cell hlt
        have hf := hrow.frozen k
        have hget : xs.getD k 0 = (z : Int) := by rw [List.getD_eq_getElem?_getD, hxq]; rfl
        have HGET := Lib.hid hget
        clear hb hrow hd hx hxq hmem hget hac
        go_wp2
        go_roundw
        case rel =>
          refine ⟨k + 1, by omega, by go_num, (HROW.out.set k _).congr (fun j hj => ?_), HB3.out.setCell (by rw [← HQ.out]; exact Nat.le_refl _) _⟩
          by_cases hjk : j = k
          · rw [if_pos hjk, hjk, if_pos (by omega), HGET.out, Int.toNat_natCast]; simp [List.getD_eq_getElem?_getD]
          · rw [if_neg hjk]
            by_cases hj2 : j < k
            · rw [if_pos hj2, if_pos (by omega)]
            · rw [if_neg hj2, if_neg (by omega)]
        case measure => simp [intOf]; omega
      · obtain rfl : k = m := by omega
        have hs : SliceOf wr .u64 (.slice (some ⟨q, 0, none⟩) k k) (xs.map fun a => acc.getD a.toNat 0) := by
          refine slice_of_row hrow (by rw [List.length_map]; exact HLM.out) (fun i hi => ?_)
          have hl : i < xs.length := by rw [HLM.out]; exact hi
          rw [if_pos hi, List.getD_eq_getElem?_getD, List.getD_eq_getElem?_getD, List.getD_eq_getElem?_getD, List.getElem?_map, List.getElem?_eq_getElem hl]
          rfl
        have hu : U64s (xs.map fun a => acc.getD a.toNat 0) := by
          intro y hy
          obtain ⟨a, ha, rfl⟩ := List.mem_map.1 hy
          exact (HACC.out a ha).2
        have hap := apply_any op W (by omega) (by omega) _ _ wr hs hu (by rw [List.length_map, HLM.out]; omega)
        have hr : wI op W (xs.map fun a => acc.getD a.toNat 0) = R := by rw [← HR.out]; exact (valN_app (n := (op, num, xs)) e0 e1).symm
        rw [hr] at hap
        have HAP := Lib.hid hap
        clear hb hrow hd hs hu hap hr e0 e1
        go_wp2_with (go_at_call 72; refine HAP.out.mono ?_; rintro e w4 ⟨rfl, hb4⟩)
        go_ret
        have hb5 := HB1.out.trans (HB3.out.mono HB1.out.size)
        exact ⟨rfl, hb5.trans (hb4.mono hb5.size)⟩
end Go.Proofs.YteamnchoddegpaaGreatDoor
