/- Lab, PlainS: joined by wip/bundle.py. -/
import Derived.Test.YtiklidgcmheofaaDoorB1
import Derived.Test.YtiklidgcmheofaaDoorB2
import Derived.Test.YtiklidgcmheofaaDoorB3
import Derived.Deep.DeepCutAuto
import Derived.Deep.CutBlock
import Derived.Deep.RegionHeld3
import Derived.BigQuiet
namespace Go.Proofs.YtiklidgcmheofaaDoor
/-- A node as a graph of a width holds it. -/
def NodeGood (W : Nat) (n : PNode) : Prop := (n.1 = 0 ∧ n.2.1 < 2 ^ W ∧ n.2.2 = []) ∨ (n.1 = 1 ∧ n.2.1 ≤ 4194303 ∧ n.2.2 = []) ∨ (2 ≤ n.1 ∧ n.1 ≤ 21 ∧ n.2.1 = 0 ∧ aryN n.1 = n.2.2.length)
def GoodL (W : Nat) (L : List PNode) : Prop := ∀ n ∈ L, NodeGood W n
theorem GoodL.nil (W : Nat) : GoodL W [] := by simp [GoodL]
theorem aryN_pos {o : Nat} (h : 2 ≤ o) : aryN o ≠ 0 := by
  unfold aryN
  rw [if_neg (by omega)]
  split
  · decide
  · split <;> decide
theorem GoodL.ask {W : Nat} {L : List PNode} (h : GoodL W L) (room : Nat) {n : PNode} (hn : NodeGood W n) : GoodL W (askP room L n).1 := by
  unfold askP
  cases L.findIdx? (· == n) with
  | some t => exact h
  | none =>
    dsimp only
    split
    · exact h
    · intro m hm
      rcases List.mem_append.1 hm with hm | hm
      · exact h m hm
      · simp at hm; subst hm; exact hn
theorem GoodL.const {W : Nat} {L : List PNode} (h : GoodL W L) (room q : Nat) : GoodL W (constR W room L q).1 := h.ask room (.inl ⟨rfl, Nat.mod_lt _ (pow_pos2 W), rfl⟩)
theorem GoodL.var {W : Nat} {L : List PNode} (h : GoodL W L) (room : Nat) (n : Int) : GoodL W (varR room L n).1 := by
  unfold varR
  split
  · exact h.ask room (.inr (.inl ⟨rfl, by show n.toNat ≤ 4194303; omega, rfl⟩))
  · exact h
theorem GoodL.app {W : Nat} {L : List PNode} (h : GoodL W L) (room o : Nat) (xs : List Int) : GoodL W (appR room L o xs).1 := by
  unfold appR
  split
  · rename_i hc
    split
    · refine h.ask room (.inr (.inr ⟨?_, hc.1, rfl, hc.2.2⟩))
      show 2 ≤ o
      have := hc.2.1
      unfold aryN at this
      by_cases h1 : o ≤ 1
      · rw [if_pos h1] at this; omega
      · omega
    · exact h
  · exact h
theorem GoodL.add {W : Nat} {L : List PNode} (h : GoodL W L) (room : Nat) (a : PAsk) : GoodL W (addR W room L a).1 := by
  unfold addR
  split
  · exact h.const room _
  · split
    · exact h.var room _
    · exact h.app room _ _
theorem askP_hit {L : List PNode} (h : L.Nodup) {k : Nat} {n : PNode} (hk : L[k]? = some n) (room : Nat) : askP room L n = (L, k, 0) := by
  unfold askP
  rw [find_of_mem h hk]
/-- What is asked for again is the same term. -/
theorem const_again {W : Nat} {L : List PNode} (h : WFL L) (hg : GoodL W L) {k : Nat} {n : PNode} (hk : L[k]? = some n) (h0 : n.1 = 0) (room : Nat) : constR W room L n.2.1 = (L, k, 0) := by
  have hn := hg n (List.mem_of_getElem? hk)
  rcases hn with ⟨h1, h2, h3⟩ | ⟨h1, _⟩ | ⟨h1, _⟩
  · unfold constR
    rw [Nat.mod_eq_of_lt h2]
    obtain ⟨o, q, xs⟩ := n
    simp only at h0 h3
    subst h0; subst h3
    exact askP_hit h.nodup hk room
  · omega
  · omega
end Go.Proofs.YtiklidgcmheofaaDoor
namespace Go.Proofs.YtiklidgcmheofaaDoor
open Go.RowKit Go.Maps
set_option maxHeartbeats 400000
theorem SliceOf.at {w : World} {k : IntKind} {b off n cap i : Nat} {xs : List Int} {q : Int} (h : SliceOf w k (.slice (some ⟨b, off, none⟩) n cap) xs) (hq : xs[i]? = some q) : w.cell? ⟨b, off + i, none⟩ = some (.int k q) := by
  obtain ⟨a, n', c', e, hl, hc⟩ := h
  simp only [Value.slice.injEq] at e
  obtain ⟨rfl, rfl, rfl⟩ := e
  have hlt := (List.getElem?_eq_some_iff.1 hq).1
  obtain ⟨b', off', e', hcell⟩ := hc i (by omega)
  simp only [Option.some.injEq, Addr.mk.injEq, and_true] at e'
  obtain ⟨rfl, rfl⟩ := e'
  rw [hcell]
  rw [List.getElem?_eq_getElem hlt] at hq
  simp at hq
  simp [hlt, hq]
/-- A thing in memory: the blocks that it owns, those that it reads, and what is known of them. -/
structure Thing where
  W : List Nat
  R : List Nat
  holds : World → Prop
  keep : ∀ w w', holds w → (∀ k, k ∈ W ∨ k ∈ R → w'.heap[k]? = w.heap[k]?) → holds w'
/-- Two things do not write what the other one has. -/
def Apart (s t : Thing) : Prop := (∀ k, k ∈ s.W → k ∉ t.W ∧ k ∉ t.R) ∧ ∀ k, k ∈ s.R → k ∉ t.W
theorem Apart.symm {s t : Thing} (h : Apart s t) : Apart t s :=
  ⟨fun k hk => ⟨fun hm => (h.1 k hm).1 hk, fun hm => h.2 k hm hk⟩, fun k hk hm => (h.1 k hm).2 hk⟩
structure Lab (w0 wr : World) (ts : List Thing) : Prop where
  below : Below w0.heap.size w0 wr
  holds : ∀ t ∈ ts, t.holds wr
  low : ∀ t ∈ ts, ∀ k, k ∈ t.W → w0.heap.size ≤ k
  high : ∀ t ∈ ts, ∀ k, k ∈ t.W ∨ k ∈ t.R → k < wr.heap.size
  apart : ts.Pairwise Apart
section
variable {w0 wr w' : World} {s s' : Thing} {ts : List Thing}
theorem Lab.head (h : Lab w0 wr (s :: ts)) : s.holds wr := h.holds s (by simp)
theorem Lab.second {t : Thing} (h : Lab w0 wr (s :: t :: ts)) : t.holds wr := h.holds t (by simp)
theorem Lab.third {t u : Thing} (h : Lab w0 wr (s :: t :: u :: ts)) : u.holds wr := h.holds u (by simp)
theorem Lab.fourth {t u v : Thing} (h : Lab w0 wr (s :: t :: u :: v :: ts)) : v.holds wr := h.holds v (by simp)
theorem Lab.nil {w0 wr : World} (h : Below w0.heap.size w0 wr) : Lab w0 wr [] := ⟨h, by simp, by simp, by simp, .nil⟩
theorem Lab.size (h : Lab w0 wr ts) : w0.heap.size ≤ wr.heap.size := h.below.size
theorem Lab.drop (h : Lab w0 wr (s :: ts)) : Lab w0 wr ts :=
  ⟨h.below, fun t ht => h.holds t (by simp [ht]), fun t ht => h.low t (by simp [ht]), fun t ht => h.high t (by simp [ht]), (List.pairwise_cons.1 h.apart).2⟩
theorem Lab.swap {t : Thing} (h : Lab w0 wr (s :: t :: ts)) : Lab w0 wr (t :: s :: ts) := by
  have hm : ∀ x, x ∈ t :: s :: ts → x ∈ s :: t :: ts := by intro x hx; simp at hx ⊢; rcases hx with h | h | h <;> simp [h]
  refine ⟨h.below, fun x hx => h.holds x (hm x hx), fun x hx => h.low x (hm x hx), fun x hx => h.high x (hm x hx), ?_⟩
  have hp := h.apart
  rw [List.pairwise_cons, List.pairwise_cons] at hp ⊢
  refine ⟨fun a ha => ?_, fun a ha => hp.1 a (by simp [ha]), hp.2.2⟩
  rcases List.mem_cons.1 ha with rfl | ha
  · exact (hp.1 t (by simp)).symm
  · exact hp.2.1 a ha
/-- The third thing comes to the front. -/
theorem Lab.rot3 {t u : Thing} (h : Lab w0 wr (s :: t :: u :: ts)) : Lab w0 wr (u :: s :: t :: ts) := by
  have hm : ∀ x, x ∈ u :: s :: t :: ts → x ∈ s :: t :: u :: ts := by intro x hx; simp at hx ⊢; rcases hx with h | h | h | h <;> simp [h]
  refine ⟨h.below, fun x hx => h.holds x (hm x hx), fun x hx => h.low x (hm x hx), fun x hx => h.high x (hm x hx), ?_⟩
  have hp := h.apart
  rw [List.pairwise_cons, List.pairwise_cons, List.pairwise_cons] at hp ⊢
  refine ⟨fun a ha => ?_, fun a ha => ?_, fun a ha => hp.2.1 a (by simp [ha]), hp.2.2.2⟩
  · rcases List.mem_cons.1 ha with rfl | ha
    · exact (hp.1 u (by simp)).symm
    · rcases List.mem_cons.1 ha with rfl | ha
      · exact (hp.2.1 u (by simp)).symm
      · exact hp.2.2.1 a ha
  · rcases List.mem_cons.1 ha with rfl | ha
    · exact hp.1 _ (by simp)
    · exact hp.1 a (by simp [ha])
theorem Lab.rot3' {t u : Thing} (h : Lab w0 wr (s :: t :: u :: ts)) : Lab w0 wr (t :: u :: s :: ts) := h.rot3.rot3
/-- What makes memory and turns nothing that there was. -/
theorem Lab.later (h : Lab w0 wr ts) (hb : Below wr.heap.size wr w') : Lab w0 w' ts :=
  ⟨h.below.trans (hb.mono h.size), fun t ht => t.keep _ _ (h.holds t ht) fun k hk => hb.block k (h.high t ht k hk), h.low, fun t ht k hk => Nat.lt_of_lt_of_le (h.high t ht k hk) hb.size, h.apart⟩
/-- The first thing turns. -/
theorem Lab.turn (h : Lab w0 wr (s :: ts)) (ht : Touch s.W wr w') (hs : s'.holds w') (hW : ∀ k, k ∈ s'.W → k ∈ s.W ∨ wr.heap.size ≤ k) (hR : ∀ k, k ∈ s'.R → k ∈ s.R ∨ wr.heap.size ≤ k) (hz : ∀ k, k ∈ s'.W ∨ k ∈ s'.R → k < w'.heap.size) : Lab w0 w' (s' :: ts) := by
  have hp := List.pairwise_cons.1 h.apart
  refine ⟨ht.below h.below h.size (h.low s (by simp)), fun t hm => ?_, fun t hm k hk => ?_, fun t hm k hk => ?_, ?_⟩
  · rcases List.mem_cons.1 hm with rfl | hm
    · exact hs
    · exact t.keep _ _ (h.holds t (by simp [hm])) fun k hk => ht.block k (h.high t (by simp [hm]) k hk) fun hsW => hk.elim (fun hw => ((hp.1 t hm).1 k hsW).1 hw) (fun hr => ((hp.1 t hm).1 k hsW).2 hr)
  · rcases List.mem_cons.1 hm with rfl | hm
    · exact (hW k hk).elim (h.low s (by simp) k) (fun hl => Nat.le_trans h.size hl)
    · exact h.low t (by simp [hm]) k hk
  · rcases List.mem_cons.1 hm with rfl | hm
    · exact hz k hk
    · exact Nat.lt_of_lt_of_le (h.high t (by simp [hm]) k hk) ht.size
  · rw [List.pairwise_cons]
    refine ⟨fun t hm => ⟨fun k hk => ⟨fun htW => ?_, fun htR => ?_⟩, fun k hk htW => ?_⟩, hp.2⟩
    · exact (hW k hk).elim (fun hs => ((hp.1 t hm).1 k hs).1 htW) (fun hl => by have := h.high t (by simp [hm]) k (.inl htW); omega)
    · exact (hW k hk).elim (fun hs => ((hp.1 t hm).1 k hs).2 htR) (fun hl => by have := h.high t (by simp [hm]) k (.inr htR); omega)
    · exact (hR k hk).elim (fun hs => (hp.1 t hm).2 k hs htW) (fun hl => by have := h.high t (by simp [hm]) k (.inl htW); omega)
/-- A thing of new blocks. -/
theorem Lab.new (h : Lab w0 wr ts) (hb : Below wr.heap.size wr w') (hs : s.holds w') (hW : ∀ k, k ∈ s.W → wr.heap.size ≤ k) (hR : ∀ k, k ∈ s.R → (∀ t ∈ ts, k ∉ t.W)) (hz : ∀ k, k ∈ s.W ∨ k ∈ s.R → k < w'.heap.size) : Lab w0 w' (s :: ts) := by
  have hl := h.later hb
  refine ⟨hl.below, fun t hm => ?_, fun t hm k hk => ?_, fun t hm k hk => ?_, ?_⟩
  · rcases List.mem_cons.1 hm with rfl | hm
    · exact hs
    · exact hl.holds t hm
  · rcases List.mem_cons.1 hm with rfl | hm
    · exact Nat.le_trans h.size (hW k hk)
    · exact hl.low t hm k hk
  · rcases List.mem_cons.1 hm with rfl | hm
    · exact hz k hk
    · exact hl.high t hm k hk
  · rw [List.pairwise_cons]
    refine ⟨fun t hm => ⟨fun k hk => ⟨fun htW => ?_, fun htR => ?_⟩, fun k hk htW => hR k hk t hm htW⟩, hl.apart⟩
    · have := h.high t hm k (.inl htW); have := hW k hk; omega
    · have := h.high t hm k (.inr htR); have := hW k hk; omega
end
theorem ownsRow_mono0 {w : World} {base E size n : Nat} {v : Value} {xs : List Value} (h : w.ownsRow base E size v n xs) : w.ownsRow 0 E size v n xs := by
  refine ⟨h.1, ?_⟩
  rcases h.2 with hn | ⟨g, cap, cur, hv, hg, r⟩
  · exact .inl hn
  · exact .inr ⟨g, cap, cur, hv, Nat.zero_le _, r⟩
/-- The things: a row, a graph, a block. -/
def Thing.row (E size : Nat) (v : Value) (n : Nat) (cells : List Value) : Thing :=
  ⟨v.ownBlock.toList, [], fun w => w.ownsRow 0 E size v n cells, fun _ _ h hk => owns_keep h fun k hm => hk k (.inl (by simp [hm]))⟩
def Thing.ints (v : Value) (xs : List Int) : Thing := Thing.row 3 1 v xs.length (xs.map (Value.int .i64))
def Thing.box (b T : Nat) (arr : Array Value) : Thing :=
  ⟨[b], [], fun w => w.heap[b]? = some (.cells arr T (0, 0)), fun _ _ h hk => (hk b (.inl (by simp))).trans h⟩
def Thing.graph (F I : List Nat) (gb W room : Nat) (L : List PNode) : Thing :=
  ⟨F, I, fun w => Gr w 0 F I gb W room L, fun _ _ h hk => h.keep (fun k hm => hk k (.inl hm)) (fun k hm _ => hk k (.inr hm))⟩
section
variable {w0 wr w' : World} {ts : List Thing} {F I : List Nat} {gb W room : Nat} {L : List PNode}
theorem Lab.gr (h : Lab w0 wr (Thing.graph F I gb W room L :: ts)) : Gr wr 0 F I gb W room L := h.head
theorem Lab.ints {v : Value} {xs : List Int} (h : Lab w0 wr (Thing.ints v xs :: ts)) : OwnInts wr 0 3 .i64 v xs := h.head
theorem Lab.ints2 {x : Thing} {v : Value} {xs : List Int} (h : Lab w0 wr (x :: Thing.ints v xs :: ts)) : OwnInts wr 0 3 .i64 v xs := h.second
theorem Lab.box1 {b T : Nat} {arr : Array Value} (h : Lab w0 wr (Thing.box b T arr :: ts)) : wr.heap[b]? = some (.cells arr T (0, 0)) := h.head
theorem Lab.box2 {x : Thing} {b T : Nat} {arr : Array Value} (h : Lab w0 wr (x :: Thing.box b T arr :: ts)) : wr.heap[b]? = some (.cells arr T (0, 0)) := h.second
theorem Lab.box3 {x y : Thing} {b T : Nat} {arr : Array Value} (h : Lab w0 wr (x :: y :: Thing.box b T arr :: ts)) : wr.heap[b]? = some (.cells arr T (0, 0)) := h.third
theorem Gr.drewN (h : Gr wr 0 F I gb W room L) (n : Nat) : Gr (wr.drewN n) 0 F I gb W room L := h.later (below_drewN (Below.refl _ _) n)
theorem Lab.drewN (h : Lab w0 wr ts) (n : Nat) : Lab w0 (wr.drewN n) ts := h.later (below_drewN (Below.refl _ _) n)
/-- A graph's call. -/
theorem Lab.gpost {R : List PNode × Nat × Nat} {e : Ending} (h : Lab w0 wr (Thing.graph F I gb W room L :: ts)) (hp : GPost wr 0 F I gb W room R e w') :
    ∃ F' I', e = .returned (.tuple #[.int .i64 R.2.1, .int .i64 R.2.2]) ∧ Lab w0 w' (Thing.graph F' I' gb W room R.1 :: ts) := by
  obtain ⟨F', I', he, hg, ht, hF, hI⟩ := hp
  refine ⟨F', I'.filter fun k => decide (k < w'.heap.size), he, h.turn (s' := Thing.graph F' _ gb W room R.1) ht hg.inI hF (fun k hk => ?_) (fun k hk => ?_)⟩
  · exact hI k (List.mem_filter.1 hk).1
  · rcases hk with hk | hk
    · exact hg.lt k hk
    · simpa using (List.mem_filter.1 hk).2
/-- A new row of ints. -/
theorem Lab.new_row {E size n : Nat} {v : Value} {cells : List Value} (h : Lab w0 wr ts) (hb : Below wr.heap.size wr w') (hv : w'.ownsRow wr.heap.size E size v n cells) : Lab w0 w' (Thing.row E size v n cells :: ts) := by
  refine h.new (s := Thing.row E size v n cells) hb (ownsRow_mono0 hv) (fun k hk => (hv.lt k (by simpa [Thing.row] using hk)).1) (fun k hk => by simp [Thing.row] at hk) (fun k hk => ?_)
  rcases hk with hk | hk
  · exact (hv.lt k (by simpa [Thing.row] using hk)).2
  · simp [Thing.row] at hk
theorem Lab.new_ints {v : Value} {xs : List Int} (h : Lab w0 wr ts) (hb : Below wr.heap.size wr w') (hv : OwnInts w' wr.heap.size 3 .i64 v xs) : Lab w0 w' (Thing.ints v xs :: ts) := h.new_row hb hv
/-- A block is laid. -/
theorem Lab.alloc (h : Lab w0 wr ts) (arr : Array Value) (T : Nat) : Lab w0 (wr.alloc (.cells arr T)) (Thing.box wr.heap.size T arr :: ts) := by
  refine h.new (s := Thing.box wr.heap.size T arr) (below_new wr _) (heap_alloc_new wr _) (fun k hk => by simp [Thing.box] at hk; omega) (fun k hk => by simp [Thing.box] at hk) (fun k hk => ?_)
  rcases hk with hk | hk
  · simp [Thing.box] at hk; simp; omega
  · simp [Thing.box] at hk
end
end Go.Proofs.YtiklidgcmheofaaDoor
namespace Go.Proofs.YtiklidgcmheofaaDoor
open Go.RowKit Go.Maps
set_option maxHeartbeats 400000
section
variable {P : Program}
end
section
variable {w0 wr w' : World} {s s' u : Thing} {ts : List Thing}
/-- The first thing turns, and takes the second one in. -/
theorem Lab.absorb (h : Lab w0 wr (s :: u :: ts)) (ht : Touch s.W wr w') (hs : s'.holds w') (hW : ∀ k, k ∈ s'.W → k ∈ s.W ∨ wr.heap.size ≤ k) (hR : ∀ k, k ∈ s'.R → k ∈ s.R ∨ k ∈ u.W ∨ wr.heap.size ≤ k) (hz : ∀ k, k ∈ s'.W ∨ k ∈ s'.R → k < w'.heap.size) : Lab w0 w' (s' :: ts) := by
  have hp := List.pairwise_cons.1 h.apart
  have hq := List.pairwise_cons.1 hp.2
  refine ⟨ht.below h.below h.size (h.low s (by simp)), fun t hm => ?_, fun t hm k hk => ?_, fun t hm k hk => ?_, ?_⟩
  · rcases List.mem_cons.1 hm with rfl | hm
    · exact hs
    · exact t.keep _ _ (h.holds t (by simp [hm])) fun k hk => ht.block k (h.high t (by simp [hm]) k hk) fun hsW => hk.elim (fun hw => ((hp.1 t (by simp [hm])).1 k hsW).1 hw) (fun hr => ((hp.1 t (by simp [hm])).1 k hsW).2 hr)
  · rcases List.mem_cons.1 hm with rfl | hm
    · exact (hW k hk).elim (h.low s (by simp) k) (fun hl => Nat.le_trans h.size hl)
    · exact h.low t (by simp [hm]) k hk
  · rcases List.mem_cons.1 hm with rfl | hm
    · exact hz k hk
    · exact Nat.lt_of_lt_of_le (h.high t (by simp [hm]) k hk) ht.size
  · rw [List.pairwise_cons]
    refine ⟨fun t hm => ⟨fun k hk => ⟨fun htW => ?_, fun htR => ?_⟩, fun k hk htW => ?_⟩, hq.2⟩
    · exact (hW k hk).elim (fun hs => ((hp.1 t (by simp [hm])).1 k hs).1 htW) (fun hl => by have := h.high t (by simp [hm]) k (.inl htW); omega)
    · exact (hW k hk).elim (fun hs => ((hp.1 t (by simp [hm])).1 k hs).2 htR) (fun hl => by have := h.high t (by simp [hm]) k (.inr htR); omega)
    · rcases hR k hk with hs | hu | hl
      · exact (hp.1 t (by simp [hm])).2 k hs htW
      · exact ((hq.1 t hm).1 k hu).1 htW
      · have := h.high t (by simp [hm]) k (.inl htW); omega
end
theorem AskV.slice {w : World} {x0 x1 x2 x3 va : Value} {a : PAsk} (h : AskV w (.agg #[x0, x1, x2, x3, va]) a) : SliceOf w .i64 va a.2.2.2.2 := by
  obtain ⟨va', he, hs⟩ := h
  simp only [Value.agg.injEq] at he
  have h' := Array.toList_inj.2 he
  simp only [List.cons.injEq, and_true] at h'
  obtain ⟨_, _, _, _, rfl⟩ := h'
  exact hs
section
variable {w0 wr w' : World} {ts : List Thing} {I : List Nat} {v : Value} {L : List PNode}
end
end Go.Proofs.YtiklidgcmheofaaDoor
namespace Go.Proofs.YtiklidgcmheofaaDoor
open Go.RowKit Go.Maps
set_option maxHeartbeats 400000
theorem Lab.new_graph {w0 wr : World} {ts : List Thing} (h : Lab w0 wr ts) (W most : Int) (hok : newOk W most) :
    Calls Tryd.prog 9 #[.int .i64 W, .int .i64 most] wr fun e w' => ∃ gb F, e = .returned (.tuple #[.pointer (some ⟨gb, 0, none⟩), .int .i64 0]) ∧ Lab w0 w' (Thing.graph F [] gb W.toNat (roomOf most) [] :: ts) := by
  refine (new_any W most hok wr).mono ?_
  rintro e w' ⟨gb, F, rfl, hg, hb⟩
  refine ⟨gb, F, rfl, h.new (s := Thing.graph F [] gb W.toNat (roomOf most) []) hb (hg.mono (Nat.zero_le _)) hg.base_le (fun k hk => by simp [Thing.graph] at hk) (fun k hk => ?_)⟩
  rcases hk with hk | hk
  · exact hg.lt k hk
  · simp [Thing.graph] at hk
/-- The variables are few. -/
def VarsLt (K : Nat) (L : List PNode) : Prop := ∀ n ∈ L, n.1 = 1 → n.2.1 < K
theorem VarsLt.mono {K K' : Nat} {L : List PNode} (h : VarsLt K L) (hk : K ≤ K') : VarsLt K' L := fun n hn h1 => Nat.lt_of_lt_of_le (h n hn h1) hk
theorem VarsLt.ask {K : Nat} {L : List PNode} (h : VarsLt K L) (room : Nat) {n : PNode} (hn : n.1 = 1 → n.2.1 < K) : VarsLt K (askP room L n).1 := by
  unfold askP
  cases L.findIdx? (· == n) with
  | some t => exact h
  | none =>
    dsimp only
    split
    · exact h
    · intro m hm
      rcases List.mem_append.1 hm with hm | hm
      · exact h m hm
      · simp at hm; subst hm; exact hn
theorem VarsLt.add {K W : Nat} {L : List PNode} (h : VarsLt K L) (hK : 6 ≤ K) (room : Nat) (a : PAsk) : VarsLt K (addR W room L a).1 := by
  rw [addR_ask]
  refine h.ask room ?_
  unfold addN
  split
  · intro h; simp at h
  · split
    · intro _
      have h0 := Int.emod_nonneg a.2.2.2.1 (show (6 : Int) ≠ 0 by decide)
      have h1 := Int.emod_lt_of_pos a.2.2.2.1 (show (0 : Int) < 6 by decide)
      show (a.2.2.2.1 % 6).toNat < K
      omega
    · intro h
      have := code_bounds a
      simp only at h
      omega
end Go.Proofs.YtiklidgcmheofaaDoor
namespace Go.Proofs.YtiklidgcmheofaaDoor
/-- A list of nodes of which another one is the beginning. -/
theorem isPrefix_ask {L : List PNode} (room : Nat) (n : PNode) : L <+: (askP room L n).1 := by
  unfold askP
  cases L.findIdx? (· == n) with
  | some t => exact List.prefix_refl _
  | none =>
    dsimp only
    split
    · exact List.prefix_refl _
    · exact List.prefix_append _ _
theorem isPrefix_const (W room : Nat) (L : List PNode) (q : Nat) : L <+: (constR W room L q).1 := isPrefix_ask room _
theorem isPrefix_app (room : Nat) (L : List PNode) (o : Nat) (xs : List Int) : L <+: (appR room L o xs).1 := by
  unfold appR; split
  · split
    · exact isPrefix_ask room _
    · exact List.prefix_refl _
  · exact List.prefix_refl _
theorem prefix_at {L L' : List PNode} (h : L <+: L') {i : Nat} {n : PNode} (hi : L[i]? = some n) : L'[i]? = some n := by
  obtain ⟨t, rfl⟩ := h
  rw [List.getElem?_append_left (List.getElem?_eq_some_iff.1 hi).1]; exact hi
end Go.Proofs.YtiklidgcmheofaaDoor
namespace Go.Proofs.YtiklidgcmheofaaDoor
open Go.RowKit Go.Maps
set_option maxHeartbeats 400000
section
variable {w0 wr w' : World} {ts : List Thing} {F I : List Nat} {gb W room : Nat} {L : List PNode}
theorem Lab.perm {ts' : List Thing} (h : Lab w0 wr ts) (hp : ts.Perm ts') : Lab w0 wr ts' :=
  ⟨h.below, fun t ht => h.holds t (hp.mem_iff.2 ht), fun t ht => h.low t (hp.mem_iff.2 ht), fun t ht => h.high t (hp.mem_iff.2 ht), (hp.pairwise_iff (fun {_ _} hs => hs.symm)).1 h.apart⟩
theorem Lab.rot4 {s t u v : Thing} (h : Lab w0 wr (s :: t :: u :: v :: ts)) : Lab w0 wr (v :: s :: t :: u :: ts) := h.perm (List.perm_middle (l₁ := [s, t, u]))
theorem Lab.rot5 {s t u v x : Thing} (h : Lab w0 wr (s :: t :: u :: v :: x :: ts)) : Lab w0 wr (x :: s :: t :: u :: v :: ts) := h.perm (List.perm_middle (l₁ := [s, t, u, v]))
theorem Lab.rot6 {s t u v x y : Thing} (h : Lab w0 wr (s :: t :: u :: v :: x :: y :: ts)) : Lab w0 wr (y :: s :: t :: u :: v :: x :: ts) := h.perm (List.perm_middle (l₁ := [s, t, u, v, x]))
open Classical in
end
end Go.Proofs.YtiklidgcmheofaaDoor
namespace Go.Proofs.YtiklidgcmheofaaDoor
open Go.RowKit Go.Maps
set_option maxHeartbeats 800000
theorem SliceOf.take {w : World} {k : IntKind} {a : Option Addr} {n cap : Nat} {xs : List Int} (h : SliceOf w k (.slice a n cap) xs) (m cap' : Nat) (hm : m ≤ n) : SliceOf w k (.slice a m cap') (xs.take m) := by
  obtain ⟨a', n', c', e, hl, hc⟩ := h.parts
  simp only [Value.slice.injEq] at e
  obtain ⟨rfl, rfl, rfl⟩ := e
  refine ⟨a, m, cap', rfl, by rw [List.length_take]; omega, fun i hi => ?_⟩
  obtain ⟨b, off, q, rfl, hq, hx⟩ := hc i (by omega)
  refine ⟨b, off, rfl, ?_⟩
  rw [hq, List.getD_eq_getElem?_getD, List.getElem?_take, if_pos hi, hx]; rfl
theorem U64s.take {xs : List Int} (h : U64s xs) (m : Nat) : U64s (xs.take m) := fun x hx => h x (List.mem_of_mem_take hx)
end Go.Proofs.YtiklidgcmheofaaDoor
namespace Go.Proofs.YtiklidgcmheofaaDoor
/-- The value of a node, with the values of the terms before it. -/
def valN (W : Nat) (vals acc : List Int) (n : PNode) : Int :=
  if n.1 = 0 then (n.2.1 : Int) else if n.1 = 1 then (if n.2.1 < vals.length then (((vals.getD n.2.1 0).toNat % 2 ^ W : Nat) : Int) else 0)
  else wI n.1 W (n.2.2.map fun a => acc.getD a.toNat 0)
/-- The values of all nodes. -/
def valsL (W : Nat) (vals : List Int) (L : List PNode) : List Int := L.foldl (fun acc n => acc ++ [valN W vals acc n]) []
theorem valsL_snoc (W : Nat) (vals : List Int) (L : List PNode) (n : PNode) : valsL W vals (L ++ [n]) = valsL W vals L ++ [valN W vals (valsL W vals L) n] := by
  unfold valsL; rw [List.foldl_append]; rfl
theorem valsL_len (W : Nat) (vals : List Int) (L : List PNode) : (valsL W vals L).length = L.length := by
  refine snoc_ind (p := fun L => (valsL W vals L).length = L.length) rfl (fun L n ih => ?_) L
  rw [valsL_snoc, List.length_append, List.length_append, ih]; rfl
theorem valsL_append (W : Nat) (vals : List Int) (L M : List PNode) : valsL W vals L <+: valsL W vals (L ++ M) := by
  refine snoc_ind (p := fun M => valsL W vals L <+: valsL W vals (L ++ M)) (by rw [List.append_nil]; exact List.prefix_refl _) (fun M n ih => ?_) M
  rw [← List.append_assoc, valsL_snoc]
  exact ih.trans (List.prefix_append _ _)
theorem valsL_prefix {W : Nat} {vals : List Int} {L L' : List PNode} (h : L <+: L') : valsL W vals L <+: valsL W vals L' := by
  obtain ⟨M, rfl⟩ := h
  exact valsL_append W vals L M
theorem prefix_getD {α : Type} {l l' : List α} {i : Nat} (h : l <+: l') (hi : i < l.length) (d : α) : l'.getD i d = l.getD i d := by
  obtain ⟨t, rfl⟩ := h
  rw [List.getD_eq_getElem?_getD, List.getElem?_append_left hi, ← List.getD_eq_getElem?_getD]
/-- The value of a term. -/
def val (W : Nat) (vals : List Int) (L : List PNode) (i : Nat) : Int := (valsL W vals L).getD i 0
theorem val_prefix {W : Nat} {vals : List Int} {L L' : List PNode} (h : L <+: L') {i : Nat} (hi : i < L.length) : val W vals L' i = val W vals L i :=
  prefix_getD (valsL_prefix h) (by rw [valsL_len]; exact hi) 0
theorem valN_congr {W : Nat} {vals acc acc' : List Int} {n : PNode} (h : ∀ a ∈ n.2.2, acc.getD a.toNat 0 = acc'.getD a.toNat 0) : valN W vals acc n = valN W vals acc' n := by
  unfold valN
  split
  · rfl
  · split
    · rfl
    · congr 1
      exact List.map_congr_left h
/-- What a value is: what its operator makes of the values of its arguments. -/
theorem val_at {W : Nat} {vals : List Int} {L : List PNode} (h : WFL L) {i : Nat} {n : PNode} (hi : L[i]? = some n) : val W vals L i = valN W vals (valsL W vals L) n := by
  obtain ⟨hl, rfl⟩ := List.getElem?_eq_some_iff.1 hi
  have hp : L.take i ++ [L[i]] <+: L := by rw [List.take_append_getElem hl]; exact List.take_prefix _ _
  have hti : (L.take i).length = i := by rw [List.length_take]; omega
  have e1 : val W vals L i = val W vals (L.take i ++ [L[i]]) i := val_prefix hp (by rw [List.length_append, hti]; simp)
  rw [e1]
  unfold val
  rw [valsL_snoc, List.getD_eq_getElem?_getD, List.getElem?_append_right (by rw [valsL_len, hti]; exact Nat.le_refl i), valsL_len, hti, Nat.sub_self]
  refine valN_congr fun a ha => ?_
  have := h.args i _ hi a ha
  exact (prefix_getD (valsL_prefix (List.take_prefix i L)) (by rw [valsL_len, hti]; omega) 0).symm
theorem wE_zero {o W n : Nat} (h1 : 1 ≤ W) (h2 : W ≤ 64) (ho1 : 2 ≤ o) (ho2 : o ≤ 21) (h : aryN o = n) : wE o W n = 0 := by
  unfold wE; rw [if_neg (by omega), if_neg (by omega), if_pos (by simpa using h)]
/-- Values are words. -/
theorem wI_bounds (o W : Int) (xs : List Int) (h1 : 1 ≤ W) (h2 : W ≤ 64) : 0 ≤ wI o W xs ∧ wI o W xs < ((2 ^ W.toNat : Nat) : Int) := by
  have hp := pow_pos2 W.toNat
  unfold wI
  split
  · have h := wop_lt W.toNat o.toNat (wA W xs 0) (wA W xs 1) (wA W xs 2) (by omega) (Nat.mod_lt _ hp) (Nat.mod_lt _ hp) (Nat.mod_lt _ hp)
    omega
  · omega
theorem valN_u64 {W : Nat} (h1 : 1 ≤ W) (h2 : W ≤ 64) (vals acc : List Int) {n : PNode} (hn : NodeOk n) : 0 ≤ valN W vals acc n ∧ valN W vals acc n ≤ 18446744073709551615 := by
  have hp := pow_le64 h2
  have hq := pow_pos2 W
  unfold valN
  split
  · have := hn.2.1; omega
  · split
    · split
      · have := Nat.mod_lt (vals.getD n.2.1 0).toNat hq
        omega
      · omega
    · have := wI_bounds n.1 W (n.2.2.map fun a => acc.getD a.toNat 0) (by omega) (by omega)
      rw [Int.toNat_natCast] at this
      omega
theorem valN_word {W : Nat} (h1 : 1 ≤ W) (h2 : W ≤ 64) (vals acc : List Int) {n : PNode} (hn : NodeGood W n) : 0 ≤ valN W vals acc n ∧ valN W vals acc n < ((2 ^ W : Nat) : Int) := by
  have hq := pow_pos2 W
  unfold valN
  split
  · rcases hn with ⟨_, h, _⟩ | ⟨h, _⟩ | ⟨h, _⟩
    · omega
    · omega
    · omega
  · split
    · split
      · have := Nat.mod_lt (vals.getD n.2.1 0).toNat hq
        omega
      · omega
    · have := wI_bounds n.1 W (n.2.2.map fun a => acc.getD a.toNat 0) (by omega) (by omega)
      rw [Int.toNat_natCast] at this
      exact this
theorem val_u64 {W : Nat} (h1 : 1 ≤ W) (h2 : W ≤ 64) (vals : List Int) {L : List PNode} (h : WFL L) (i : Nat) : 0 ≤ val W vals L i ∧ val W vals L i ≤ 18446744073709551615 := by
  cases hi : L[i]? with
  | some n => rw [val_at h hi]; exact valN_u64 h1 h2 _ _ (h.ok n (List.mem_of_getElem? hi))
  | none =>
    have : val W vals L i = 0 := by unfold val; rw [List.getD_eq_getElem?_getD, List.getElem?_eq_none (by rw [valsL_len]; exact List.getElem?_eq_none_iff.1 hi)]; rfl
    rw [this]; decide
theorem val_word {W : Nat} (h1 : 1 ≤ W) (h2 : W ≤ 64) (vals : List Int) {L : List PNode} (h : WFL L) (hg : GoodL W L) (i : Nat) : 0 ≤ val W vals L i ∧ val W vals L i < ((2 ^ W : Nat) : Int) := by
  have hq := pow_pos2 W
  cases hi : L[i]? with
  | some n => rw [val_at h hi]; exact valN_word h1 h2 _ _ (hg n (List.mem_of_getElem? hi))
  | none =>
    have : val W vals L i = 0 := by unfold val; rw [List.getD_eq_getElem?_getD, List.getElem?_eq_none (by rw [valsL_len]; exact List.getElem?_eq_none_iff.1 hi)]; rfl
    rw [this]; omega
theorem valN_app {W : Nat} {vals acc : List Int} {n : PNode} (h0 : n.1 ≠ 0) (h1 : n.1 ≠ 1) : valN W vals acc n = wI n.1 W (n.2.2.map fun a => acc.getD a.toNat 0) := by
  unfold valN; rw [if_neg h0, if_neg h1]
theorem valN_const {W : Nat} {vals acc : List Int} {n : PNode} (h0 : n.1 = 0) : valN W vals acc n = n.2.1 := by unfold valN; rw [if_pos h0]
theorem valN_var {W : Nat} {vals acc : List Int} {n : PNode} (h0 : n.1 = 1) (h1 : n.2.1 < vals.length) : valN W vals acc n = (((vals.getD n.2.1 0).toNat % 2 ^ W : Nat) : Int) := by unfold valN; rw [if_neg (by omega), if_pos h0, if_pos h1]
theorem valN_no {W : Nat} {vals acc : List Int} {n : PNode} (h0 : n.1 = 1) (h1 : ¬ n.2.1 < vals.length) : valN W vals acc n = 0 := by unfold valN; rw [if_neg (by omega), if_pos h0, if_neg h1]
end Go.Proofs.YtiklidgcmheofaaDoor
namespace Go.Proofs.YtiklidgcmheofaaDoor
/-- The number of a term that is one. -/
def numOf (L : List PNode) (t : Int) : Option Nat := if 0 ≤ t then (match L[t.toNat]? with | some n => if n.1 = 0 then some n.2.1 else none | none => none) else none
def numD (L : List PNode) (t : Int) : Nat := (numOf L t).getD 0
def isNum (L : List PNode) (t : Int) : Bool := (numOf L t).isSome
def commN (o : Nat) : Bool := decide (o = 4 ∨ o = 6 ∨ o = 9 ∨ o = 10 ∨ o = 11 ∨ o = 15 ∨ o = 16)
/-- What a simple term is: a term, a number, or an operator with arguments. -/
inductive Ans where
  | term (t : Int)
  | num (v : Nat)
  | app (o : Nat) (xs : List Int)
def Ans.res (W room : Nat) (L : List PNode) : Ans → List PNode × Nat × Nat
  | .term t => (L, t.toNat, 0)
  | .num v => constR W room L v
  | .app o xs => appR room L o xs
/-- The rules of operators with one argument. -/
def oneA (L : List PNode) (o : Nat) (x : Int) : Ans := match L[x.toNat]? with
  | some n => if n.1 = o then .term (n.2.2.getD 0 0) else .app o [x]
  | none => .app o [x]
/-- The rules of operators with two arguments. -/
def twoA (W : Nat) (L : List PNode) (o : Nat) (x y : Int) : Ans :=
  if o = 4 then (if numOf L y = some 0 then .term x else .app o [x, y])
  else if o = 5 then (if numOf L y = some 0 then .term x else if x = y then .num 0 else .app o [x, y])
  else if o = 6 then (if numOf L y = some 0 then .num 0 else if numOf L y = some 1 then .term x else .app o [x, y])
  else if o = 7 then (if numOf L y = some 1 then .term x else .app o [x, y])
  else if o = 8 then (if numOf L y = some 1 then .num 0 else .app o [x, y])
  else if o = 9 then (if numOf L y = some 0 then .num 0 else if numOf L y = some (2 ^ W - 1) then .term x else if x = y then .term x else .app o [x, y])
  else if o = 10 then (if numOf L y = some 0 then .term x else if numOf L y = some (2 ^ W - 1) then .num (2 ^ W - 1) else if x = y then .term x else .app o [x, y])
  else if o = 11 then (if numOf L y = some 0 then .term x else if numOf L y = some (2 ^ W - 1) then oneA L 2 x else if x = y then .num 0 else .app o [x, y])
  else if o = 12 ∨ o = 13 then (if numOf L y = some 0 then .term x else if isNum L y = true ∧ W ≤ numD L y then .num 0 else .app o [x, y])
  else if o = 14 then (if numOf L y = some 0 then .term x else .app o [x, y])
  else if o = 15 ∨ o = 20 then (if x = y then .num 1 else .app o [x, y])
  else if o = 18 then (if x = y then .num 1 else if numOf L x = some 0 then .num 1 else .app o [x, y])
  else if o = 16 ∨ o = 19 then (if x = y then .num 0 else .app o [x, y])
  else if o = 17 then (if x = y then .num 0 else if numOf L y = some 0 then .num 0 else .app o [x, y])
  else .app o [x, y]
/-- The rules of ite. -/
def threeA (L : List PNode) (x y z : Int) : Ans :=
  if y = z then .term y else if isNum L x = true then (if numD L x ≠ 0 then .term y else .term z) else .app 21 [x, y, z]
def swapA (L : List PNode) (o : Nat) (x y : Int) : Prop := commN o = true ∧ (isNum L x = true ∨ isNum L y = false ∧ y < x)
instance (L : List PNode) (o : Nat) (x y : Int) : Decidable (swapA L o x y) := by unfold swapA; exact inferInstance
/-- The simple term of an operator and arguments. -/
def simpA (W : Nat) (L : List PNode) (o : Nat) (xs : List Int) : Ans :=
  if ∀ t ∈ xs, isNum L t = true then .num (wI o W (xs.map fun t => (numD L t : Int))).toNat
  else match xs with
    | [x] => oneA L o x
    | [x, y] => if swapA L o x y then twoA W L o y x else twoA W L o x y
    | [x, y, z] => threeA L x y z
    | _ => .app o xs
end Go.Proofs.YtiklidgcmheofaaDoor
namespace Go.Proofs.YtiklidgcmheofaaDoor
theorem aryN_le3 (n : Nat) : aryN n ≤ 3 := by
  unfold aryN
  split
  · omega
  · split
    · omega
    · split <;> omega
section
variable {W : Nat} {vals : List Int} {L : List PNode}
theorem numOf_at {t : Int} {c : Nat} (h : numOf L t = some c) : 0 ≤ t ∧ ∃ n, L[t.toNat]? = some n ∧ n.1 = 0 ∧ n.2.1 = c := by
  unfold numOf at h
  split at h
  · split at h
    · split at h
      · exact ⟨by assumption, _, by assumption, by assumption, by simpa using h⟩
      · cases h
    · cases h
  · cases h
theorem numOf_val (hwf : WFL L) (hg : GoodL W L) {t : Int} {c : Nat} (h : numOf L t = some c) : val W vals L t.toNat = (c : Int) ∧ c < 2 ^ W := by
  obtain ⟨_, n, hn, h0, h1⟩ := numOf_at h
  have hgd := hg n (List.mem_of_getElem? hn)
  refine ⟨by rw [val_at hwf hn, valN, if_pos h0, h1], ?_⟩
  rcases hgd with ⟨_, h2, _⟩ | ⟨h2, _⟩ | ⟨h2, _⟩
  · omega
  · omega
  · omega
theorem isNum_some {t : Int} (h : isNum L t = true) : numOf L t = some (numD L t) := by
  unfold isNum at h
  unfold numD
  cases hn : numOf L t with
  | none => rw [hn] at h; cases h
  | some c => rfl
/-- The value of a simple term. -/
def ansVal (W : Nat) (vals : List Int) (L : List PNode) : Ans → Int
  | .term t => val W vals L t.toNat
  | .num v => ((v % 2 ^ W : Nat) : Int)
  | .app o xs => wI o W (xs.map fun a => val W vals L a.toNat)
theorem wI_eq {o : Nat} (h1 : 1 ≤ W) (h2 : W ≤ 64) (ho1 : 2 ≤ o) (ho2 : o ≤ 21) {xs : List Int} (hl : aryN o = xs.length) : wI o W xs = ((wop W o ((xs.getD 0 0).toNat % 2 ^ W) ((xs.getD 1 0).toNat % 2 ^ W) ((xs.getD 2 0).toNat % 2 ^ W) : Nat) : Int) := by
  unfold wI
  rw [if_pos (wE_zero h1 h2 ho1 ho2 hl)]
  simp only [Int.toNat_natCast, wA]
theorem wop_not (W a : Nat) (ha : a < 2 ^ W) : wop W 2 (wop W 2 a 0 0) 0 0 = a := by
  show 2 ^ W - 1 - (2 ^ W - 1 - a) = a
  omega
theorem wop_neg (W a : Nat) (ha : a < 2 ^ W) : wop W 3 (wop W 3 a 0 0) 0 0 = a := by
  show (2 ^ W - (2 ^ W - a) % 2 ^ W) % 2 ^ W = a
  rcases Nat.eq_zero_or_pos a with h | h
  · subst h; simp
  · rw [Nat.mod_eq_of_lt (show 2 ^ W - a < 2 ^ W by omega), show 2 ^ W - (2 ^ W - a) = a by omega, Nat.mod_eq_of_lt ha]
theorem and_ones (W a : Nat) (ha : a < 2 ^ W) : a &&& (2 ^ W - 1) = a := by rw [Nat.and_two_pow_sub_one_eq_mod, Nat.mod_eq_of_lt ha]
theorem or_ones (W a : Nat) (ha : a < 2 ^ W) : a ||| (2 ^ W - 1) = 2 ^ W - 1 := by
  apply Nat.eq_of_testBit_eq
  intro i
  rw [Nat.testBit_or, Nat.testBit_two_pow_sub_one]
  by_cases hi : i < W
  · simp [hi]
  · rw [Nat.testBit_lt_two_pow (Nat.lt_of_lt_of_le ha (Nat.pow_le_pow_right (by decide) (by omega)))]; simp [hi]
theorem xor_onesW (W a : Nat) (ha : a < 2 ^ W) : a ^^^ (2 ^ W - 1) = 2 ^ W - 1 - a := by
  apply Nat.eq_of_testBit_eq
  intro i
  rw [Nat.testBit_xor, Nat.testBit_two_pow_sub_one, Nat.sub_sub, Nat.add_comm, Nat.testBit_two_pow_sub_succ ha]
  by_cases hi : i < W
  · simp [hi]
  · rw [Nat.testBit_lt_two_pow (Nat.lt_of_lt_of_le ha (Nat.pow_le_pow_right (by decide) (by omega)))]; simp [hi]
theorem one_lt_pow {W : Nat} (h : 1 ≤ W) : 1 < 2 ^ W := by have := two_le_pow h; omega
/-- Not of a term, made simple. -/
theorem oneA_val (hwf : WFL L) (hg : GoodL W L) (h1 : 1 ≤ W) (h2 : W ≤ 64) {o : Nat} (ho : o = 2 ∨ o = 3) (x : Int) : ansVal W vals L (oneA L o x) = wI o W [val W vals L x.toNat] := by
  have hl : aryN o = 1 := by rcases ho with rfl | rfl <;> rfl
  unfold oneA
  split
  · rename_i n hn
    split
    · rename_i hno
      have hw := val_word h1 h2 vals hwf hg (n.2.2.getD 0 0).toNat
      obtain ⟨a, ha⟩ := Int.eq_ofNat_of_zero_le hw.1
      have hok := (hwf.ok n (List.mem_of_getElem? hn)).2.2
      obtain ⟨y, hy⟩ : ∃ y, n.2.2 = [y] := by
        rw [hno, hl] at hok
        match n.2.2, hok with
        | [y], _ => exact ⟨y, rfl⟩
      show val W vals L (n.2.2.getD 0 0).toNat = _
      rw [val_at hwf hn, valN_app (by omega) (by omega), hno, hy]
      rw [hy] at ha hw
      have hgd : val W vals L (([y] : List Int).getD 0 0).toNat = val W vals L y.toNat := rfl
      rw [hgd] at ha hw ⊢
      show _ = wI o W [wI o W [val W vals L y.toNat]]
      rw [ha, wI_eq h1 h2 (by omega) (by omega) (xs := [((a : Nat) : Int)]) (by rw [hl]; rfl)]
      rw [wI_eq h1 h2 (by omega) (by omega) (xs := [_]) (by rw [hl]; rfl)]
      simp only [List.getD_cons_zero, List.getD_cons_succ, List.getD_nil, Int.toNat_natCast, Int.toNat_zero, Nat.zero_mod]
      have ha2 : a < 2 ^ W := by rw [ha] at hw; omega
      rw [Nat.mod_eq_of_lt ha2, Nat.mod_eq_of_lt (wop_lt W o a 0 0 h1 ha2 (pow_pos2 W) (pow_pos2 W))]
      rcases ho with rfl | rfl
      · rw [wop_not W a ha2]
      · rw [wop_neg W a ha2]
    · rfl
  · rfl
theorem wI_two' {o : Nat} (h1 : 1 ≤ W) (h2 : W ≤ 64) (ho : 4 ≤ o ∧ o ≤ 20) (a b : Nat) (ha : a < 2 ^ W) (hb : b < 2 ^ W) : wI o W [(a : Int), (b : Int)] = ((wop W o a b 0 : Nat) : Int) := by
  rw [wI_eq h1 h2 (by omega) (by omega) (by unfold aryN; rw [if_neg (by omega), if_neg (by omega), if_neg (by omega)]; rfl)]
  simp only [List.getD_cons_zero, List.getD_cons_succ, List.getD_nil, Int.toNat_natCast, Int.toNat_zero, Nat.zero_mod]
  rw [Nat.mod_eq_of_lt ha, Nat.mod_eq_of_lt hb]
theorem twoA_val (hwf : WFL L) (hg : GoodL W L) (h1 : 1 ≤ W) (h2 : W ≤ 64) {o : Nat} (ho : 4 ≤ o ∧ o ≤ 20) (x y : Int) : ansVal W vals L (twoA W L o x y) = wI o W [val W vals L x.toNat, val W vals L y.toNat] := by
  have hx := val_word h1 h2 vals hwf hg x.toNat
  have hy := val_word h1 h2 vals hwf hg y.toNat
  obtain ⟨u, hu⟩ := Int.eq_ofNat_of_zero_le hx.1
  obtain ⟨v, hv⟩ := Int.eq_ofNat_of_zero_le hy.1
  have hul : u < 2 ^ W := by omega
  have hvl : v < 2 ^ W := by omega
  have hp := pow_pos2 W
  have h1p := one_lt_pow h1
  have happ : ansVal W vals L (.app o [x, y]) = ((wop W o u v 0 : Nat) : Int) := by
    show wI o W [val W vals L x.toNat, val W vals L y.toNat] = _
    rw [hu, hv, wI_two' h1 h2 ho u v hul hvl]
  have hnum : ∀ c, numOf L y = some c → v = c := fun c hc => by have := (numOf_val (vals := vals) hwf hg hc).1; omega
  have hnumx : ∀ c, numOf L x = some c → u = c := fun c hc => by have := (numOf_val (vals := vals) hwf hg hc).1; omega
  have heq : x = y → u = v := fun e => by subst e; omega
  have hterm : ansVal W vals L (.term x) = (u : Int) := hu
  have hconst : ∀ c, c < 2 ^ W → ansVal W vals L (.num c) = (c : Int) := fun c hc => by show ((c % 2 ^ W : Nat) : Int) = _; rw [Nat.mod_eq_of_lt hc]
  rw [hu, hv, wI_two' h1 h2 ho u v hul hvl]
  have hone := oneA_val (vals := vals) hwf hg h1 h2 (o := 2) (.inl rfl) x
  have hsw : 2 ^ W - 1 < 2 ^ W := by omega
  unfold twoA
  by_cases hc0 : o = 4
  · rw [if_pos hc0]
    subst o
    split
    · rw [hterm, hnum 0 (by assumption)]; congr 1; show u = (u + 0) % 2 ^ W; rw [Nat.add_zero, Nat.mod_eq_of_lt hul]
    · exact happ
  rw [if_neg hc0]
  by_cases hc1 : o = 5
  · rw [if_pos hc1]
    subst o
    split
    · rw [hterm, hnum 0 (by assumption)]; congr 1; show u = (u + 2 ^ W - 0) % 2 ^ W; rw [Nat.sub_zero, Nat.add_mod_right, Nat.mod_eq_of_lt hul]
    · split
      · rw [hconst 0 hp, heq (by assumption)]; congr 1; show 0 = (v + 2 ^ W - v) % 2 ^ W; rw [Nat.add_sub_cancel_left, Nat.mod_self]
      · exact happ
  rw [if_neg hc1]
  by_cases hc2 : o = 6
  · rw [if_pos hc2]
    subst o
    split
    · rw [hconst 0 hp, hnum 0 (by assumption)]; congr 1 <;> (show 0 = u * 0 % 2 ^ W; rw [Nat.mul_zero, Nat.zero_mod])
    · split
      · rw [hterm, hnum 1 (by assumption)]; congr 1; show u = u * 1 % 2 ^ W; rw [Nat.mul_one, Nat.mod_eq_of_lt hul]
      · exact happ
  rw [if_neg hc2]
  by_cases hc3 : o = 7
  · rw [if_pos hc3]
    subst o
    split
    · rw [hterm, hnum 1 (by assumption)]; congr 1; show u = if (1 : Nat) = 0 then 2 ^ W - 1 else u / 1; rw [if_neg (by decide), Nat.div_one]
    · exact happ
  rw [if_neg hc3]
  by_cases hc4 : o = 8
  · rw [if_pos hc4]
    subst o
    split
    · rw [hconst 0 hp, hnum 1 (by assumption)]; congr 1; show 0 = if (1 : Nat) = 0 then u else u % 1; rw [if_neg (by decide), Nat.mod_one]
    · exact happ
  rw [if_neg hc4]
  by_cases hc5 : o = 9
  · rw [if_pos hc5]
    subst o
    split
    · rw [hconst 0 hp, hnum 0 (by assumption)]; congr 1; show 0 = u &&& 0; rw [Nat.and_zero]
    · split
      · rw [hterm, hnum _ (by assumption)]; congr 1; exact (and_ones W u hul).symm
      · split
        · rw [hterm, ← heq (by assumption)]; congr 1; exact (Nat.and_self u).symm
        · exact happ
  rw [if_neg hc5]
  by_cases hc6 : o = 10
  · rw [if_pos hc6]
    subst o
    split
    · rw [hterm, hnum 0 (by assumption)]; congr 1; show u = u ||| 0; rw [Nat.or_zero]
    · split
      · rw [hconst _ hsw, hnum _ (by assumption)]; congr 1; exact (or_ones W u hul).symm
      · split
        · rw [hterm, ← heq (by assumption)]; congr 1; exact (Nat.or_self u).symm
        · exact happ
  rw [if_neg hc6]
  by_cases hc7 : o = 11
  · rw [if_pos hc7]
    subst o
    split
    · rw [hterm, hnum 0 (by assumption)]; congr 1; show u = u ^^^ 0; rw [Nat.xor_zero]
    · split
      · rw [hone, hu, wI_eq h1 h2 (by decide) (by decide) (xs := [(u : Int)]) rfl, hnum _ (by assumption)]
        congr 1
        simp only [List.getD_cons_zero, List.getD_cons_succ, List.getD_nil, Int.toNat_natCast, Int.toNat_zero, Nat.zero_mod]
        rw [Nat.mod_eq_of_lt hul]
        show 2 ^ W - 1 - u = u ^^^ (2 ^ W - 1)
        exact (xor_onesW W u hul).symm
      · split
        · rw [hconst 0 hp, ← heq (by assumption)]; congr 1; exact (Nat.xor_self u).symm
        · exact happ
  rw [if_neg hc7]
  by_cases hc8 : o = 12 ∨ o = 13
  · rw [if_pos hc8]
    have hoo := hc8
    have hsh : ∀ o', o' = 12 ∨ o' = 13 → wop W o' u 0 0 = u := fun o' h => by
      rcases h with rfl | rfl
      · show (if W ≤ 0 then 0 else u * 2 ^ 0 % 2 ^ W) = u
        rw [if_neg (by omega), Nat.pow_zero, Nat.mul_one, Nat.mod_eq_of_lt hul]
      · show (if W ≤ 0 then 0 else u / 2 ^ 0) = u
        rw [if_neg (by omega), Nat.pow_zero, Nat.div_one]
    have hfar : ∀ o', o' = 12 ∨ o' = 13 → W ≤ v → wop W o' u v 0 = 0 := fun o' h hw => by
      rcases h with rfl | rfl
      · show (if W ≤ v then 0 else u * 2 ^ v % 2 ^ W) = 0
        rw [if_pos hw]
      · show (if W ≤ v then 0 else u / 2 ^ v) = 0
        rw [if_pos hw]
    split
    · rw [hterm, hnum 0 (by assumption), hsh o hoo]
    · split
      · rename_i hb
        rw [hconst 0 hp, hfar o hoo (by rw [hnum _ (isNum_some hb.1)]; exact hb.2)]
      · exact happ
  rw [if_neg hc8]
  by_cases hc9 : o = 14
  · rw [if_pos hc9]
    subst o
    split
    · rw [hterm, hnum 0 (by assumption)]
      congr 1
      show u = if u < 2 ^ (W - 1) then u / 2 ^ min 0 64 else 2 ^ W - 1 - (2 ^ W - 1 - u) / 2 ^ min 0 64
      rw [show min 0 64 = 0 from rfl, Nat.pow_zero, Nat.div_one, Nat.div_one]
      split <;> omega
    · exact happ
  rw [if_neg hc9]
  by_cases hc10 : o = 15 ∨ o = 20
  · rw [if_pos hc10]
    have hoo := hc10
    split
    · rw [hconst 1 h1p, ← heq (by assumption)]
      congr 1
      rcases hoo with rfl | rfl
      · show 1 = b01 (u == u); simp [b01]
      · show 1 = b01 (decide (sgn W u ≤ sgn W u)); simp [b01]
    · exact happ
  rw [if_neg hc10]
  by_cases hc11 : o = 18
  · rw [if_pos hc11]
    subst o
    split
    · rw [hconst 1 h1p, ← heq (by assumption)]
      congr 1
      show 1 = b01 (decide (u ≤ u)); simp [b01]
    · split
      · rw [hconst 1 h1p, hnumx 0 (by assumption)]
        congr 1 <;> (show 1 = b01 (decide (0 ≤ v)); simp [b01])
      · exact happ
  rw [if_neg hc11]
  by_cases hc12 : o = 16 ∨ o = 19
  · rw [if_pos hc12]
    have hoo := hc12
    split
    · rw [hconst 0 hp, ← heq (by assumption)]
      congr 1
      rcases hoo with rfl | rfl
      · show 0 = b01 (u != u); simp [b01]
      · show 0 = b01 (decide (sgn W u < sgn W u)); simp [b01]
    · exact happ
  rw [if_neg hc12]
  by_cases hc13 : o = 17
  · rw [if_pos hc13]
    subst o
    split
    · rw [hconst 0 hp, ← heq (by assumption)]
      congr 1
      show 0 = b01 (decide (u < u)); simp [b01]
    · split
      · rw [hconst 0 hp, hnum 0 (by assumption)]
        congr 1 <;> (show 0 = b01 (decide (u < 0)); simp [b01])
      · exact happ
  rw [if_neg hc13]
  exact happ
theorem threeA_val (hwf : WFL L) (hg : GoodL W L) (h1 : 1 ≤ W) (h2 : W ≤ 64) (x y z : Int) : ansVal W vals L (threeA L x y z) = wI (21 : Nat) W [val W vals L x.toNat, val W vals L y.toNat, val W vals L z.toNat] := by
  have hx := val_word h1 h2 vals hwf hg x.toNat
  have hy := val_word h1 h2 vals hwf hg y.toNat
  have hz := val_word h1 h2 vals hwf hg z.toNat
  obtain ⟨u, hu⟩ := Int.eq_ofNat_of_zero_le hx.1
  obtain ⟨v, hv⟩ := Int.eq_ofNat_of_zero_le hy.1
  obtain ⟨q, hq⟩ := Int.eq_ofNat_of_zero_le hz.1
  have hul : u < 2 ^ W := by omega
  have hvl : v < 2 ^ W := by omega
  have hql : q < 2 ^ W := by omega
  have hw : wI (21 : Nat) W [val W vals L x.toNat, val W vals L y.toNat, val W vals L z.toNat] = ((if u = 0 then q else v : Nat) : Int) := by
    rw [hu, hv, hq, wI_eq h1 h2 (by decide) (by decide) rfl]
    simp only [List.getD_cons_zero, List.getD_cons_succ, Int.toNat_natCast]
    rw [Nat.mod_eq_of_lt hul, Nat.mod_eq_of_lt hvl, Nat.mod_eq_of_lt hql]; rfl
  rw [hw]
  unfold threeA
  split
  · rename_i e
    subst e
    have : q = v := by omega
    subst this
    show val W vals L y.toNat = _
    rw [hv]; split <;> rfl
  · split
    · rename_i hn
      have hc := (numOf_val (vals := vals) hwf hg (isNum_some hn)).1
      have huc : u = numD L x := by omega
      split
      · rename_i hne
        show val W vals L y.toNat = _
        rw [hv, if_neg (by omega)]
      · rename_i hne
        show val W vals L z.toNat = _
        rw [hq, if_pos (by omega)]
    · exact hw
theorem comm_val {o : Nat} (hc : commN o = true) (h1 : 1 ≤ W) (h2 : W ≤ 64) {a b : Int} (ha : 0 ≤ a ∧ a < ((2 ^ W : Nat) : Int)) (hb : 0 ≤ b ∧ b < ((2 ^ W : Nat) : Int)) : wI o W [a, b] = wI o W [b, a] := by
  obtain ⟨u, rfl⟩ := Int.eq_ofNat_of_zero_le ha.1
  obtain ⟨v, rfl⟩ := Int.eq_ofNat_of_zero_le hb.1
  have hul : u < 2 ^ W := by omega
  have hvl : v < 2 ^ W := by omega
  have ho : o = 4 ∨ o = 6 ∨ o = 9 ∨ o = 10 ∨ o = 11 ∨ o = 15 ∨ o = 16 := by simpa [commN] using hc
  rw [wI_two' h1 h2 (by omega) u v hul hvl, wI_two' h1 h2 (by omega) v u hvl hul]
  have := m_comm W o u v ho
  unfold wm at this
  rw [Nat.mod_eq_of_lt hul, Nat.mod_eq_of_lt hvl] at this
  rw [this]
/-- The value of a simple term is what the operator makes of the arguments' values. -/
theorem simpA_val (hwf : WFL L) (hg : GoodL W L) (h1 : 1 ≤ W) (h2 : W ≤ 64) {o : Nat} (ho1 : 2 ≤ o) (ho2 : o ≤ 21) {xs : List Int} (hl : aryN o = xs.length) : ansVal W vals L (simpA W L o xs) = wI o W (xs.map fun a => val W vals L a.toNat) := by
  unfold simpA
  split
  · rename_i hall
    have he : (xs.map fun t => (numD L t : Int)) = xs.map fun a => val W vals L a.toNat := List.map_congr_left fun t ht => ((numOf_val (vals := vals) hwf hg (isNum_some (hall t ht))).1).symm
    rw [he]
    have hb := wI_bounds o W (xs.map fun a => val W vals L a.toNat) (by omega) (by omega)
    show (((wI o W (xs.map fun a => val W vals L a.toNat)).toNat % 2 ^ W : Nat) : Int) = _
    rw [Int.toNat_natCast] at hb
    rw [Nat.mod_eq_of_lt (by omega)]
    omega
  · match xs, hl with
    | [], hl => exact absurd hl (by have := aryN_pos ho1; simpa using this)
    | [x], hl => exact oneA_val hwf hg h1 h2 (by unfold aryN at hl; rw [if_neg (by omega)] at hl; split at hl; · omega
                                                 · split at hl <;> simp at hl) x
    | [x, y], hl =>
      have ho : 4 ≤ o ∧ o ≤ 20 := by
        unfold aryN at hl; rw [if_neg (by omega)] at hl
        split at hl
        · simp at hl
        · split at hl
          · simp at hl
          · omega
      show ansVal W vals L (if swapA L o x y then twoA W L o y x else twoA W L o x y) = _
      split
      · rename_i hs
        rw [twoA_val hwf hg h1 h2 ho]
        exact comm_val hs.1 h1 h2 (val_word h1 h2 vals hwf hg _) (val_word h1 h2 vals hwf hg _)
      · exact twoA_val hwf hg h1 h2 ho x y
    | [x, y, z], hl =>
      obtain rfl : o = 21 := by
        unfold aryN at hl; rw [if_neg (by omega)] at hl
        split at hl
        · simp at hl
        · split at hl
          · assumption
          · simp at hl
      exact threeA_val hwf hg h1 h2 x y z
    | _ :: _ :: _ :: _ :: _, hl => 
      exfalso
      have := aryN_le3 o
      simp at hl; omega
end
end Go.Proofs.YtiklidgcmheofaaDoor
namespace Go.Proofs.YtiklidgcmheofaaDoor
/-- What becomes of a graph that is asked for the simple term of an operator and arguments. -/
def simpR (W room : Nat) (L : List PNode) (o : Nat) (xs : List Int) : List PNode × Nat × Nat :=
  if o ≤ 21 ∧ aryN o ≠ 0 ∧ aryN o = xs.length then (if ∀ a ∈ xs, (0 : Int) ≤ a ∧ a < (L.length : Int) then (simpA W L o xs).res W room L else (L, 0, 3)) else (L, 0, 2)
theorem simpR_in {W room : Nat} {L : List PNode} {o : Nat} {xs : List Int} (h1 : 2 ≤ o) (h2 : o ≤ 21) (hl : aryN o = xs.length) (hin : ∀ a ∈ xs, (0 : Int) ≤ a ∧ a < (L.length : Int)) : simpR W room L o xs = (simpA W L o xs).res W room L := by
  unfold simpR
  rw [if_pos ⟨h2, aryN_pos h1, hl⟩, if_pos hin]
/-- What an answer of the rules is. -/
def AnsOk (L : List PNode) : Ans → Prop
  | .term t => 0 ≤ t ∧ t < (L.length : Int)
  | .num _ => True
  | .app o xs => 2 ≤ o ∧ o ≤ 21 ∧ aryN o = xs.length ∧ ∀ a ∈ xs, (0 : Int) ≤ a ∧ a < (L.length : Int)
theorem ite_ok {P : Ans → Prop} {c : Prop} [Decidable c] {a b : Ans} (ha : P a) (hb : P b) : P (if c then a else b) := by
  split
  · exact ha
  · exact hb
section
variable {W room : Nat} {L L' : List PNode} {o : Nat} {x y z : Int} {xs : List Int}
theorem oneA_cases (L : List PNode) (o : Nat) (x : Int) : oneA L o x = .app o [x] ∨ ∃ n, L[x.toNat]? = some n ∧ oneA L o x = .term (n.2.2.getD 0 0) ∧ n.1 = o := by
  unfold oneA
  cases h : L[x.toNat]? with
  | none => exact .inl rfl
  | some n =>
    by_cases hn : n.1 = o
    · exact .inr ⟨n, rfl, if_pos hn, hn⟩
    · exact .inl (if_neg hn)
theorem oneA_ok (hw : WFL L) (h0 : 0 ≤ x) (h1 : x < (L.length : Int)) (ho : o = 2 ∨ o = 3) : AnsOk L (oneA L o x) := by
  rcases oneA_cases L o x with h | ⟨n, hn, h, hno⟩
  · rw [h]
    exact ⟨by omega, by omega, by rcases ho with rfl | rfl <;> rfl, fun a ha => by obtain rfl := List.mem_singleton.1 ha; exact ⟨h0, h1⟩⟩
  · rw [h]
    have hl := (hw.ok n (List.mem_of_getElem? hn)).2.2
    have ha := hw.args _ n hn
    have hx := (List.getElem?_eq_some_iff.1 hn).1
    have h1 : aryN n.1 = 1 := by rcases ho with rfl | rfl <;> rw [hno] <;> rfl
    rw [h1] at hl
    match n.2.2, hl, ha with
    | [a], _, ha =>
      have := ha a (by simp)
      show 0 ≤ a ∧ a < _
      omega
theorem twoA_pred {P : Ans → Prop} (h1 : P (.term x)) (h2 : ∀ v, P (.num v)) (h3 : P (oneA L 2 x)) (h4 : P (.app o [x, y])) : P (twoA W L o x y) := by
  unfold twoA
  repeat' (refine ite_ok ?_ ?_)
  all_goals first | exact h1 | exact h4 | exact h3 | exact h2 _
theorem simpA_ok (hw : WFL L) (h1 : 2 ≤ o) (h2 : o ≤ 21) (hl : aryN o = xs.length) (hin : ∀ a ∈ xs, (0 : Int) ≤ a ∧ a < (L.length : Int)) : AnsOk L (simpA W L o xs) := by
  unfold simpA
  split
  · trivial
  · match xs, hl, hin with
    | [], hl, _ => exact absurd hl (aryN_pos h1)
    | [x], hl, hin =>
      have := hin x (by simp)
      exact oneA_ok hw this.1 this.2 (by unfold aryN at hl; rw [if_neg (by omega)] at hl; split at hl; · omega
                                         · split at hl <;> simp at hl)
    | [x, y], hl, hin =>
      have hx := hin x (by simp)
      have hy := hin y (by simp)
      have h4 : AnsOk L (.app o [x, y]) := ⟨h1, h2, hl, hin⟩
      have h5 : AnsOk L (.app o [y, x]) := ⟨h1, h2, hl, fun a ha => hin a (by simpa [or_comm] using ha)⟩
      refine ite_ok ?_ ?_
      · exact twoA_pred hy (fun _ => trivial) (oneA_ok hw hy.1 hy.2 (.inl rfl)) h5
      · exact twoA_pred hx (fun _ => trivial) (oneA_ok hw hx.1 hx.2 (.inl rfl)) h4
    | [x, y, z], hl, hin =>
      obtain rfl : o = 21 := by
        unfold aryN at hl; rw [if_neg (by omega)] at hl
        split at hl
        · simp at hl
        · split at hl
          · assumption
          · simp at hl
      show AnsOk L (threeA L x y z)
      unfold threeA
      repeat' (refine ite_ok ?_ ?_)
      · exact hin y (by simp)
      · exact hin y (by simp)
      · exact hin z (by simp)
      · exact ⟨h1, h2, hl, hin⟩
    | _ :: _ :: _ :: _ :: _, hl, _ =>
      exfalso
      have := aryN_le3 o
      simp at hl; omega
/-! What stays in a longer graph. -/
theorem numOf_prefix (h : L <+: L') (ht : x < (L.length : Int)) : numOf L' x = numOf L x := by
  unfold numOf
  by_cases h0 : 0 ≤ x
  · rw [if_pos h0, if_pos h0]
    obtain ⟨n, hn⟩ : ∃ n, L[x.toNat]? = some n := ⟨_, List.getElem?_eq_getElem (by omega)⟩
    rw [prefix_at h hn, hn]
  · rw [if_neg h0, if_neg h0]
theorem isNum_prefix (h : L <+: L') (ht : x < (L.length : Int)) : isNum L' x = isNum L x := by unfold isNum; rw [numOf_prefix h ht]
theorem ans_prefix (a : Ans) : L <+: (a.res W room L).1 := by
  cases a with
  | term t => exact List.prefix_refl _
  | num v => exact isPrefix_const W room L v
  | app o xs => exact isPrefix_app room L o xs
theorem ans_wf (hw : WFL L) (hW : W ≤ 64) (a : Ans) (ha : AnsOk L a) : WFL (a.res W room L).1 := by
  cases a with
  | term t => exact hw
  | num v =>
    have hp : 2 ^ W ≤ 2 ^ 64 := Nat.pow_le_pow_right (by decide) hW
    have hlt := Nat.mod_lt v (pow_pos2 W)
    exact askP_wf hw room ⟨by show 0 ≤ 21; omega, by show v % 2 ^ W ≤ _; omega, by show 0 = aryN 0; rfl⟩ (by simp)
  | app o xs =>
    obtain ⟨h1, h2, h3, h4⟩ := ha
    show WFL (appR room L o xs).1
    unfold appR
    rw [if_pos ⟨h2, aryN_pos h1, h3⟩, if_pos h4]
    exact askP_wf hw room ⟨h2, by show 0 ≤ _; omega, h3.symm⟩ h4
theorem ans_good (hg : GoodL W L) (a : Ans) : GoodL W (a.res W room L).1 := by
  cases a with
  | term t => exact hg
  | num v => exact hg.const room v
  | app o xs => exact hg.app room o xs
theorem ask_room {n : PNode} (h : L.length < room) : (askP room L n).2.2 = 0 := by
  unfold askP
  cases L.findIdx? (· == n) with
  | some t => rfl
  | none => dsimp only; rw [if_neg (by omega)]
theorem ask_term {n : PNode} (h : (askP room L n).2.2 = 0) : (askP room L n).1[(askP room L n).2.1]? = some n := by
  unfold askP at h ⊢
  cases hf : L.findIdx? (· == n) with
  | some t => exact find_some hf
  | none =>
    rw [hf] at h
    dsimp only at h ⊢
    by_cases hr : room ≤ L.length
    · rw [if_pos hr] at h; cases h
    · rw [if_neg hr]; simp
/-- With room no answer is refused. -/
theorem ans_room (hr : L.length < room) (a : Ans) (ha : AnsOk L a) : (a.res W room L).2.2 = 0 := by
  cases a with
  | term t => rfl
  | num v => exact ask_room hr
  | app o xs =>
    obtain ⟨h1, h2, h3, h4⟩ := ha
    show (appR room L o xs).2.2 = 0
    unfold appR
    rw [if_pos ⟨h2, aryN_pos h1, h3⟩, if_pos h4]
    exact ask_room hr
/-- An answer's term is one of the graph. -/
theorem ans_term (a : Ans) (ha : AnsOk L a) (he : (a.res W room L).2.2 = 0) : (a.res W room L).2.1 < (a.res W room L).1.length := by
  cases a with
  | term t => have : 0 ≤ t ∧ t < (L.length : Int) := ha; show t.toNat < L.length; omega
  | num v => exact (List.getElem?_eq_some_iff.1 (ask_term (n := (0, v % 2 ^ W, [])) he)).1
  | app o xs =>
    obtain ⟨h1, h2, h3, h4⟩ := ha
    have e : Ans.res W room L (.app o xs) = askP room L (o, 0, xs) := by
      show appR room L o xs = _
      unfold appR
      rw [if_pos ⟨h2, aryN_pos h1, h3⟩, if_pos h4]
    rw [e] at he ⊢
    exact (List.getElem?_eq_some_iff.1 (ask_term he)).1
theorem triple0 {R : List PNode × Nat × Nat} (h : R.2.2 = 0) : (R.1, R.2.1, 0) = R := by
  obtain ⟨a, b, c⟩ := R
  obtain rfl : c = 0 := h
  rfl
/-- The value of an answer's term. -/
theorem ans_val (hw : WFL L) (hW : W ≤ 64) {vals : List Int} (a : Ans) (ha : AnsOk L a) (he : (a.res W room L).2.2 = 0) : val W vals (a.res W room L).1 (a.res W room L).2.1 = ansVal W vals L a := by
  have hwf := ans_wf (room := room) hw hW a ha
  have hpre := ans_prefix (W := W) (room := room) (L := L) a
  cases a with
  | term t => rfl
  | num v =>
    have e : Ans.res W room L (.num v) = askP room L (0, v % 2 ^ W, []) := rfl
    rw [e] at he hwf ⊢
    rw [val_at hwf (ask_term he), valN_const rfl]; rfl
  | app o xs =>
    obtain ⟨h1, h2, h3, h4⟩ := ha
    have e : Ans.res W room L (.app o xs) = askP room L (o, 0, xs) := by
      show appR room L o xs = _
      unfold appR
      rw [if_pos ⟨h2, aryN_pos h1, h3⟩, if_pos h4]
    rw [e] at he hwf hpre ⊢
    rw [val_at hwf (ask_term he), valN_app (by show o ≠ 0; omega) (by show o ≠ 1; omega)]
    show wI o W (xs.map fun a => (valsL W vals _).getD a.toNat 0) = wI o W (xs.map fun a => val W vals L a.toNat)
    congr 1
    exact List.map_congr_left fun a ha => val_prefix hpre (by have := h4 a ha; omega)
end
end Go.Proofs.YtiklidgcmheofaaDoor
namespace Go.Proofs.YtiklidgcmheofaaDoor
section
variable {W room : Nat} {L L0 : List PNode} {O : Nat → Bool} {lf : Nat → PNode → Int} {f g : Nat → Bool}
end
end Go.Proofs.YtiklidgcmheofaaDoor
namespace Go.Proofs.YtiklidgcmheofaaDoor
section
variable {W room : Nat} {L0 : List PNode} {O : Nat → Bool} {lf : Nat → PNode → Int}
end
end Go.Proofs.YtiklidgcmheofaaDoor
