/- Graphs of terms, in plain lists: of what form the nodes are, and what is asked for again. What a law holds in memory: things with blocks of their own, and blocks that they only read. Own slices of nodes. New, among things; what asking gives. Graphs of terms, in plain lists: what asking leaves as it is. Copies of graphs, among things. Fill of the beginning of a list. Values of terms, in plain lists: no program in sight. -/
import Derived.Test.YtofbadmjopefpaaSep
import Derived.Deep.DeepCutAuto
import Derived.Deep.CutBlock
import Derived.Deep.RegionHeld3
namespace Go.Proofs.Ytofbadmjopefpaa

/-- A node as a graph of a width holds it. -/
def NodeGood (W : Nat) (n : PNode) : Prop := (n.1 = 0 ∧ n.2.1 < 2 ^ W ∧ n.2.2 = []) ∨ (n.1 = 1 ∧ n.2.1 ≤ 4194303 ∧ n.2.2 = []) ∨ (2 ≤ n.1 ∧ n.1 ≤ 21 ∧ n.2.1 = 0 ∧ aryN n.1 = n.2.2.length)
def GoodL (W : Nat) (L : List PNode) : Prop := ∀ n ∈ L, NodeGood W n
theorem GoodL.nil (W : Nat) : GoodL W [] := by simp [GoodL]
theorem aryN_pos {o : Nat} (h : 2 ≤ o) : aryN o ≠ 0 := by
  unfold aryN
  rw [if_neg (by omega)]
  split
  · decide
  · split <;> decide
theorem GoodL.ask {W : Nat} {L : List PNode} (h : GoodL W L) (room : Nat) {n : PNode} (hn : NodeGood W n) : GoodL W (askP room L n).1 := by
  unfold askP
  cases L.findIdx? (· == n) with
  | some t => exact h
  | none =>
    dsimp only
    split
    · exact h
    · intro m hm
      rcases List.mem_append.1 hm with hm | hm
      · exact h m hm
      · simp at hm; subst hm; exact hn
theorem GoodL.const {W : Nat} {L : List PNode} (h : GoodL W L) (room q : Nat) : GoodL W (constR W room L q).1 := h.ask room (.inl ⟨rfl, Nat.mod_lt _ (pow_pos2 W), rfl⟩)
theorem GoodL.var {W : Nat} {L : List PNode} (h : GoodL W L) (room : Nat) (n : Int) : GoodL W (varR room L n).1 := by
  unfold varR
  split
  · exact h.ask room (.inr (.inl ⟨rfl, by show n.toNat ≤ 4194303; omega, rfl⟩))
  · exact h
theorem GoodL.app {W : Nat} {L : List PNode} (h : GoodL W L) (room o : Nat) (xs : List Int) : GoodL W (appR room L o xs).1 := by
  unfold appR
  split
  · rename_i hc
    split
    · refine h.ask room (.inr (.inr ⟨?_, hc.1, rfl, hc.2.2⟩))
      show 2 ≤ o
      have := hc.2.1
      unfold aryN at this
      by_cases h1 : o ≤ 1
      · rw [if_pos h1] at this; omega
      · omega
    · exact h
  · exact h
theorem GoodL.add {W : Nat} {L : List PNode} (h : GoodL W L) (room : Nat) (a : PAsk) : GoodL W (addR W room L a).1 := by
  unfold addR
  split
  · exact h.const room _
  · split
    · exact h.var room _
    · exact h.app room _ _
theorem askP_hit {L : List PNode} (h : L.Nodup) {k : Nat} {n : PNode} (hk : L[k]? = some n) (room : Nat) : askP room L n = (L, k, 0) := by
  unfold askP
  rw [find_of_mem h hk]
/-- What is asked for again is the same term. -/
theorem const_again {W : Nat} {L : List PNode} (h : WFL L) (hg : GoodL W L) {k : Nat} {n : PNode} (hk : L[k]? = some n) (h0 : n.1 = 0) (room : Nat) : constR W room L n.2.1 = (L, k, 0) := by
  have hn := hg n (List.mem_of_getElem? hk)
  rcases hn with ⟨h1, h2, h3⟩ | ⟨h1, _⟩ | ⟨h1, _⟩
  · unfold constR
    rw [Nat.mod_eq_of_lt h2]
    obtain ⟨o, q, xs⟩ := n
    simp only at h0 h3
    subst h0; subst h3
    exact askP_hit h.nodup hk room
  · omega
  · omega
theorem var_again {W : Nat} {L : List PNode} (h : WFL L) (hg : GoodL W L) {k : Nat} {n : PNode} (hk : L[k]? = some n) (h0 : n.1 = 1) (room : Nat) : varR room L (n.2.1 : Int) = (L, k, 0) := by
  have hn := hg n (List.mem_of_getElem? hk)
  rcases hn with ⟨h1, _⟩ | ⟨h1, h2, h3⟩ | ⟨h1, _⟩
  · omega
  · unfold varR
    rw [if_pos (by omega)]
    obtain ⟨o, q, xs⟩ := n
    simp only at h0 h3
    subst h0; subst h3
    rw [Int.toNat_natCast]
    exact askP_hit h.nodup hk room
  · omega
theorem app_again {W : Nat} {L : List PNode} (h : WFL L) (hg : GoodL W L) {k : Nat} {n : PNode} (hk : L[k]? = some n) (h0 : 2 ≤ n.1) (room : Nat) : appR room L n.1 n.2.2 = (L, k, 0) := by
  have hn := hg n (List.mem_of_getElem? hk)
  have hl := (List.getElem?_eq_some_iff.1 hk).1
  rcases hn with ⟨h1, _⟩ | ⟨h1, _⟩ | ⟨h1, h2, h3, h4⟩
  · omega
  · omega
  · unfold appR
    rw [if_pos ⟨h2, aryN_pos h1, h4⟩, if_pos (fun a ha => by have := h.args k n hk a ha; omega)]
    obtain ⟨o, q, xs⟩ := n
    simp only at h3
    subst h3
    exact askP_hit h.nodup hk room
theorem fillS_good (W : Nat) (qs : List PAsk) : GoodL W (fillS W qs).1 := by
  refine snoc_ind (p := fun qs => GoodL W (fillS W qs).1) (GoodL.nil W) (fun qs a ih => ?_) qs
  rw [fillS_snoc]
  exact ih.add 1048576 a
/-- The terms of Fill are terms. -/
theorem fillS_terms (W : Nat) (qs : List PAsk) (hq : qs.length ≤ 1000) : ∀ t ∈ (fillS W qs).2, (0 : Int) ≤ t ∧ t < ((fillS W qs).1.length : Int) := by
  revert hq
  refine snoc_ind (p := fun qs => qs.length ≤ 1000 → ∀ t ∈ (fillS W qs).2, (0 : Int) ≤ t ∧ t < ((fillS W qs).1.length : Int)) (by simp [fillS]) (fun qs a ih hq => ?_) qs
  have hq' : qs.length ≤ 999 := by simp at hq; omega
  have hl := fillS_len W qs
  have hg := addR_grown W (L := (fillS W qs).1) (room := 1048576) (by omega) a
  rw [fillS_snoc]
  unfold fillStep
  intro t ht
  simp only [List.mem_append, List.mem_singleton] at ht
  rcases hg.2 with ⟨h1, h2⟩ | ⟨_, h1, h2⟩
  · rw [h1]
    rcases ht with ht | rfl
    · exact ih (by omega) t ht
    · have := (List.getElem?_eq_some_iff.1 h2).1; omega
  · rw [h1]
    simp only [List.length_append, List.length_singleton]
    rcases ht with ht | rfl
    · have := ih (by omega) t ht; omega
    · rw [h2]; omega
end Go.Proofs.Ytofbadmjopefpaa
namespace Go.Proofs.Ytofbadmjopefpaa
open Go.RowKit Go.Maps
set_option maxHeartbeats 400000

theorem SliceOf.at {w : World} {k : IntKind} {b off n cap i : Nat} {xs : List Int} {q : Int} (h : SliceOf w k (.slice (some ⟨b, off, none⟩) n cap) xs) (hq : xs[i]? = some q) : w.cell? ⟨b, off + i, none⟩ = some (.int k q) := by
  obtain ⟨a, n', c', e, hl, hc⟩ := h
  simp only [Value.slice.injEq] at e
  obtain ⟨rfl, rfl, rfl⟩ := e
  have hlt := (List.getElem?_eq_some_iff.1 hq).1
  obtain ⟨b', off', e', hcell⟩ := hc i (by omega)
  simp only [Option.some.injEq, Addr.mk.injEq, and_true] at e'
  obtain ⟨rfl, rfl⟩ := e'
  rw [hcell]
  rw [List.getElem?_eq_getElem hlt] at hq
  simp at hq
  simp [hlt, hq]
/-- A thing in memory: the blocks that it owns, those that it reads, and what is known of them. -/
structure Thing where
  W : List Nat
  R : List Nat
  holds : World → Prop
  keep : ∀ w w', holds w → (∀ k, k ∈ W ∨ k ∈ R → w'.heap[k]? = w.heap[k]?) → holds w'
/-- Two things do not write what the other one has. -/
def Apart (s t : Thing) : Prop := (∀ k, k ∈ s.W → k ∉ t.W ∧ k ∉ t.R) ∧ ∀ k, k ∈ s.R → k ∉ t.W
theorem Apart.symm {s t : Thing} (h : Apart s t) : Apart t s :=
  ⟨fun k hk => ⟨fun hm => (h.1 k hm).1 hk, fun hm => h.2 k hm hk⟩, fun k hk hm => (h.1 k hm).2 hk⟩
structure Lab (w0 wr : World) (ts : List Thing) : Prop where
  below : Below w0.heap.size w0 wr
  holds : ∀ t ∈ ts, t.holds wr
  low : ∀ t ∈ ts, ∀ k, k ∈ t.W → w0.heap.size ≤ k
  high : ∀ t ∈ ts, ∀ k, k ∈ t.W ∨ k ∈ t.R → k < wr.heap.size
  apart : ts.Pairwise Apart
section
variable {w0 wr w' : World} {s s' : Thing} {ts : List Thing}
theorem Lab.head (h : Lab w0 wr (s :: ts)) : s.holds wr := h.holds s (by simp)
theorem Lab.second {t : Thing} (h : Lab w0 wr (s :: t :: ts)) : t.holds wr := h.holds t (by simp)
theorem Lab.third {t u : Thing} (h : Lab w0 wr (s :: t :: u :: ts)) : u.holds wr := h.holds u (by simp)
theorem Lab.fourth {t u v : Thing} (h : Lab w0 wr (s :: t :: u :: v :: ts)) : v.holds wr := h.holds v (by simp)
theorem Lab.nil {w0 wr : World} (h : Below w0.heap.size w0 wr) : Lab w0 wr [] := ⟨h, by simp, by simp, by simp, .nil⟩
theorem Lab.size (h : Lab w0 wr ts) : w0.heap.size ≤ wr.heap.size := h.below.size
theorem Lab.drop (h : Lab w0 wr (s :: ts)) : Lab w0 wr ts :=
  ⟨h.below, fun t ht => h.holds t (by simp [ht]), fun t ht => h.low t (by simp [ht]), fun t ht => h.high t (by simp [ht]), (List.pairwise_cons.1 h.apart).2⟩
theorem Lab.swap {t : Thing} (h : Lab w0 wr (s :: t :: ts)) : Lab w0 wr (t :: s :: ts) := by
  have hm : ∀ x, x ∈ t :: s :: ts → x ∈ s :: t :: ts := by intro x hx; simp at hx ⊢; rcases hx with h | h | h <;> simp [h]
  refine ⟨h.below, fun x hx => h.holds x (hm x hx), fun x hx => h.low x (hm x hx), fun x hx => h.high x (hm x hx), ?_⟩
  have hp := h.apart
  rw [List.pairwise_cons, List.pairwise_cons] at hp ⊢
  refine ⟨fun a ha => ?_, fun a ha => hp.1 a (by simp [ha]), hp.2.2⟩
  rcases List.mem_cons.1 ha with rfl | ha
  · exact (hp.1 t (by simp)).symm
  · exact hp.2.1 a ha
/-- The third thing comes to the front. -/
theorem Lab.rot3 {t u : Thing} (h : Lab w0 wr (s :: t :: u :: ts)) : Lab w0 wr (u :: s :: t :: ts) := by
  have hm : ∀ x, x ∈ u :: s :: t :: ts → x ∈ s :: t :: u :: ts := by intro x hx; simp at hx ⊢; rcases hx with h | h | h | h <;> simp [h]
  refine ⟨h.below, fun x hx => h.holds x (hm x hx), fun x hx => h.low x (hm x hx), fun x hx => h.high x (hm x hx), ?_⟩
  have hp := h.apart
  rw [List.pairwise_cons, List.pairwise_cons, List.pairwise_cons] at hp ⊢
  refine ⟨fun a ha => ?_, fun a ha => ?_, fun a ha => hp.2.1 a (by simp [ha]), hp.2.2.2⟩
  · rcases List.mem_cons.1 ha with rfl | ha
    · exact (hp.1 u (by simp)).symm
    · rcases List.mem_cons.1 ha with rfl | ha
      · exact (hp.2.1 u (by simp)).symm
      · exact hp.2.2.1 a ha
  · rcases List.mem_cons.1 ha with rfl | ha
    · exact hp.1 _ (by simp)
    · exact hp.1 a (by simp [ha])
theorem Lab.rot3' {t u : Thing} (h : Lab w0 wr (s :: t :: u :: ts)) : Lab w0 wr (t :: u :: s :: ts) := h.rot3.rot3
/-- What makes memory and turns nothing that there was. -/
theorem Lab.later (h : Lab w0 wr ts) (hb : Below wr.heap.size wr w') : Lab w0 w' ts :=
  ⟨h.below.trans (hb.mono h.size), fun t ht => t.keep _ _ (h.holds t ht) fun k hk => hb.block k (h.high t ht k hk), h.low, fun t ht k hk => Nat.lt_of_lt_of_le (h.high t ht k hk) hb.size, h.apart⟩
/-- The first thing turns. -/
theorem Lab.turn (h : Lab w0 wr (s :: ts)) (ht : Touch s.W wr w') (hs : s'.holds w') (hW : ∀ k, k ∈ s'.W → k ∈ s.W ∨ wr.heap.size ≤ k) (hR : ∀ k, k ∈ s'.R → k ∈ s.R ∨ wr.heap.size ≤ k) (hz : ∀ k, k ∈ s'.W ∨ k ∈ s'.R → k < w'.heap.size) : Lab w0 w' (s' :: ts) := by
  have hp := List.pairwise_cons.1 h.apart
  refine ⟨ht.below h.below h.size (h.low s (by simp)), fun t hm => ?_, fun t hm k hk => ?_, fun t hm k hk => ?_, ?_⟩
  · rcases List.mem_cons.1 hm with rfl | hm
    · exact hs
    · exact t.keep _ _ (h.holds t (by simp [hm])) fun k hk => ht.block k (h.high t (by simp [hm]) k hk) fun hsW => hk.elim (fun hw => ((hp.1 t hm).1 k hsW).1 hw) (fun hr => ((hp.1 t hm).1 k hsW).2 hr)
  · rcases List.mem_cons.1 hm with rfl | hm
    · exact (hW k hk).elim (h.low s (by simp) k) (fun hl => Nat.le_trans h.size hl)
    · exact h.low t (by simp [hm]) k hk
  · rcases List.mem_cons.1 hm with rfl | hm
    · exact hz k hk
    · exact Nat.lt_of_lt_of_le (h.high t (by simp [hm]) k hk) ht.size
  · rw [List.pairwise_cons]
    refine ⟨fun t hm => ⟨fun k hk => ⟨fun htW => ?_, fun htR => ?_⟩, fun k hk htW => ?_⟩, hp.2⟩
    · exact (hW k hk).elim (fun hs => ((hp.1 t hm).1 k hs).1 htW) (fun hl => by have := h.high t (by simp [hm]) k (.inl htW); omega)
    · exact (hW k hk).elim (fun hs => ((hp.1 t hm).1 k hs).2 htR) (fun hl => by have := h.high t (by simp [hm]) k (.inr htR); omega)
    · exact (hR k hk).elim (fun hs => (hp.1 t hm).2 k hs htW) (fun hl => by have := h.high t (by simp [hm]) k (.inl htW); omega)
/-- A thing of new blocks. -/
theorem Lab.new (h : Lab w0 wr ts) (hb : Below wr.heap.size wr w') (hs : s.holds w') (hW : ∀ k, k ∈ s.W → wr.heap.size ≤ k) (hR : ∀ k, k ∈ s.R → (∀ t ∈ ts, k ∉ t.W)) (hz : ∀ k, k ∈ s.W ∨ k ∈ s.R → k < w'.heap.size) : Lab w0 w' (s :: ts) := by
  have hl := h.later hb
  refine ⟨hl.below, fun t hm => ?_, fun t hm k hk => ?_, fun t hm k hk => ?_, ?_⟩
  · rcases List.mem_cons.1 hm with rfl | hm
    · exact hs
    · exact hl.holds t hm
  · rcases List.mem_cons.1 hm with rfl | hm
    · exact Nat.le_trans h.size (hW k hk)
    · exact hl.low t hm k hk
  · rcases List.mem_cons.1 hm with rfl | hm
    · exact hz k hk
    · exact hl.high t hm k hk
  · rw [List.pairwise_cons]
    refine ⟨fun t hm => ⟨fun k hk => ⟨fun htW => ?_, fun htR => ?_⟩, fun k hk htW => hR k hk t hm htW⟩, hl.apart⟩
    · have := h.high t hm k (.inl htW); have := hW k hk; omega
    · have := h.high t hm k (.inr htR); have := hW k hk; omega
end

theorem ownsRow_mono0 {w : World} {base E size n : Nat} {v : Value} {xs : List Value} (h : w.ownsRow base E size v n xs) : w.ownsRow 0 E size v n xs := by
  refine ⟨h.1, ?_⟩
  rcases h.2 with hn | ⟨g, cap, cur, hv, hg, r⟩
  · exact .inl hn
  · exact .inr ⟨g, cap, cur, hv, Nat.zero_le _, r⟩
/-- The things: a row, a graph, a block. -/
def Thing.row (E size : Nat) (v : Value) (n : Nat) (cells : List Value) : Thing :=
  ⟨v.ownBlock.toList, [], fun w => w.ownsRow 0 E size v n cells, fun _ _ h hk => owns_keep h fun k hm => hk k (.inl (by simp [hm]))⟩
def Thing.ints (v : Value) (xs : List Int) : Thing := Thing.row 3 1 v xs.length (xs.map (Value.int .i64))
def Thing.box (b T : Nat) (arr : Array Value) : Thing :=
  ⟨[b], [], fun w => w.heap[b]? = some (.cells arr T (0, 0)), fun _ _ h hk => (hk b (.inl (by simp))).trans h⟩
def Thing.graph (F I : List Nat) (gb W room : Nat) (L : List PNode) : Thing :=
  ⟨F, I, fun w => Gr w 0 F I gb W room L, fun _ _ h hk => h.keep (fun k hm => hk k (.inl hm)) (fun k hm _ => hk k (.inr hm))⟩
section
variable {w0 wr w' : World} {ts : List Thing} {F I : List Nat} {gb W room : Nat} {L : List PNode}
theorem Lab.gr (h : Lab w0 wr (Thing.graph F I gb W room L :: ts)) : Gr wr 0 F I gb W room L := h.head
theorem Lab.ints {v : Value} {xs : List Int} (h : Lab w0 wr (Thing.ints v xs :: ts)) : OwnInts wr 0 3 .i64 v xs := h.head
theorem Lab.ints2 {x : Thing} {v : Value} {xs : List Int} (h : Lab w0 wr (x :: Thing.ints v xs :: ts)) : OwnInts wr 0 3 .i64 v xs := h.second
theorem Lab.ints3 {x y : Thing} {v : Value} {xs : List Int} (h : Lab w0 wr (x :: y :: Thing.ints v xs :: ts)) : OwnInts wr 0 3 .i64 v xs := h.third
theorem Lab.ints4 {x y z : Thing} {v : Value} {xs : List Int} (h : Lab w0 wr (x :: y :: z :: Thing.ints v xs :: ts)) : OwnInts wr 0 3 .i64 v xs := h.fourth
theorem Lab.box1 {b T : Nat} {arr : Array Value} (h : Lab w0 wr (Thing.box b T arr :: ts)) : wr.heap[b]? = some (.cells arr T (0, 0)) := h.head
theorem Lab.box2 {x : Thing} {b T : Nat} {arr : Array Value} (h : Lab w0 wr (x :: Thing.box b T arr :: ts)) : wr.heap[b]? = some (.cells arr T (0, 0)) := h.second
theorem Lab.box3 {x y : Thing} {b T : Nat} {arr : Array Value} (h : Lab w0 wr (x :: y :: Thing.box b T arr :: ts)) : wr.heap[b]? = some (.cells arr T (0, 0)) := h.third
theorem Lab.mem_ints {v : Value} {xs : List Int} (h : Lab w0 wr ts) (hm : Thing.ints v xs ∈ ts) : OwnInts wr 0 3 .i64 v xs := h.holds _ hm
theorem Lab.mem_box {b T : Nat} {arr : Array Value} (h : Lab w0 wr ts) (hm : Thing.box b T arr ∈ ts) : wr.heap[b]? = some (.cells arr T (0, 0)) := h.holds _ hm
theorem Gr.drewN (h : Gr wr 0 F I gb W room L) (n : Nat) : Gr (wr.drewN n) 0 F I gb W room L := h.later (below_drewN (Below.refl _ _) n)
theorem Lab.drewN (h : Lab w0 wr ts) (n : Nat) : Lab w0 (wr.drewN n) ts := h.later (below_drewN (Below.refl _ _) n)
theorem len_quiet (h : Gr wr 0 F I gb W room L) (n : Nat) : Calls Try.prog 25 #[.pointer (some ⟨gb, 0, none⟩)] (wr.drewN n) fun e w' => e = .returned (.int .i64 L.length) ∧ ∃ m, w' = wr.drewN m :=
  (len_any (h.drewN n)).mono fun _ _ ⟨a, b⟩ => ⟨a, n, b.symm⟩
/-- A graph's call. -/
theorem Lab.gpost {R : List PNode × Nat × Nat} {e : Ending} (h : Lab w0 wr (Thing.graph F I gb W room L :: ts)) (hp : GPost wr 0 F I gb W room R e w') :
    ∃ F' I', e = .returned (.tuple #[.int .i64 R.2.1, .int .i64 R.2.2]) ∧ Lab w0 w' (Thing.graph F' I' gb W room R.1 :: ts) := by
  obtain ⟨F', I', he, hg, ht, hF, hI⟩ := hp
  refine ⟨F', I'.filter fun k => decide (k < w'.heap.size), he, h.turn (s' := Thing.graph F' _ gb W room R.1) ht hg.inI hF (fun k hk => ?_) (fun k hk => ?_)⟩
  · exact hI k (List.mem_filter.1 hk).1
  · rcases hk with hk | hk
    · exact hg.lt k hk
    · simpa using (List.mem_filter.1 hk).2
/-- A new row of ints. -/
theorem Lab.new_row {E size n : Nat} {v : Value} {cells : List Value} (h : Lab w0 wr ts) (hb : Below wr.heap.size wr w') (hv : w'.ownsRow wr.heap.size E size v n cells) : Lab w0 w' (Thing.row E size v n cells :: ts) := by
  refine h.new (s := Thing.row E size v n cells) hb (ownsRow_mono0 hv) (fun k hk => (hv.lt k (by simpa [Thing.row] using hk)).1) (fun k hk => by simp [Thing.row] at hk) (fun k hk => ?_)
  rcases hk with hk | hk
  · exact (hv.lt k (by simpa [Thing.row] using hk)).2
  · simp [Thing.row] at hk
theorem Lab.new_ints {v : Value} {xs : List Int} (h : Lab w0 wr ts) (hb : Below wr.heap.size wr w') (hv : OwnInts w' wr.heap.size 3 .i64 v xs) : Lab w0 w' (Thing.ints v xs :: ts) := h.new_row hb hv
/-- A block is laid. -/
theorem Lab.alloc (h : Lab w0 wr ts) (arr : Array Value) (T : Nat) : Lab w0 (wr.alloc (.cells arr T)) (Thing.box wr.heap.size T arr :: ts) := by
  refine h.new (s := Thing.box wr.heap.size T arr) (below_new wr _) (heap_alloc_new wr _) (fun k hk => by simp [Thing.box] at hk; omega) (fun k hk => by simp [Thing.box] at hk) (fun k hk => ?_)
  rcases hk with hk | hk
  · simp [Thing.box] at hk; simp; omega
  · simp [Thing.box] at hk
/-- A node that was taken. -/
theorem Lab.node_at (h : Lab w0 wr (Thing.graph F I gb W room L :: ts)) (i : Nat) (n : PNode) (hi : L[i]? = some n) :
    Calls Try.prog 23 #[.pointer (some ⟨gb, 0, none⟩), .int .i64 i] wr fun e w' => ∃ a m c, e = .returned (.tuple #[.agg #[.int .u8 n.1, .int .u64 n.2.1, .slice a m c], .int .i64 0]) ∧ Lab w0 w' (Thing.graph F I gb W room L :: Thing.ints (.slice a m c) n.2.2 :: ts) := by
  refine (Go.Proofs.Ytofbadmjopefpaa.node_at h.gr i n hi).mono ?_
  rintro e w' ⟨va, rfl, hva, hb⟩
  obtain ⟨a, m, c, rfl⟩ := hva.val
  exact ⟨a, m, c, rfl, (h.new_ints hb hva).swap⟩
/-- A nil slice has no block. -/
theorem Lab.nil_ints (h : Lab w0 wr ts) : Lab w0 wr (Thing.ints (.slice none 0 0) [] :: ts) := h.new_ints (Below.refl _ _) (OwnInts.nil _ _ _ _)
/-- An own slice of ints has grown. -/
theorem Lab.grown_ints {v : Value} {xs : List Int} {a' : Option Addr} {c' m : Nat} {q : Int} (h : Lab w0 wr (Thing.ints v xs :: ts)) (hown : OwnInts w' 0 3 .i64 (.slice a' m c') (xs ++ [q])) (ht : Touch v.ownBlock.toList wr w') (hb : ∀ b, (Value.slice a' m c').ownBlock = some b → v.ownBlock = some b ∨ wr.heap.size ≤ b) :
    Lab w0 w' (Thing.ints (.slice a' m c') (xs ++ [q]) :: ts) := by
  refine h.turn (s' := Thing.ints (.slice a' m c') (xs ++ [q])) ht hown (fun k hk => ?_) (fun k hk => by simp [Thing.ints, Thing.row] at hk) (fun k hk => ?_)
  · have hk' : (Value.slice a' m c').ownBlock = some k := by simpa [Thing.ints, Thing.row] using hk
    exact (hb k hk').imp (fun e => by simp [Thing.ints, Thing.row, e]) id
  · rcases hk with hk | hk
    · exact (World.ownsRow.lt hown k (by simpa [Thing.ints, Thing.row] using hk)).2
    · simp [Thing.ints, Thing.row] at hk
/-- Fill, at a law's beginning. -/
theorem fill_lab {w : World} (Wi : Int) (v : Value) (qs : List PAsk) (hv : AsksOf w v qs) (hq : qs.length ≤ 9223372036854775807) :
    Calls Try.prog 21 #[.int .i64 Wi, v] w fun e w' => ∃ gb F I a m c, e = .returned (.tuple #[.pointer (some ⟨gb, 0, none⟩), .slice a m c]) ∧
      Lab w w' [Thing.graph F I gb ((Wi % 64).toNat + 1) 1048576 (fillS ((Wi % 64).toNat + 1) (qs.take 120)).1, Thing.ints (.slice a m c) (fillS ((Wi % 64).toNat + 1) (qs.take 120)).2] := by
  refine (fill_any Wi v qs hv hq).mono ?_
  rintro e w' ⟨gb, F, I, vo, rfl, hg, ho, hni, hb⟩
  obtain ⟨a, m, c, rfl⟩ := ho.val
  refine ⟨gb, F, I.filter fun k => decide (k < w'.heap.size), a, m, c, rfl, hb, ?_, ?_, ?_, ?_⟩
  · intro t ht
    simp only [List.mem_cons, List.not_mem_nil, or_false] at ht
    rcases ht with rfl | rfl
    · exact (hg.mono (Nat.zero_le _)).inI
    · exact ownsRow_mono0 ho
  · intro t ht k hk
    simp only [List.mem_cons, List.not_mem_nil, or_false] at ht
    rcases ht with rfl | rfl
    · exact hg.base_le k hk
    · exact (ho.lt k (by simpa [Thing.ints, Thing.row] using hk)).1
  · intro t ht k hk
    simp only [List.mem_cons, List.not_mem_nil, or_false] at ht
    rcases ht with rfl | rfl
    · rcases hk with hk | hk
      · exact hg.lt k hk
      · simpa using (List.mem_filter.1 hk).2
    · rcases hk with hk | hk
      · exact (ho.lt k (by simpa [Thing.ints, Thing.row] using hk)).2
      · simp [Thing.ints, Thing.row] at hk
  · refine List.pairwise_cons.2 ⟨fun t ht => ?_, by simp⟩
    obtain rfl : t = Thing.ints (.slice a m c) (fillS ((Wi % 64).toNat + 1) (qs.take 120)).2 := by simpa using ht
    refine ⟨fun k hk => ⟨fun hm => ?_, fun hm => by simp [Thing.ints, Thing.row] at hm⟩, fun k hk hm => ?_⟩
    · exact hg.not_own (by decide) (by decide) ho k (by simpa [Thing.ints, Thing.row] using hm) hk
    · exact hni k (by simpa [Thing.ints, Thing.row] using hm) (List.mem_filter.1 hk).1
end
end Go.Proofs.Ytofbadmjopefpaa
namespace Go.Proofs.Ytofbadmjopefpaa
open Go.RowKit Go.Maps
set_option maxHeartbeats 400000

section
variable {P : Program}
theorem srcOf_news (wr : World) (news : List Value) (E size : Nat) (hl : news.length = size) : SrcOf (wr.alloc (.cells news.toArray E)) (.slice (some ⟨wr.heap.size, 0, none⟩) 1 1) 1 size news := by
  refine ⟨_, _, rfl, by omega, fun _ => ⟨_, rfl, fun j u hu => ?_⟩⟩
  rw [Go.WideShapes.add_plain, World.cell?_alloc_at _ _ _ _ rfl, Nat.zero_add, ← hu]
  simp
/-- One element, of whatever size, is appended to an own slice: what may have turned. -/
theorem wpList_append1_row {ops : Array Oper} {rest : List Oper} {o : Oper} {a : Act} {Q : Exit → Act → World → Prop} (T E size bytes : Nat) (wr : World) (v : Value) (n : Nat) (xs news : List Value)
    (hown : wr.ownsRow 0 E size v n xs) (s x : Operand) (hgd : o.guard = none) (ho : o.op = .call { callee := .builtin .append, args := #[s, x], argTypes := #[T, T] })
    (z : Value) (ht : P.underlying T = some (.slice E)) (hi : (P.info? E).map (fun i => (i.zero, i.size, i.bytes)) = some (some z, size, bytes)) (hzs : z.cells.size = size) (hsz : 0 < size) (hbt : bytes ≤ 1000)
    (hs : a.eval s = v) (hx : a.eval x = .slice (some ⟨wr.heap.size, 0, none⟩) 1 1) (hl : news.length = size) (h1 : ∀ u ∈ news, u.oneCell' = true) (hn : n ≤ 999999999)
    (h : ∀ a' c' w', w'.ownsRow 0 E size (.slice a' (n + 1) c') (n + 1) (xs ++ news) → Touch v.ownBlock.toList wr w' → (∀ b, (Value.slice a' (n + 1) c').ownBlock = some b → v.ownBlock = some b ∨ wr.heap.size ≤ b) →
      wpList P ops Q rest (a.put o.dst (.slice a' (n + 1) c')) w') :
    wpList P ops Q (o :: rest) a (wr.alloc (.cells news.toArray E)) := by
  have hsrc := srcOf_news wr news E size hl
  have hown' : (wr.alloc (.cells news.toArray E)).ownsRow 0 E size v n xs := hown.alloc _
  obtain ⟨v', w', hr, h2, h3⟩ := run_append_src (P := P) (wr.alloc (.cells news.toArray E)) 0 T o.type E size bytes z ht hi hzs hsz hbt v _ n 1 _ news hown' hsrc h1 (by omega) (Nat.zero_le _)
  have blk := append_block (P := P) (T := T) (ty := o.type) (bytes := bytes) (z := z) ht hi hbt hown' hsrc h1 (by decide) (by omega) hr
  obtain ⟨a', c', rfl⟩ : ∃ a' c', v' = .slice a' (n + 1) c' := by
    rcases h2.2 with ⟨_, h0⟩ | ⟨g, cap, cur, rfl, _⟩
    · omega
    · exact ⟨_, _, rfl⟩
  refine wpList_plain hgd fun _ hK => ?_
  unfold Oper.wp execOp
  simp only [ho, resolve, invoke, builtin, Sem.run_bind, Sem.run_pure, Result.andThen_ok, List.map_toArray, List.map_cons, List.map_nil, hs, hx, hr]
  refine hK _ _ (h a' c' w' h2 ?_ ?_)
  · refine ⟨h3.os, h3.tape, h3.output, by have := h3.size; simp at this; omega, fun b hb hn => ?_⟩
    rw [h3.block b (by simp; omega) (fun e => hn (by simp [← e])), heap_alloc_old _ _ hb]
  · intro b hb
    exact (blk b hb).imp id (fun h => by simp at h; omega)
end
section
variable {w0 wr w' : World} {s s' u : Thing} {ts : List Thing}
/-- The first thing turns, and takes the second one in. -/
theorem Lab.absorb (h : Lab w0 wr (s :: u :: ts)) (ht : Touch s.W wr w') (hs : s'.holds w') (hW : ∀ k, k ∈ s'.W → k ∈ s.W ∨ wr.heap.size ≤ k) (hR : ∀ k, k ∈ s'.R → k ∈ s.R ∨ k ∈ u.W ∨ wr.heap.size ≤ k) (hz : ∀ k, k ∈ s'.W ∨ k ∈ s'.R → k < w'.heap.size) : Lab w0 w' (s' :: ts) := by
  have hp := List.pairwise_cons.1 h.apart
  have hq := List.pairwise_cons.1 hp.2
  refine ⟨ht.below h.below h.size (h.low s (by simp)), fun t hm => ?_, fun t hm k hk => ?_, fun t hm k hk => ?_, ?_⟩
  · rcases List.mem_cons.1 hm with rfl | hm
    · exact hs
    · exact t.keep _ _ (h.holds t (by simp [hm])) fun k hk => ht.block k (h.high t (by simp [hm]) k hk) fun hsW => hk.elim (fun hw => ((hp.1 t (by simp [hm])).1 k hsW).1 hw) (fun hr => ((hp.1 t (by simp [hm])).1 k hsW).2 hr)
  · rcases List.mem_cons.1 hm with rfl | hm
    · exact (hW k hk).elim (h.low s (by simp) k) (fun hl => Nat.le_trans h.size hl)
    · exact h.low t (by simp [hm]) k hk
  · rcases List.mem_cons.1 hm with rfl | hm
    · exact hz k hk
    · exact Nat.lt_of_lt_of_le (h.high t (by simp [hm]) k hk) ht.size
  · rw [List.pairwise_cons]
    refine ⟨fun t hm => ⟨fun k hk => ⟨fun htW => ?_, fun htR => ?_⟩, fun k hk htW => ?_⟩, hq.2⟩
    · exact (hW k hk).elim (fun hs => ((hp.1 t (by simp [hm])).1 k hs).1 htW) (fun hl => by have := h.high t (by simp [hm]) k (.inl htW); omega)
    · exact (hW k hk).elim (fun hs => ((hp.1 t (by simp [hm])).1 k hs).2 htR) (fun hl => by have := h.high t (by simp [hm]) k (.inr htR); omega)
    · rcases hR k hk with hs | hu | hl
      · exact (hp.1 t (by simp [hm])).2 k hs htW
      · exact ((hq.1 t hm).1 k hu).1 htW
      · have := h.high t (by simp [hm]) k (.inl htW); omega
end
theorem cap_of_trod {H : Type} {enc : TypeId × Value → H} {P : Program} {w : World} {base t e : Nat} {v : Value} {d : DataW H} {p : List MemPlace} (ht : P.underlying t = some (.slice e))
    (h : DataW.Trod enc P w 0 (fun _ => true) true t v d p) (o : Value.okWide P w .any base t v) : ∀ a n c, v = .slice a n c → n ≤ c := by
  intro a n c hv
  rcases slice_of_trod ht h o with h0 | ⟨ad, n', cap, _, _, h1, h2, _⟩
  · rw [hv] at h0
    simp only [Value.slice.injEq] at h0
    omega
  · rw [hv] at h1
    simp only [Value.slice.injEq] at h1
    omega
theorem AskV.slice {w : World} {x0 x1 x2 x3 va : Value} {a : PAsk} (h : AskV w (.agg #[x0, x1, x2, x3, va]) a) : SliceOf w .i64 va a.2.2.2.2 := by
  obtain ⟨va', he, hs⟩ := h
  simp only [Value.agg.injEq] at he
  have h' := Array.toList_inj.2 he
  simp only [List.cons.injEq, and_true] at h'
  obtain ⟨_, _, _, _, rfl⟩ := h'
  exact hs
/-- A slice of nodes. -/
def Thing.nodes (I : List Nat) (v : Value) (L : List PNode) : Thing :=
  ⟨v.ownBlock.toList, I, fun w => ∃ cells, w.ownsRow 0 54 3 v L.length cells ∧ NodeRow w I cells L,
    fun _ _ ⟨cells, h, hn⟩ hk => ⟨cells, owns_keep h fun k hm => hk k (.inl (by simp [hm])), hn.keep fun k hm _ => hk k (.inr hm)⟩⟩
section
variable {w0 wr w' : World} {ts : List Thing} {I : List Nat} {v : Value} {L : List PNode}
theorem Lab.nil_nodes (h : Lab w0 wr ts) : Lab w0 wr (Thing.nodes [] (.slice none 0 0) [] :: ts) :=
  h.new (s := Thing.nodes [] (.slice none 0 0) []) (Below.refl _ _) ⟨[], World.ownsRow_nil _ _ _ _, NodeRow.nil _ _⟩ (fun k hk => by simp [Thing.nodes, Value.ownBlock] at hk) (fun k hk => by simp [Thing.nodes] at hk) (fun k hk => by simp [Thing.nodes, Value.ownBlock] at hk)
theorem Lab.val_nodes (h : Lab w0 wr (Thing.nodes I v L :: ts)) : ∃ a c, v = .slice a L.length c := by
  obtain ⟨cells, ho, _⟩ := h.head
  rcases ho.2 with ⟨rfl, h0⟩ | ⟨g, cap, cur, rfl, _⟩
  · exact ⟨_, _, by rw [h0]⟩
  · exact ⟨_, _, rfl⟩
/-- One of a slice of nodes. -/
theorem nodes_at (h : (Thing.nodes I v L).holds wr) {i : Nat} {n : PNode} (hi : L[i]? = some n) :
    ∃ g cap va, v = .slice (some ⟨g, 0, none⟩) L.length cap ∧ wr.cell? ⟨g, i * 3, none⟩ = some (.int .u8 n.1) ∧ wr.cell? ⟨g, i * 3 + 1, none⟩ = some (.int .u64 n.2.1) ∧ wr.cell? ⟨g, i * 3 + 2, none⟩ = some va ∧ IntsAt wr va n.2.2 := by
  obtain ⟨cells, ho, hn⟩ := h
  obtain ⟨g, cap, va, h1, _, h2⟩ := hn.at ho hi
  exact ⟨g, cap, va, h1, h2⟩
/-- A node more, with its arguments in a block of the slice's own from then on. -/
theorem Lab.grown_nodes {cells : List Value} {n : PNode} {va : Value} {a' : Option Addr} {c' m : Nat} (h : Lab w0 wr (Thing.nodes I v L :: Thing.ints va n.2.2 :: ts)) (ho : wr.ownsRow 0 54 3 v L.length cells) (hn : NodeRow wr I cells L)
    (hown : w'.ownsRow 0 54 3 (.slice a' m c') m (cells ++ [.int .u8 n.1, .int .u64 n.2.1, va])) (hm : m = L.length + 1) (ht : Touch v.ownBlock.toList wr w') (hb : ∀ b, (Value.slice a' m c').ownBlock = some b → v.ownBlock = some b ∨ wr.heap.size ≤ b) :
    Lab w0 w' (Thing.nodes (va.ownBlock.toList ++ I) (.slice a' m c') (L ++ [n]) :: ts) := by
  have hp := List.pairwise_cons.1 h.apart
  have hap := hp.1 (Thing.ints va n.2.2) (by simp)
  have hv := h.ints2
  have hkeepI : ∀ k, k ∈ I → IntBlk wr k → w'.heap[k]? = wr.heap[k]? := fun k hk hi => ht.block k (h.high (Thing.nodes I v L) (by simp) k (.inr hk)) fun hm => by
    obtain ⟨arr, fr, hi⟩ := hi
    exact not_own ho hi (by intro c fr e; simp at e) (by simpa using hm)
  have hkeepV : ∀ k, va.ownBlock = some k → w'.heap[k]? = wr.heap[k]? := fun k hk => ht.block k (h.high (Thing.ints va n.2.2) (by simp) k (.inl (by simp [Thing.ints, Thing.row, hk]))) fun hm => (hap.1 k hm).1 (by simp [Thing.ints, Thing.row, hk])
  have hv' := hv.keep hkeepV
  subst hm
  refine h.absorb (s' := Thing.nodes (va.ownBlock.toList ++ I) (.slice a' (L.length + 1) c') (L ++ [n])) ht ⟨_, ?_, (hn.keep hkeepI).snoc (intsAt_owns hv') (intBlk_owns hv')⟩ (fun k hk => ?_) (fun k hk => ?_) (fun k hk => ?_)
  · rw [List.length_append]; exact hown
  · have hk' : (Value.slice a' (L.length + 1) c').ownBlock = some k := by simpa [Thing.nodes] using hk
    exact (hb k hk').imp (fun e => by simp [Thing.nodes, e]) id
  · rcases List.mem_append.1 hk with hk | hk
    · exact .inr (.inl (by simpa [Thing.ints, Thing.row] using hk))
    · exact .inl hk
  · rcases hk with hk | hk
    · exact (hown.lt k (by simpa [Thing.nodes] using hk)).2
    · rcases List.mem_append.1 hk with hk | hk
      · exact (World.ownsRow.lt hv' k (by simpa using hk)).2
      · exact Nat.lt_of_lt_of_le (h.high (Thing.nodes I v L) (by simp) k (.inr hk)) ht.size
end
end Go.Proofs.Ytofbadmjopefpaa
namespace Go.Proofs.Ytofbadmjopefpaa
open Go.RowKit Go.Maps
set_option maxHeartbeats 400000

theorem Lab.new_graph {w0 wr : World} {ts : List Thing} (h : Lab w0 wr ts) (W most : Int) (hok : newOk W most) :
    Calls Try.prog 29 #[.int .i64 W, .int .i64 most] wr fun e w' => ∃ gb F, e = .returned (.tuple #[.pointer (some ⟨gb, 0, none⟩), .int .i64 0]) ∧ Lab w0 w' (Thing.graph F [] gb W.toNat (roomOf most) [] :: ts) := by
  refine (new_any W most hok wr).mono ?_
  rintro e w' ⟨gb, F, rfl, hg, hb⟩
  refine ⟨gb, F, rfl, h.new (s := Thing.graph F [] gb W.toNat (roomOf most) []) hb (hg.mono (Nat.zero_le _)) hg.base_le (fun k hk => by simp [Thing.graph] at hk) (fun k hk => ?_)⟩
  rcases hk with hk | hk
  · exact hg.lt k hk
  · simp [Thing.graph] at hk
/-- What asking gives, in three cases. -/
theorem askP_cases (room : Nat) (L : List PNode) (n : PNode) (hl : L.length ≤ room) :
    (∃ t, askP room L n = (L, t, 0) ∧ L[t]? = some n) ∨ (n ∉ L ∧ L.length < room ∧ askP room L n = (L ++ [n], L.length, 0)) ∨ (n ∉ L ∧ L.length = room ∧ askP room L n = (L, 0, 10)) := by
  unfold askP
  cases hf : L.findIdx? (· == n) with
  | some t => exact .inl ⟨t, rfl, find_some hf⟩
  | none =>
    right
    by_cases h : room ≤ L.length
    · exact .inr ⟨find_none hf, by omega, by rw [if_pos h]⟩
    · exact .inl ⟨find_none hf, by omega, by rw [if_neg h]⟩
/-- The variables are few. -/
def VarsLt (K : Nat) (L : List PNode) : Prop := ∀ n ∈ L, n.1 = 1 → n.2.1 < K
theorem VarsLt.mono {K K' : Nat} {L : List PNode} (h : VarsLt K L) (hk : K ≤ K') : VarsLt K' L := fun n hn h1 => Nat.lt_of_lt_of_le (h n hn h1) hk
theorem VarsLt.ask {K : Nat} {L : List PNode} (h : VarsLt K L) (room : Nat) {n : PNode} (hn : n.1 = 1 → n.2.1 < K) : VarsLt K (askP room L n).1 := by
  unfold askP
  cases L.findIdx? (· == n) with
  | some t => exact h
  | none =>
    dsimp only
    split
    · exact h
    · intro m hm
      rcases List.mem_append.1 hm with hm | hm
      · exact h m hm
      · simp at hm; subst hm; exact hn
theorem VarsLt.add {K W : Nat} {L : List PNode} (h : VarsLt K L) (hK : 6 ≤ K) (room : Nat) (a : PAsk) : VarsLt K (addR W room L a).1 := by
  rw [addR_ask]
  refine h.ask room ?_
  unfold addN
  split
  · intro h; simp at h
  · split
    · intro _
      have h0 := Int.emod_nonneg a.2.2.2.1 (show (6 : Int) ≠ 0 by decide)
      have h1 := Int.emod_lt_of_pos a.2.2.2.1 (show (0 : Int) < 6 by decide)
      show (a.2.2.2.1 % 6).toNat < K
      omega
    · intro h
      have := code_bounds a
      simp only at h
      omega
theorem VarsLt.not_mem {K : Nat} {L : List PNode} (h : VarsLt K L) {m : Nat} (hm : K ≤ m) (xs : List Int) : ((1, m, xs) : PNode) ∉ L := fun hin => by have := h _ hin rfl; simp only at this; omega
end Go.Proofs.Ytofbadmjopefpaa
namespace Go.Proofs.Ytofbadmjopefpaa

/-- A list of nodes of which another one is the beginning. -/
theorem isPrefix_ask {L : List PNode} (room : Nat) (n : PNode) : L <+: (askP room L n).1 := by
  unfold askP
  cases L.findIdx? (· == n) with
  | some t => exact List.prefix_refl _
  | none =>
    dsimp only
    split
    · exact List.prefix_refl _
    · exact List.prefix_append _ _
theorem isPrefix_const (W room : Nat) (L : List PNode) (q : Nat) : L <+: (constR W room L q).1 := isPrefix_ask room _
theorem isPrefix_var (room : Nat) (L : List PNode) (n : Int) : L <+: (varR room L n).1 := by
  unfold varR; split
  · exact isPrefix_ask room _
  · exact List.prefix_refl _
theorem isPrefix_app (room : Nat) (L : List PNode) (o : Nat) (xs : List Int) : L <+: (appR room L o xs).1 := by
  unfold appR; split
  · split
    · exact isPrefix_ask room _
    · exact List.prefix_refl _
  · exact List.prefix_refl _
theorem prefix_at {L L' : List PNode} (h : L <+: L') {i : Nat} {n : PNode} (hi : L[i]? = some n) : L'[i]? = some n := by
  obtain ⟨t, rfl⟩ := h
  rw [List.getElem?_append_left (List.getElem?_eq_some_iff.1 hi).1]; exact hi
/-- What is refused leaves the nodes as they are. -/
theorem ask_err {L : List PNode} {room : Nat} {n : PNode} (h : (askP room L n).2.2 ≠ 0) : (askP room L n).1 = L := by
  unfold askP at h ⊢
  cases hf : L.findIdx? (· == n) with
  | some t => rfl
  | none =>
    rw [hf] at h
    dsimp only at h ⊢
    split
    · rfl
    · rw [if_neg (by assumption)] at h; exact absurd rfl h
theorem const_err {W room : Nat} {L : List PNode} {q : Nat} (h : (constR W room L q).2.2 ≠ 0) : (constR W room L q).1 = L := ask_err h
theorem var_err {room : Nat} {L : List PNode} {n : Int} (h : (varR room L n).2.2 ≠ 0) : (varR room L n).1 = L := by
  unfold varR at h ⊢; split
  · rw [if_pos (by assumption)] at h; exact ask_err h
  · rfl
theorem app_err {room : Nat} {L : List PNode} {o : Nat} {xs : List Int} (h : (appR room L o xs).2.2 ≠ 0) : (appR room L o xs).1 = L := by
  unfold appR at h ⊢; split
  · rw [if_pos (by assumption)] at h
    split
    · rw [if_pos (by assumption)] at h; exact ask_err h
    · rfl
  · rfl
end Go.Proofs.Ytofbadmjopefpaa
namespace Go.Proofs.Ytofbadmjopefpaa
open Go.RowKit Go.Maps
set_option maxHeartbeats 400000

section
variable {w0 wr w' : World} {ts : List Thing} {F I : List Nat} {gb W room : Nat} {L : List PNode}
theorem Lab.perm {ts' : List Thing} (h : Lab w0 wr ts) (hp : ts.Perm ts') : Lab w0 wr ts' :=
  ⟨h.below, fun t ht => h.holds t (hp.mem_iff.2 ht), fun t ht => h.low t (hp.mem_iff.2 ht), fun t ht => h.high t (hp.mem_iff.2 ht), (hp.pairwise_iff (fun {_ _} hs => hs.symm)).1 h.apart⟩
theorem Lab.rot4 {s t u v : Thing} (h : Lab w0 wr (s :: t :: u :: v :: ts)) : Lab w0 wr (v :: s :: t :: u :: ts) := h.perm (List.perm_middle (l₁ := [s, t, u]))
theorem Lab.rot5 {s t u v x : Thing} (h : Lab w0 wr (s :: t :: u :: v :: x :: ts)) : Lab w0 wr (x :: s :: t :: u :: v :: ts) := h.perm (List.perm_middle (l₁ := [s, t, u, v]))
theorem Lab.rot6 {s t u v x y : Thing} (h : Lab w0 wr (s :: t :: u :: v :: x :: y :: ts)) : Lab w0 wr (y :: s :: t :: u :: v :: x :: ts) := h.perm (List.perm_middle (l₁ := [s, t, u, v, x]))
open Classical in
/-- The blocks of arguments, and no others. -/
noncomputable def onlyInts (w : World) (I : List Nat) : List Nat := I.filter fun k => decide (IntBlk w k)
theorem mem_onlyInts {w : World} {I : List Nat} {k : Nat} : k ∈ onlyInts w I ↔ k ∈ I ∧ IntBlk w k := by
  unfold onlyInts
  rw [List.mem_filter]
  simp
theorem Gr.inB {base : Nat} (h : Gr wr base F I gb W room L) : Gr wr base F (onlyInts wr I) gb W room L := by
  obtain ⟨sv, mb, cells, hF, h1, h2, h3, h4, h5, h6⟩ := h.mem
  refine ⟨h.wf, h.len, h.w1, h.w2, h.r2, sv, mb, cells, hF, h1, h2, h3, h4, ⟨h5.1, fun i n hn => ?_⟩, h6⟩
  obtain ⟨va, k1, k2, k3, k4, k5⟩ := h5.2 i n hn
  exact ⟨va, k1, k2, k3, k4, fun k hk => ⟨mem_onlyInts.2 (k5 k hk), (k5 k hk).2⟩⟩
end
theorem fillS_vars (W : Nat) (qs : List PAsk) : VarsLt 6 (fillS W qs).1 := by
  refine snoc_ind (p := fun qs => VarsLt 6 (fillS W qs).1) (by simp [fillS, VarsLt]) (fun qs a ih => ?_) qs
  rw [fillS_snoc]
  exact ih.add (Nat.le_refl 6) 1048576 a
theorem isPrefix_add (W room : Nat) (L : List PNode) (a : PAsk) : L <+: (addR W room L a).1 := by
  rw [addR_ask]
  unfold askP
  cases L.findIdx? (· == addN W L a) with
  | some t => exact List.prefix_refl _
  | none =>
    dsimp only
    split
    · exact List.prefix_refl _
    · exact List.prefix_append _ _
/-- A variable that is not there yet. -/
theorem varR_new {K room : Nat} {L : List PNode} {m : Nat} (h : VarsLt K L) (hk : K ≤ m) (hm : m ≤ 4194303) (hl : L.length < room) : varR room L (m : Int) = (L ++ [(1, m, [])], L.length, 0) ∧ VarsLt (m + 1) (L ++ [(1, m, [])]) := by
  have e : varR room L (m : Int) = askP room L (1, m, []) := by unfold varR; rw [if_pos (by omega)]; simp
  refine ⟨?_, ?_⟩
  · rw [e]
    rcases askP_cases room L (1, m, []) (by omega) with ⟨t, _, ht⟩ | ⟨_, _, h⟩ | ⟨_, h, _⟩
    · exact absurd (List.mem_of_getElem? ht) (h.not_mem hk [])
    · exact h
    · omega
  · intro n hn h1
    rcases List.mem_append.1 hn with hn | hn
    · have := h n hn h1; omega
    · simp at hn; subst hn; show m < m + 1; omega
end Go.Proofs.Ytofbadmjopefpaa
namespace Go.Proofs.Ytofbadmjopefpaa
open Go.RowKit Go.Maps
set_option maxHeartbeats 800000

/-- Fill of the beginning of a list. -/
theorem fill_some {w : World} (Wi : Int) (a : Option Addr) (n cap : Nat) (qs : List PAsk) (hv : AsksOf w (.slice a n cap) qs) (hq : n ≤ 9223372036854775807) (m : Nat) (hm : m ≤ n) :
    Calls Try.prog 21 #[.int .i64 Wi, .slice a m cap] w fun e w' => ∃ gb F I a' m' c L, L.length ≤ 120 ∧ L.length ≤ m ∧ GoodL ((Wi % 64).toNat + 1) L ∧ VarsLt 6 L ∧ e = .returned (.tuple #[.pointer (some ⟨gb, 0, none⟩), .slice a' m' c]) ∧ Lab w w' [Thing.graph F I gb ((Wi % 64).toNat + 1) 1048576 L] := by
  refine (fill_lab Wi _ _ (hv.take m cap hm) (by have := List.length_take_le m qs; omega)).mono ?_
  rintro e w' ⟨gb, F, I, a', m', c, rfl, hl⟩
  have h1 := (fillS_len ((Wi % 64).toNat + 1) ((qs.take m).take 120)).1
  have h2 := List.length_take_le 120 (qs.take m)
  have h3 := List.length_take_le m qs
  have h4 : ((qs.take m).take 120).length ≤ (qs.take m).length := by rw [List.length_take]; omega
  exact ⟨gb, F, I, a', m', c, _, by omega, by omega, fillS_good _ _, fillS_vars _ _, rfl, hl.swap.drop⟩
theorem SliceOf.take {w : World} {k : IntKind} {a : Option Addr} {n cap : Nat} {xs : List Int} (h : SliceOf w k (.slice a n cap) xs) (m cap' : Nat) (hm : m ≤ n) : SliceOf w k (.slice a m cap') (xs.take m) := by
  obtain ⟨a', n', c', e, hl, hc⟩ := h.parts
  simp only [Value.slice.injEq] at e
  obtain ⟨rfl, rfl, rfl⟩ := e
  refine ⟨a, m, cap', rfl, by rw [List.length_take]; omega, fun i hi => ?_⟩
  obtain ⟨b, off, q, rfl, hq, hx⟩ := hc i (by omega)
  refine ⟨b, off, rfl, ?_⟩
  rw [hq, List.getD_eq_getElem?_getD, List.getElem?_take, if_pos hi, hx]; rfl
theorem U64s.take {xs : List Int} (h : U64s xs) (m : Nat) : U64s (xs.take m) := fun x hx => h x (List.mem_of_mem_take hx)
end Go.Proofs.Ytofbadmjopefpaa
namespace Go.Proofs.Ytofbadmjopefpaa

/-- The value of a node, with the values of the terms before it. -/
def valN (W : Nat) (vals acc : List Int) (n : PNode) : Int :=
  if n.1 = 0 then (n.2.1 : Int) else if n.1 = 1 then (if n.2.1 < vals.length then (((vals.getD n.2.1 0).toNat % 2 ^ W : Nat) : Int) else 0)
  else wI n.1 W (n.2.2.map fun a => acc.getD a.toNat 0)
/-- The values of all nodes. -/
def valsL (W : Nat) (vals : List Int) (L : List PNode) : List Int := L.foldl (fun acc n => acc ++ [valN W vals acc n]) []
theorem valsL_nil (W : Nat) (vals : List Int) : valsL W vals [] = [] := rfl
theorem valsL_snoc (W : Nat) (vals : List Int) (L : List PNode) (n : PNode) : valsL W vals (L ++ [n]) = valsL W vals L ++ [valN W vals (valsL W vals L) n] := by
  unfold valsL; rw [List.foldl_append]; rfl
theorem valsL_len (W : Nat) (vals : List Int) (L : List PNode) : (valsL W vals L).length = L.length := by
  refine snoc_ind (p := fun L => (valsL W vals L).length = L.length) rfl (fun L n ih => ?_) L
  rw [valsL_snoc, List.length_append, List.length_append, ih]; rfl
theorem valsL_append (W : Nat) (vals : List Int) (L M : List PNode) : valsL W vals L <+: valsL W vals (L ++ M) := by
  refine snoc_ind (p := fun M => valsL W vals L <+: valsL W vals (L ++ M)) (by rw [List.append_nil]; exact List.prefix_refl _) (fun M n ih => ?_) M
  rw [← List.append_assoc, valsL_snoc]
  exact ih.trans (List.prefix_append _ _)
theorem valsL_prefix {W : Nat} {vals : List Int} {L L' : List PNode} (h : L <+: L') : valsL W vals L <+: valsL W vals L' := by
  obtain ⟨M, rfl⟩ := h
  exact valsL_append W vals L M
theorem prefix_getD {α : Type} {l l' : List α} {i : Nat} (h : l <+: l') (hi : i < l.length) (d : α) : l'.getD i d = l.getD i d := by
  obtain ⟨t, rfl⟩ := h
  rw [List.getD_eq_getElem?_getD, List.getElem?_append_left hi, ← List.getD_eq_getElem?_getD]
/-- The value of a term. -/
def val (W : Nat) (vals : List Int) (L : List PNode) (i : Nat) : Int := (valsL W vals L).getD i 0
theorem val_prefix {W : Nat} {vals : List Int} {L L' : List PNode} (h : L <+: L') {i : Nat} (hi : i < L.length) : val W vals L' i = val W vals L i :=
  prefix_getD (valsL_prefix h) (by rw [valsL_len]; exact hi) 0
theorem valN_congr {W : Nat} {vals acc acc' : List Int} {n : PNode} (h : ∀ a ∈ n.2.2, acc.getD a.toNat 0 = acc'.getD a.toNat 0) : valN W vals acc n = valN W vals acc' n := by
  unfold valN
  split
  · rfl
  · split
    · rfl
    · congr 1
      exact List.map_congr_left h
/-- What a value is: what its operator makes of the values of its arguments. -/
theorem val_at {W : Nat} {vals : List Int} {L : List PNode} (h : WFL L) {i : Nat} {n : PNode} (hi : L[i]? = some n) : val W vals L i = valN W vals (valsL W vals L) n := by
  obtain ⟨hl, rfl⟩ := List.getElem?_eq_some_iff.1 hi
  have hp : L.take i ++ [L[i]] <+: L := by rw [List.take_append_getElem hl]; exact List.take_prefix _ _
  have hti : (L.take i).length = i := by rw [List.length_take]; omega
  have e1 : val W vals L i = val W vals (L.take i ++ [L[i]]) i := val_prefix hp (by rw [List.length_append, hti]; simp)
  rw [e1]
  unfold val
  rw [valsL_snoc, List.getD_eq_getElem?_getD, List.getElem?_append_right (by rw [valsL_len, hti]; exact Nat.le_refl i), valsL_len, hti, Nat.sub_self]
  refine valN_congr fun a ha => ?_
  have := h.args i _ hi a ha
  exact (prefix_getD (valsL_prefix (List.take_prefix i L)) (by rw [valsL_len, hti]; omega) 0).symm
theorem wE_zero {o W n : Nat} (h1 : 1 ≤ W) (h2 : W ≤ 64) (ho1 : 2 ≤ o) (ho2 : o ≤ 21) (h : aryN o = n) : wE o W n = 0 := by
  unfold wE; rw [if_neg (by omega), if_neg (by omega), if_pos (by simpa using h)]
/-- Values are words. -/
theorem wI_bounds (o W : Int) (xs : List Int) (h1 : 1 ≤ W) (h2 : W ≤ 64) : 0 ≤ wI o W xs ∧ wI o W xs < ((2 ^ W.toNat : Nat) : Int) := by
  have hp := pow_pos2 W.toNat
  unfold wI
  split
  · have h := wop_lt W.toNat o.toNat (wA W xs 0) (wA W xs 1) (wA W xs 2) (by omega) (Nat.mod_lt _ hp) (Nat.mod_lt _ hp) (Nat.mod_lt _ hp)
    omega
  · omega
theorem valN_u64 {W : Nat} (h1 : 1 ≤ W) (h2 : W ≤ 64) (vals acc : List Int) {n : PNode} (hn : NodeOk n) : 0 ≤ valN W vals acc n ∧ valN W vals acc n ≤ 18446744073709551615 := by
  have hp := pow_le64 h2
  have hq := pow_pos2 W
  unfold valN
  split
  · have := hn.2.1; omega
  · split
    · split
      · have := Nat.mod_lt (vals.getD n.2.1 0).toNat hq
        omega
      · omega
    · have := wI_bounds n.1 W (n.2.2.map fun a => acc.getD a.toNat 0) (by omega) (by omega)
      rw [Int.toNat_natCast] at this
      omega
theorem valN_word {W : Nat} (h1 : 1 ≤ W) (h2 : W ≤ 64) (vals acc : List Int) {n : PNode} (hn : NodeGood W n) : 0 ≤ valN W vals acc n ∧ valN W vals acc n < ((2 ^ W : Nat) : Int) := by
  have hq := pow_pos2 W
  unfold valN
  split
  · rcases hn with ⟨_, h, _⟩ | ⟨h, _⟩ | ⟨h, _⟩
    · omega
    · omega
    · omega
  · split
    · split
      · have := Nat.mod_lt (vals.getD n.2.1 0).toNat hq
        omega
      · omega
    · have := wI_bounds n.1 W (n.2.2.map fun a => acc.getD a.toNat 0) (by omega) (by omega)
      rw [Int.toNat_natCast] at this
      exact this
theorem val_u64 {W : Nat} (h1 : 1 ≤ W) (h2 : W ≤ 64) (vals : List Int) {L : List PNode} (h : WFL L) (i : Nat) : 0 ≤ val W vals L i ∧ val W vals L i ≤ 18446744073709551615 := by
  cases hi : L[i]? with
  | some n => rw [val_at h hi]; exact valN_u64 h1 h2 _ _ (h.ok n (List.mem_of_getElem? hi))
  | none =>
    have : val W vals L i = 0 := by unfold val; rw [List.getD_eq_getElem?_getD, List.getElem?_eq_none (by rw [valsL_len]; exact List.getElem?_eq_none_iff.1 hi)]; rfl
    rw [this]; decide
theorem val_word {W : Nat} (h1 : 1 ≤ W) (h2 : W ≤ 64) (vals : List Int) {L : List PNode} (h : WFL L) (hg : GoodL W L) (i : Nat) : 0 ≤ val W vals L i ∧ val W vals L i < ((2 ^ W : Nat) : Int) := by
  have hq := pow_pos2 W
  cases hi : L[i]? with
  | some n => rw [val_at h hi]; exact valN_word h1 h2 _ _ (hg n (List.mem_of_getElem? hi))
  | none =>
    have : val W vals L i = 0 := by unfold val; rw [List.getD_eq_getElem?_getD, List.getElem?_eq_none (by rw [valsL_len]; exact List.getElem?_eq_none_iff.1 hi)]; rfl
    rw [this]; omega
theorem valN_app {W : Nat} {vals acc : List Int} {n : PNode} (h0 : n.1 ≠ 0) (h1 : n.1 ≠ 1) : valN W vals acc n = wI n.1 W (n.2.2.map fun a => acc.getD a.toNat 0) := by
  unfold valN; rw [if_neg h0, if_neg h1]
theorem valN_const {W : Nat} {vals acc : List Int} {n : PNode} (h0 : n.1 = 0) : valN W vals acc n = n.2.1 := by unfold valN; rw [if_pos h0]
theorem valN_var {W : Nat} {vals acc : List Int} {n : PNode} (h0 : n.1 = 1) (h1 : n.2.1 < vals.length) : valN W vals acc n = (((vals.getD n.2.1 0).toNat % 2 ^ W : Nat) : Int) := by unfold valN; rw [if_neg (by omega), if_pos h0, if_pos h1]
theorem valN_no {W : Nat} {vals acc : List Int} {n : PNode} (h0 : n.1 = 1) (h1 : ¬ n.2.1 < vals.length) : valN W vals acc n = 0 := by unfold valN; rw [if_neg (by omega), if_pos h0, if_neg h1]
end Go.Proofs.Ytofbadmjopefpaa
