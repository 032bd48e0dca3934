/- What a law holds in memory: things with blocks of their own, and blocks that they only read. -/
import Derived.Test.YteofgmjejocleaaEq
import Derived.Test.YteofgmjejocleaaPlainH
namespace Go.Proofs.Yteofgmjejocleaa
open Go.RowKit Go.Maps
set_option maxHeartbeats 400000

theorem SliceOf.at {w : World} {k : IntKind} {b off n cap i : Nat} {xs : List Int} {q : Int} (h : SliceOf w k (.slice (some ⟨b, off, none⟩) n cap) xs) (hq : xs[i]? = some q) : w.cell? ⟨b, off + i, none⟩ = some (.int k q) := by
  obtain ⟨a, n', c', e, hl, hc⟩ := h
  simp only [Value.slice.injEq] at e
  obtain ⟨rfl, rfl, rfl⟩ := e
  have hlt := (List.getElem?_eq_some_iff.1 hq).1
  obtain ⟨b', off', e', hcell⟩ := hc i (by omega)
  simp only [Option.some.injEq, Addr.mk.injEq, and_true] at e'
  obtain ⟨rfl, rfl⟩ := e'
  rw [hcell]
  rw [List.getElem?_eq_getElem hlt] at hq
  simp at hq
  simp [hlt, hq]
/-- A thing in memory: the blocks that it owns, those that it reads, and what is known of them. -/
structure Thing where
  W : List Nat
  R : List Nat
  holds : World → Prop
  keep : ∀ w w', holds w → (∀ k, k ∈ W ∨ k ∈ R → w'.heap[k]? = w.heap[k]?) → holds w'
/-- Two things do not write what the other one has. -/
def Apart (s t : Thing) : Prop := (∀ k, k ∈ s.W → k ∉ t.W ∧ k ∉ t.R) ∧ ∀ k, k ∈ s.R → k ∉ t.W
theorem Apart.symm {s t : Thing} (h : Apart s t) : Apart t s :=
  ⟨fun k hk => ⟨fun hm => (h.1 k hm).1 hk, fun hm => h.2 k hm hk⟩, fun k hk hm => (h.1 k hm).2 hk⟩
structure Lab (w0 wr : World) (ts : List Thing) : Prop where
  below : Below w0.heap.size w0 wr
  holds : ∀ t ∈ ts, t.holds wr
  low : ∀ t ∈ ts, ∀ k, k ∈ t.W → w0.heap.size ≤ k
  high : ∀ t ∈ ts, ∀ k, k ∈ t.W ∨ k ∈ t.R → k < wr.heap.size
  apart : ts.Pairwise Apart
section
variable {w0 wr w' : World} {s s' : Thing} {ts : List Thing}
theorem Lab.head (h : Lab w0 wr (s :: ts)) : s.holds wr := h.holds s (by simp)
theorem Lab.second {t : Thing} (h : Lab w0 wr (s :: t :: ts)) : t.holds wr := h.holds t (by simp)
theorem Lab.third {t u : Thing} (h : Lab w0 wr (s :: t :: u :: ts)) : u.holds wr := h.holds u (by simp)
theorem Lab.fourth {t u v : Thing} (h : Lab w0 wr (s :: t :: u :: v :: ts)) : v.holds wr := h.holds v (by simp)
theorem Lab.nil {w0 wr : World} (h : Below w0.heap.size w0 wr) : Lab w0 wr [] := ⟨h, by simp, by simp, by simp, .nil⟩
theorem Lab.size (h : Lab w0 wr ts) : w0.heap.size ≤ wr.heap.size := h.below.size
theorem Lab.drop (h : Lab w0 wr (s :: ts)) : Lab w0 wr ts :=
  ⟨h.below, fun t ht => h.holds t (by simp [ht]), fun t ht => h.low t (by simp [ht]), fun t ht => h.high t (by simp [ht]), (List.pairwise_cons.1 h.apart).2⟩
theorem Lab.swap {t : Thing} (h : Lab w0 wr (s :: t :: ts)) : Lab w0 wr (t :: s :: ts) := by
  have hm : ∀ x, x ∈ t :: s :: ts → x ∈ s :: t :: ts := by intro x hx; simp at hx ⊢; rcases hx with h | h | h <;> simp [h]
  refine ⟨h.below, fun x hx => h.holds x (hm x hx), fun x hx => h.low x (hm x hx), fun x hx => h.high x (hm x hx), ?_⟩
  have hp := h.apart
  rw [List.pairwise_cons, List.pairwise_cons] at hp ⊢
  refine ⟨fun a ha => ?_, fun a ha => hp.1 a (by simp [ha]), hp.2.2⟩
  rcases List.mem_cons.1 ha with rfl | ha
  · exact (hp.1 t (by simp)).symm
  · exact hp.2.1 a ha
/-- The third thing comes to the front. -/
theorem Lab.rot3 {t u : Thing} (h : Lab w0 wr (s :: t :: u :: ts)) : Lab w0 wr (u :: s :: t :: ts) := by
  have hm : ∀ x, x ∈ u :: s :: t :: ts → x ∈ s :: t :: u :: ts := by intro x hx; simp at hx ⊢; rcases hx with h | h | h | h <;> simp [h]
  refine ⟨h.below, fun x hx => h.holds x (hm x hx), fun x hx => h.low x (hm x hx), fun x hx => h.high x (hm x hx), ?_⟩
  have hp := h.apart
  rw [List.pairwise_cons, List.pairwise_cons, List.pairwise_cons] at hp ⊢
  refine ⟨fun a ha => ?_, fun a ha => ?_, fun a ha => hp.2.1 a (by simp [ha]), hp.2.2.2⟩
  · rcases List.mem_cons.1 ha with rfl | ha
    · exact (hp.1 u (by simp)).symm
    · rcases List.mem_cons.1 ha with rfl | ha
      · exact (hp.2.1 u (by simp)).symm
      · exact hp.2.2.1 a ha
  · rcases List.mem_cons.1 ha with rfl | ha
    · exact hp.1 _ (by simp)
    · exact hp.1 a (by simp [ha])
theorem Lab.rot3' {t u : Thing} (h : Lab w0 wr (s :: t :: u :: ts)) : Lab w0 wr (t :: u :: s :: ts) := h.rot3.rot3
/-- What makes memory and turns nothing that there was. -/
theorem Lab.later (h : Lab w0 wr ts) (hb : Below wr.heap.size wr w') : Lab w0 w' ts :=
  ⟨h.below.trans (hb.mono h.size), fun t ht => t.keep _ _ (h.holds t ht) fun k hk => hb.block k (h.high t ht k hk), h.low, fun t ht k hk => Nat.lt_of_lt_of_le (h.high t ht k hk) hb.size, h.apart⟩
/-- The first thing turns. -/
theorem Lab.turn (h : Lab w0 wr (s :: ts)) (ht : Touch s.W wr w') (hs : s'.holds w') (hW : ∀ k, k ∈ s'.W → k ∈ s.W ∨ wr.heap.size ≤ k) (hR : ∀ k, k ∈ s'.R → k ∈ s.R ∨ wr.heap.size ≤ k) (hz : ∀ k, k ∈ s'.W ∨ k ∈ s'.R → k < w'.heap.size) : Lab w0 w' (s' :: ts) := by
  have hp := List.pairwise_cons.1 h.apart
  refine ⟨ht.below h.below h.size (h.low s (by simp)), fun t hm => ?_, fun t hm k hk => ?_, fun t hm k hk => ?_, ?_⟩
  · rcases List.mem_cons.1 hm with rfl | hm
    · exact hs
    · exact t.keep _ _ (h.holds t (by simp [hm])) fun k hk => ht.block k (h.high t (by simp [hm]) k hk) fun hsW => hk.elim (fun hw => ((hp.1 t hm).1 k hsW).1 hw) (fun hr => ((hp.1 t hm).1 k hsW).2 hr)
  · rcases List.mem_cons.1 hm with rfl | hm
    · exact (hW k hk).elim (h.low s (by simp) k) (fun hl => Nat.le_trans h.size hl)
    · exact h.low t (by simp [hm]) k hk
  · rcases List.mem_cons.1 hm with rfl | hm
    · exact hz k hk
    · exact Nat.lt_of_lt_of_le (h.high t (by simp [hm]) k hk) ht.size
  · rw [List.pairwise_cons]
    refine ⟨fun t hm => ⟨fun k hk => ⟨fun htW => ?_, fun htR => ?_⟩, fun k hk htW => ?_⟩, hp.2⟩
    · exact (hW k hk).elim (fun hs => ((hp.1 t hm).1 k hs).1 htW) (fun hl => by have := h.high t (by simp [hm]) k (.inl htW); omega)
    · exact (hW k hk).elim (fun hs => ((hp.1 t hm).1 k hs).2 htR) (fun hl => by have := h.high t (by simp [hm]) k (.inr htR); omega)
    · exact (hR k hk).elim (fun hs => (hp.1 t hm).2 k hs htW) (fun hl => by have := h.high t (by simp [hm]) k (.inl htW); omega)
/-- A thing of new blocks. -/
theorem Lab.new (h : Lab w0 wr ts) (hb : Below wr.heap.size wr w') (hs : s.holds w') (hW : ∀ k, k ∈ s.W → wr.heap.size ≤ k) (hR : ∀ k, k ∈ s.R → (∀ t ∈ ts, k ∉ t.W)) (hz : ∀ k, k ∈ s.W ∨ k ∈ s.R → k < w'.heap.size) : Lab w0 w' (s :: ts) := by
  have hl := h.later hb
  refine ⟨hl.below, fun t hm => ?_, fun t hm k hk => ?_, fun t hm k hk => ?_, ?_⟩
  · rcases List.mem_cons.1 hm with rfl | hm
    · exact hs
    · exact hl.holds t hm
  · rcases List.mem_cons.1 hm with rfl | hm
    · exact Nat.le_trans h.size (hW k hk)
    · exact hl.low t hm k hk
  · rcases List.mem_cons.1 hm with rfl | hm
    · exact hz k hk
    · exact hl.high t hm k hk
  · rw [List.pairwise_cons]
    refine ⟨fun t hm => ⟨fun k hk => ⟨fun htW => ?_, fun htR => ?_⟩, fun k hk htW => hR k hk t hm htW⟩, hl.apart⟩
    · have := h.high t hm k (.inl htW); have := hW k hk; omega
    · have := h.high t hm k (.inr htR); have := hW k hk; omega
end

theorem ownsRow_mono0 {w : World} {base E size n : Nat} {v : Value} {xs : List Value} (h : w.ownsRow base E size v n xs) : w.ownsRow 0 E size v n xs := by
  refine ⟨h.1, ?_⟩
  rcases h.2 with hn | ⟨g, cap, cur, hv, hg, r⟩
  · exact .inl hn
  · exact .inr ⟨g, cap, cur, hv, Nat.zero_le _, r⟩
/-- The things: a row, a graph, a block. -/
def Thing.row (E size : Nat) (v : Value) (n : Nat) (cells : List Value) : Thing :=
  ⟨v.ownBlock.toList, [], fun w => w.ownsRow 0 E size v n cells, fun _ _ h hk => owns_keep h fun k hm => hk k (.inl (by simp [hm]))⟩
def Thing.ints (v : Value) (xs : List Int) : Thing := Thing.row 3 1 v xs.length (xs.map (Value.int .i64))
def Thing.box (b T : Nat) (arr : Array Value) : Thing :=
  ⟨[b], [], fun w => w.heap[b]? = some (.cells arr T (0, 0)), fun _ _ h hk => (hk b (.inl (by simp))).trans h⟩
def Thing.graph (F I : List Nat) (gb W room : Nat) (L : List PNode) : Thing :=
  ⟨F, I, fun w => Gr w 0 F I gb W room L, fun _ _ h hk => h.keep (fun k hm => hk k (.inl hm)) (fun k hm _ => hk k (.inr hm))⟩
section
variable {w0 wr w' : World} {ts : List Thing} {F I : List Nat} {gb W room : Nat} {L : List PNode}
theorem Lab.gr (h : Lab w0 wr (Thing.graph F I gb W room L :: ts)) : Gr wr 0 F I gb W room L := h.head
theorem Lab.ints {v : Value} {xs : List Int} (h : Lab w0 wr (Thing.ints v xs :: ts)) : OwnInts wr 0 3 .i64 v xs := h.head
theorem Lab.ints2 {x : Thing} {v : Value} {xs : List Int} (h : Lab w0 wr (x :: Thing.ints v xs :: ts)) : OwnInts wr 0 3 .i64 v xs := h.second
theorem Lab.ints3 {x y : Thing} {v : Value} {xs : List Int} (h : Lab w0 wr (x :: y :: Thing.ints v xs :: ts)) : OwnInts wr 0 3 .i64 v xs := h.third
theorem Lab.ints4 {x y z : Thing} {v : Value} {xs : List Int} (h : Lab w0 wr (x :: y :: z :: Thing.ints v xs :: ts)) : OwnInts wr 0 3 .i64 v xs := h.fourth
theorem Lab.box1 {b T : Nat} {arr : Array Value} (h : Lab w0 wr (Thing.box b T arr :: ts)) : wr.heap[b]? = some (.cells arr T (0, 0)) := h.head
theorem Lab.box2 {x : Thing} {b T : Nat} {arr : Array Value} (h : Lab w0 wr (x :: Thing.box b T arr :: ts)) : wr.heap[b]? = some (.cells arr T (0, 0)) := h.second
theorem Lab.box3 {x y : Thing} {b T : Nat} {arr : Array Value} (h : Lab w0 wr (x :: y :: Thing.box b T arr :: ts)) : wr.heap[b]? = some (.cells arr T (0, 0)) := h.third
theorem Lab.mem_ints {v : Value} {xs : List Int} (h : Lab w0 wr ts) (hm : Thing.ints v xs ∈ ts) : OwnInts wr 0 3 .i64 v xs := h.holds _ hm
theorem Lab.mem_box {b T : Nat} {arr : Array Value} (h : Lab w0 wr ts) (hm : Thing.box b T arr ∈ ts) : wr.heap[b]? = some (.cells arr T (0, 0)) := h.holds _ hm
theorem Gr.drewN (h : Gr wr 0 F I gb W room L) (n : Nat) : Gr (wr.drewN n) 0 F I gb W room L := h.later (below_drewN (Below.refl _ _) n)
theorem Lab.drewN (h : Lab w0 wr ts) (n : Nat) : Lab w0 (wr.drewN n) ts := h.later (below_drewN (Below.refl _ _) n)
theorem len_quiet (h : Gr wr 0 F I gb W room L) (n : Nat) : Calls Try.prog 26 #[.pointer (some ⟨gb, 0, none⟩)] (wr.drewN n) fun e w' => e = .returned (.int .i64 L.length) ∧ ∃ m, w' = wr.drewN m :=
  (len_any (h.drewN n)).mono fun _ _ ⟨a, b⟩ => ⟨a, n, b.symm⟩
/-- A graph's call. -/
theorem Lab.gpost {R : List PNode × Nat × Nat} {e : Ending} (h : Lab w0 wr (Thing.graph F I gb W room L :: ts)) (hp : GPost wr 0 F I gb W room R e w') :
    ∃ F' I', e = .returned (.tuple #[.int .i64 R.2.1, .int .i64 R.2.2]) ∧ Lab w0 w' (Thing.graph F' I' gb W room R.1 :: ts) := by
  obtain ⟨F', I', he, hg, ht, hF, hI⟩ := hp
  refine ⟨F', I'.filter fun k => decide (k < w'.heap.size), he, h.turn (s' := Thing.graph F' _ gb W room R.1) ht hg.inI hF (fun k hk => ?_) (fun k hk => ?_)⟩
  · exact hI k (List.mem_filter.1 hk).1
  · rcases hk with hk | hk
    · exact hg.lt k hk
    · simpa using (List.mem_filter.1 hk).2
/-- A new row of ints. -/
theorem Lab.new_row {E size n : Nat} {v : Value} {cells : List Value} (h : Lab w0 wr ts) (hb : Below wr.heap.size wr w') (hv : w'.ownsRow wr.heap.size E size v n cells) : Lab w0 w' (Thing.row E size v n cells :: ts) := by
  refine h.new (s := Thing.row E size v n cells) hb (ownsRow_mono0 hv) (fun k hk => (hv.lt k (by simpa [Thing.row] using hk)).1) (fun k hk => by simp [Thing.row] at hk) (fun k hk => ?_)
  rcases hk with hk | hk
  · exact (hv.lt k (by simpa [Thing.row] using hk)).2
  · simp [Thing.row] at hk
theorem Lab.new_ints {v : Value} {xs : List Int} (h : Lab w0 wr ts) (hb : Below wr.heap.size wr w') (hv : OwnInts w' wr.heap.size 3 .i64 v xs) : Lab w0 w' (Thing.ints v xs :: ts) := h.new_row hb hv
/-- A block is laid. -/
theorem Lab.alloc (h : Lab w0 wr ts) (arr : Array Value) (T : Nat) : Lab w0 (wr.alloc (.cells arr T)) (Thing.box wr.heap.size T arr :: ts) := by
  refine h.new (s := Thing.box wr.heap.size T arr) (below_new wr _) (heap_alloc_new wr _) (fun k hk => by simp [Thing.box] at hk; omega) (fun k hk => by simp [Thing.box] at hk) (fun k hk => ?_)
  rcases hk with hk | hk
  · simp [Thing.box] at hk; simp; omega
  · simp [Thing.box] at hk
/-- A node that was taken. -/
theorem Lab.node_at (h : Lab w0 wr (Thing.graph F I gb W room L :: ts)) (i : Nat) (n : PNode) (hi : L[i]? = some n) :
    Calls Try.prog 27 #[.pointer (some ⟨gb, 0, none⟩), .int .i64 i] wr fun e w' => ∃ a m c, e = .returned (.tuple #[.agg #[.int .u8 n.1, .int .u64 n.2.1, .slice a m c], .int .i64 0]) ∧ Lab w0 w' (Thing.graph F I gb W room L :: Thing.ints (.slice a m c) n.2.2 :: ts) := by
  refine (Go.Proofs.Yteofgmjejocleaa.node_at h.gr i n hi).mono ?_
  rintro e w' ⟨va, rfl, hva, hb⟩
  obtain ⟨a, m, c, rfl⟩ := hva.val
  exact ⟨a, m, c, rfl, (h.new_ints hb hva).swap⟩
/-- A nil slice has no block. -/
theorem Lab.nil_ints (h : Lab w0 wr ts) : Lab w0 wr (Thing.ints (.slice none 0 0) [] :: ts) := h.new_ints (Below.refl _ _) (OwnInts.nil _ _ _ _)
/-- An own slice of ints has grown. -/
theorem Lab.grown_ints {v : Value} {xs : List Int} {a' : Option Addr} {c' m : Nat} {q : Int} (h : Lab w0 wr (Thing.ints v xs :: ts)) (hown : OwnInts w' 0 3 .i64 (.slice a' m c') (xs ++ [q])) (ht : Touch v.ownBlock.toList wr w') (hb : ∀ b, (Value.slice a' m c').ownBlock = some b → v.ownBlock = some b ∨ wr.heap.size ≤ b) :
    Lab w0 w' (Thing.ints (.slice a' m c') (xs ++ [q]) :: ts) := by
  refine h.turn (s' := Thing.ints (.slice a' m c') (xs ++ [q])) ht hown (fun k hk => ?_) (fun k hk => by simp [Thing.ints, Thing.row] at hk) (fun k hk => ?_)
  · have hk' : (Value.slice a' m c').ownBlock = some k := by simpa [Thing.ints, Thing.row] using hk
    exact (hb k hk').imp (fun e => by simp [Thing.ints, Thing.row, e]) id
  · rcases hk with hk | hk
    · exact (World.ownsRow.lt hown k (by simpa [Thing.ints, Thing.row] using hk)).2
    · simp [Thing.ints, Thing.row] at hk
/-- Fill, at a law's beginning. -/
theorem fill_lab {w : World} (Wi : Int) (v : Value) (qs : List PAsk) (hv : AsksOf w v qs) (hq : qs.length ≤ 9223372036854775807) :
    Calls Try.prog 25 #[.int .i64 Wi, v] w fun e w' => ∃ gb F I a m c, e = .returned (.tuple #[.pointer (some ⟨gb, 0, none⟩), .slice a m c]) ∧
      Lab w w' [Thing.graph F I gb ((Wi % 64).toNat + 1) 1048576 (fillS ((Wi % 64).toNat + 1) (qs.take 120)).1, Thing.ints (.slice a m c) (fillS ((Wi % 64).toNat + 1) (qs.take 120)).2] := by
  refine (fill_any Wi v qs hv hq).mono ?_
  rintro e w' ⟨gb, F, I, vo, rfl, hg, ho, hni, hb⟩
  obtain ⟨a, m, c, rfl⟩ := ho.val
  refine ⟨gb, F, I.filter fun k => decide (k < w'.heap.size), a, m, c, rfl, hb, ?_, ?_, ?_, ?_⟩
  · intro t ht
    simp only [List.mem_cons, List.not_mem_nil, or_false] at ht
    rcases ht with rfl | rfl
    · exact (hg.mono (Nat.zero_le _)).inI
    · exact ownsRow_mono0 ho
  · intro t ht k hk
    simp only [List.mem_cons, List.not_mem_nil, or_false] at ht
    rcases ht with rfl | rfl
    · exact hg.base_le k hk
    · exact (ho.lt k (by simpa [Thing.ints, Thing.row] using hk)).1
  · intro t ht k hk
    simp only [List.mem_cons, List.not_mem_nil, or_false] at ht
    rcases ht with rfl | rfl
    · rcases hk with hk | hk
      · exact hg.lt k hk
      · simpa using (List.mem_filter.1 hk).2
    · rcases hk with hk | hk
      · exact (ho.lt k (by simpa [Thing.ints, Thing.row] using hk)).2
      · simp [Thing.ints, Thing.row] at hk
  · refine List.pairwise_cons.2 ⟨fun t ht => ?_, by simp⟩
    obtain rfl : t = Thing.ints (.slice a m c) (fillS ((Wi % 64).toNat + 1) (qs.take 120)).2 := by simpa using ht
    refine ⟨fun k hk => ⟨fun hm => ?_, fun hm => by simp [Thing.ints, Thing.row] at hm⟩, fun k hk hm => ?_⟩
    · exact hg.not_own (by decide) (by decide) ho k (by simpa [Thing.ints, Thing.row] using hm) hk
    · exact hni k (by simpa [Thing.ints, Thing.row] using hm) (List.mem_filter.1 hk).1
end
end Go.Proofs.Yteofgmjejocleaa
