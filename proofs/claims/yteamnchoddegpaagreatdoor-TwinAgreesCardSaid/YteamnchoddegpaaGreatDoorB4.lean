/- Sep, Lab: joined by wip/bundle.py. -/
import Derived.Test.YteamnchoddegpaaGreatDoorB1
import Derived.Test.YteamnchoddegpaaGreatDoorB2
import Derived.Test.YteamnchoddegpaaGreatDoorB3
import Derived.Deep.Slices
import Derived.Deep.Fields
import Derived.ChangeSame
import Derived.OpenShut
import Derived.Deep.DeepCutAuto
import Derived.Deep.CutBlock
import Derived.Deep.RegionHeld3
import Derived.BigQuiet
namespace Go.Proofs.YteamnchoddegpaaGreatDoor
open Go.RowKit Go.Maps
set_option maxHeartbeats 400000
section
variable {w w' : World} {base base' : Nat} {F I : List Nat} {gb W room : Nat} {L : List PNode}
theorem owns_keep {E size n : Nat} {v : Value} {xs : List Value} (h : w.ownsRow base E size v n xs) (hw : ∀ k, v.ownBlock = some k → w'.heap[k]? = w.heap[k]?) : w'.ownsRow base E size v n xs := by
  refine ⟨h.1, ?_⟩
  rcases h.2 with hn | ⟨g, cap, cur, rfl, hb, hg, r⟩
  · exact .inl hn
  · exact .inr ⟨g, cap, cur, rfl, hb, by rw [hw g rfl, hg], r⟩
theorem OwnInts.keep {E : Nat} {k : IntKind} {v : Value} {xs : List Int} (h : OwnInts w base E k v xs) (hw : ∀ k, v.ownBlock = some k → w'.heap[k]? = w.heap[k]?) : OwnInts w' base E k v xs := owns_keep h hw
/-- No block of another type is one that a graph's call may write. -/
theorem Gr.not_of (h : Gr w base F I gb W room L) {k E : Nat} {arr : Array Value} {fr : Nat × Nat} (h1 : E ≠ 102) (h2 : E ≠ 88) (hk : w.heap[k]? = some (.cells arr E fr)) : k ∉ F := by
  obtain ⟨sv, mb, cells, rfl, _, _, h3, h4, _, h6⟩ := h.mem
  intro hm
  simp only [List.mem_cons] at hm
  rcases hm with rfl | rfl | hm
  · rw [h3] at hk; simp at hk; exact h1 hk.2.1.symm
  · obtain ⟨es, c, h7, _⟩ := h6
    rw [h7] at hk; simp at hk
  · have hk' : sv.ownBlock = some k := by simpa using hm
    rcases h4.2 with ⟨rfl, _⟩ | ⟨g, cap, cur, rfl, hb, hg, _⟩
    · simp [Value.ownBlock] at hk'
    · simp [Value.ownBlock] at hk'
      subst hk'
      rw [hg] at hk; simp at hk; exact h2 hk.2.1.symm
theorem Gr.not_own (h : Gr w base F I gb W room L) {E size n : Nat} {v : Value} {xs : List Value} (h1 : E ≠ 102) (h2 : E ≠ 88) (ho : w.ownsRow base' E size v n xs) : ∀ b, v.ownBlock = some b → b ∉ F := by
  intro b hb
  rcases ho.2 with ⟨rfl, _⟩ | ⟨g, cap, cur, rfl, _, hg, _⟩
  · simp [Value.ownBlock] at hb
  · simp only [Value.ownBlock, Option.some.injEq] at hb
    subst hb
    exact h.not_of h1 h2 hg
/-- A graph's call leaves an own row of another type. -/
theorem Touch.owns (ht : Touch F w w') (h : Gr w base F I gb W room L) {E size n : Nat} {v : Value} {xs : List Value} (h1 : E ≠ 102) (h2 : E ≠ 88) (ho : w.ownsRow base' E size v n xs) : w'.ownsRow base' E size v n xs :=
  owns_keep ho fun k hk => ht.block k (ho.lt k hk).2 (h.not_own h1 h2 ho k hk)
theorem Touch.ints (ht : Touch F w w') (h : Gr w base F I gb W room L) {v : Value} {xs : List Int} (ho : OwnInts w base' 3 .i64 v xs) : OwnInts w' base' 3 .i64 v xs :=
  Touch.owns ht h (by decide) (by decide) ho
/-- The blocks of the arguments are there: others may be left out. -/
theorem Gr.inI (h : Gr w base F I gb W room L) : Gr w base F (I.filter fun k => decide (k < w.heap.size)) gb W room L := by
  obtain ⟨sv, mb, cells, hF, h1, h2, h3, h4, h5, h6⟩ := h.mem
  refine ⟨h.wf, h.len, h.w1, h.w2, h.r2, sv, mb, cells, hF, h1, h2, h3, h4, ⟨h5.1, fun i n hn => ?_⟩, h6⟩
  obtain ⟨va, k1, k2, k3, k4, k5⟩ := h5.2 i n hn
  exact ⟨va, k1, k2, k3, k4, fun k hk => ⟨List.mem_filter.2 ⟨(k5 k hk).1, by simpa using (k5 k hk).2.lt⟩, (k5 k hk).2⟩⟩
end
section
variable {P : Program}
theorem srcOf_new (wr : World) (x : Value) (E : Nat) : SrcOf (wr.alloc (.cells #[x] E)) (.slice (some ⟨wr.heap.size, 0, none⟩) 1 1) 1 1 [x] := by
  refine ⟨_, _, rfl, rfl, fun _ => ⟨_, rfl, fun j u hu => ?_⟩⟩
  rw [Go.WideShapes.add_plain, World.cell?_alloc_at _ _ _ _ rfl, Nat.zero_add, ← hu]
  simp
end
end Go.Proofs.YteamnchoddegpaaGreatDoor
namespace Go.Proofs.YteamnchoddegpaaGreatDoor
open Go.RowKit Go.Maps
set_option maxHeartbeats 800000
theorem take_eq_all {α : Type} {xs ys : List α} {n : Nat} (h1 : xs.length = n) (h2 : ys.length = n) (h : xs.take n = ys.take n) : xs = ys := by
  rwa [List.take_of_length_le (by omega), List.take_of_length_le (by omega)] at h
theorem take_ne {α : Type} {xs ys : List α} {k : Nat} {p q : α} (h1 : xs[k]? = some p) (h2 : ys[k]? = some q) (h : p ≠ q) : xs ≠ ys := by
  rintro rfl
  rw [h1] at h2
  exact h (Option.some.inj h2)
theorem equalInts_any {w : World} (va vb : Value) (xs ys : List Int) (ha : SliceOf w .i64 va xs) (hb : SliceOf w .i64 vb ys) (hx : xs.length ≤ 9223372036854775807) (hy : ys.length ≤ 9223372036854775807) :
    Calls Tryz.prog 89 #[va, vb] w fun e w' => e = .returned (.bool (decide (xs = ys))) ∧ Below w.heap.size w w' := by
  obtain ⟨B, hB⟩ : ∃ B, decide (xs = ys) = B := ⟨_, rfl⟩
  rw [hB]
  obtain ⟨a, n, cap, rfl, hna, hca⟩ := ha.parts
  obtain ⟨b, m, cap', rfl, hnb, hcb⟩ := hb.parts
  rw [hna] at hx
  rw [hnb] at hy
  have HB := Lib.hid hB; have HN := Lib.hid (And.intro hna hnb); have HA := Lib.hid hca; have HC := Lib.hid hcb
  clear ha hb hna hnb hca hcb hB
  by_cases hl : n = m
  · subst hl
    have ht : ((n : Int) != (n : Int)) = false := by simp
    go_enter Tryz.func89, Tryz.ntmps89
    go_wp2
    go_loopw [5] (fun i wr => ∃ k : Nat, k ≤ n ∧ i = .int .i64 k ∧ xs.take k = ys.take k ∧ Below w.heap.size w wr) (fun i _ => n - (intOf i).toNat)
    case atStart => exact ⟨0, by omega, rfl, rfl, Below.refl _ _⟩
    case round =>
      obtain ⟨k, hk, rfl, he, hbr⟩ := hrel
      have HE := Lib.hid he; have HBR := Lib.hid hbr
      clear he hbr
      by_cases hlt : k < n
      · obtain ⟨g, off, p, rfl, hc1, hp⟩ := HA.out k hlt
        obtain ⟨g', off', q, rfl, hc2, hq⟩ := HC.out k hlt
        have d1 := cell_later HBR.out hc1
        have d2 := cell_later HBR.out hc2
        have HP := Lib.hid (And.intro hp hq)
        have hlz : decide ((k : Int) < (n : Int)) = true := decide_eq_true (by omega)
        clear hc1 hc2 hp hq
        by_cases hpq : p = q
        · subst hpq
          have ht2 : (p != p) = false := by simp
          have hs := HE.out
          have hs2 : xs.take (k + 1) = ys.take (k + 1) := by rw [← take_snoc' HP.out.1, ← take_snoc' HP.out.2, hs]
          have HS := Lib.hid hs2
          clear hs hs2
          go_wp2
          go_quiet (fail)
          go_wp2
          go_roundw
          case rel => exact ⟨k + 1, by omega, by go_num, HS.out, below_drewN HBR.out _⟩
          case measure => simp [intOf]; omega
        · have ht2 : (p != q) = true := by simpa using hpq
          have hf : B = false := by rw [← HB.out]; exact decide_eq_false (take_ne HP.out.1 HP.out.2 hpq)
          subst hf
          clear hpq
          go_wp2
          go_quiet (fail)
          go_wp2
          go_ret
          exact ⟨rfl, below_drewN HBR.out _⟩
      · obtain rfl : k = n := by omega
        have hf : B = true := by rw [← HB.out]; exact decide_eq_true (take_eq_all HN.out.1 HN.out.2 HE.out)
        subst hf
        go_wp2
        go_ret
        exact ⟨rfl, HBR.out⟩
  · have ht : ((n : Int) != (m : Int)) = true := by rw [bne_iff_ne]; omega
    have hf : B = false := by rw [← HB.out]; exact decide_eq_false (fun e => by have := HN.out; rw [e] at this; omega)
    subst hf
    clear hl
    go_enter Tryz.func89, Tryz.ntmps89
    go_wp2
    go_ret
    exact ⟨rfl, Below.refl _ _⟩
/-- A node, as a value. -/
def NodeV (w : World) (v : Value) (n : PNode) : Prop := ∃ va, v = .agg #[.int .u8 n.1, .int .u64 n.2.1, va] ∧ SliceOf w .i64 va n.2.2 ∧ n.2.2.length ≤ 9223372036854775807
theorem equalNode_any {w : World} (va vb : Value) (n m : PNode) (ha : NodeV w va n) (hb : NodeV w vb m) :
    Calls Tryz.prog 80 #[va, vb] w fun e w' => e = .returned (.bool (decide (n = m))) ∧ Below w.heap.size w w' := by
  obtain ⟨B, hB⟩ : ∃ B, decide (n = m) = B := ⟨_, rfl⟩
  rw [hB]
  obtain ⟨o1, q1, xs⟩ := n
  obtain ⟨o2, q2, ys⟩ := m
  obtain ⟨va, rfl, ha, hx⟩ := ha
  obtain ⟨vb, rfl, hb, hy⟩ := hb
  simp only at ha hb hx hy
  have HB := Lib.hid hB; have HA := Lib.hid ha; have HC := Lib.hid hb
  obtain ⟨a, n, cap, rfl, -, -⟩ := ha.parts
  obtain ⟨b, m, cap', rfl, -, -⟩ := hb.parts
  clear ha hb hB
  by_cases h1 : o1 = o2
  · subst h1
    by_cases h2 : q1 = q2
    · subst h2
      have hB := Lib.hid (show decide (xs = ys) = B by rw [← HB.out]; simp)
      go_enter Tryz.func80, Tryz.ntmps80
      go_wp2_with fail
      go_at_call 89
      refine (equalInts_any _ _ xs ys ((HA.out.below (below_new _ _)).below (below_new _ _)) ((HC.out.below (below_new _ _)).below (below_new _ _)) hx hy).mono ?_
      rw [hB.out]
      rintro e w2 ⟨rfl, hb2⟩
      go_wp2
      go_ret
      exact ⟨rfl, ((below_new w _).alloc (by simp) _).trans (hb2.mono (by simp; omega))⟩
    · have ht : ((q1 : Int) == (q2 : Int)) = false := by rw [beq_eq_false_iff_ne]; omega
      have hf : B = false := by rw [← HB.out]; simp [h2]
      subst hf
      clear h2
      go_enter Tryz.func80, Tryz.ntmps80
      go_wp2
      go_ret
      exact ⟨rfl, (below_new w _).alloc (by simp) _⟩
  · have ht : ((o1 : Int) == (o2 : Int)) = false := by rw [beq_eq_false_iff_ne]; omega
    have hf : B = false := by rw [← HB.out]; simp [h1]
    subst hf
    clear h1
    go_enter Tryz.func80, Tryz.ntmps80
    go_wp2
    go_ret
    exact ⟨rfl, (below_new w _).alloc (by simp) _⟩
end Go.Proofs.YteamnchoddegpaaGreatDoor
namespace Go.Proofs.YteamnchoddegpaaGreatDoor
open Go.RowKit Go.Maps
set_option maxHeartbeats 800000
theorem list5 (cs : List Value) (h : cs.length = 5) : ∃ c0 c1 c2 c3 c4, cs = [c0, c1, c2, c3, c4] := by
  match cs, h with
  | [c0, c1, c2, c3, c4], _ => exact ⟨_, _, _, _, _, rfl⟩
/-- A list of what is asked for. -/
def AsksOf (w : World) (v : Value) (qs : List PAsk) : Prop :=
  ∃ a n cap, v = .slice a n cap ∧ qs.length = n ∧ ∀ i, i < n → ∃ b off x va, a = some ⟨b, off, none⟩ ∧ qs[i]? = some x ∧ x.Ok ∧ SliceOf w .i64 va x.2.2.2.2 ∧
    w.cell? ⟨b, off + (i * 5 + 0), none⟩ = some (.int .u8 x.1) ∧ w.cell? ⟨b, off + (i * 5 + 1), none⟩ = some (.int .u8 x.2.1) ∧ w.cell? ⟨b, off + (i * 5 + 2), none⟩ = some (.int .u64 x.2.2.1) ∧
    w.cell? ⟨b, off + (i * 5 + 3), none⟩ = some (.int .i64 x.2.2.2.1) ∧ w.cell? ⟨b, off + (i * 5 + 4), none⟩ = some va
theorem list_of_each {α : Type} {p : Nat → α → Prop} : ∀ n, (∀ i, i < n → ∃ x, p i x) → ∃ l : List α, l.length = n ∧ ∀ i, i < n → ∃ x, l[i]? = some x ∧ p i x
  | 0, _ => ⟨[], rfl, fun i hi => by omega⟩
  | n + 1, h => by
    obtain ⟨l, hl, hp⟩ := list_of_each n (fun i hi => h i (by omega))
    obtain ⟨x, hx⟩ := h n (by omega)
    refine ⟨l ++ [x], by simp [hl], fun i hi => ?_⟩
    rcases Nat.lt_or_ge i n with h1 | h1
    · obtain ⟨y, hy, hpy⟩ := hp i h1
      exact ⟨y, by rw [List.getElem?_append_left (by omega)]; exact hy, hpy⟩
    · obtain rfl : i = n := by omega
      exact ⟨x, by rw [List.getElem?_append_right (by omega)]; simp [hl], hx⟩
theorem AsksOf.nil (w : World) : AsksOf w (.slice none 0 0) [] := ⟨_, _, _, rfl, rfl, fun i hi => by omega⟩
theorem slice_of_trod {H : Type} {enc : TypeId × Value → H} {P : Program} {w : World} {base t e : Nat} {v : Value} {d : DataW H} {p : List MemPlace} (ht : P.underlying t = some (.slice e))
    (h : DataW.Trod enc P w 0 (fun _ => true) true t v d p) (o : Value.okWide P w .any base t v) :
    v = .slice none 0 0 ∨ ∃ (ad : Addr) (n cap fu : Nat) (elems : List (DataW H × List MemPlace)), v = .slice (some ad) n cap ∧ n ≤ cap ∧ cap ≤ maxLen ∧ elems.length = n ∧
      ∀ i, i < n → (w.cells? 0 (ad.add (i * P.cellsOf e)) (P.cellsOf e)).bind (DataW.trod enc P w 0 (fun _ => true) true fu e) = elems[i]? := by
  obtain ⟨a, n, cap, rfl⟩ := Go.WideShapes.okWide_slice ht o
  obtain ⟨fuel, hf⟩ := h
  rcases DataW.trod_slice ht hf with ⟨hcs, _⟩ | ⟨ad, len, cp, elems, rest, fu, _, hcs, _, _, hl, hm, hlen, hel, _⟩
  · simp [Value.cells] at hcs
    obtain ⟨rfl, rfl, rfl⟩ := hcs
    exact .inl rfl
  · simp [Value.cells] at hcs
    obtain ⟨rfl, rfl, rfl⟩ := hcs
    exact .inr ⟨ad, n, cap, fu, elems, rfl, hl, hm, hlen, hel⟩
theorem AsksOf.below {w w' : World} {v : Value} {qs : List PAsk} (h : AsksOf w v qs) (hb : Below w.heap.size w w') : AsksOf w' v qs := by
  obtain ⟨a, n, cap, rfl, hl, hc⟩ := h
  refine ⟨a, n, cap, rfl, hl, fun i hi => ?_⟩
  obtain ⟨b, off, x, va, rfl, hx, hok, hs, c0, c1, c2, c3, c4⟩ := hc i hi
  exact ⟨b, off, x, va, rfl, hx, hok, hs.below hb, cell_later hb c0, cell_later hb c1, cell_later hb c2, cell_later hb c3, cell_later hb c4⟩
theorem AsksOf.take {w : World} {a : Option Addr} {n cap : Nat} {qs : List PAsk} (h : AsksOf w (.slice a n cap) qs) (m cap' : Nat) (hm : m ≤ n) : AsksOf w (.slice a m cap') (qs.take m) := by
  obtain ⟨a', n', c', e, hl, hc⟩ := h
  simp only [Value.slice.injEq] at e
  obtain ⟨rfl, rfl, rfl⟩ := e
  refine ⟨a, m, cap', rfl, by simp [hl, hm], fun i hi => ?_⟩
  obtain ⟨b, off, x, va, rfl, hx, r⟩ := hc i (by omega)
  exact ⟨b, off, x, va, rfl, by rw [List.getElem?_take, if_pos hi]; exact hx, r⟩
/-- One of a list, as the walk reads it. -/
theorem AsksOf.at {w : World} {a : Option Addr} {n cap : Nat} {qs : List PAsk} (h : AsksOf w (.slice a n cap) qs) {i : Nat} (hi : i < n) :
    ∃ b off x va, a = some ⟨b, off, none⟩ ∧ qs[i]? = some x ∧ x.Ok ∧ AskV w (.agg #[.int .u8 x.1, .int .u8 x.2.1, .int .u64 x.2.2.1, .int .i64 x.2.2.2.1, va]) x ∧
    w.cell? ⟨b, off + i * 5, none⟩ = some (.int .u8 x.1) ∧ w.cell? ⟨b, off + i * 5 + 1, none⟩ = some (.int .u8 x.2.1) ∧ w.cell? ⟨b, off + i * 5 + 2, none⟩ = some (.int .u64 x.2.2.1) ∧
    w.cell? ⟨b, off + i * 5 + 3, none⟩ = some (.int .i64 x.2.2.2.1) ∧ w.cell? ⟨b, off + i * 5 + 4, none⟩ = some va := by
  obtain ⟨a', n', c', e, hl, hc⟩ := h
  simp only [Value.slice.injEq] at e
  obtain ⟨rfl, rfl, rfl⟩ := e
  obtain ⟨b, off, x, va, rfl, hx, hok, hs, r⟩ := hc i hi
  simp only [Nat.add_zero, ← Nat.add_assoc] at r
  exact ⟨b, off, x, va, rfl, hx, hok, ⟨va, rfl, hs⟩, r⟩
theorem AsksOf.parts {w : World} {v : Value} {qs : List PAsk} (h : AsksOf w v qs) : ∃ a cap, v = .slice a qs.length cap := by
  obtain ⟨a, n, cap, rfl, hl, _⟩ := h
  exact ⟨a, cap, by rw [hl]⟩
end Go.Proofs.YteamnchoddegpaaGreatDoor
namespace Go.Proofs.YteamnchoddegpaaGreatDoor
open Go.RowKit Go.Maps
set_option maxHeartbeats 800000
theorem snoc_ind {α : Type} {p : List α → Prop} (h0 : p []) (hs : ∀ l a, p l → p (l ++ [a])) (l : List α) : p l := by
  have key : ∀ l : List α, p l.reverse := by
    intro l
    induction l with
    | nil => simpa using h0
    | cons a l ih => simpa using hs _ a ih
  simpa using key l.reverse
end Go.Proofs.YteamnchoddegpaaGreatDoor
namespace Go.Proofs.YteamnchoddegpaaGreatDoor
/-- A node as a graph of a width holds it. -/
def NodeGood (W : Nat) (n : PNode) : Prop := (n.1 = 0 ∧ n.2.1 < 2 ^ W ∧ n.2.2 = []) ∨ (n.1 = 1 ∧ n.2.1 ≤ 4194303 ∧ n.2.2 = []) ∨ (2 ≤ n.1 ∧ n.1 ≤ 21 ∧ n.2.1 = 0 ∧ aryN n.1 = n.2.2.length)
def GoodL (W : Nat) (L : List PNode) : Prop := ∀ n ∈ L, NodeGood W n
theorem GoodL.nil (W : Nat) : GoodL W [] := by simp [GoodL]
theorem aryN_pos {o : Nat} (h : 2 ≤ o) : aryN o ≠ 0 := by
  unfold aryN
  rw [if_neg (by omega)]
  split
  · decide
  · split <;> decide
theorem GoodL.ask {W : Nat} {L : List PNode} (h : GoodL W L) (room : Nat) {n : PNode} (hn : NodeGood W n) : GoodL W (askP room L n).1 := by
  unfold askP
  cases L.findIdx? (· == n) with
  | some t => exact h
  | none =>
    dsimp only
    split
    · exact h
    · intro m hm
      rcases List.mem_append.1 hm with hm | hm
      · exact h m hm
      · simp at hm; subst hm; exact hn
theorem GoodL.const {W : Nat} {L : List PNode} (h : GoodL W L) (room q : Nat) : GoodL W (constR W room L q).1 := h.ask room (.inl ⟨rfl, Nat.mod_lt _ (pow_pos2 W), rfl⟩)
theorem GoodL.var {W : Nat} {L : List PNode} (h : GoodL W L) (room : Nat) (n : Int) : GoodL W (varR room L n).1 := by
  unfold varR
  split
  · exact h.ask room (.inr (.inl ⟨rfl, by show n.toNat ≤ 4194303; omega, rfl⟩))
  · exact h
theorem GoodL.app {W : Nat} {L : List PNode} (h : GoodL W L) (room o : Nat) (xs : List Int) : GoodL W (appR room L o xs).1 := by
  unfold appR
  split
  · rename_i hc
    split
    · refine h.ask room (.inr (.inr ⟨?_, hc.1, rfl, hc.2.2⟩))
      show 2 ≤ o
      have := hc.2.1
      unfold aryN at this
      by_cases h1 : o ≤ 1
      · rw [if_pos h1] at this; omega
      · omega
    · exact h
  · exact h
theorem GoodL.add {W : Nat} {L : List PNode} (h : GoodL W L) (room : Nat) (a : PAsk) : GoodL W (addR W room L a).1 := by
  unfold addR
  split
  · exact h.const room _
  · split
    · exact h.var room _
    · exact h.app room _ _
end Go.Proofs.YteamnchoddegpaaGreatDoor
namespace Go.Proofs.YteamnchoddegpaaGreatDoor
open Go.RowKit Go.Maps
set_option maxHeartbeats 400000
theorem SliceOf.at {w : World} {k : IntKind} {b off n cap i : Nat} {xs : List Int} {q : Int} (h : SliceOf w k (.slice (some ⟨b, off, none⟩) n cap) xs) (hq : xs[i]? = some q) : w.cell? ⟨b, off + i, none⟩ = some (.int k q) := by
  obtain ⟨a, n', c', e, hl, hc⟩ := h
  simp only [Value.slice.injEq] at e
  obtain ⟨rfl, rfl, rfl⟩ := e
  have hlt := (List.getElem?_eq_some_iff.1 hq).1
  obtain ⟨b', off', e', hcell⟩ := hc i (by omega)
  simp only [Option.some.injEq, Addr.mk.injEq, and_true] at e'
  obtain ⟨rfl, rfl⟩ := e'
  rw [hcell]
  rw [List.getElem?_eq_getElem hlt] at hq
  simp at hq
  simp [hlt, hq]
/-- A thing in memory: the blocks that it owns, those that it reads, and what is known of them. -/
structure Thing where
  W : List Nat
  R : List Nat
  holds : World → Prop
  keep : ∀ w w', holds w → (∀ k, k ∈ W ∨ k ∈ R → w'.heap[k]? = w.heap[k]?) → holds w'
/-- Two things do not write what the other one has. -/
def Apart (s t : Thing) : Prop := (∀ k, k ∈ s.W → k ∉ t.W ∧ k ∉ t.R) ∧ ∀ k, k ∈ s.R → k ∉ t.W
theorem Apart.symm {s t : Thing} (h : Apart s t) : Apart t s :=
  ⟨fun k hk => ⟨fun hm => (h.1 k hm).1 hk, fun hm => h.2 k hm hk⟩, fun k hk hm => (h.1 k hm).2 hk⟩
structure Lab (w0 wr : World) (ts : List Thing) : Prop where
  below : Below w0.heap.size w0 wr
  holds : ∀ t ∈ ts, t.holds wr
  low : ∀ t ∈ ts, ∀ k, k ∈ t.W → w0.heap.size ≤ k
  high : ∀ t ∈ ts, ∀ k, k ∈ t.W ∨ k ∈ t.R → k < wr.heap.size
  apart : ts.Pairwise Apart
section
variable {w0 wr w' : World} {s s' : Thing} {ts : List Thing}
theorem Lab.head (h : Lab w0 wr (s :: ts)) : s.holds wr := h.holds s (by simp)
theorem Lab.second {t : Thing} (h : Lab w0 wr (s :: t :: ts)) : t.holds wr := h.holds t (by simp)
theorem Lab.third {t u : Thing} (h : Lab w0 wr (s :: t :: u :: ts)) : u.holds wr := h.holds u (by simp)
theorem Lab.fourth {t u v : Thing} (h : Lab w0 wr (s :: t :: u :: v :: ts)) : v.holds wr := h.holds v (by simp)
theorem Lab.nil {w0 wr : World} (h : Below w0.heap.size w0 wr) : Lab w0 wr [] := ⟨h, by simp, by simp, by simp, .nil⟩
theorem Lab.size (h : Lab w0 wr ts) : w0.heap.size ≤ wr.heap.size := h.below.size
theorem Lab.drop (h : Lab w0 wr (s :: ts)) : Lab w0 wr ts :=
  ⟨h.below, fun t ht => h.holds t (by simp [ht]), fun t ht => h.low t (by simp [ht]), fun t ht => h.high t (by simp [ht]), (List.pairwise_cons.1 h.apart).2⟩
theorem Lab.swap {t : Thing} (h : Lab w0 wr (s :: t :: ts)) : Lab w0 wr (t :: s :: ts) := by
  have hm : ∀ x, x ∈ t :: s :: ts → x ∈ s :: t :: ts := by intro x hx; simp at hx ⊢; rcases hx with h | h | h <;> simp [h]
  refine ⟨h.below, fun x hx => h.holds x (hm x hx), fun x hx => h.low x (hm x hx), fun x hx => h.high x (hm x hx), ?_⟩
  have hp := h.apart
  rw [List.pairwise_cons, List.pairwise_cons] at hp ⊢
  refine ⟨fun a ha => ?_, fun a ha => hp.1 a (by simp [ha]), hp.2.2⟩
  rcases List.mem_cons.1 ha with rfl | ha
  · exact (hp.1 t (by simp)).symm
  · exact hp.2.1 a ha
/-- The third thing comes to the front. -/
theorem Lab.rot3 {t u : Thing} (h : Lab w0 wr (s :: t :: u :: ts)) : Lab w0 wr (u :: s :: t :: ts) := by
  have hm : ∀ x, x ∈ u :: s :: t :: ts → x ∈ s :: t :: u :: ts := by intro x hx; simp at hx ⊢; rcases hx with h | h | h | h <;> simp [h]
  refine ⟨h.below, fun x hx => h.holds x (hm x hx), fun x hx => h.low x (hm x hx), fun x hx => h.high x (hm x hx), ?_⟩
  have hp := h.apart
  rw [List.pairwise_cons, List.pairwise_cons, List.pairwise_cons] at hp ⊢
  refine ⟨fun a ha => ?_, fun a ha => ?_, fun a ha => hp.2.1 a (by simp [ha]), hp.2.2.2⟩
  · rcases List.mem_cons.1 ha with rfl | ha
    · exact (hp.1 u (by simp)).symm
    · rcases List.mem_cons.1 ha with rfl | ha
      · exact (hp.2.1 u (by simp)).symm
      · exact hp.2.2.1 a ha
  · rcases List.mem_cons.1 ha with rfl | ha
    · exact hp.1 _ (by simp)
    · exact hp.1 a (by simp [ha])
theorem Lab.rot3' {t u : Thing} (h : Lab w0 wr (s :: t :: u :: ts)) : Lab w0 wr (t :: u :: s :: ts) := h.rot3.rot3
/-- What makes memory and turns nothing that there was. -/
theorem Lab.later (h : Lab w0 wr ts) (hb : Below wr.heap.size wr w') : Lab w0 w' ts :=
  ⟨h.below.trans (hb.mono h.size), fun t ht => t.keep _ _ (h.holds t ht) fun k hk => hb.block k (h.high t ht k hk), h.low, fun t ht k hk => Nat.lt_of_lt_of_le (h.high t ht k hk) hb.size, h.apart⟩
/-- The first thing turns. -/
theorem Lab.turn (h : Lab w0 wr (s :: ts)) (ht : Touch s.W wr w') (hs : s'.holds w') (hW : ∀ k, k ∈ s'.W → k ∈ s.W ∨ wr.heap.size ≤ k) (hR : ∀ k, k ∈ s'.R → k ∈ s.R ∨ wr.heap.size ≤ k) (hz : ∀ k, k ∈ s'.W ∨ k ∈ s'.R → k < w'.heap.size) : Lab w0 w' (s' :: ts) := by
  have hp := List.pairwise_cons.1 h.apart
  refine ⟨ht.below h.below h.size (h.low s (by simp)), fun t hm => ?_, fun t hm k hk => ?_, fun t hm k hk => ?_, ?_⟩
  · rcases List.mem_cons.1 hm with rfl | hm
    · exact hs
    · exact t.keep _ _ (h.holds t (by simp [hm])) fun k hk => ht.block k (h.high t (by simp [hm]) k hk) fun hsW => hk.elim (fun hw => ((hp.1 t hm).1 k hsW).1 hw) (fun hr => ((hp.1 t hm).1 k hsW).2 hr)
  · rcases List.mem_cons.1 hm with rfl | hm
    · exact (hW k hk).elim (h.low s (by simp) k) (fun hl => Nat.le_trans h.size hl)
    · exact h.low t (by simp [hm]) k hk
  · rcases List.mem_cons.1 hm with rfl | hm
    · exact hz k hk
    · exact Nat.lt_of_lt_of_le (h.high t (by simp [hm]) k hk) ht.size
  · rw [List.pairwise_cons]
    refine ⟨fun t hm => ⟨fun k hk => ⟨fun htW => ?_, fun htR => ?_⟩, fun k hk htW => ?_⟩, hp.2⟩
    · exact (hW k hk).elim (fun hs => ((hp.1 t hm).1 k hs).1 htW) (fun hl => by have := h.high t (by simp [hm]) k (.inl htW); omega)
    · exact (hW k hk).elim (fun hs => ((hp.1 t hm).1 k hs).2 htR) (fun hl => by have := h.high t (by simp [hm]) k (.inr htR); omega)
    · exact (hR k hk).elim (fun hs => (hp.1 t hm).2 k hs htW) (fun hl => by have := h.high t (by simp [hm]) k (.inl htW); omega)
/-- A thing of new blocks. -/
theorem Lab.new (h : Lab w0 wr ts) (hb : Below wr.heap.size wr w') (hs : s.holds w') (hW : ∀ k, k ∈ s.W → wr.heap.size ≤ k) (hR : ∀ k, k ∈ s.R → (∀ t ∈ ts, k ∉ t.W)) (hz : ∀ k, k ∈ s.W ∨ k ∈ s.R → k < w'.heap.size) : Lab w0 w' (s :: ts) := by
  have hl := h.later hb
  refine ⟨hl.below, fun t hm => ?_, fun t hm k hk => ?_, fun t hm k hk => ?_, ?_⟩
  · rcases List.mem_cons.1 hm with rfl | hm
    · exact hs
    · exact hl.holds t hm
  · rcases List.mem_cons.1 hm with rfl | hm
    · exact Nat.le_trans h.size (hW k hk)
    · exact hl.low t hm k hk
  · rcases List.mem_cons.1 hm with rfl | hm
    · exact hz k hk
    · exact hl.high t hm k hk
  · rw [List.pairwise_cons]
    refine ⟨fun t hm => ⟨fun k hk => ⟨fun htW => ?_, fun htR => ?_⟩, fun k hk htW => hR k hk t hm htW⟩, hl.apart⟩
    · have := h.high t hm k (.inl htW); have := hW k hk; omega
    · have := h.high t hm k (.inr htR); have := hW k hk; omega
end
theorem ownsRow_mono0 {w : World} {base E size n : Nat} {v : Value} {xs : List Value} (h : w.ownsRow base E size v n xs) : w.ownsRow 0 E size v n xs := by
  refine ⟨h.1, ?_⟩
  rcases h.2 with hn | ⟨g, cap, cur, hv, hg, r⟩
  · exact .inl hn
  · exact .inr ⟨g, cap, cur, hv, Nat.zero_le _, r⟩
/-- The things: a row, a graph, a block. -/
def Thing.row (E size : Nat) (v : Value) (n : Nat) (cells : List Value) : Thing :=
  ⟨v.ownBlock.toList, [], fun w => w.ownsRow 0 E size v n cells, fun _ _ h hk => owns_keep h fun k hm => hk k (.inl (by simp [hm]))⟩
def Thing.ints (v : Value) (xs : List Int) : Thing := Thing.row 3 1 v xs.length (xs.map (Value.int .i64))
def Thing.box (b T : Nat) (arr : Array Value) : Thing :=
  ⟨[b], [], fun w => w.heap[b]? = some (.cells arr T (0, 0)), fun _ _ h hk => (hk b (.inl (by simp))).trans h⟩
def Thing.graph (F I : List Nat) (gb W room : Nat) (L : List PNode) : Thing :=
  ⟨F, I, fun w => Gr w 0 F I gb W room L, fun _ _ h hk => h.keep (fun k hm => hk k (.inl hm)) (fun k hm _ => hk k (.inr hm))⟩
section
variable {w0 wr w' : World} {ts : List Thing} {F I : List Nat} {gb W room : Nat} {L : List PNode}
theorem Lab.gr (h : Lab w0 wr (Thing.graph F I gb W room L :: ts)) : Gr wr 0 F I gb W room L := h.head
theorem Lab.ints {v : Value} {xs : List Int} (h : Lab w0 wr (Thing.ints v xs :: ts)) : OwnInts wr 0 3 .i64 v xs := h.head
theorem Lab.ints2 {x : Thing} {v : Value} {xs : List Int} (h : Lab w0 wr (x :: Thing.ints v xs :: ts)) : OwnInts wr 0 3 .i64 v xs := h.second
theorem Lab.ints3 {x y : Thing} {v : Value} {xs : List Int} (h : Lab w0 wr (x :: y :: Thing.ints v xs :: ts)) : OwnInts wr 0 3 .i64 v xs := h.third
theorem Lab.box1 {b T : Nat} {arr : Array Value} (h : Lab w0 wr (Thing.box b T arr :: ts)) : wr.heap[b]? = some (.cells arr T (0, 0)) := h.head
theorem Lab.box2 {x : Thing} {b T : Nat} {arr : Array Value} (h : Lab w0 wr (x :: Thing.box b T arr :: ts)) : wr.heap[b]? = some (.cells arr T (0, 0)) := h.second
theorem Lab.box3 {x y : Thing} {b T : Nat} {arr : Array Value} (h : Lab w0 wr (x :: y :: Thing.box b T arr :: ts)) : wr.heap[b]? = some (.cells arr T (0, 0)) := h.third
theorem Lab.mem_box {b T : Nat} {arr : Array Value} (h : Lab w0 wr ts) (hm : Thing.box b T arr ∈ ts) : wr.heap[b]? = some (.cells arr T (0, 0)) := h.holds _ hm
theorem Gr.drewN (h : Gr wr 0 F I gb W room L) (n : Nat) : Gr (wr.drewN n) 0 F I gb W room L := h.later (below_drewN (Below.refl _ _) n)
theorem Lab.drewN (h : Lab w0 wr ts) (n : Nat) : Lab w0 (wr.drewN n) ts := h.later (below_drewN (Below.refl _ _) n)
theorem len_quiet (h : Gr wr 0 F I gb W room L) (n : Nat) : Calls Tryz.prog 22 #[.pointer (some ⟨gb, 0, none⟩)] (wr.drewN n) fun e w' => e = .returned (.int .i64 L.length) ∧ ∃ m, w' = wr.drewN m :=
  (len_any (h.drewN n)).mono fun _ _ ⟨a, b⟩ => ⟨a, n, b.symm⟩
/-- A graph's call. -/
theorem Lab.gpost {R : List PNode × Nat × Nat} {e : Ending} (h : Lab w0 wr (Thing.graph F I gb W room L :: ts)) (hp : GPost wr 0 F I gb W room R e w') :
    ∃ F' I', e = .returned (.tuple #[.int .i64 R.2.1, .int .i64 R.2.2]) ∧ Lab w0 w' (Thing.graph F' I' gb W room R.1 :: ts) := by
  obtain ⟨F', I', he, hg, ht, hF, hI⟩ := hp
  refine ⟨F', I'.filter fun k => decide (k < w'.heap.size), he, h.turn (s' := Thing.graph F' _ gb W room R.1) ht hg.inI hF (fun k hk => ?_) (fun k hk => ?_)⟩
  · exact hI k (List.mem_filter.1 hk).1
  · rcases hk with hk | hk
    · exact hg.lt k hk
    · simpa using (List.mem_filter.1 hk).2
/-- A new row of ints. -/
theorem Lab.new_row {E size n : Nat} {v : Value} {cells : List Value} (h : Lab w0 wr ts) (hb : Below wr.heap.size wr w') (hv : w'.ownsRow wr.heap.size E size v n cells) : Lab w0 w' (Thing.row E size v n cells :: ts) := by
  refine h.new (s := Thing.row E size v n cells) hb (ownsRow_mono0 hv) (fun k hk => (hv.lt k (by simpa [Thing.row] using hk)).1) (fun k hk => by simp [Thing.row] at hk) (fun k hk => ?_)
  rcases hk with hk | hk
  · exact (hv.lt k (by simpa [Thing.row] using hk)).2
  · simp [Thing.row] at hk
theorem Lab.new_ints {v : Value} {xs : List Int} (h : Lab w0 wr ts) (hb : Below wr.heap.size wr w') (hv : OwnInts w' wr.heap.size 3 .i64 v xs) : Lab w0 w' (Thing.ints v xs :: ts) := h.new_row hb hv
/-- A block is laid. -/
theorem Lab.alloc (h : Lab w0 wr ts) (arr : Array Value) (T : Nat) : Lab w0 (wr.alloc (.cells arr T)) (Thing.box wr.heap.size T arr :: ts) := by
  refine h.new (s := Thing.box wr.heap.size T arr) (below_new wr _) (heap_alloc_new wr _) (fun k hk => by simp [Thing.box] at hk; omega) (fun k hk => by simp [Thing.box] at hk) (fun k hk => ?_)
  rcases hk with hk | hk
  · simp [Thing.box] at hk; simp; omega
  · simp [Thing.box] at hk
/-- A node that was taken. -/
theorem Lab.node_at (h : Lab w0 wr (Thing.graph F I gb W room L :: ts)) (i : Nat) (n : PNode) (hi : L[i]? = some n) :
    Calls Tryz.prog 67 #[.pointer (some ⟨gb, 0, none⟩), .int .i64 i] wr fun e w' => ∃ a m c, e = .returned (.tuple #[.agg #[.int .u8 n.1, .int .u64 n.2.1, .slice a m c], .int .i64 0]) ∧ Lab w0 w' (Thing.graph F I gb W room L :: Thing.ints (.slice a m c) n.2.2 :: ts) := by
  refine (Go.Proofs.YteamnchoddegpaaGreatDoor.node_at h.gr i n hi).mono ?_
  rintro e w' ⟨va, rfl, hva, hb⟩
  obtain ⟨a, m, c, rfl⟩ := hva.val
  exact ⟨a, m, c, rfl, (h.new_ints hb hva).swap⟩
/-- A nil slice has no block. -/
theorem Lab.nil_ints (h : Lab w0 wr ts) : Lab w0 wr (Thing.ints (.slice none 0 0) [] :: ts) := h.new_ints (Below.refl _ _) (OwnInts.nil _ _ _ _)
end
end Go.Proofs.YteamnchoddegpaaGreatDoor
namespace Go.Proofs.YteamnchoddegpaaGreatDoor
open Go.RowKit Go.Maps
set_option maxHeartbeats 400000
section
variable {P : Program}
end
section
variable {w0 wr w' : World} {s s' u : Thing} {ts : List Thing}
/-- The first thing turns, and takes the second one in. -/
theorem Lab.absorb (h : Lab w0 wr (s :: u :: ts)) (ht : Touch s.W wr w') (hs : s'.holds w') (hW : ∀ k, k ∈ s'.W → k ∈ s.W ∨ wr.heap.size ≤ k) (hR : ∀ k, k ∈ s'.R → k ∈ s.R ∨ k ∈ u.W ∨ wr.heap.size ≤ k) (hz : ∀ k, k ∈ s'.W ∨ k ∈ s'.R → k < w'.heap.size) : Lab w0 w' (s' :: ts) := by
  have hp := List.pairwise_cons.1 h.apart
  have hq := List.pairwise_cons.1 hp.2
  refine ⟨ht.below h.below h.size (h.low s (by simp)), fun t hm => ?_, fun t hm k hk => ?_, fun t hm k hk => ?_, ?_⟩
  · rcases List.mem_cons.1 hm with rfl | hm
    · exact hs
    · exact t.keep _ _ (h.holds t (by simp [hm])) fun k hk => ht.block k (h.high t (by simp [hm]) k hk) fun hsW => hk.elim (fun hw => ((hp.1 t (by simp [hm])).1 k hsW).1 hw) (fun hr => ((hp.1 t (by simp [hm])).1 k hsW).2 hr)
  · rcases List.mem_cons.1 hm with rfl | hm
    · exact (hW k hk).elim (h.low s (by simp) k) (fun hl => Nat.le_trans h.size hl)
    · exact h.low t (by simp [hm]) k hk
  · rcases List.mem_cons.1 hm with rfl | hm
    · exact hz k hk
    · exact Nat.lt_of_lt_of_le (h.high t (by simp [hm]) k hk) ht.size
  · rw [List.pairwise_cons]
    refine ⟨fun t hm => ⟨fun k hk => ⟨fun htW => ?_, fun htR => ?_⟩, fun k hk htW => ?_⟩, hq.2⟩
    · exact (hW k hk).elim (fun hs => ((hp.1 t (by simp [hm])).1 k hs).1 htW) (fun hl => by have := h.high t (by simp [hm]) k (.inl htW); omega)
    · exact (hW k hk).elim (fun hs => ((hp.1 t (by simp [hm])).1 k hs).2 htR) (fun hl => by have := h.high t (by simp [hm]) k (.inr htR); omega)
    · rcases hR k hk with hs | hu | hl
      · exact (hp.1 t (by simp [hm])).2 k hs htW
      · exact ((hq.1 t hm).1 k hu).1 htW
      · have := h.high t (by simp [hm]) k (.inl htW); omega
end
theorem AskV.slice {w : World} {x0 x1 x2 x3 va : Value} {a : PAsk} (h : AskV w (.agg #[x0, x1, x2, x3, va]) a) : SliceOf w .i64 va a.2.2.2.2 := by
  obtain ⟨va', he, hs⟩ := h
  simp only [Value.agg.injEq] at he
  have h' := Array.toList_inj.2 he
  simp only [List.cons.injEq, and_true] at h'
  obtain ⟨_, _, _, _, rfl⟩ := h'
  exact hs
section
variable {w0 wr w' : World} {ts : List Thing} {I : List Nat} {v : Value} {L : List PNode}
end
end Go.Proofs.YteamnchoddegpaaGreatDoor
namespace Go.Proofs.YteamnchoddegpaaGreatDoor
open Go.RowKit Go.Maps
set_option maxHeartbeats 400000
theorem Lab.new_graph {w0 wr : World} {ts : List Thing} (h : Lab w0 wr ts) (W most : Int) (hok : newOk W most) :
    Calls Tryz.prog 26 #[.int .i64 W, .int .i64 most] wr fun e w' => ∃ gb F, e = .returned (.tuple #[.pointer (some ⟨gb, 0, none⟩), .int .i64 0]) ∧ Lab w0 w' (Thing.graph F [] gb W.toNat (roomOf most) [] :: ts) := by
  refine (new_any W most hok wr).mono ?_
  rintro e w' ⟨gb, F, rfl, hg, hb⟩
  refine ⟨gb, F, rfl, h.new (s := Thing.graph F [] gb W.toNat (roomOf most) []) hb (hg.mono (Nat.zero_le _)) hg.base_le (fun k hk => by simp [Thing.graph] at hk) (fun k hk => ?_)⟩
  rcases hk with hk | hk
  · exact hg.lt k hk
  · simp [Thing.graph] at hk
/-- What asking gives, in three cases. -/
theorem askP_cases (room : Nat) (L : List PNode) (n : PNode) (hl : L.length ≤ room) :
    (∃ t, askP room L n = (L, t, 0) ∧ L[t]? = some n) ∨ (n ∉ L ∧ L.length < room ∧ askP room L n = (L ++ [n], L.length, 0)) ∨ (n ∉ L ∧ L.length = room ∧ askP room L n = (L, 0, 10)) := by
  unfold askP
  cases hf : L.findIdx? (· == n) with
  | some t => exact .inl ⟨t, rfl, find_some hf⟩
  | none =>
    right
    by_cases h : room ≤ L.length
    · exact .inr ⟨find_none hf, by omega, by rw [if_pos h]⟩
    · exact .inl ⟨find_none hf, by omega, by rw [if_neg h]⟩
/-- The variables are few. -/
def VarsLt (K : Nat) (L : List PNode) : Prop := ∀ n ∈ L, n.1 = 1 → n.2.1 < K
theorem VarsLt.mono {K K' : Nat} {L : List PNode} (h : VarsLt K L) (hk : K ≤ K') : VarsLt K' L := fun n hn h1 => Nat.lt_of_lt_of_le (h n hn h1) hk
theorem VarsLt.ask {K : Nat} {L : List PNode} (h : VarsLt K L) (room : Nat) {n : PNode} (hn : n.1 = 1 → n.2.1 < K) : VarsLt K (askP room L n).1 := by
  unfold askP
  cases L.findIdx? (· == n) with
  | some t => exact h
  | none =>
    dsimp only
    split
    · exact h
    · intro m hm
      rcases List.mem_append.1 hm with hm | hm
      · exact h m hm
      · simp at hm; subst hm; exact hn
theorem VarsLt.add {K W : Nat} {L : List PNode} (h : VarsLt K L) (hK : 6 ≤ K) (room : Nat) (a : PAsk) : VarsLt K (addR W room L a).1 := by
  rw [addR_ask]
  refine h.ask room ?_
  unfold addN
  split
  · intro h; simp at h
  · split
    · intro _
      have h0 := Int.emod_nonneg a.2.2.2.1 (show (6 : Int) ≠ 0 by decide)
      have h1 := Int.emod_lt_of_pos a.2.2.2.1 (show (0 : Int) < 6 by decide)
      show (a.2.2.2.1 % 6).toNat < K
      omega
    · intro h
      have := code_bounds a
      simp only at h
      omega
end Go.Proofs.YteamnchoddegpaaGreatDoor
namespace Go.Proofs.YteamnchoddegpaaGreatDoor
/-- A list of nodes of which another one is the beginning. -/
theorem isPrefix_ask {L : List PNode} (room : Nat) (n : PNode) : L <+: (askP room L n).1 := by
  unfold askP
  cases L.findIdx? (· == n) with
  | some t => exact List.prefix_refl _
  | none =>
    dsimp only
    split
    · exact List.prefix_refl _
    · exact List.prefix_append _ _
theorem isPrefix_const (W room : Nat) (L : List PNode) (q : Nat) : L <+: (constR W room L q).1 := isPrefix_ask room _
theorem isPrefix_app (room : Nat) (L : List PNode) (o : Nat) (xs : List Int) : L <+: (appR room L o xs).1 := by
  unfold appR; split
  · split
    · exact isPrefix_ask room _
    · exact List.prefix_refl _
  · exact List.prefix_refl _
theorem prefix_at {L L' : List PNode} (h : L <+: L') {i : Nat} {n : PNode} (hi : L[i]? = some n) : L'[i]? = some n := by
  obtain ⟨t, rfl⟩ := h
  rw [List.getElem?_append_left (List.getElem?_eq_some_iff.1 hi).1]; exact hi
end Go.Proofs.YteamnchoddegpaaGreatDoor
namespace Go.Proofs.YteamnchoddegpaaGreatDoor
open Go.RowKit Go.Maps
set_option maxHeartbeats 400000
section
variable {w0 wr w' : World} {ts : List Thing} {F I : List Nat} {gb W room : Nat} {L : List PNode}
theorem Lab.perm {ts' : List Thing} (h : Lab w0 wr ts) (hp : ts.Perm ts') : Lab w0 wr ts' :=
  ⟨h.below, fun t ht => h.holds t (hp.mem_iff.2 ht), fun t ht => h.low t (hp.mem_iff.2 ht), fun t ht => h.high t (hp.mem_iff.2 ht), (hp.pairwise_iff (fun {_ _} hs => hs.symm)).1 h.apart⟩
theorem Lab.rot4 {s t u v : Thing} (h : Lab w0 wr (s :: t :: u :: v :: ts)) : Lab w0 wr (v :: s :: t :: u :: ts) := h.perm (List.perm_middle (l₁ := [s, t, u]))
theorem Lab.rot5 {s t u v x : Thing} (h : Lab w0 wr (s :: t :: u :: v :: x :: ts)) : Lab w0 wr (x :: s :: t :: u :: v :: ts) := h.perm (List.perm_middle (l₁ := [s, t, u, v]))
theorem Lab.rot6 {s t u v x y : Thing} (h : Lab w0 wr (s :: t :: u :: v :: x :: y :: ts)) : Lab w0 wr (y :: s :: t :: u :: v :: x :: ts) := h.perm (List.perm_middle (l₁ := [s, t, u, v, x]))
open Classical in
end
end Go.Proofs.YteamnchoddegpaaGreatDoor
namespace Go.Proofs.YteamnchoddegpaaGreatDoor
open Go.RowKit Go.Maps
set_option maxHeartbeats 800000
theorem SliceOf.take {w : World} {k : IntKind} {a : Option Addr} {n cap : Nat} {xs : List Int} (h : SliceOf w k (.slice a n cap) xs) (m cap' : Nat) (hm : m ≤ n) : SliceOf w k (.slice a m cap') (xs.take m) := by
  obtain ⟨a', n', c', e, hl, hc⟩ := h.parts
  simp only [Value.slice.injEq] at e
  obtain ⟨rfl, rfl, rfl⟩ := e
  refine ⟨a, m, cap', rfl, by rw [List.length_take]; omega, fun i hi => ?_⟩
  obtain ⟨b, off, q, rfl, hq, hx⟩ := hc i (by omega)
  refine ⟨b, off, rfl, ?_⟩
  rw [hq, List.getD_eq_getElem?_getD, List.getElem?_take, if_pos hi, hx]; rfl
theorem U64s.take {xs : List Int} (h : U64s xs) (m : Nat) : U64s (xs.take m) := fun x hx => h x (List.mem_of_mem_take hx)
end Go.Proofs.YteamnchoddegpaaGreatDoor
namespace Go.Proofs.YteamnchoddegpaaGreatDoor
/-- The value of a node, with the values of the terms before it. -/
def valN (W : Nat) (vals acc : List Int) (n : PNode) : Int :=
  if n.1 = 0 then (n.2.1 : Int) else if n.1 = 1 then (if n.2.1 < vals.length then (((vals.getD n.2.1 0).toNat % 2 ^ W : Nat) : Int) else 0)
  else wI n.1 W (n.2.2.map fun a => acc.getD a.toNat 0)
/-- The values of all nodes. -/
def valsL (W : Nat) (vals : List Int) (L : List PNode) : List Int := L.foldl (fun acc n => acc ++ [valN W vals acc n]) []
theorem valsL_snoc (W : Nat) (vals : List Int) (L : List PNode) (n : PNode) : valsL W vals (L ++ [n]) = valsL W vals L ++ [valN W vals (valsL W vals L) n] := by
  unfold valsL; rw [List.foldl_append]; rfl
theorem valsL_len (W : Nat) (vals : List Int) (L : List PNode) : (valsL W vals L).length = L.length := by
  refine snoc_ind (p := fun L => (valsL W vals L).length = L.length) rfl (fun L n ih => ?_) L
  rw [valsL_snoc, List.length_append, List.length_append, ih]; rfl
theorem valsL_append (W : Nat) (vals : List Int) (L M : List PNode) : valsL W vals L <+: valsL W vals (L ++ M) := by
  refine snoc_ind (p := fun M => valsL W vals L <+: valsL W vals (L ++ M)) (by rw [List.append_nil]; exact List.prefix_refl _) (fun M n ih => ?_) M
  rw [← List.append_assoc, valsL_snoc]
  exact ih.trans (List.prefix_append _ _)
theorem valsL_prefix {W : Nat} {vals : List Int} {L L' : List PNode} (h : L <+: L') : valsL W vals L <+: valsL W vals L' := by
  obtain ⟨M, rfl⟩ := h
  exact valsL_append W vals L M
theorem prefix_getD {α : Type} {l l' : List α} {i : Nat} (h : l <+: l') (hi : i < l.length) (d : α) : l'.getD i d = l.getD i d := by
  obtain ⟨t, rfl⟩ := h
  rw [List.getD_eq_getElem?_getD, List.getElem?_append_left hi, ← List.getD_eq_getElem?_getD]
/-- The value of a term. -/
def val (W : Nat) (vals : List Int) (L : List PNode) (i : Nat) : Int := (valsL W vals L).getD i 0
theorem val_prefix {W : Nat} {vals : List Int} {L L' : List PNode} (h : L <+: L') {i : Nat} (hi : i < L.length) : val W vals L' i = val W vals L i :=
  prefix_getD (valsL_prefix h) (by rw [valsL_len]; exact hi) 0
theorem valN_congr {W : Nat} {vals acc acc' : List Int} {n : PNode} (h : ∀ a ∈ n.2.2, acc.getD a.toNat 0 = acc'.getD a.toNat 0) : valN W vals acc n = valN W vals acc' n := by
  unfold valN
  split
  · rfl
  · split
    · rfl
    · congr 1
      exact List.map_congr_left h
/-- What a value is: what its operator makes of the values of its arguments. -/
theorem val_at {W : Nat} {vals : List Int} {L : List PNode} (h : WFL L) {i : Nat} {n : PNode} (hi : L[i]? = some n) : val W vals L i = valN W vals (valsL W vals L) n := by
  obtain ⟨hl, rfl⟩ := List.getElem?_eq_some_iff.1 hi
  have hp : L.take i ++ [L[i]] <+: L := by rw [List.take_append_getElem hl]; exact List.take_prefix _ _
  have hti : (L.take i).length = i := by rw [List.length_take]; omega
  have e1 : val W vals L i = val W vals (L.take i ++ [L[i]]) i := val_prefix hp (by rw [List.length_append, hti]; simp)
  rw [e1]
  unfold val
  rw [valsL_snoc, List.getD_eq_getElem?_getD, List.getElem?_append_right (by rw [valsL_len, hti]; exact Nat.le_refl i), valsL_len, hti, Nat.sub_self]
  refine valN_congr fun a ha => ?_
  have := h.args i _ hi a ha
  exact (prefix_getD (valsL_prefix (List.take_prefix i L)) (by rw [valsL_len, hti]; omega) 0).symm
theorem wE_zero {o W n : Nat} (h1 : 1 ≤ W) (h2 : W ≤ 64) (ho1 : 2 ≤ o) (ho2 : o ≤ 21) (h : aryN o = n) : wE o W n = 0 := by
  unfold wE; rw [if_neg (by omega), if_neg (by omega), if_pos (by simpa using h)]
/-- Values are words. -/
theorem wI_bounds (o W : Int) (xs : List Int) (h1 : 1 ≤ W) (h2 : W ≤ 64) : 0 ≤ wI o W xs ∧ wI o W xs < ((2 ^ W.toNat : Nat) : Int) := by
  have hp := pow_pos2 W.toNat
  unfold wI
  split
  · have h := wop_lt W.toNat o.toNat (wA W xs 0) (wA W xs 1) (wA W xs 2) (by omega) (Nat.mod_lt _ hp) (Nat.mod_lt _ hp) (Nat.mod_lt _ hp)
    omega
  · omega
theorem valN_u64 {W : Nat} (h1 : 1 ≤ W) (h2 : W ≤ 64) (vals acc : List Int) {n : PNode} (hn : NodeOk n) : 0 ≤ valN W vals acc n ∧ valN W vals acc n ≤ 18446744073709551615 := by
  have hp := pow_le64 h2
  have hq := pow_pos2 W
  unfold valN
  split
  · have := hn.2.1; omega
  · split
    · split
      · have := Nat.mod_lt (vals.getD n.2.1 0).toNat hq
        omega
      · omega
    · have := wI_bounds n.1 W (n.2.2.map fun a => acc.getD a.toNat 0) (by omega) (by omega)
      rw [Int.toNat_natCast] at this
      omega
theorem valN_word {W : Nat} (h1 : 1 ≤ W) (h2 : W ≤ 64) (vals acc : List Int) {n : PNode} (hn : NodeGood W n) : 0 ≤ valN W vals acc n ∧ valN W vals acc n < ((2 ^ W : Nat) : Int) := by
  have hq := pow_pos2 W
  unfold valN
  split
  · rcases hn with ⟨_, h, _⟩ | ⟨h, _⟩ | ⟨h, _⟩
    · omega
    · omega
    · omega
  · split
    · split
      · have := Nat.mod_lt (vals.getD n.2.1 0).toNat hq
        omega
      · omega
    · have := wI_bounds n.1 W (n.2.2.map fun a => acc.getD a.toNat 0) (by omega) (by omega)
      rw [Int.toNat_natCast] at this
      exact this
theorem val_u64 {W : Nat} (h1 : 1 ≤ W) (h2 : W ≤ 64) (vals : List Int) {L : List PNode} (h : WFL L) (i : Nat) : 0 ≤ val W vals L i ∧ val W vals L i ≤ 18446744073709551615 := by
  cases hi : L[i]? with
  | some n => rw [val_at h hi]; exact valN_u64 h1 h2 _ _ (h.ok n (List.mem_of_getElem? hi))
  | none =>
    have : val W vals L i = 0 := by unfold val; rw [List.getD_eq_getElem?_getD, List.getElem?_eq_none (by rw [valsL_len]; exact List.getElem?_eq_none_iff.1 hi)]; rfl
    rw [this]; decide
theorem val_word {W : Nat} (h1 : 1 ≤ W) (h2 : W ≤ 64) (vals : List Int) {L : List PNode} (h : WFL L) (hg : GoodL W L) (i : Nat) : 0 ≤ val W vals L i ∧ val W vals L i < ((2 ^ W : Nat) : Int) := by
  have hq := pow_pos2 W
  cases hi : L[i]? with
  | some n => rw [val_at h hi]; exact valN_word h1 h2 _ _ (hg n (List.mem_of_getElem? hi))
  | none =>
    have : val W vals L i = 0 := by unfold val; rw [List.getD_eq_getElem?_getD, List.getElem?_eq_none (by rw [valsL_len]; exact List.getElem?_eq_none_iff.1 hi)]; rfl
    rw [this]; omega
theorem valN_app {W : Nat} {vals acc : List Int} {n : PNode} (h0 : n.1 ≠ 0) (h1 : n.1 ≠ 1) : valN W vals acc n = wI n.1 W (n.2.2.map fun a => acc.getD a.toNat 0) := by
  unfold valN; rw [if_neg h0, if_neg h1]
theorem valN_const {W : Nat} {vals acc : List Int} {n : PNode} (h0 : n.1 = 0) : valN W vals acc n = n.2.1 := by unfold valN; rw [if_pos h0]
theorem valN_var {W : Nat} {vals acc : List Int} {n : PNode} (h0 : n.1 = 1) (h1 : n.2.1 < vals.length) : valN W vals acc n = (((vals.getD n.2.1 0).toNat % 2 ^ W : Nat) : Int) := by unfold valN; rw [if_neg (by omega), if_pos h0, if_pos h1]
theorem valN_no {W : Nat} {vals acc : List Int} {n : PNode} (h0 : n.1 = 1) (h1 : ¬ n.2.1 < vals.length) : valN W vals acc n = 0 := by unfold valN; rw [if_neg (by omega), if_pos h0, if_neg h1]
end Go.Proofs.YteamnchoddegpaaGreatDoor
