/- SupP, RGraphA, RGraphB, RefW, RGraphC, BothA: joined by wip/bundle.py. -/
import Derived.Test.YteamnchoddegpaaGreatDoorB1
import Derived.Test.YteamnchoddegpaaGreatDoorB2
import Derived.Test.YteamnchoddegpaaGreatDoorB3
import Derived.Test.YteamnchoddegpaaGreatDoorB4
import Derived.Test.YteamnchoddegpaaGreatDoorB5
import Derived.BigQuiet
namespace Go.Proofs.YteamnchoddegpaaGreatDoor
/-- The nodes that occur in some of the terms. -/
def occS (L : List PNode) (ts : List Int) : Nat → Bool := occDown L L.length (fun i => ts.any fun t => t.toNat == i)
/-- All terms are there. -/
def InL (L : List PNode) (ts : List Int) : Prop := ∀ t ∈ ts, (0 : Int) ≤ t ∧ t < (L.length : Int)
instance (L : List PNode) (ts : List Int) : Decidable (InL L ts) := by unfold InL; exact inferInstance
/-- How many nodes are marked. -/
def cntS (L : List PNode) (S : Nat → Bool) : Nat := ((List.range L.length).filter S).length
/-- The number of a variable. -/
def varN (L : List PNode) (j : Nat) : Option Int := match L[j]? with | some n => if n.1 = 1 then some (n.2.1 : Int) else none | none => none
def varsS (L : List PNode) (S : Nat → Bool) : List Int := ((List.range L.length).filter S).filterMap (varN L)
def leI : Int → Int → Bool := fun x y => decide (x ≤ y)
/-- The variables of marked nodes, in their order. -/
def varsO (L : List PNode) (S : Nat → Bool) : List Int := (varsS L S).mergeSort leI
section
variable {L L' : List PNode} {ts st : List Int} {S : Nat → Bool}
theorem occS_start {t : Int} (h : t ∈ ts) : occS L ts t.toNat = true := occDown_mono _ _ (List.any_eq_true.2 ⟨t, h, by simp⟩)
theorem args_lt (hw : WFL L) {j : Nat} : ∀ a ∈ argsOf L j, (0 : Int) ≤ a ∧ a < (j : Int) := fun a ha => by
  unfold argsOf at ha
  split at ha
  · rename_i n hn
    exact hw.args j n hn a ha
  · cases ha
theorem argsOf_lt {j : Nat} {a : Int} (h : a ∈ argsOf L j) : j < L.length := by
  unfold argsOf at h
  split at h
  · rename_i n hn
    exact (List.getElem?_eq_some_iff.1 hn).1
  · cases h
/-- What occurs is in each closed set that has the terms. -/
theorem occS_min {C : Nat → Prop} (hC : ∀ j, C j → ∀ a ∈ argsOf L j, C a.toNat) (ht : ∀ t ∈ ts, C t.toNat) {i : Nat} (h : occS L ts i = true) : C i :=
  occ_closed hC _ _ (fun i hi => by
    obtain ⟨t, h1, h2⟩ := List.any_eq_true.1 hi
    have := ht t h1
    rwa [beq_iff_eq.1 h2] at this) i h
theorem occDown_args (hw : WFL L) {j : Nat} : ∀ (k : Nat) (f : Nat → Bool), j < k → occDown L k f j = true → ∀ a ∈ argsOf L j, occDown L k f a.toNat = true
  | 0, _, h => by omega
  | k + 1, f, hk => fun h a ha => by
    show occDown L k (occStep L k f) a.toNat = true
    rcases Nat.lt_or_ge j k with h1 | h1
    · exact occDown_args hw k _ h1 h a ha
    · obtain rfl : j = k := by omega
      have h2 : occDown L j (occStep L j f) j = true := h
      rw [occDown_same hw j _ (Nat.le_refl _)] at h2
      unfold occStep at h2
      have : ((argsOf L j).any fun a => a.toNat == j) = false := by
        rw [List.any_eq_false]
        intro b hb
        have := args_lt hw b hb
        simp; omega
      rw [this] at h2
      have hf : f j = true := by simpa using h2
      refine occDown_mono _ _ ?_
      unfold occStep
      rw [hf]
      have : ((argsOf L j).any fun b => b.toNat == a.toNat) = true := List.any_eq_true.2 ⟨a, ha, by simp⟩
      simp [this]
theorem occS_args (hw : WFL L) {j : Nat} (h : occS L ts j = true) : ∀ a ∈ argsOf L j, occS L ts a.toNat = true := fun a ha => occDown_args hw _ _ (argsOf_lt ha) h a ha
/-- A walk by a stack, under way. -/
structure SupInv (L : List PNode) (ts : List Int) (S : Nat → Bool) (st : List Int) : Prop where
  st_in : InL L st
  has : ∀ t ∈ ts, S t.toNat = true ∨ t ∈ st
  closed : ∀ j, S j = true → ∀ a ∈ argsOf L j, S a.toNat = true ∨ a ∈ st
  sub : ∀ j, S j = true → occS L ts j = true
  st_sub : ∀ t ∈ st, occS L ts t.toNat = true
theorem SupInv.start (h : InL L ts) : SupInv L ts (fun _ => false) ts := ⟨h, fun _ ht => .inr ht, by simp, by simp, fun _ ht => occS_start ht⟩
theorem SupInv.skip {t : Int} (h : SupInv L ts S (st ++ [t])) (ht : S t.toNat = true) : SupInv L ts S st := by
  refine ⟨fun x hx => h.st_in x (by simp [hx]), fun x hx => ?_, fun j hj a ha => ?_, h.sub, fun x hx => h.st_sub x (by simp [hx])⟩
  · rcases h.has x hx with h1 | h1
    · exact .inl h1
    · rcases List.mem_append.1 h1 with h1 | h1
      · exact .inr h1
      · rw [List.mem_singleton.1 h1]; exact .inl ht
  · rcases h.closed j hj a ha with h1 | h1
    · exact .inl h1
    · rcases List.mem_append.1 h1 with h1 | h1
      · exact .inr h1
      · rw [List.mem_singleton.1 h1]; exact .inl ht
/-- A node is marked. -/
def mark (S : Nat → Bool) (t : Nat) : Nat → Bool := fun j => if j = t then true else S j
theorem mark_self {t : Nat} : mark S t t = true := by simp [mark]
theorem mark_old {t j : Nat} (h : S j = true) : mark S t j = true := by unfold mark; split <;> simp [h]
theorem SupInv.visit (hw : WFL L) {t : Int} (h : SupInv L ts S (st ++ [t])) : SupInv L ts (mark S t.toNat) (st ++ argsOf L t.toNat) := by
  refine ⟨fun x hx => ?_, fun x hx => ?_, fun j hj a ha => ?_, fun j hj => ?_, fun x hx => ?_⟩
  · rcases List.mem_append.1 hx with h1 | h1
    · exact h.st_in x (by simp [h1])
    · have h2 := args_lt hw x h1
      have := argsOf_lt h1
      omega
  · rcases h.has x hx with h1 | h1
    · exact .inl (mark_old h1)
    · rcases List.mem_append.1 h1 with h1 | h1
      · exact .inr (by simp [h1])
      · rw [List.mem_singleton.1 h1]; exact .inl mark_self
  · by_cases e : j = t.toNat
    · subst e; exact .inr (by simp [ha])
    · have hj' : S j = true := by unfold mark at hj; rwa [if_neg e] at hj
      rcases h.closed j hj' a ha with h1 | h1
      · exact .inl (mark_old h1)
      · rcases List.mem_append.1 h1 with h1 | h1
        · exact .inr (by simp [h1])
        · rw [List.mem_singleton.1 h1]; exact .inl mark_self
  · by_cases e : j = t.toNat
    · subst e; exact h.st_sub t (by simp)
    · have hj' : S j = true := by unfold mark at hj; rwa [if_neg e] at hj
      exact h.sub j hj'
  · rcases List.mem_append.1 hx with h1 | h1
    · exact h.st_sub x (by simp [h1])
    · exact occS_args hw (h.st_sub t (by simp)) x h1
theorem SupInv.end_ (h : SupInv L ts S []) : S = occS L ts := by
  funext i
  cases h1 : S i with
  | true => exact (h.sub i h1).symm
  | false =>
    cases h2 : occS L ts i with
    | false => rfl
    | true =>
      have := occS_min (C := fun j => S j = true) (fun j hj a ha => (h.closed j hj a ha).resolve_right (by simp)) (fun t ht => (h.has t ht).resolve_right (by simp)) h2
      rw [this] at h1; cases h1
theorem filter_mark {t : Nat} (h : S t = false) : ∀ n, ((List.range n).filter (mark S t)).length = ((List.range n).filter S).length + if t < n then 1 else 0
  | 0 => by simp
  | n + 1 => by
    rw [List.range_succ, List.filter_append, List.filter_append, List.length_append, List.length_append, filter_mark h n]
    by_cases e : n = t
    · subst e; simp [mark, h]
    · have : mark S t n = S n := by unfold mark; rw [if_neg e]
      have h3 : (if t < n + 1 then 1 else 0 : Nat) = if t < n then 1 else 0 := by split <;> split <;> omega
      simp only [List.filter_cons, List.filter_nil, this, h3]
      omega
theorem cntS_mark {t : Nat} (h : S t = false) (ht : t < L.length) : cntS L (mark S t) = cntS L S + 1 := by
  unfold cntS; rw [filter_mark h, if_pos ht]
theorem cntS_le : cntS L S ≤ L.length := by
  unfold cntS; have := List.length_filter_le S (List.range L.length); rwa [List.length_range] at this
theorem cntS_none : cntS L (fun _ => false) = 0 := by unfold cntS; simp
theorem mem_range_filter {j : Nat} : j ∈ (List.range L.length).filter S ↔ j < L.length ∧ S j = true := by simp
theorem varN_some {j : Nat} {v : Int} : varN L j = some v ↔ ∃ n, L[j]? = some n ∧ n.1 = 1 ∧ (n.2.1 : Int) = v := by
  unfold varN
  split
  · rename_i n hn
    constructor
    · intro h
      split at h
      · exact ⟨n, hn, by assumption, by simpa using h⟩
      · cases h
    · rintro ⟨m, hm, h1, h2⟩
      obtain rfl : n = m := Option.some.inj (hn.symm.trans hm)
      rw [if_pos h1, h2]
  · constructor
    · intro h; cases h
    · rintro ⟨m, hm, -⟩; rename_i hn; rw [hn] at hm; cases hm
theorem mem_varsS {v : Int} : v ∈ varsS L S ↔ ∃ j n, S j = true ∧ L[j]? = some n ∧ n.1 = 1 ∧ (n.2.1 : Int) = v := by
  unfold varsS
  rw [List.mem_filterMap]
  constructor
  · rintro ⟨j, hj, hv⟩
    obtain ⟨n, h1, h2, h3⟩ := varN_some.1 hv
    exact ⟨j, n, (mem_range_filter.1 hj).2, h1, h2, h3⟩
  · rintro ⟨j, n, h0, h1, h2, h3⟩
    exact ⟨j, mem_range_filter.2 ⟨(List.getElem?_eq_some_iff.1 h1).1, h0⟩, varN_some.2 ⟨n, h1, h2, h3⟩⟩
theorem var_node (hw : WFL L) {j : Nat} {n : PNode} (h : L[j]? = some n) (h1 : n.1 = 1) : n = (1, n.2.1, []) := by
  obtain ⟨o, q, xs⟩ := n
  have := (hw.ok _ (List.mem_of_getElem? h)).2.2
  simp only at h1 this ⊢
  subst h1
  have : xs.length = 0 := by rw [this]; rfl
  rw [List.length_eq_zero_iff.1 this]
theorem varN_inj (hw : WFL L) {i j : Nat} {v : Int} (h : varN L i = some v) (h' : varN L j = some v) : i = j := by
  obtain ⟨n, a1, a2, a3⟩ := varN_some.1 h
  obtain ⟨m, b1, b2, b3⟩ := varN_some.1 h'
  have e1 := var_node hw a1 a2
  have e2 := var_node hw b1 b2
  have : n = m := by rw [e1, e2, show n.2.1 = m.2.1 by omega]
  subst this
  exact (List.getElem?_inj (List.getElem?_eq_some_iff.1 a1).1 hw.nodup).1 (a1.trans b1.symm)
theorem nodup_filterMap {f : Nat → Option Int} : ∀ {l : List Nat}, l.Nodup → (∀ i j v, f i = some v → f j = some v → i = j) → (l.filterMap f).Nodup
  | [], _, _ => by simp
  | x :: l, hn, hf => by
    rw [List.nodup_cons] at hn
    have ih := nodup_filterMap hn.2 hf
    rw [List.filterMap_cons]
    cases hx : f x with
    | none => exact ih
    | some v =>
      refine List.nodup_cons.2 ⟨fun hm => ?_, ih⟩
      obtain ⟨y, hy, hv⟩ := List.mem_filterMap.1 hm
      exact hn.1 (hf x y v hx hv ▸ hy)
theorem varsS_nodup (hw : WFL L) : (varsS L S).Nodup := nodup_filterMap (List.nodup_range.sublist List.filter_sublist) fun _ _ _ h1 h2 => varN_inj hw h1 h2
theorem leI_trans (a b c : Int) (h1 : leI a b = true) (h2 : leI b c = true) : leI a c = true := by unfold leI at *; simp at *; omega
theorem leI_total (a b : Int) : (leI a b || leI b a) = true := by unfold leI; simp; omega
/-- Of what has the same elements the sorted lists are the same. -/
theorem sort_perm {l l' : List Int} (h : l.Perm l') : l.mergeSort leI = l'.mergeSort leI := by
  have h1 := List.pairwise_mergeSort (le := leI) leI_trans leI_total l
  have h2 := List.pairwise_mergeSort (le := leI) leI_trans leI_total l'
  have hp : (l.mergeSort leI).Perm (l'.mergeSort leI) := (List.mergeSort_perm l leI).trans (h.trans (List.mergeSort_perm l' leI).symm)
  exact List.Perm.eq_of_pairwise (le := fun a b => leI a b = true) (fun a b _ _ h1 h2 => by unfold leI at *; simp at *; omega) h1 h2 hp
theorem sort_sorted {l : List Int} (h : l.Pairwise (fun a b => leI a b = true)) : l.mergeSort leI = l := List.mergeSort_of_pairwise h
theorem mem_varsO {v : Int} : v ∈ varsO L S ↔ ∃ j n, S j = true ∧ L[j]? = some n ∧ n.1 = 1 ∧ (n.2.1 : Int) = v := by
  unfold varsO; rw [List.mem_mergeSort, mem_varsS]
theorem varsO_len : (varsO L S).length ≤ L.length := by
  unfold varsO
  rw [List.length_mergeSort]
  have h1 := List.length_filterMap_le (varN L) ((List.range L.length).filter S)
  have h2 := cntS_le (L := L) (S := S)
  exact Nat.le_trans h1 h2
theorem varsO_nodup (hw : WFL L) : (varsO L S).Nodup := (List.mergeSort_perm _ _).nodup_iff.2 (varsS_nodup hw)
theorem occS_one (hw : WFL L) {t : Nat} (_ht : t < L.length) : ∀ i, i < L.length → occS L [(t : Int)] i = occ L t i := fun i _ => by
  rw [Bool.eq_iff_iff]
  constructor
  · intro h
    refine (occS_min (C := fun i => occ L t i = true ∧ i ≤ t) (fun j hj a ha => ?_) (fun u hu => ?_) h).1
    · have := args_lt hw a ha
      exact ⟨occ_args hw hj.2 hj.1 a ha, by omega⟩
    · rw [List.mem_singleton.1 hu]; exact ⟨occ_top L t, by simp⟩
  · intro h
    exact occ_in (S := fun i => occS L [(t : Int)] i = true) (occS_start (t := (t : Int)) (by simp)) (fun j hj a ha => occS_args hw hj a ha) i h
end
end Go.Proofs.YteamnchoddegpaaGreatDoor
namespace Go.Proofs.YteamnchoddegpaaGreatDoor
open Go.RowKit Go.Maps
set_option maxHeartbeats 400000
/-- A pointer leads to a reference's graph. -/
structure RGr (w : World) (base : Nat) (F I : List Nat) (rb W room : Nat) (L : List PNode) : Prop where
  wf : WFL L
  len : L.length ≤ room
  w1 : 1 ≤ W
  w2 : W ≤ 64
  r2 : room ≤ 1048576
  mem : ∃ sv cells, F = rb :: sv.ownBlock.toList ∧ base ≤ rb ∧ w.heap[rb]? = some (.cells #[.int .i64 W, .int .i64 room, sv] 75 (0, 0)) ∧
    w.ownsRow base 88 3 sv L.length cells ∧ NodeRow w I cells L
section
variable {w w' : World} {base base' : Nat} {F I : List Nat} {rb W room : Nat} {L : List PNode}
theorem RGr.base_le (h : RGr w base F I rb W room L) : ∀ k, k ∈ F → base ≤ k := by
  obtain ⟨sv, cells, rfl, h1, h3, h4, h5⟩ := h.mem
  intro k hk
  simp only [List.mem_cons] at hk
  rcases hk with rfl | hk
  · exact h1
  · have hk' : sv.ownBlock = some k := by simpa using hk
    exact (h4.lt k hk').1
theorem RGr.lt (h : RGr w base F I rb W room L) : ∀ k, k ∈ F → k < w.heap.size := by
  obtain ⟨sv, cells, rfl, h1, h3, h4, h5⟩ := h.mem
  intro k hk
  simp only [List.mem_cons] at hk
  rcases hk with rfl | hk
  · exact (Array.getElem?_eq_some_iff.1 h3).1
  · have hk' : sv.ownBlock = some k := by simpa using hk
    exact (h4.lt k hk').2
theorem RGr.not_of (h : RGr w base F I rb W room L) {k E : Nat} {arr : Array Value} {fr : Nat × Nat} (h1 : E ≠ 75) (h2 : E ≠ 88) (hk : w.heap[k]? = some (.cells arr E fr)) : k ∉ F := by
  obtain ⟨sv, cells, rfl, _, h3, h4, _⟩ := h.mem
  intro hm
  simp only [List.mem_cons] at hm
  rcases hm with rfl | hm
  · rw [h3] at hk; simp at hk; exact h1 hk.2.1.symm
  · have hk' : sv.ownBlock = some k := by simpa using hm
    rcases h4.2 with ⟨rfl, _⟩ | ⟨g, cap, cur, rfl, hb, hg, _⟩
    · simp [Value.ownBlock] at hk'
    · simp [Value.ownBlock] at hk'
      subst hk'
      rw [hg] at hk; simp at hk; exact h2 hk.2.1.symm
theorem RGr.keep (h : RGr w base F I rb W room L) (hF : ∀ k, k ∈ F → w'.heap[k]? = w.heap[k]?) (hI : ∀ k, k ∈ I → IntBlk w k → w'.heap[k]? = w.heap[k]?) : RGr w' base F I rb W room L := by
  obtain ⟨sv, cells, rfl, h1, h3, h4, h5⟩ := h.mem
  refine ⟨h.wf, h.len, h.w1, h.w2, h.r2, sv, cells, rfl, h1, by rw [hF rb (by simp), h3], owns_keep h4 fun k hk => hF k (by simp [hk]), h5.keep hI⟩
theorem RGr.later (h : RGr w base F I rb W room L) (hb : Below w.heap.size w w') : RGr w' base F I rb W room L :=
  h.keep (fun k hk => hb.block k (h.lt k hk)) (fun k _ hk => hb.block k hk.lt)
theorem RGr.mono (h : RGr w base F I rb W room L) (hb : base' ≤ base) : RGr w base' F I rb W room L := by
  obtain ⟨sv, cells, hF, h1, h3, h4, h5⟩ := h.mem
  refine ⟨h.wf, h.len, h.w1, h.w2, h.r2, sv, cells, hF, by omega, h3, ⟨h4.1, ?_⟩, h5⟩
  rcases h4.2 with hn | ⟨g, cap, cur, hv, hg, r⟩
  · exact .inl hn
  · exact .inr ⟨g, cap, cur, hv, by omega, r⟩
theorem RGr.inI (h : RGr w base F I rb W room L) : RGr w base F (I.filter fun k => decide (k < w.heap.size)) rb W room L := by
  obtain ⟨sv, cells, hF, h1, h3, h4, h5⟩ := h.mem
  refine ⟨h.wf, h.len, h.w1, h.w2, h.r2, sv, cells, hF, h1, h3, h4, ⟨h5.1, fun i n hn => ?_⟩⟩
  obtain ⟨va, k1, k2, k3, k4, k5⟩ := h5.2 i n hn
  exact ⟨va, k1, k2, k3, k4, fun k hk => ⟨List.mem_filter.2 ⟨(k5 k hk).1, by simpa using (k5 k hk).2.lt⟩, (k5 k hk).2⟩⟩
theorem RGr.parts (h : RGr w base F I rb W room L) :
    ∃ a cap, w.cell? ⟨rb, 0, none⟩ = some (.int .i64 W) ∧ w.cell? ⟨rb, 1, none⟩ = some (.int .i64 room) ∧ w.cell? ⟨rb, 2, none⟩ = some (.slice a L.length cap) ∧ L.length ≤ 1048576 := by
  obtain ⟨sv, cells, rfl, h1, h3, h4, h5⟩ := h.mem
  obtain ⟨a, cap, rfl⟩ : ∃ a cap, sv = .slice a L.length cap := by
    rcases h4.2 with ⟨rfl, h0⟩ | ⟨g, cap, cur, rfl, _⟩
    · exact ⟨none, 0, by rw [h0]⟩
    · exact ⟨_, _, rfl⟩
  have hl := h.len
  have hr := h.r2
  exact ⟨a, cap, by rw [cell_of_row w rb 0 _ _ _ h3]; rfl, by rw [cell_of_row w rb 1 _ _ _ h3]; rfl, by rw [cell_of_row w rb 2 _ _ _ h3]; rfl, by omega⟩
theorem RGr.node (h : RGr w base F I rb W room L) {i : Nat} {n : PNode} (hi : L[i]? = some n) :
    ∃ g cap va, w.cell? ⟨rb, 2, none⟩ = some (.slice (some ⟨g, 0, none⟩) L.length cap) ∧ w.cell? ⟨g, i * 3, none⟩ = some (.int .u8 n.1) ∧ w.cell? ⟨g, i * 3 + 1, none⟩ = some (.int .u64 n.2.1) ∧ w.cell? ⟨g, i * 3 + 2, none⟩ = some va ∧ IntsAt w va n.2.2 := by
  obtain ⟨sv, cells, rfl, h1, h3, h4, h5⟩ := h.mem
  obtain ⟨g, cap, va, rfl, _, k1, k2, k3, k4⟩ := h5.at h4 hi
  exact ⟨g, cap, va, by rw [cell_of_row w rb 2 _ _ _ h3]; rfl, k1, k2, k3, k4⟩
end
/-- What a reference's call that may add a node leaves behind. -/
def RPost (w : World) (base : Nat) (F I : List Nat) (rb W room : Nat) (R : List PNode × Nat × Nat) : Ending → World → Prop := fun e w' =>
  ∃ F' I', e = .returned (.tuple #[.int .i64 R.2.1, .int .i64 R.2.2]) ∧ RGr w' base F' I' rb W room R.1 ∧ Touch F w w' ∧ (∀ k, k ∈ F' → k ∈ F ∨ w.heap.size ≤ k) ∧ ∀ k, k ∈ I' → k ∈ I ∨ w.heap.size ≤ k
section
variable {w : World} {base : Nat} {F I : List Nat} {rb W room : Nat} {L : List PNode}
theorem rnew_bad (W most : Int) (h : ¬ newOk W most) (w : World) :
    Calls Tryz.prog 27 #[.int .i64 W, .int .i64 most] w fun e w' => e = .returned (.tuple #[.pointer none, .int .i64 3]) ∧ w = w' := by
  unfold newOk at h
  by_cases h1 : W < 1
  · clear h
    go_enter Tryz.func27, Tryz.ntmps27
    go_wp2
    go_ret2
    exact ⟨rfl, rfl⟩
  · by_cases h2 : 64 < W
    · clear h
      go_enter Tryz.func27, Tryz.ntmps27
      go_wp2
      go_ret2
      exact ⟨rfl, rfl⟩
    · by_cases h3 : most < 0
      · clear h
        go_enter Tryz.func27, Tryz.ntmps27
        go_wp2
        go_ret2
        exact ⟨rfl, rfl⟩
      · have h4 : 1048576 < most := by omega
        clear h
        go_enter Tryz.func27, Tryz.ntmps27
        go_wp2
        go_ret2
        exact ⟨rfl, rfl⟩
theorem rnew_gr (W most : Nat) (h1 : 1 ≤ W) (h2 : W ≤ 64) (hm : most ≤ 1048576) (w : World) :
    RGr (w.alloc (.cells #[.int .i64 W, .int .i64 most, .slice none 0 0] 75)) w.heap.size [w.heap.size] [] w.heap.size W most [] :=
  ⟨WFL.nil, by simp, h1, h2, hm, .slice none 0 0, [], rfl, Nat.le_refl _, heap_alloc_new _ _, World.ownsRow_nil _ _ _ _, NodeRow.nil _ _⟩
theorem rnew_any (W most : Int) (h : newOk W most) (w : World) :
    Calls Tryz.prog 27 #[.int .i64 W, .int .i64 most] w fun e w' => ∃ rb F, e = .returned (.tuple #[.pointer (some ⟨rb, 0, none⟩), .int .i64 0]) ∧ RGr w' w.heap.size F [] rb W.toNat (roomOf most) [] ∧ Below w.heap.size w w' := by
  obtain ⟨h1, h2, h3, h4⟩ := h
  obtain ⟨n, rfl⟩ := Int.eq_ofNat_of_zero_le (show 0 ≤ W by omega)
  obtain ⟨m, rfl⟩ := Int.eq_ofNat_of_zero_le h3
  by_cases h0 : m = 0
  · subst h0
    have hr : roomOf ((0 : Nat) : Int) = 1048576 := rfl
    rw [hr]; clear hr
    go_enter Tryz.func27, Tryz.ntmps27
    go_wp2
    go_ret2
    exact ⟨w.heap.size, _, by simp, rnew_gr n 1048576 (by omega) (by omega) (by omega) w, below_new w _⟩
  · have hr : roomOf (m : Int) = m := by unfold roomOf; rw [if_neg (by omega)]; simp
    have hz : ((m : Int) == 0) = false := by rw [beq_eq_false_iff_ne]; omega
    rw [hr]; clear hr
    go_enter Tryz.func27, Tryz.ntmps27
    go_wp2
    go_ret2
    exact ⟨w.heap.size, _, by simp, rnew_gr n m (by omega) (by omega) (by omega) w, below_new w _⟩
/-- Is a number a term? -/
def isT (L : List PNode) (t : Int) : Bool := decide (0 ≤ t ∧ t < (L.length : Int))
theorem rIs_any (h : RGr w base F I rb W room L) (t : Int) :
    Calls Tryz.prog 69 #[.pointer (some ⟨rb, 0, none⟩), .int .i64 t] w fun e w' => e = .returned (.bool (isT L t)) ∧ w = w' := by
  obtain ⟨a, cap, c0, c1, c2, hl⟩ := h.parts
  obtain ⟨B, hB⟩ : ∃ B, isT L t = B := ⟨_, rfl⟩
  rw [hB]
  have HB := Lib.hid hB
  clear hB h
  by_cases h0 : 0 ≤ t
  · by_cases h1 : t < (L.length : Int)
    · obtain rfl : B = true := by rw [← HB.out]; exact decide_eq_true ⟨h0, h1⟩
      go_enter Tryz.func69, Tryz.ntmps69
      go_wp2
      go_ret
      exact ⟨rfl, rfl⟩
    · obtain rfl : B = false := by rw [← HB.out]; exact decide_eq_false (fun h => h1 h.2)
      go_enter Tryz.func69, Tryz.ntmps69
      go_wp2
      go_ret
      exact ⟨rfl, rfl⟩
  · obtain rfl : B = false := by rw [← HB.out]; exact decide_eq_false (fun h => h0 h.1)
    go_enter Tryz.func69, Tryz.ntmps69
    go_wp2
    go_ret
    exact ⟨rfl, rfl⟩
theorem rmask_any (W : Nat) (h1 : 1 ≤ W) (h2 : W ≤ 64) (w : World) :
    Calls Tryz.prog 59 #[.int .i64 W] w fun e w' => e = .returned (.int .u64 ((2 ^ W - 1 : Nat) : Int)) ∧ w = w' := by
  by_cases hW : W ≤ 63
  · go_enter Tryz.func59, Tryz.ntmps59
    go_wp2
    go_ret
    refine ⟨?_, rfl⟩
    have h := wrap_pow W h1 h2
    rw [Int.toNat_natCast] at h
    rw [← h]; rfl
  · have h63 : 63 < W := by omega
    go_enter Tryz.func59, Tryz.ntmps59
    go_wp2
    go_ret
    obtain rfl : W = 64 := by omega
    exact ⟨rfl, rfl⟩
theorem find_at {L : List PNode} (hn : L.Nodup) {k : Nat} {n : PNode} (h : L[k]? = some n) (room : Nat) : askP room L n = (L, k, 0) := by
  unfold askP; rw [find_of_mem hn h]
theorem find_not {L : List PNode} {n : PNode} (h : n ∉ L) : L.findIdx? (· == n) = none := by
  rw [List.findIdx?_eq_none_iff]
  intro x hx
  simp only [beq_eq_false_iff_ne, ne_eq]
  rintro rfl
  exact h hx
/-- A row of nodes gets one more. -/
theorem nodes_push {w3 w5 : World} {base n : Nat} {cells : List Value} {a : Option Addr} {cap : Nat} {x y z : Value}
    (h4 : w3.ownsRow base 88 3 (.slice a n cap) n cells) (hn : n ≤ 1048576) (hbase : base ≤ w3.heap.size) (h1 : ∀ u ∈ [x, y, z], u.oneCell' = true) (e5 : w5.heap = w3.heap) :
    ∃ a' c' w6, (Builtin.append_ #[73, 73] 73 #[.slice a n cap, .slice (some ⟨w5.heap.size, 0, none⟩) 1 1]).run Tryz.prog (w5.alloc (.cells #[x, y, z] 88)).drew = .ok (.slice a' (n + 1) c') w6 ∧
      w6.ownsRow base 88 3 (.slice a' (n + 1) c') (n + 1) (cells ++ [x, y, z]) ∧ (w5.alloc (.cells #[x, y, z] 88)).drew.grownBy w6 (Value.slice a n cap).ownBlock ∧
      (∀ k, (Value.slice a' (n + 1) c').ownBlock = some k → (Value.slice a n cap).ownBlock = some k ∨ w3.heap.size ≤ k) ∧ ∀ k, k < w3.heap.size → (Value.slice a n cap).ownBlock ≠ some k → w6.heap[k]? = w3.heap[k]? := by
  have hold : ∀ k, k < w3.heap.size → (w5.alloc (.cells #[x, y, z] 88)).drew.heap[k]? = w3.heap[k]? := by
    intro k hk
    show (w5.alloc (.cells #[x, y, z] 88)).heap[k]? = _
    rw [heap_alloc_old _ _ (by rw [e5]; exact hk), e5]
  have hown : (w5.alloc (.cells #[x, y, z] 88)).drew.ownsRow base 88 3 (.slice a n cap) n cells := owns_keep h4 fun k hk => hold k (h4.lt k hk).2
  have hnew : (w5.alloc (.cells #[x, y, z] 88)).drew.heap[w5.heap.size]? = some (.cells #[x, y, z] 88 (0, 0)) := heap_alloc_new w5 _
  have hsrc : SrcOf (w5.alloc (.cells #[x, y, z] 88)).drew (.slice (some ⟨w5.heap.size, 0, none⟩) 1 1) 1 3 [x, y, z] := by
    refine ⟨_, _, rfl, rfl, fun _ => ⟨_, rfl, fun j u hu => ?_⟩⟩
    rw [Go.WideShapes.add_plain, cell_of_row _ _ _ _ _ _ hnew, Nat.zero_add, ← hu]
    simp
  obtain ⟨v', w6, happ, own6, grow6⟩ := run_append_src (P := Tryz.prog) (w5.alloc (.cells #[x, y, z] 88)).drew base 73 73 88 3 40 (.agg #[.int .u8 0, .int .u64 0, .slice none 0 0]) Tryz.underlying73 (by kernel_rfl) rfl (by decide) (by decide) (.slice a n cap) (.slice (some ⟨w5.heap.size, 0, none⟩) 1 1) n 1 cells [x, y, z] hown hsrc h1 (by omega) (by show base ≤ (w5.alloc _).heap.size; simp [e5]; omega)
  have blk := append_block (bytes := 40) (z := .agg #[.int .u8 0, .int .u64 0, .slice none 0 0]) Tryz.underlying73 (by kernel_rfl) (by decide) hown hsrc h1 (by decide) (by omega) happ
  have hsz : (w5.alloc (.cells #[x, y, z] 88)).drew.heap.size = w3.heap.size + 1 := by show (w5.alloc _).heap.size = _; simp [e5]
  obtain ⟨a', c', rfl⟩ : ∃ a' c', v' = .slice a' (n + 1) c' := by
    rcases own6.2 with ⟨_, h0⟩ | ⟨g, cap, cur, rfl, _⟩
    · omega
    · exact ⟨_, _, rfl⟩
  refine ⟨a', c', w6, happ, own6, grow6, fun k hk => (blk k hk).imp id (fun h => by omega), fun k hk hne => ?_⟩
  rw [grow6.block k (by omega) (fun e => hne e.symm)]
  exact hold k hk
end
end Go.Proofs.YteamnchoddegpaaGreatDoor
namespace Go.Proofs.YteamnchoddegpaaGreatDoor
open Go.RowKit Go.Maps
set_option maxHeartbeats 800000
/-- A reference's graph whose list of nodes has got one node more. -/
theorem rgr_append {w3 w5 w6 wF : World} {base rb W room : Nat} {F I : List Nat} {L : List PNode} {sv v' va : Value} {cells : List Value} {n : PNode}
    (wf : WFL L) (hlen : L.length < room) (w1 : 1 ≤ W) (w2 : W ≤ 64) (r2 : room ≤ 1048576) (hn : n ∉ L) (hok : NodeOk n) (ha : ∀ a ∈ n.2.2, (0 : Int) ≤ a ∧ a < (L.length : Int)) (hF : F = rb :: sv.ownBlock.toList)
    (b1 : base ≤ rb) (h3 : w3.heap[rb]? = some (.cells #[.int .i64 W, .int .i64 room, sv] 75 (0, 0))) (h4 : w3.ownsRow base 88 3 sv L.length cells) (h5 : NodeRow w3 I cells L) (hv : IntsAt w3 va n.2.2) (hvb : ∀ k, va.ownBlock = some k → IntBlk w3 k)
    (e5 : w5.heap = w3.heap) (t5 : w5.os = w3.os ∧ w5.tape = w3.tape ∧ w5.output = w3.output) (X : Obj) (hblk : ∀ k, v'.ownBlock = some k → sv.ownBlock = some k ∨ w3.heap.size ≤ k)
    (own6 : w6.ownsRow base 88 3 v' (L.length + 1) (cells ++ [.int .u8 n.1, .int .u64 n.2.1, va])) (grow6 : (w5.alloc X).drew.grownBy w6 sv.ownBlock)
    (hwF : wF = w6.setCell ⟨rb, 2, none⟩ v' ∨ wF = (w6.setCell ⟨rb, 2, none⟩ v').drew) :
    RGr wF base (rb :: v'.ownBlock.toList) (va.ownBlock.toList ++ I) rb W room (L ++ [n]) ∧ Touch F w3 wF ∧ ∀ k, k ∈ (rb :: v'.ownBlock.toList) → k ∈ F ∨ w3.heap.size ≤ k := by
  subst hF
  have hh : wF.heap = (w6.setCell ⟨rb, 2, none⟩ v').heap := by rcases hwF with rfl | rfl <;> rfl
  have ho : wF.os = w6.os ∧ wF.tape = w6.tape ∧ wF.output = w6.output := by rcases hwF with rfl | rfl <;> exact ⟨rfl, rfl, rfl⟩
  have lrb := (Array.getElem?_eq_some_iff.1 h3).1
  have s6 : w3.heap.size + 1 ≤ w6.heap.size := by have := grow6.size; simp [e5] at this; exact this
  have old6 : ∀ k, k < w3.heap.size → sv.ownBlock ≠ some k → w6.heap[k]? = w3.heap[k]? := by
    intro k hk hne
    rw [grow6.block k (by simp [e5]; omega) (fun e => hne e.symm)]
    show (w5.alloc X).heap[k]? = _
    rw [heap_alloc_old _ _ (by rw [e5]; exact hk), e5]
  have nrb : sv.ownBlock ≠ some rb := not_own h4 h3 (by intro c fr e; simp at e)
  have g6 : w6.heap[rb]? = some (.cells #[.int .i64 W, .int .i64 room, sv] 75 (0, 0)) := by rw [old6 rb lrb nrb, h3]
  have nrb' : v'.ownBlock ≠ some rb := not_own own6 g6 (by intro c fr e; simp at e)
  have touch : Touch (rb :: sv.ownBlock.toList) w3 wF := by
    refine ⟨ho.1.trans (grow6.os.trans t5.1), ho.2.1.trans (grow6.tape.trans t5.2.1), ho.2.2.trans (grow6.output.trans t5.2.2), by rw [hh, World.size_setCell]; omega, ?_⟩
    intro k hk hn
    simp only [List.mem_cons, not_or] at hn
    rw [hh, heap_setCell_other _ _ _ _ hn.1]
    exact old6 k hk (fun e => hn.2 (by simp [e]))
  have notInts : ∀ (k : Nat) (arr : Array Value) (fr : Nat × Nat), w3.heap[k]? = some (Obj.cells arr 3 fr) → wF.heap[k]? = w3.heap[k]? := by
    intro k arr fr hk
    refine touch.block k (Array.getElem?_eq_some_iff.1 hk).1 ?_
    simp only [List.mem_cons, not_or]
    refine ⟨?_, ?_⟩
    · rintro rfl; rw [h3] at hk; simp at hk
    · intro hm
      exact not_own h4 hk (by intro c fr e; simp at e) (by simpa using hm)
  refine ⟨⟨wf.snoc hn hok ha, by simp; omega, w1, w2, r2, v', _, rfl, b1, ?_, ?_, (h5.keep fun k _ hk => by obtain ⟨arr, fr, hk⟩ := hk; exact notInts k arr fr hk).snoc (hv.ints notInts) (fun k hk => (hvb k hk).of (by obtain ⟨arr, fr, hk⟩ := hvb k hk; exact notInts k arr fr hk))⟩, touch, ?_⟩
  · rw [hh, heap_setCell_same _ _ _ _ _ _ g6]
    rfl
  · rw [List.length_append, List.length_singleton]
    refine owns_keep own6 fun k hk => ?_
    rw [hh, heap_setCell_other _ _ _ _ (fun e => nrb' (by rw [hk]; exact congrArg some e))]
  · intro k hk
    simp only [List.mem_cons] at hk ⊢
    rcases hk with h | h
    · exact .inl (.inl h)
    · have hk' : v'.ownBlock = some k := by simpa using h
      rcases hblk k hk' with he | hl
      · exact .inl (.inr (by simp [he]))
      · exact .inr hl
set_option maxRecDepth 100000 in
theorem rask_any {w : World} {base : Nat} {F I : List Nat} {rb W room : Nat} {L : List PNode} (h : RGr w base F I rb W room L) (o q : Nat) (xs : List Int) (va : Value) (hv : IntsAt w va xs) (hvb : ∀ k, va.ownBlock = some k → IntBlk w k) (hn : NodeOk (o, q, xs)) (ha : ∀ a ∈ xs, (0 : Int) ≤ a ∧ a < (L.length : Int)) :
    Calls Tryz.prog 58 #[.pointer (some ⟨rb, 0, none⟩), .agg #[.int .u8 o, .int .u64 q, va]] w fun e w' => ∃ F' I', e = .returned (.tuple #[.int .i64 (askP room L (o, q, xs)).2.1, .int .i64 (askP room L (o, q, xs)).2.2]) ∧ RGr w' base F' I' rb W room (askP room L (o, q, xs)).1 ∧ Touch F w w' ∧ (∀ k, k ∈ F' → k ∈ F ∨ w.heap.size ≤ k) ∧ ∀ k, k ∈ I' → k ∈ I ∨ va.ownBlock = some k := by
  have hx3 : xs.length ≤ 3 := by have := hn.2.2; have := aryN_le o; simp only at *; omega
  obtain ⟨a0, m0, c0, rfl, hl0, -⟩ := id hv
  have hll := h.len
  have hr2 := h.r2
  have H0 := Lib.hid h; have HV := Lib.hid hv; have HVB := Lib.hid hvb
  clear h hv hvb hl0
  obtain ⟨R, hR⟩ : ∃ R, askP room L (o, q, xs) = R := ⟨_, rfl⟩
  rw [hR]
  have HR := Lib.hid hR
  clear hR
  go_enter Tryz.func58, Tryz.ntmps58
  obtain ⟨p, hp⟩ : ∃ p, w.heap.size = p := ⟨_, rfl⟩
  go_upto_region 1 with fail
  refine wp_abs (fun w1 => Below w.heap.size w w1 ∧ w1.heap[p]? = some (.cells #[.int .u8 o, .int .u64 q, .slice a0 m0 c0] 88 (0, 0))) ⟨below_new _ _, by rw [← hp]; exact heap_alloc_new _ _⟩ ?_
  rintro w1 ⟨hb1, hx1⟩
  have HB1 := Lib.hid hb1; have HX1 := Lib.hid hx1; have HP := Lib.hid hp
  clear hb1 hx1 hp
  go_wp2
  go_loopw [6] (fun i wr => ∃ k : Nat, k ≤ L.length ∧ i = .int .i64 k ∧ Below w1.heap.size w1 wr ∧ ∀ j n', j < k → L[j]? = some n' → n' ≠ (o, q, xs)) (fun i _ => L.length - (intOf i).toNat)
  case atStart => exact ⟨0, by omega, rfl, Below.refl _ _, fun j n' hj => by omega⟩
  case round =>
    obtain ⟨k, hk, rfl, hbr, hno⟩ := hrel
    have hbw := HB1.out.trans (hbr.mono HB1.out.size)
    have hG := H0.out.later hbw
    have hxr := (hbr.block p (Array.getElem?_eq_some_iff.1 HX1.out).1).trans HX1.out
    have HBW := Lib.hid hbw; have HBR := Lib.hid hbr; have HNO := Lib.hid hno; have HG := Lib.hid hG; have HXR := Lib.hid hxr
    obtain ⟨a, cap, g0, g1, g2, hlen⟩ := hG.parts
    clear hbw hbr hno hG hxr
    by_cases hlt : k < L.length
    · obtain ⟨n', hn'⟩ : ∃ n', L[k]? = some n' := ⟨_, List.getElem?_eq_getElem hlt⟩
      obtain ⟨g, cap', vb, d2, e0, e1, e2, hvb⟩ := HG.out.node hn'
      rw [g2] at d2
      simp only [Option.some.injEq, Value.slice.injEq] at d2
      obtain ⟨rfl, -, rfl⟩ := d2
      obtain ⟨f0, f1, f2⟩ := cells3 HXR.out
      have hok := HG.out.wf.ok n' (List.mem_of_getElem? hn')
      have hx3' : n'.2.2.length ≤ 3 := by have := hok.2.2; have := aryN_le n'.1; omega
      obtain ⟨o', q', ys⟩ := n'
      have hv1 : ∀ w', Below wr.heap.size wr w' → NodeV w' (.agg #[.int .u8 o', .int .u64 q', vb]) (o', q', ys) := fun w' hb => ⟨_, rfl, hvb.slice.below hb, by show ys.length ≤ _; simp only at hx3'; omega⟩
      have hv2 : ∀ w', Below wr.heap.size wr w' → NodeV w' (.agg #[.int .u8 o, .int .u64 q, .slice a0 m0 c0]) (o, q, xs) := fun w' hb => ⟨_, rfl, (HV.out.below HBW.out).slice.below hb, by show xs.length ≤ _; omega⟩
      obtain ⟨va', m', cp', hvbe, -⟩ := id hvb
      have HV1 := Lib.hid hv1; have HV2 := Lib.hid hv2; have HN' := Lib.hid hn'
      obtain ⟨B, hB⟩ : ∃ B, decide (((o', q', ys) : PNode) = (o, q, xs)) = B := ⟨_, rfl⟩
      have HB := Lib.hid hB
      clear hv1 hv2 hvb hok hx3' hB hn'
      subst hvbe
      simp only at e0 e1 e2
      go_wp2
      cases B
      all_goals
        go_region_held3 (fun w' => w'.cell? ⟨rb, 2, none⟩ = some (.slice (some ⟨g, 0, none⟩) L.length cap) ∧ w'.cell? ⟨p, 0, none⟩ = some (.int .u8 o) ∧ w'.cell? ⟨p, 1, none⟩ = some (.int .u64 q) ∧ w'.cell? ⟨p, 2, none⟩ = some (.slice a0 m0 c0) ∧ w'.cell? ⟨g, k * 3, none⟩ = some (.int .u8 o') ∧ w'.cell? ⟨g, k * 3 + 1, none⟩ = some (.int .u64 q') ∧ w'.cell? ⟨g, k * 3 + 2, none⟩ = some (.slice va' m' cp'))
          (first | exact ⟨g2, f0, f1, f2, e0, e1, e2⟩ | exact ⟨by assumption, by assumption, by assumption, by assumption, by assumption, by assumption, by assumption⟩ | go_keep)
          (first | (go_at_call 80; refine (equalNode_any _ _ _ _ (HV1.out _ (Below.refl _ _).drew) (HV2.out _ (Below.refl _ _).drew)).mono ?_; rw [HB.out]; rintro e w7 ⟨rfl, hb7⟩; have hb8 := (Below.refl wr.heap.size wr).drew.trans hb7; have k0 := cell_later hb8 g2; have k1 := cell_later hb8 f0; have k2 := cell_later hb8 f1; have k3 := cell_later hb8 f2; have k4 := cell_later hb8 e0; have k5 := cell_later hb8 e1; have k6 := cell_later hb8 e2))
        go_wp2
      · go_roundw
        case rel => exact ⟨k + 1, by omega, by go_num, HBR.out.trans (hb8.mono HBR.out.size), fun j n' hj hn' => by
          rcases Nat.lt_or_ge j k with h1 | h1
          · exact HNO.out j n' h1 hn'
          · obtain rfl : j = k := by omega
            rw [HN'.out] at hn'
            rw [← Option.some.inj hn']
            exact of_decide_eq_false HB.out⟩
        case measure => simp [intOf]; omega
      · go_ret2
        have he := of_decide_eq_true HB.out
        have hr : R = (L, k, 0) := by rw [← HR.out]; exact find_at H0.out.wf.nodup (by rw [← he]; exact HN'.out) room
        subst hr
        have hbf := HBW.out.trans (hb8.mono HBW.out.size)
        exact ⟨F, I, rfl, H0.out.later hbf, Touch.of_below hbf F, fun k hk => .inl hk, fun k hk => .inl hk⟩
    · obtain rfl : k = L.length := by omega
      have hnm : ((o, q, xs) : PNode) ∉ L := by
        intro hm
        obtain ⟨j, hj, he⟩ := List.getElem_of_mem hm
        exact HNO.out j _ hj (List.getElem?_eq_getElem hj) he
      have hr : R = if room ≤ L.length then (L, 0, 10) else (L ++ [(o, q, xs)], L.length, 0) := by rw [← HR.out]; unfold askP; rw [find_not hnm]
      have HNM := Lib.hid hnm; have HR2 := Lib.hid hr
      clear hnm hr
      rcases Decidable.em (room ≤ L.length) with hroom | hroom
      · have ht : decide ((room : Int) ≤ (L.length : Int)) = true := decide_eq_true (by omega)
        have hr : R = (L, 0, 10) := by rw [HR2.out, if_pos hroom]
        subst hr
        go_wp2
        go_quiet (fail)
        go_wp2
        go_ret2
        exact ⟨rfl, F, I, H0.out.later (below_drewN HBW.out _), Touch.of_below (below_drewN HBW.out _) F, fun k hk => .inl hk, fun k hk => .inl hk⟩
      · have ht : decide ((room : Int) ≤ (L.length : Int)) = false := decide_eq_false (by omega)
        have hr : R = (L ++ [(o, q, xs)], L.length, 0) := by rw [HR2.out, if_neg hroom]
        subst hr
        go_wp2
        go_quiet (fail)
        go_wp2
        obtain ⟨f0, f1, f2⟩ := cells3 HXR.out
        refine wp_abs (fun w5 => w5.heap = wr.heap ∧ w5.os = wr.os ∧ w5.tape = wr.tape ∧ w5.output = wr.output) ⟨rfl, rfl, rfl, rfl⟩ ?_
        rintro w5 ⟨e5, r5⟩
        obtain ⟨sv, cells, hF, b1, h3, h4, h5⟩ := HG.out.mem
        have es : sv = .slice a L.length cap := by
          have h := g2
          rw [cell_of_row wr _ 2 _ _ _ h3] at h
          simpa using h
        subst es
        replace g2 := (cell_heap e5 _).trans g2
        replace f0 := (cell_heap e5 _).trans f0
        replace f1 := (cell_heap e5 _).trans f1
        replace f2 := (cell_heap e5 _).trans f2
        have lrb := (Array.getElem?_eq_some_iff.1 h3).1
        have hbase := H0.out.base_le
        have hlt' := H0.out.lt
        have nrb : (Value.slice a L.length cap).ownBlock ≠ some rb := not_own h4 h3 (by intro c fr e; simp at e)
        obtain ⟨a', c', w6, happ, own6, grow6, blk6, old6⟩ := nodes_push (w3 := wr) (w5 := w5) (x := .int .u8 o) (y := .int .u64 q) (z := .slice a0 m0 c0) h4 hlen (by have := hbase rb (by rw [hF]; simp); omega) (by simp [Value.oneCell']) e5
        have g6 : w6.heap[rb]? = some (.cells #[.int .i64 W, .int .i64 room, .slice a L.length cap] 75 (0, 0)) := by rw [old6 rb lrb nrb, h3]
        have d6 : w6.cell? ⟨rb, 2, none⟩ = some (.slice a L.length cap) := by rw [cell_of_row w6 _ 2 _ _ _ g6]; rfl
        have f6 : w6.frozen? ⟨rb, 2, none⟩ = false := frozen_of_row w6 _ _ _ _ g6
        have ca : (w5.alloc (.cells #[.int .u8 o, .int .u64 q, .slice a0 m0 c0] 88)).cell? ⟨rb, 2, none⟩ = some (.slice a L.length cap) := by
          rw [World.cell?_of_block (a := ⟨rb, 2, none⟩) (heap_alloc_old w5 _ (by rw [e5]; exact lrb))]; exact g2
        have G6 := Lib.hid (And.intro own6 (And.intro grow6 (And.intro blk6 (And.intro g6 old6)))); have E5 := Lib.hid (And.intro e5 r5)
        have HM := Lib.hid (And.intro hF (And.intro b1 (And.intro h3 (And.intro h4 h5))))
        clear own6 grow6 blk6 g6 old6 e5 r5 hF b1 h3 h4 h5 hbase hlt' nrb lrb g0 g1
        go_region_law (refine step_append_is rfl _ _ 73 rfl (.slice a L.length cap) (.slice (some ⟨w5.heap.size, 0, none⟩) 1 1) rfl rfl (.slice a' (L.length + 1) c') w6 happ ?_)
        clear happ ca d6 f6 g2 f0 f1 f2
        all_goals
          obtain ⟨own6, grow6, blk6, g6, old6⟩ := G6.out
          have k2 : (w6.setCell ⟨rb, 2, none⟩ (.slice a' (L.length + 1) c')).cell? ⟨rb, 2, none⟩ = some (.slice a' (L.length + 1) c') := by rw [cell_of_row _ rb 2 _ _ _ (heap_setCell_same _ _ _ _ _ _ g6)]; rfl
          clear own6 grow6 blk6 g6 old6
          go_wp2
          go_ret2
          refine ⟨rfl, ?_⟩
          obtain ⟨own6, grow6, blk6, g6, old6⟩ := G6.out
          obtain ⟨hF, b1, h3, h4, h5⟩ := HM.out
          have hr := rgr_append (n := (o, q, xs)) (wF := _) HG.out.wf (by omega) HG.out.w1 HG.out.w2 HG.out.r2 HNM.out hn ha hF b1 h3 h4 h5 (HV.out.below HBW.out) (fun k hk => (HVB.out k hk).of (HBW.out.block k (HVB.out k hk).lt)) E5.out.1 E5.out.2 _ blk6 own6 grow6 (by first | exact .inl rfl | exact .inr rfl)
          exact ⟨_, _, hr.1, (Touch.of_below HBW.out F).trans hr.2.1 (fun k hk => .inl hk), fun k hk => (hr.2.2 k hk).imp id (fun h => by have := HBW.out.size; omega), fun k hk => (List.mem_append.1 hk).elim (fun h => .inr (by simpa using h)) .inl⟩
end Go.Proofs.YteamnchoddegpaaGreatDoor
namespace Go.Proofs.YteamnchoddegpaaGreatDoor
open Go.RowKit
set_option maxHeartbeats 400000
theorem rarity_any (o : Int) (h0 : 0 ≤ o) (h1 : o ≤ 255) (w : World) :
    Calls Tryz.prog 82 #[.int .u8 o] w fun e w' => e = .returned (.tuple #[.int .i64 (if 21 < o then 0 else aryN o.toNat), .int .i64 (if 21 < o then 3 else 0)]) ∧ w = w' := by
  obtain ⟨n, rfl⟩ := Int.eq_ofNat_of_zero_le h0
  by_cases a1 : n ≤ 1
  · have hr : aryN n = 0 := by unfold aryN; rw [if_pos a1]
    go_enter Tryz.func82, Tryz.ntmps82
    go_wp2
    go_ret2
    simp 
  by_cases a2 : n ≤ 3
  · have hr : aryN n = 1 := by unfold aryN; rw [if_neg a1, if_pos a2]
    go_enter Tryz.func82, Tryz.ntmps82
    go_wp2
    go_ret2
    simp 
  by_cases a3 : n = 21
  · subst a3
    go_enter Tryz.func82, Tryz.ntmps82
    go_wp2
    go_ret2
    exact ⟨rfl, rfl⟩
  have hr : aryN n = 2 := by unfold aryN; rw [if_neg a1, if_neg a2, if_neg a3]
  have hd : ((n : Int) == 21) = false := by simp; omega
  by_cases a4 : 21 < n
  · have h4 : 21 < (n : Int) := by omega
    go_enter Tryz.func82, Tryz.ntmps82
    go_wp2
    go_ret2
    simp 
  · have h4 : ¬ 21 < (n : Int) := by omega
    go_enter Tryz.func82, Tryz.ntmps82
    go_wp2
    go_ret2
    simp 
end Go.Proofs.YteamnchoddegpaaGreatDoor
namespace Go.Proofs.YteamnchoddegpaaGreatDoor
open Go.RowKit Go.Maps
set_option maxHeartbeats 800000
theorem RPost.later {w w2 w' : World} {base : Nat} {F I : List Nat} {rb W room : Nat} {R : List PNode × Nat × Nat} {e : Ending} (h : RPost w2 base F I rb W room R e w') (hb : Below w.heap.size w w2) : RPost w base F I rb W room R e w' := by
  obtain ⟨F', I', h1, h2, h3, h4, h5⟩ := h
  exact ⟨F', I', h1, h2, (Touch.of_below hb F).trans h3 (fun k hk => .inl hk), fun k hk => (h4 k hk).imp id (fun h => by have := hb.size; omega), fun k hk => (h5 k hk).imp id (fun h => by have := hb.size; omega)⟩
section
variable {w : World} {base : Nat} {F I : List Nat} {rb W room : Nat} {L : List PNode}
theorem RPost.same (h : RGr w base F I rb W room L) {w' : World} (hb : Below w.heap.size w w') (t f : Nat) : RPost w base F I rb W room (L, t, f) (.returned (.tuple #[.int .i64 t, .int .i64 f])) w' :=
  ⟨F, I, rfl, h.later hb, Touch.of_below hb F, fun _ hk => .inl hk, fun _ hk => .inl hk⟩
theorem rconst_any (h : RGr w base F I rb W room L) (q : Nat) (hq : q < 18446744073709551616) :
    Calls Tryz.prog 29 #[.pointer (some ⟨rb, 0, none⟩), .int .u64 q] w (RPost w base F I rb W room (constR W room L q)) := by
  obtain ⟨a, cap, c0, c1, c2, hl⟩ := h.parts
  have hm : q % 2 ^ W < 18446744073709551616 := Nat.lt_of_le_of_lt (Nat.mod_le _ _) hq
  have ha := and_mask q W hq h.w1 h.w2
  have hw1 := h.w1
  have hw2 := h.w2
  unfold constR
  obtain ⟨m, hm'⟩ : ∃ m, q % 2 ^ W = m := ⟨_, rfl⟩
  rw [hm'] at hm ha ⊢
  have H0 := Lib.hid h; have HMK := Lib.hid (rmask_any W hw1 hw2 w)
  clear h hm'
  obtain ⟨M, hM⟩ : ∃ M : Nat, 2 ^ W - 1 = M := ⟨_, rfl⟩
  rw [hM] at ha HMK
  clear hM
  go_enter Tryz.func29, Tryz.ntmps29
  go_wp2_with fail
  refine HMK.out.mono ?_
  rintro e w' ⟨rfl, rfl⟩
  go_wp2_with fail
  refine (rask_any H0.out 0 m [] _ (IntsAt.nil w) (by simp [Value.ownBlock]) (nodeOk_leaf (by decide) hm) (by simp)).mono ?_
  rintro e w' ⟨F', I', rfl, g1, g2, g3, g4⟩
  go_wp2
  go_ret2
  exact ⟨F', I', rfl, g1, g2, g3, fun k hk => (g4 k hk).imp id (fun h => by simp [Value.ownBlock] at h)⟩
theorem rvar_any (h : RGr w base F I rb W room L) (n : Int) :
    Calls Tryz.prog 31 #[.pointer (some ⟨rb, 0, none⟩), .int .i64 n] w (RPost w base F I rb W room (varR room L n)) := by
  have H0 := Lib.hid h
  clear h
  by_cases h1 : n < 0
  · have hr : varR room L n = (L, 0, 3) := by unfold varR; rw [if_neg (by omega)]
    rw [hr]
    clear hr
    go_enter Tryz.func31, Tryz.ntmps31
    go_wp2
    go_ret2
    exact RPost.same H0.out (Below.refl _ _) 0 3
  · by_cases h2 : n > 4194303
    · have hr : varR room L n = (L, 0, 3) := by unfold varR; rw [if_neg (by omega)]
      rw [hr]
      clear hr
      go_enter Tryz.func31, Tryz.ntmps31
      go_wp2
      go_ret2
      exact RPost.same H0.out (Below.refl _ _) 0 3
    · obtain ⟨m, rfl⟩ := Int.eq_ofNat_of_zero_le (show 0 ≤ n by omega)
      have hr : varR room L (m : Int) = askP room L (1, m, []) := by unfold varR; rw [if_pos (by omega)]; simp
      rw [hr]
      clear hr
      have hwr : IntKind.u64.wrap (m : Int) = (m : Int) := by rw [wrap_u64_nat, Nat.mod_eq_of_lt (by omega)]
      go_enter Tryz.func31, Tryz.ntmps31
      go_wp2_with (go_at_call 58; refine (rask_any H0.out 1 m [] _ (IntsAt.nil w) (by simp [Value.ownBlock]) (nodeOk_leaf (by decide) (by omega)) (by simp)).mono ?_; rintro e w' ⟨F', I', rfl, g1, g2, g3, g4⟩)
      go_ret2
      exact ⟨F', I', rfl, g1, g2, g3, fun k hk => (g4 k hk).imp id (fun h => by simp [Value.ownBlock] at h)⟩
/-- The errors that come before room. -/
def mayR (L : List PNode) (o : Nat) (xs : List Int) : Nat := if o ≤ 21 ∧ aryN o ≠ 0 ∧ aryN o = xs.length then (if ∀ a ∈ xs, (0 : Int) ≤ a ∧ a < (L.length : Int) then 0 else 3) else 2
theorem appR_may (room : Nat) (L : List PNode) (o : Nat) (xs : List Int) : appR room L o xs = if mayR L o xs = 0 then askP room L (o, 0, xs) else (L, 0, mayR L o xs) := by
  unfold appR mayR
  split
  · split <;> simp
  · simp
theorem rmay_bad (_h : RGr w base F I rb W room L) (o : Nat) (ho : o ≤ 255) (xs : List Int) (va : Value) (hv : SliceOf w .i64 va xs) (hb : ¬ (o ≤ 21 ∧ aryN o ≠ 0 ∧ aryN o = xs.length)) :
    Calls Tryz.prog 61 #[.pointer (some ⟨rb, 0, none⟩), .int .u8 o, va] w fun e w' => e = .returned (.int .i64 2) ∧ w = w' := by
  obtain ⟨a, n, cap, rfl, hna, -⟩ := hv.parts
  clear hv
  rw [hna] at hb
  clear hna
  obtain ⟨p, hp⟩ : ∃ p : Nat, (if 21 < (o : Int) then 0 else aryN (o : Int).toNat) = p := ⟨_, rfl⟩
  have hp' : 21 < (o : Int) ∨ p = 0 ∨ p ≠ n := by
    by_cases h1 : 21 < (o : Int)
    · exact .inl h1
    · rw [if_neg h1] at hp; simp at hp; right; omega
  have HP := Lib.hid hp
  clear hp hb
  have har : ∀ w', Calls Tryz.prog 82 #[.int .u8 o] w' fun e w'' => e = .returned (.tuple #[.int .i64 p, .int .i64 (if 21 < (o : Int) then 3 else 0)]) ∧ w' = w'' := by
    intro w'
    refine (rarity_any o (by omega) (by omega) w').mono ?_
    rintro e w'' ⟨rfl, hb⟩
    refine ⟨?_, hb⟩
    rw [← HP.out]
    by_cases h1 : 21 < (o : Int) <;> simp [h1]
  by_cases h1 : 21 < (o : Int)
  · rw [if_pos h1] at har
    clear hp'
    go_enter Tryz.func61, Tryz.ntmps61
    go_wp2_with (go_at_call 82; refine (har _).mono ?_; rintro e w' ⟨rfl, rfl⟩)
    go_ret
    exact ⟨rfl, rfl⟩
  · rw [if_neg h1] at har
    by_cases h0 : p = 0
    · subst h0
      go_enter Tryz.func61, Tryz.ntmps61
      go_wp2_with (go_at_call 82; refine (har _).mono ?_; rintro e w' ⟨rfl, rfl⟩)
      go_ret
      exact ⟨rfl, rfl⟩
    · have hpn : ((p : Int) != (n : Int)) = true := by simp; omega
      have hp0 : ((p : Int) == 0) = false := by simp; omega
      clear h0
      go_enter Tryz.func61, Tryz.ntmps61
      go_wp2_with (go_at_call 82; refine (har _).mono ?_; rintro e w' ⟨rfl, rfl⟩)
      go_ret
      exact ⟨rfl, rfl⟩
theorem rmay_good (h : RGr w base F I rb W room L) (o : Nat) (ho : o ≤ 21) (xs : List Int) (va : Value) (hv : SliceOf w .i64 va xs) (h0 : aryN o ≠ 0) (hl : aryN o = xs.length) :
    Calls Tryz.prog 61 #[.pointer (some ⟨rb, 0, none⟩), .int .u8 o, va] w fun e w' => e = .returned (.int .i64 ((if ∀ a ∈ xs, (0 : Int) ≤ a ∧ a < (L.length : Int) then 0 else 3 : Nat) : Int)) ∧ w = w' := by
  obtain ⟨R, hR⟩ : ∃ R : Nat, (if ∀ a ∈ xs, (0 : Int) ≤ a ∧ a < (L.length : Int) then 0 else 3 : Nat) = R := ⟨_, rfl⟩
  rw [hR]
  have HR := Lib.hid hR
  clear hR
  obtain ⟨a, n, cap, rfl, hna, hcell⟩ := hv.parts
  have H0 := Lib.hid h
  clear hv
  have har : ∀ w', Calls Tryz.prog 82 #[.int .u8 o] w' fun e w'' => e = .returned (.tuple #[.int .i64 n, .int .i64 0]) ∧ w' = w'' := by
    intro w'
    refine (rarity_any o (by omega) (by omega) w').mono ?_
    rintro e w'' ⟨rfl, hb⟩
    refine ⟨?_, hb⟩
    rw [if_neg (show ¬ 21 < (o : Int) by omega), if_neg (show ¬ 21 < (o : Int) by omega), ← hna, ← hl]; simp
  have hn3 : n ≤ 3 := by have := aryN_le o; omega
  have hp0 : ((n : Int) == 0) = false := by simp; omega
  have hpn : ((n : Int) != (n : Int)) = false := by simp
  have HNA := Lib.hid (And.intro hna (And.intro h0 hl)); have Hc := Lib.hid hcell
  clear hna hcell h0 hl h
  go_enter Tryz.func61, Tryz.ntmps61
  go_wp2_with (go_at_call 82; refine (har _).mono ?_; rintro e w2 ⟨rfl, rfl⟩)
  go_loop [9] (fun i => ∃ k : Nat, k ≤ n ∧ i = .int .i64 k ∧ ∀ j, j < k → (0 : Int) ≤ xs.getD j 0 ∧ xs.getD j 0 < (L.length : Int)) (fun i => n - (intOf i).toNat)
  case atStart => exact ⟨0, by omega, rfl, fun j hj => by omega⟩
  case round =>
    obtain ⟨k, hk, rfl, hok⟩ := hrel
    by_cases hlt : k < n
    · obtain ⟨b, off, q, rfl, hc, hq⟩ := Hc.out k hlt
      have hqd : xs.getD k 0 = q := by rw [List.getD_eq_getElem?_getD, hq]; rfl
      have hqm : q ∈ xs := List.mem_of_getElem? hq
      have Hq := Lib.hid (And.intro hqd hqm)
      clear hq hqd hqm
      have his := rIs_any H0.out q
      by_cases hin : (0 : Int) ≤ q ∧ q < (L.length : Int)
      · have hT : isT L q = true := decide_eq_true hin
        rw [hT] at his
        have HIS := Lib.hid his
        clear his hT
        go_wp2_with (go_at_call 69; refine HIS.out.mono ?_; rintro e w2 ⟨rfl, rfl⟩)
        go_round
        case rel => exact ⟨k + 1, by omega, by go_num, fun j hj => by
          rcases Nat.lt_or_ge j k with h | h
          · exact hok j h
          · obtain rfl : j = k := by omega
            rw [Hq.out.1]; exact hin⟩
        case measure => simp [intOf]; omega
      · have hT : isT L q = false := decide_eq_false hin
        rw [hT] at his
        have HIS := Lib.hid his
        obtain rfl : R = 3 := by rw [← HR.out, if_neg (fun h' => hin (h' q Hq.out.2))]
        clear his hT hin
        go_wp2_with (go_at_call 69; refine HIS.out.mono ?_; rintro e w2 ⟨rfl, rfl⟩)
        go_ret
        exact ⟨rfl, rfl⟩
    · obtain rfl : k = n := by omega
      have hall : ∀ a ∈ xs, (0 : Int) ≤ a ∧ a < (L.length : Int) := by
        intro a ha
        obtain ⟨j, hj, rfl⟩ := List.getElem_of_mem ha
        have h := hok j (by have := HNA.out.1; omega)
        rw [List.getD_eq_getElem?_getD, List.getElem?_eq_getElem hj] at h
        exact h
      obtain rfl : R = 0 := by rw [← HR.out, if_pos hall]
      clear hall hok
      go_wp2
      go_ret
      exact ⟨rfl, rfl⟩
theorem rmay_any (h : RGr w base F I rb W room L) (o : Nat) (ho : o ≤ 255) (xs : List Int) (va : Value) (hv : SliceOf w .i64 va xs) :
    Calls Tryz.prog 61 #[.pointer (some ⟨rb, 0, none⟩), .int .u8 o, va] w fun e w' => e = .returned (.int .i64 (mayR L o xs)) ∧ w = w' := by
  unfold mayR
  by_cases hc : o ≤ 21 ∧ aryN o ≠ 0 ∧ aryN o = xs.length
  · rw [if_pos hc]; exact rmay_good h o hc.1 xs va hv hc.2.1 hc.2.2
  · rw [if_neg hc]; exact rmay_bad h o ho xs va hv hc
theorem rapp_any (h : RGr w base F I rb W room L) (o : Nat) (ho : o ≤ 255) (xs : List Int) (va : Value) (hv : SliceOf w .i64 va xs) :
    Calls Tryz.prog 33 #[.pointer (some ⟨rb, 0, none⟩), .int .u8 o, va] w (RPost w base F I rb W room (appR room L o xs)) := by
  have hmay := rmay_any h o ho xs va hv
  rw [appR_may]
  obtain ⟨a, n, cap, rfl, -, -⟩ := hv.parts
  have H0 := Lib.hid h
  by_cases h0 : mayR L o xs = 0
  · rw [if_pos h0]
    rw [h0] at hmay
    have hm : o ≤ 21 ∧ aryN o ≠ 0 ∧ aryN o = xs.length ∧ ∀ a ∈ xs, (0 : Int) ≤ a ∧ a < (L.length : Int) := by
      unfold mayR at h0
      split at h0
      · rename_i hc
        split at h0
        · exact ⟨hc.1, hc.2.1, hc.2.2, by assumption⟩
        · cases h0
      · cases h0
    have hx3 : xs.length ≤ 3 := by have := aryN_le o; omega
    have HM := Lib.hid hm; have HMAY := Lib.hid hmay; have HV := Lib.hid hv
    clear h0 hm hmay hv h
    go_enter Tryz.func33, Tryz.ntmps33
    go_wp2_with fail
    refine HMAY.out.mono ?_
    rintro e w2 ⟨rfl, rfl⟩
    go_wp2_with fail
    refine (copyInts_any xs _ _ HV.out (by omega)).mono ?_
    rintro e w2 ⟨v2, rfl, hv2, hb2⟩
    obtain ⟨a2, m2, c2, rfl⟩ := hv2.val
    have hask := rask_any (H0.out.later hb2) o 0 xs _ (intsAt_owns hv2) (intBlk_owns hv2) ⟨HM.out.1, Nat.zero_le _, HM.out.2.2.1.symm⟩ HM.out.2.2.2
    have HA := Lib.hid hask; have HV2 := Lib.hid hv2
    clear hask hv2
    go_wp2_with fail
    refine HA.out.mono ?_
    rintro e w4 ⟨F', I', rfl, g1, g2, g3, g4⟩
    go_wp2
    go_ret2
    exact ⟨F', I', rfl, g1, (Touch.of_below hb2 F).trans g2 (fun k hk => .inl hk), fun k hk => (g3 k hk).imp id (fun h => by have := hb2.size; omega), fun k hk => (g4 k hk).imp id (fun h => (HV2.out.lt k h).1)⟩
  · rw [if_neg h0]
    obtain ⟨m, hm⟩ : ∃ m, mayR L o xs = m := ⟨_, rfl⟩
    rw [hm] at hmay h0 ⊢
    have hmb : ((m : Int) != 0) = true := by rw [bne_iff_ne]; omega
    have HMAY := Lib.hid hmay
    clear hm hmay h0 hv h
    go_enter Tryz.func33, Tryz.ntmps33
    go_wp2_with fail
    refine HMAY.out.mono ?_
    rintro e w2 ⟨rfl, rfl⟩
    go_wp2
    go_ret2
    exact RPost.same H0.out (Below.refl _ _) 0 m
end
end Go.Proofs.YteamnchoddegpaaGreatDoor
namespace Go.Proofs.YteamnchoddegpaaGreatDoor
open Go.RowKit Go.Maps
set_option maxHeartbeats 800000
def Thing.rgraph (F I : List Nat) (rb W room : Nat) (L : List PNode) : Thing :=
  ⟨F, I, fun w => RGr w 0 F I rb W room L, fun _ _ h hk => h.keep (fun k hm => hk k (.inl hm)) (fun k hm _ => hk k (.inr hm))⟩
section
variable {w0 wr w' : World} {ts : List Thing} {F I : List Nat} {rb W room : Nat} {L : List PNode}
theorem Lab.rgr (h : Lab w0 wr (Thing.rgraph F I rb W room L :: ts)) : RGr wr 0 F I rb W room L := h.head
theorem Lab.rpost {R : List PNode × Nat × Nat} {e : Ending} (h : Lab w0 wr (Thing.rgraph F I rb W room L :: ts)) (hp : RPost wr 0 F I rb W room R e w') :
    ∃ F' I', e = .returned (.tuple #[.int .i64 R.2.1, .int .i64 R.2.2]) ∧ Lab w0 w' (Thing.rgraph F' I' rb W room R.1 :: ts) := by
  obtain ⟨F', I', he, hg, ht, hF, hI⟩ := hp
  refine ⟨F', I'.filter fun k => decide (k < w'.heap.size), he, h.turn (s' := Thing.rgraph F' _ rb W room R.1) ht hg.inI hF (fun k hk => ?_) (fun k hk => ?_)⟩
  · exact hI k (List.mem_filter.1 hk).1
  · rcases hk with hk | hk
    · exact hg.lt k hk
    · simpa using (List.mem_filter.1 hk).2
theorem Lab.new_rgraph (h : Lab w0 wr ts) (W most : Int) (hok : newOk W most) :
    Calls Tryz.prog 27 #[.int .i64 W, .int .i64 most] wr fun e w' => ∃ rb F, e = .returned (.tuple #[.pointer (some ⟨rb, 0, none⟩), .int .i64 0]) ∧ Lab w0 w' (Thing.rgraph F [] rb W.toNat (roomOf most) [] :: ts) := by
  refine (rnew_any W most hok wr).mono ?_
  rintro e w' ⟨rb, F, rfl, hg, hb⟩
  refine ⟨rb, F, rfl, h.new (s := Thing.rgraph F [] rb W.toNat (roomOf most) []) hb (hg.mono (Nat.zero_le _)) hg.base_le (fun k hk => by simp [Thing.rgraph] at hk) (fun k hk => ?_)⟩
  rcases hk with hk | hk
  · exact hg.lt k hk
  · simp [Thing.rgraph] at hk
end
/-- A cell of a block of one's own is written. -/
theorem Lab.store {w0 wr : World} {ts : List Thing} {b T : Nat} {arr : Array Value} (h : Lab w0 wr (Thing.box b T arr :: ts)) (i : Nat) (v : Value) : Lab w0 (wr.setCell ⟨b, i, none⟩ v) (Thing.box b T (arr.setIfInBounds i v) :: ts) := by
  refine h.turn (s' := Thing.box b T (arr.setIfInBounds i v)) ⟨rfl, rfl, rfl, by rw [World.size_setCell]; exact Nat.le_refl _, fun k hk hn => heap_setCell_other _ _ _ _ (by simpa [Thing.box] using hn)⟩ (heap_setCell_same _ _ _ _ _ _ h.box1) (fun k hk => .inl hk) (fun k hk => .inl hk) (fun k hk => ?_)
  rw [World.size_setCell]
  exact h.high (Thing.box b T arr) (by simp) k hk
/-- A slice that a graph's call leaves as it is. -/
def Stays (w : World) (S : List Nat) (va : Value) (xs : List Int) : Prop := ∀ wx, Touch S w wx → SliceOf wx .i64 va xs
theorem Stays.slice {w : World} {S : List Nat} {va : Value} {xs : List Int} (h : Stays w S va xs) : SliceOf w .i64 va xs := h w (Touch.refl _ _)
theorem Lab.stays {w0 wr : World} {ts : List Thing} {F I : List Nat} {gb W room : Nat} {L : List PNode} (h : Lab w0 wr (Thing.graph F I gb W room L :: ts)) {va : Value} {xs : List Int} (hs : SliceOf w0 .i64 va xs) : Stays wr F va xs :=
  fun _ ht => hs.below (ht.below h.below h.size (h.low (Thing.graph F I gb W room L) (by simp)))
end Go.Proofs.YteamnchoddegpaaGreatDoor
namespace Go.Proofs.YteamnchoddegpaaGreatDoor
open Go.RowKit Go.Maps
set_option maxHeartbeats 800000
/-- What Node answers: the node and the error. -/
def nodeAt (L : List PNode) (t : Int) : PNode × Nat := if 0 ≤ t ∧ t < (L.length : Int) then (L.getD t.toNat (0, 0, []), 0) else ((0, 0, []), 3)
theorem nodeAt_in {L : List PNode} {i : Nat} {n : PNode} (h : L[i]? = some n) : nodeAt L (i : Int) = (n, 0) := by
  have hl := (List.getElem?_eq_some_iff.1 h).1
  unfold nodeAt
  rw [if_pos (by omega), Int.toNat_natCast, List.getD_eq_getElem?_getD, h]; rfl
section
variable {w : World} {base : Nat} {F I F' I' : List Nat} {gb rb W room : Nat} {L : List PNode}
theorem node_t (h : Gr w base F I gb W room L) (t : Int) :
    Calls Tryz.prog 67 #[.pointer (some ⟨gb, 0, none⟩), .int .i64 t] w fun e w' => ∃ a m c, e = .returned (.tuple #[.agg #[.int .u8 (nodeAt L t).1.1, .int .u64 (nodeAt L t).1.2.1, .slice a m c], .int .i64 (nodeAt L t).2]) ∧ OwnInts w' w.heap.size 3 .i64 (.slice a m c) (nodeAt L t).1.2.2 ∧ Below w.heap.size w w' := by
  by_cases ht : 0 ≤ t ∧ t < (L.length : Int)
  · obtain ⟨i, rfl⟩ := Int.eq_ofNat_of_zero_le ht.1
    obtain ⟨n, hn⟩ : ∃ n, L[i]? = some n := ⟨_, List.getElem?_eq_getElem (by omega)⟩
    rw [nodeAt_in hn]
    refine (node_at h i n hn).mono ?_
    rintro e w' ⟨va, rfl, hv, hb⟩
    obtain ⟨a, m, c, rfl⟩ := hv.val
    exact ⟨a, m, c, rfl, hv, hb⟩
  · have : nodeAt L t = ((0, 0, []), 3) := by unfold nodeAt; rw [if_neg ht]
    rw [this]
    refine (node_out h t (by omega)).mono ?_
    rintro e w' ⟨rfl, hb⟩
    exact ⟨none, 0, 0, rfl, OwnInts.nil _ _ _ _, hb⟩
end
end Go.Proofs.YteamnchoddegpaaGreatDoor
