/- Plain: what occurs in several terms; a walk by a stack; the variables, sorted. -/
import Derived.Test.YtofbadmjopefpaaPlainP
namespace Go.Proofs.Ytofbadmjopefpaa

/-- The nodes that occur in some of the terms. -/
def occS (L : List PNode) (ts : List Int) : Nat → Bool := occDown L L.length (fun i => ts.any fun t => t.toNat == i)
/-- All terms are there. -/
def InL (L : List PNode) (ts : List Int) : Prop := ∀ t ∈ ts, (0 : Int) ≤ t ∧ t < (L.length : Int)
instance (L : List PNode) (ts : List Int) : Decidable (InL L ts) := by unfold InL; exact inferInstance
/-- How many nodes are marked. -/
def cntS (L : List PNode) (S : Nat → Bool) : Nat := ((List.range L.length).filter S).length
/-- The number of a variable. -/
def varN (L : List PNode) (j : Nat) : Option Int := match L[j]? with | some n => if n.1 = 1 then some (n.2.1 : Int) else none | none => none
def varsS (L : List PNode) (S : Nat → Bool) : List Int := ((List.range L.length).filter S).filterMap (varN L)
def leI : Int → Int → Bool := fun x y => decide (x ≤ y)
/-- The variables of marked nodes, in their order. -/
def varsO (L : List PNode) (S : Nat → Bool) : List Int := (varsS L S).mergeSort leI
section
variable {L L' : List PNode} {ts st : List Int} {S : Nat → Bool}
theorem occS_start {t : Int} (h : t ∈ ts) : occS L ts t.toNat = true := occDown_mono _ _ (List.any_eq_true.2 ⟨t, h, by simp⟩)
theorem args_lt (hw : WFL L) {j : Nat} : ∀ a ∈ argsOf L j, (0 : Int) ≤ a ∧ a < (j : Int) := fun a ha => by
  unfold argsOf at ha
  split at ha
  · rename_i n hn
    exact hw.args j n hn a ha
  · cases ha
theorem argsOf_lt {j : Nat} {a : Int} (h : a ∈ argsOf L j) : j < L.length := by
  unfold argsOf at h
  split at h
  · rename_i n hn
    exact (List.getElem?_eq_some_iff.1 hn).1
  · cases h
/-- What occurs is in each closed set that has the terms. -/
theorem occS_min {C : Nat → Prop} (hC : ∀ j, C j → ∀ a ∈ argsOf L j, C a.toNat) (ht : ∀ t ∈ ts, C t.toNat) {i : Nat} (h : occS L ts i = true) : C i :=
  occ_closed hC _ _ (fun i hi => by
    obtain ⟨t, h1, h2⟩ := List.any_eq_true.1 hi
    have := ht t h1
    rwa [beq_iff_eq.1 h2] at this) i h
theorem occDown_args (hw : WFL L) {j : Nat} : ∀ (k : Nat) (f : Nat → Bool), j < k → occDown L k f j = true → ∀ a ∈ argsOf L j, occDown L k f a.toNat = true
  | 0, _, h => by omega
  | k + 1, f, hk => fun h a ha => by
    show occDown L k (occStep L k f) a.toNat = true
    rcases Nat.lt_or_ge j k with h1 | h1
    · exact occDown_args hw k _ h1 h a ha
    · obtain rfl : j = k := by omega
      have h2 : occDown L j (occStep L j f) j = true := h
      rw [occDown_same hw j _ (Nat.le_refl _)] at h2
      unfold occStep at h2
      have : ((argsOf L j).any fun a => a.toNat == j) = false := by
        rw [List.any_eq_false]
        intro b hb
        have := args_lt hw b hb
        simp; omega
      rw [this] at h2
      have hf : f j = true := by simpa using h2
      refine occDown_mono _ _ ?_
      unfold occStep
      rw [hf]
      have : ((argsOf L j).any fun b => b.toNat == a.toNat) = true := List.any_eq_true.2 ⟨a, ha, by simp⟩
      simp [this]
theorem occS_args (hw : WFL L) {j : Nat} (h : occS L ts j = true) : ∀ a ∈ argsOf L j, occS L ts a.toNat = true := fun a ha => occDown_args hw _ _ (argsOf_lt ha) h a ha
theorem occS_lt (hw : WFL L) (hi : InL L ts) {j : Nat} (h : occS L ts j = true) : j < L.length :=
  occS_min (C := fun j => j < L.length) (fun j hj a ha => by have := args_lt hw a ha; omega) (fun t ht => by have := hi t ht; omega) h
/-- A walk by a stack, under way. -/
structure SupInv (L : List PNode) (ts : List Int) (S : Nat → Bool) (st : List Int) : Prop where
  st_in : InL L st
  has : ∀ t ∈ ts, S t.toNat = true ∨ t ∈ st
  closed : ∀ j, S j = true → ∀ a ∈ argsOf L j, S a.toNat = true ∨ a ∈ st
  sub : ∀ j, S j = true → occS L ts j = true
  st_sub : ∀ t ∈ st, occS L ts t.toNat = true
theorem SupInv.start (h : InL L ts) : SupInv L ts (fun _ => false) ts := ⟨h, fun _ ht => .inr ht, by simp, by simp, fun _ ht => occS_start ht⟩
theorem SupInv.skip {t : Int} (h : SupInv L ts S (st ++ [t])) (ht : S t.toNat = true) : SupInv L ts S st := by
  refine ⟨fun x hx => h.st_in x (by simp [hx]), fun x hx => ?_, fun j hj a ha => ?_, h.sub, fun x hx => h.st_sub x (by simp [hx])⟩
  · rcases h.has x hx with h1 | h1
    · exact .inl h1
    · rcases List.mem_append.1 h1 with h1 | h1
      · exact .inr h1
      · rw [List.mem_singleton.1 h1]; exact .inl ht
  · rcases h.closed j hj a ha with h1 | h1
    · exact .inl h1
    · rcases List.mem_append.1 h1 with h1 | h1
      · exact .inr h1
      · rw [List.mem_singleton.1 h1]; exact .inl ht
/-- A node is marked. -/
def mark (S : Nat → Bool) (t : Nat) : Nat → Bool := fun j => if j = t then true else S j
theorem mark_self {t : Nat} : mark S t t = true := by simp [mark]
theorem mark_old {t j : Nat} (h : S j = true) : mark S t j = true := by unfold mark; split <;> simp [h]
theorem SupInv.visit (hw : WFL L) {t : Int} (h : SupInv L ts S (st ++ [t])) : SupInv L ts (mark S t.toNat) (st ++ argsOf L t.toNat) := by
  refine ⟨fun x hx => ?_, fun x hx => ?_, fun j hj a ha => ?_, fun j hj => ?_, fun x hx => ?_⟩
  · rcases List.mem_append.1 hx with h1 | h1
    · exact h.st_in x (by simp [h1])
    · have h2 := args_lt hw x h1
      have := argsOf_lt h1
      omega
  · rcases h.has x hx with h1 | h1
    · exact .inl (mark_old h1)
    · rcases List.mem_append.1 h1 with h1 | h1
      · exact .inr (by simp [h1])
      · rw [List.mem_singleton.1 h1]; exact .inl mark_self
  · by_cases e : j = t.toNat
    · subst e; exact .inr (by simp [ha])
    · have hj' : S j = true := by unfold mark at hj; rwa [if_neg e] at hj
      rcases h.closed j hj' a ha with h1 | h1
      · exact .inl (mark_old h1)
      · rcases List.mem_append.1 h1 with h1 | h1
        · exact .inr (by simp [h1])
        · rw [List.mem_singleton.1 h1]; exact .inl mark_self
  · by_cases e : j = t.toNat
    · subst e; exact h.st_sub t (by simp)
    · have hj' : S j = true := by unfold mark at hj; rwa [if_neg e] at hj
      exact h.sub j hj'
  · rcases List.mem_append.1 hx with h1 | h1
    · exact h.st_sub x (by simp [h1])
    · exact occS_args hw (h.st_sub t (by simp)) x h1
theorem SupInv.end_ (h : SupInv L ts S []) : S = occS L ts := by
  funext i
  cases h1 : S i with
  | true => exact (h.sub i h1).symm
  | false =>
    cases h2 : occS L ts i with
    | false => rfl
    | true =>
      have := occS_min (C := fun j => S j = true) (fun j hj a ha => (h.closed j hj a ha).resolve_right (by simp)) (fun t ht => (h.has t ht).resolve_right (by simp)) h2
      rw [this] at h1; cases h1
theorem filter_mark {t : Nat} (h : S t = false) : ∀ n, ((List.range n).filter (mark S t)).length = ((List.range n).filter S).length + if t < n then 1 else 0
  | 0 => by simp
  | n + 1 => by
    rw [List.range_succ, List.filter_append, List.filter_append, List.length_append, List.length_append, filter_mark h n]
    by_cases e : n = t
    · subst e; simp [mark, h]
    · have : mark S t n = S n := by unfold mark; rw [if_neg e]
      have h3 : (if t < n + 1 then 1 else 0 : Nat) = if t < n then 1 else 0 := by split <;> split <;> omega
      simp only [List.filter_cons, List.filter_nil, this, h3]
      omega
theorem cntS_mark {t : Nat} (h : S t = false) (ht : t < L.length) : cntS L (mark S t) = cntS L S + 1 := by
  unfold cntS; rw [filter_mark h, if_pos ht]
theorem cntS_le : cntS L S ≤ L.length := by
  unfold cntS; have := List.length_filter_le S (List.range L.length); rwa [List.length_range] at this
theorem cntS_none : cntS L (fun _ => false) = 0 := by unfold cntS; simp
theorem cntS_mono {S T : Nat → Bool} (h : ∀ i, S i = true → T i = true) : cntS L S ≤ cntS L T := by
  unfold cntS
  have : ∀ n, ((List.range n).filter S).length ≤ ((List.range n).filter T).length := by
    intro n
    induction n with
    | zero => simp
    | succ n ih =>
      rw [List.range_succ, List.filter_append, List.filter_append, List.length_append, List.length_append]
      have : ([n].filter S).length ≤ ([n].filter T).length := by
        cases h1 : S n with
        | false => simp [h1]
        | true => simp [h1, h n h1]
      omega
  exact this _
theorem cntS_or {S T U : Nat → Bool} (h : ∀ i, U i = true → S i = true ∨ T i = true) : cntS L U ≤ cntS L S + cntS L T := by
  unfold cntS
  have : ∀ n, ((List.range n).filter U).length ≤ ((List.range n).filter S).length + ((List.range n).filter T).length := by
    intro n
    induction n with
    | zero => simp
    | succ n ih =>
      rw [List.range_succ, List.filter_append, List.filter_append, List.filter_append, List.length_append, List.length_append, List.length_append]
      have : ([n].filter U).length ≤ ([n].filter S).length + ([n].filter T).length := by
        cases h1 : U n with
        | false => simp [h1]
        | true => rcases h n h1 with h2 | h2 <;> simp [h1, h2]
      omega
  exact this _
theorem mem_range_filter {j : Nat} : j ∈ (List.range L.length).filter S ↔ j < L.length ∧ S j = true := by simp
theorem varN_some {j : Nat} {v : Int} : varN L j = some v ↔ ∃ n, L[j]? = some n ∧ n.1 = 1 ∧ (n.2.1 : Int) = v := by
  unfold varN
  split
  · rename_i n hn
    constructor
    · intro h
      split at h
      · exact ⟨n, hn, by assumption, by simpa using h⟩
      · cases h
    · rintro ⟨m, hm, h1, h2⟩
      obtain rfl : n = m := Option.some.inj (hn.symm.trans hm)
      rw [if_pos h1, h2]
  · constructor
    · intro h; cases h
    · rintro ⟨m, hm, -⟩; rename_i hn; rw [hn] at hm; cases hm
theorem mem_varsS {v : Int} : v ∈ varsS L S ↔ ∃ j n, S j = true ∧ L[j]? = some n ∧ n.1 = 1 ∧ (n.2.1 : Int) = v := by
  unfold varsS
  rw [List.mem_filterMap]
  constructor
  · rintro ⟨j, hj, hv⟩
    obtain ⟨n, h1, h2, h3⟩ := varN_some.1 hv
    exact ⟨j, n, (mem_range_filter.1 hj).2, h1, h2, h3⟩
  · rintro ⟨j, n, h0, h1, h2, h3⟩
    exact ⟨j, mem_range_filter.2 ⟨(List.getElem?_eq_some_iff.1 h1).1, h0⟩, varN_some.2 ⟨n, h1, h2, h3⟩⟩
theorem var_node (hw : WFL L) {j : Nat} {n : PNode} (h : L[j]? = some n) (h1 : n.1 = 1) : n = (1, n.2.1, []) := by
  obtain ⟨o, q, xs⟩ := n
  have := (hw.ok _ (List.mem_of_getElem? h)).2.2
  simp only at h1 this ⊢
  subst h1
  have : xs.length = 0 := by rw [this]; rfl
  rw [List.length_eq_zero_iff.1 this]
theorem varN_inj (hw : WFL L) {i j : Nat} {v : Int} (h : varN L i = some v) (h' : varN L j = some v) : i = j := by
  obtain ⟨n, a1, a2, a3⟩ := varN_some.1 h
  obtain ⟨m, b1, b2, b3⟩ := varN_some.1 h'
  have e1 := var_node hw a1 a2
  have e2 := var_node hw b1 b2
  have : n = m := by rw [e1, e2, show n.2.1 = m.2.1 by omega]
  subst this
  exact (List.getElem?_inj (List.getElem?_eq_some_iff.1 a1).1 hw.nodup).1 (a1.trans b1.symm)
theorem nodup_filterMap {f : Nat → Option Int} : ∀ {l : List Nat}, l.Nodup → (∀ i j v, f i = some v → f j = some v → i = j) → (l.filterMap f).Nodup
  | [], _, _ => by simp
  | x :: l, hn, hf => by
    rw [List.nodup_cons] at hn
    have ih := nodup_filterMap hn.2 hf
    rw [List.filterMap_cons]
    cases hx : f x with
    | none => exact ih
    | some v =>
      refine List.nodup_cons.2 ⟨fun hm => ?_, ih⟩
      obtain ⟨y, hy, hv⟩ := List.mem_filterMap.1 hm
      exact hn.1 (hf x y v hx hv ▸ hy)
theorem varsS_nodup (hw : WFL L) : (varsS L S).Nodup := nodup_filterMap (List.nodup_range.sublist List.filter_sublist) fun _ _ _ h1 h2 => varN_inj hw h1 h2
theorem leI_trans (a b c : Int) (h1 : leI a b = true) (h2 : leI b c = true) : leI a c = true := by unfold leI at *; simp at *; omega
theorem leI_total (a b : Int) : (leI a b || leI b a) = true := by unfold leI; simp; omega
/-- Of what has the same elements the sorted lists are the same. -/
theorem sort_perm {l l' : List Int} (h : l.Perm l') : l.mergeSort leI = l'.mergeSort leI := by
  have h1 := List.pairwise_mergeSort (le := leI) leI_trans leI_total l
  have h2 := List.pairwise_mergeSort (le := leI) leI_trans leI_total l'
  have hp : (l.mergeSort leI).Perm (l'.mergeSort leI) := (List.mergeSort_perm l leI).trans (h.trans (List.mergeSort_perm l' leI).symm)
  exact List.Perm.eq_of_pairwise (le := fun a b => leI a b = true) (fun a b _ _ h1 h2 => by unfold leI at *; simp at *; omega) h1 h2 hp
theorem sort_sorted {l : List Int} (h : l.Pairwise (fun a b => leI a b = true)) : l.mergeSort leI = l := List.mergeSort_of_pairwise h
theorem mem_varsO {v : Int} : v ∈ varsO L S ↔ ∃ j n, S j = true ∧ L[j]? = some n ∧ n.1 = 1 ∧ (n.2.1 : Int) = v := by
  unfold varsO; rw [List.mem_mergeSort, mem_varsS]
theorem varsO_len : (varsO L S).length ≤ L.length := by
  unfold varsO
  rw [List.length_mergeSort]
  have h1 := List.length_filterMap_le (varN L) ((List.range L.length).filter S)
  have h2 := cntS_le (L := L) (S := S)
  exact Nat.le_trans h1 h2
theorem varsO_nodup (hw : WFL L) : (varsO L S).Nodup := (List.mergeSort_perm _ _).nodup_iff.2 (varsS_nodup hw)
/-- The variables ascend. -/
theorem varsO_lt (hw : WFL L) {i : Nat} {a b : Int} (h1 : (varsO L S)[i]? = some a) (h2 : (varsO L S)[i + 1]? = some b) : a < b := by
  have hp := List.pairwise_mergeSort (le := leI) leI_trans leI_total (varsS L S)
  obtain ⟨l1, e1⟩ := List.getElem?_eq_some_iff.1 h1
  obtain ⟨l2, e2⟩ := List.getElem?_eq_some_iff.1 h2
  have h3 := List.pairwise_iff_getElem.1 hp i (i + 1) l1 l2 (by omega)
  have h4 : a ≠ b := fun e => by
    have := (List.getElem?_inj l1 (varsO_nodup hw)).1 ((h1.trans (congrArg some e)).trans h2.symm)
    omega
  have h5 : a ≤ b := by
    have : leI a b = true := by rw [← e1, ← e2]; exact h3
    unfold leI at this; simpa using this
  omega
theorem varsO_congr {S T : Nat → Bool} (h : ∀ i, i < L.length → S i = T i) : varsO L S = varsO L T := by
  unfold varsO varsS
  rw [List.filter_congr (fun i hi => h i (List.mem_range.1 hi))]
theorem cntS_congr {S T : Nat → Bool} (h : ∀ i, i < L.length → S i = T i) : cntS L S = cntS L T := by
  unfold cntS
  rw [List.filter_congr (fun i hi => h i (List.mem_range.1 hi))]
/-- The same variables, the same list. -/
theorem varsO_ext (hw : WFL L) (hw' : WFL L') {S T : Nat → Bool} (h : ∀ v, v ∈ varsO L S ↔ v ∈ varsO L' T) : varsO L S = varsO L' T := by
  unfold varsO
  refine sort_perm ((List.perm_ext_iff_of_nodup (varsS_nodup hw) (varsS_nodup hw')).2 fun v => ?_)
  have := h v
  unfold varsO at this
  rwa [List.mem_mergeSort, List.mem_mergeSort] at this
/-- Only which terms are there matters. -/
theorem occS_congr {us : List Int} (h : ∀ t, t ∈ ts ↔ t ∈ us) : occS L ts = occS L us := by
  unfold occS
  congr 1
  funext i
  rw [Bool.eq_iff_iff, List.any_eq_true, List.any_eq_true]
  constructor
  · rintro ⟨t, h1, h2⟩; exact ⟨t, (h t).1 h1, h2⟩
  · rintro ⟨t, h1, h2⟩; exact ⟨t, (h t).2 h1, h2⟩
theorem occS_append {us : List Int} (hw : WFL L) (i : Nat) : occS L (ts ++ us) i = (occS L ts i || occS L us i) := by
  rw [Bool.eq_iff_iff, Bool.or_eq_true]
  constructor
  · intro h
    refine occS_min (C := fun i => occS L ts i = true ∨ occS L us i = true) (fun j hj a ha => ?_) (fun t ht => ?_) h
    · rcases hj with hj | hj
      · exact .inl (occS_args hw hj a ha)
      · exact .inr (occS_args hw hj a ha)
    · rcases List.mem_append.1 ht with ht | ht
      · exact .inl (occS_start ht)
      · exact .inr (occS_start ht)
  · rintro (h | h)
    · exact occS_min (C := fun i => occS L (ts ++ us) i = true) (fun j hj a ha => occS_args hw hj a ha) (fun t ht => occS_start (by simp [ht])) h
    · exact occS_min (C := fun i => occS L (ts ++ us) i = true) (fun j hj a ha => occS_args hw hj a ha) (fun t ht => occS_start (by simp [ht])) h
/-- Later nodes do not matter. -/
theorem occS_prefix (hw : WFL L) (hw' : WFL L') (hp : L <+: L') (hi : InL L ts) (i : Nat) : occS L' ts i = occS L ts i := by
  have ha : ∀ j, j < L.length → argsOf L' j = argsOf L j := fun j hj => by
    unfold argsOf
    obtain ⟨n, hn⟩ : ∃ n, L[j]? = some n := ⟨_, List.getElem?_eq_getElem hj⟩
    rw [hn, prefix_at hp hn]
  rw [Bool.eq_iff_iff]
  constructor
  · intro h
    refine (occS_min (C := fun i => occS L ts i = true ∧ i < L.length) (fun j hj a h2 => ?_) (fun t ht => ⟨occS_start ht, by have := hi t ht; omega⟩) h).1
    rw [ha j hj.2] at h2
    have := args_lt hw a h2
    exact ⟨occS_args hw hj.1 a h2, by omega⟩
  · intro h
    refine (occS_min (C := fun i => occS L' ts i = true ∧ i < L.length) (fun j hj a h2 => ?_) (fun t ht => ⟨occS_start ht, by have := hi t ht; omega⟩) h).1
    have := args_lt hw a h2
    exact ⟨occS_args hw' hj.1 a (by rw [ha j hj.2]; exact h2), by omega⟩
theorem cntS_prefix (hp : L <+: L') {S : Nat → Bool} (h : ∀ i, S i = true → i < L.length) : cntS L' S = cntS L S := by
  unfold cntS
  have hl := hp.length_le
  obtain ⟨d, hd⟩ : ∃ d, L'.length = L.length + d := ⟨L'.length - L.length, by omega⟩
  rw [hd]
  clear hd hl
  induction d with
  | zero => rfl
  | succ d ih =>
    rw [← Nat.add_assoc, List.range_succ, List.filter_append, List.length_append, ih]
    have : S (L.length + d) = false := by
      cases hS : S (L.length + d) with
      | false => rfl
      | true => have := h _ hS; omega
    simp [this]
theorem varsO_prefix (hw : WFL L) (hw' : WFL L') (hp : L <+: L') {S : Nat → Bool} (h : ∀ i, S i = true → i < L.length) : varsO L' S = varsO L S := by
  refine varsO_ext hw' hw fun v => ?_
  rw [mem_varsO, mem_varsO]
  constructor
  · rintro ⟨j, n, h0, h1, h2, h3⟩
    obtain ⟨m, hm⟩ : ∃ m, L[j]? = some m := ⟨_, List.getElem?_eq_getElem (h j h0)⟩
    obtain rfl : m = n := by have := prefix_at hp hm; rw [h1] at this; exact (Option.some.inj this).symm
    exact ⟨j, m, h0, hm, h2, h3⟩
  · rintro ⟨j, n, h0, h1, h2, h3⟩
    exact ⟨j, n, h0, prefix_at hp h1, h2, h3⟩
/-- A term, and what its arguments are made of. -/
theorem occS_node (hw : WFL L) {t : Nat} (ht : t < L.length) : occS L [(t : Int)] = mark (occS L (argsOf L t)) t := by
  funext i
  rw [Bool.eq_iff_iff]
  constructor
  · intro h
    refine occS_min (C := fun i => mark (occS L (argsOf L t)) t i = true) (fun j hj a ha => ?_) (fun u hu => ?_) h
    · by_cases e : j = t
      · subst e; exact mark_old (occS_start ha)
      · unfold mark at hj; rw [if_neg e] at hj
        exact mark_old (occS_args hw hj a ha)
    · rw [List.mem_singleton.1 hu]; exact mark_self
  · intro h
    by_cases e : i = t
    · subst e; exact occS_start (t := (i : Int)) (by simp)
    · unfold mark at h; rw [if_neg e] at h
      refine occS_min (C := fun i => occS L [(t : Int)] i = true) (fun j hj a ha => occS_args hw hj a ha) (fun u hu => ?_) h
      have : occS L [(t : Int)] t = true := occS_start (t := (t : Int)) (by simp)
      exact occS_args hw this u hu
theorem occS_not (hw : WFL L) {t : Nat} : occS L (argsOf L t) t = false := by
  cases h : occS L (argsOf L t) t with
  | false => rfl
  | true =>
    have := occS_min (C := fun j => j < t) (fun j hj a ha => by have := args_lt hw a ha; omega) (fun u hu => by have := args_lt hw u hu; omega) h
    omega
theorem occS_one (hw : WFL L) {t : Nat} (_ht : t < L.length) : ∀ i, i < L.length → occS L [(t : Int)] i = occ L t i := fun i _ => by
  rw [Bool.eq_iff_iff]
  constructor
  · intro h
    refine (occS_min (C := fun i => occ L t i = true ∧ i ≤ t) (fun j hj a ha => ?_) (fun u hu => ?_) h).1
    · have := args_lt hw a ha
      exact ⟨occ_args hw hj.2 hj.1 a ha, by omega⟩
    · rw [List.mem_singleton.1 hu]; exact ⟨occ_top L t, by simp⟩
  · intro h
    exact occ_in (S := fun i => occS L [(t : Int)] i = true) (occS_start (t := (t : Int)) (by simp)) (fun j hj a ha => occS_args hw hj a ha) i h
end
end Go.Proofs.Ytofbadmjopefpaa
