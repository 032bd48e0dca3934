/- Lists of lists of numbers of one's own. -/
import Derived.Test.YtmfendfpjpbhdaaDoorLatH
namespace Go.Proofs.YtmfendfpjpbhdaaDoor
open Go.RowKit Go.Maps
set_option maxHeartbeats 3200000

/-- Several things, as one. -/
def Thing.bundle (fs : List Thing) : Thing :=
  ⟨fs.flatMap (·.W), fs.flatMap (·.R), fun w => (∀ f ∈ fs, f.holds w) ∧ fs.Pairwise Apart, fun w w' h hk =>
    ⟨fun f hf => f.keep w w' (h.1 f hf) fun k hm => hk k (hm.imp (fun hm => List.mem_flatMap.2 ⟨f, hf, hm⟩) fun hm => List.mem_flatMap.2 ⟨f, hf, hm⟩), h.2⟩⟩
section
variable {w0 wr w' : World} {fs ts : List Thing}
theorem Lab.bundle (h : Lab w0 wr (fs ++ ts)) : Lab w0 wr (Thing.bundle fs :: ts) := by
  obtain ⟨p1, p2, p3⟩ := List.pairwise_append.1 h.apart
  have hm : ∀ f ∈ fs, f ∈ fs ++ ts := fun f hf => List.mem_append.2 (.inl hf)
  have hm2 : ∀ t ∈ ts, t ∈ fs ++ ts := fun f hf => List.mem_append.2 (.inr hf)
  refine ⟨h.below, fun t ht => ?_, fun t ht k hk => ?_, fun t ht k hk => ?_, List.pairwise_cons.2 ⟨fun t ht => ⟨fun k hk => ?_, fun k hk => ?_⟩, p2⟩⟩
  · rcases List.mem_cons.1 ht with rfl | ht
    · exact ⟨fun f hf => h.holds f (hm f hf), p1⟩
    · exact h.holds t (hm2 t ht)
  · rcases List.mem_cons.1 ht with rfl | ht
    · obtain ⟨f, hf, hx⟩ := List.mem_flatMap.1 hk
      exact h.low f (hm f hf) k hx
    · exact h.low t (hm2 t ht) k hk
  · rcases List.mem_cons.1 ht with rfl | ht
    · rcases hk with hk | hk
      · obtain ⟨f, hf, hx⟩ := List.mem_flatMap.1 hk
        exact h.high f (hm f hf) k (.inl hx)
      · obtain ⟨f, hf, hx⟩ := List.mem_flatMap.1 hk
        exact h.high f (hm f hf) k (.inr hx)
    · exact h.high t (hm2 t ht) k hk
  · obtain ⟨f, hf, hx⟩ := List.mem_flatMap.1 hk
    exact (p3 f hf t ht).1 k hx
  · obtain ⟨f, hf, hx⟩ := List.mem_flatMap.1 hk
    exact (p3 f hf t ht).2 k hx
theorem Lab.unbundle (h : Lab w0 wr (Thing.bundle fs :: ts)) : Lab w0 wr (fs ++ ts) := by
  have hh := h.head
  obtain ⟨p1, p2⟩ := List.pairwise_cons.1 h.apart
  have hW : ∀ f ∈ fs, ∀ k, k ∈ f.W → k ∈ (Thing.bundle fs).W := fun f hf k hk => List.mem_flatMap.2 ⟨f, hf, hk⟩
  have hR : ∀ f ∈ fs, ∀ k, k ∈ f.R → k ∈ (Thing.bundle fs).R := fun f hf k hk => List.mem_flatMap.2 ⟨f, hf, hk⟩
  refine ⟨h.below, fun t ht => ?_, fun t ht k hk => ?_, fun t ht k hk => ?_, List.pairwise_append.2 ⟨hh.2, p2, fun f hf t ht => ⟨fun k hk => (p1 t ht).1 k (hW f hf k hk), fun k hk => (p1 t ht).2 k (hR f hf k hk)⟩⟩⟩
  · rcases List.mem_append.1 ht with ht | ht
    · exact hh.1 t ht
    · exact h.holds t (by simp [ht])
  · rcases List.mem_append.1 ht with ht | ht
    · exact h.low (Thing.bundle fs) (by simp) k (hW t ht k hk)
    · exact h.low t (by simp [ht]) k hk
  · rcases List.mem_append.1 ht with ht | ht
    · exact h.high (Thing.bundle fs) (by simp) k (hk.imp (hW t ht k) (hR t ht k))
    · exact h.high t (by simp [ht]) k hk
end
/-- A list of numbers of one's own. -/
def Thing.numsK (k : IntKind) (E : Nat) (v : Value) (xs : List Int) : Thing := Thing.row E 1 v xs.length (xs.map (Value.int k))
def innerT (k : IntKind) (E : Nat) (vs : List Value) (xss : List (List Int)) (i : Nat) : Thing := Thing.numsK k E (vs.getD i undef) (xss.getD i [])
/-- A list of lists of numbers. -/
def Thing.lists (k : IntKind) (E Es : Nat) (v : Value) (vs : List Value) (xss : List (List Int)) : Thing := Thing.bundle (Thing.row Es 1 v vs.length vs :: (List.range vs.length).map (innerT k E vs xss))
section
variable {w0 wr w' : World} {ts : List Thing} {k : IntKind} {E Es : Nat} {v : Value} {vs : List Value} {xss : List (List Int)} {c : Nat}
/-- All of a list of lists but one row of it. -/
def restT (k : IntKind) (E : Nat) (vs : List Value) (xss : List (List Int)) (c : Nat) : Thing := Thing.bundle (((List.range vs.length).erase c).map (innerT k E vs xss))
theorem range_take (f : Nat → Thing) {c n : Nat} (h : c < n) : ((List.range n).map f).Perm (f c :: ((List.range n).erase c).map f) := (List.perm_cons_erase (List.mem_range.2 h)).map f
theorem Lab.lists_open (hc : c < vs.length) (h : Lab w0 wr (Thing.lists k E Es v vs xss :: ts)) :
    Lab w0 wr (innerT k E vs xss c :: Thing.row Es 1 v vs.length vs :: restT k E vs xss c :: ts) := by
  have h1 := h.unbundle.perm (ts' := ((List.range vs.length).erase c).map (innerT k E vs xss) ++ (innerT k E vs xss c :: Thing.row Es 1 v vs.length vs :: ts)) ?_
  · exact h1.bundle.rot3'
  · refine (List.Perm.cons _ ((range_take (innerT k E vs xss) hc).append_right ts)).trans ?_
    refine (List.Perm.swap _ _ _).trans ?_
    exact (List.Perm.trans (.cons _ List.perm_middle.symm) List.perm_middle.symm)
theorem rest_set (u : Value) (ys : List Int) : restT k E (vs.set c u) (xss.set c ys) c = restT k E vs xss c := by
  unfold restT
  congr 1
  rw [List.length_set]
  refine List.map_congr_left fun i hi => ?_
  have hne : i ≠ c := fun e => by
    subst e
    exact (List.Nodup.not_mem_erase List.nodup_range) hi
  unfold innerT
  congr 1
  · simp only [List.getD_eq_getElem?_getD, List.getElem?_set]
    rw [if_neg (Ne.symm hne)]
  · simp only [List.getD_eq_getElem?_getD, List.getElem?_set]
    rw [if_neg (Ne.symm hne)]
theorem inner_set {u : Value} {ys : List Int} (hc : c < vs.length) (hl : xss.length = vs.length) : innerT k E (vs.set c u) (xss.set c ys) c = Thing.numsK k E u ys := by
  unfold innerT
  simp only [List.getD_eq_getElem?_getD, List.getElem?_set]
  simp only [if_true]
  rw [if_pos hc, if_pos (by omega)]
  rfl
theorem Lab.lists_shut {u : Value} {ys : List Int} (hc : c < vs.length) (hl : xss.length = vs.length) (h : Lab w0 wr (Thing.numsK k E u ys :: Thing.row Es 1 v vs.length (vs.set c u) :: restT k E vs xss c :: ts)) :
    Lab w0 wr (Thing.lists k E Es v (vs.set c u) (xss.set c ys) :: ts) := by
  rw [← rest_set u ys, ← inner_set hc hl] at h
  unfold Thing.lists
  refine Lab.bundle ?_
  have h1 := h.rot3
  unfold restT at h1
  refine h1.unbundle.perm ?_
  rw [List.length_set]
  refine (List.perm_append_comm).trans ?_
  simp only [List.cons_append]
  refine (List.Perm.swap _ _ _).trans (List.Perm.cons _ ?_)
  refine (List.Perm.cons _ List.perm_append_comm).trans ?_
  exact ((range_take (innerT k E (vs.set c u) (xss.set c ys)) hc).append_right ts).symm
theorem Lab.lists_row (h : Lab w0 wr (Thing.lists k E Es v vs xss :: ts)) : wr.ownsRow 0 Es 1 v vs.length vs := h.head.1 (Thing.row Es 1 v vs.length vs) List.mem_cons_self
theorem Lab.lists_inner (h : Lab w0 wr (Thing.lists k E Es v vs xss :: ts)) (hc : c < vs.length) : OwnInts wr 0 E k (vs.getD c undef) (xss.getD c []) :=
  h.head.1 (innerT k E vs xss c) (List.mem_cons_of_mem _ (List.mem_map.2 ⟨c, List.mem_range.2 hc, rfl⟩))
theorem Lab.joined {wx : World} {us : List Thing} (h : Lab w0 wr ts) (hu : Lab wr wx us) (hR : ∀ u ∈ us, u.R = []) : Lab w0 wx (us ++ ts) := by
  have hl := h.later hu.below
  refine ⟨hl.below, fun t ht => ?_, fun t ht k hk => ?_, fun t ht => ?_, List.pairwise_append.2 ⟨hu.apart, hl.apart, fun u h1 t h2 => ⟨fun k hk => ⟨fun h3 => ?_, fun h3 => ?_⟩, fun k hk h3 => ?_⟩⟩⟩
  · rcases List.mem_append.1 ht with h1 | h1
    · exact hu.holds t h1
    · exact hl.holds t h1
  · rcases List.mem_append.1 ht with h1 | h1
    · exact Nat.le_trans h.below.size (hu.low t h1 k hk)
    · exact hl.low t h1 k hk
  · rcases List.mem_append.1 ht with h1 | h1
    · exact hu.high t h1
    · exact hl.high t h1
  · have := hu.low u h1 k hk; have := h.high t h2 k (.inl h3); omega
  · have := hu.low u h1 k hk; have := h.high t h2 k (.inr h3); omega
  · rw [hR u h1] at hk; cases hk
theorem lists_R : (Thing.lists k E Es v vs xss).R = [] := by
  unfold Thing.lists Thing.bundle
  refine List.flatMap_eq_nil_iff.2 fun f hf => ?_
  rcases List.mem_cons.1 hf with rfl | hf
  · rfl
  · obtain ⟨i, -, rfl⟩ := List.mem_map.1 hf
    rfl
theorem Lab.make_row (h : Lab w0 wr ts) (n T : Nat) (z : Value) (hn : n ≤ maxLen) : Lab w0 (wr.alloc (.cells (madeCells #[z] n) T)) (Thing.row T 1 (.slice (some ⟨wr.heap.size, 0, none⟩) n n) n (List.replicate n z) :: ts) := by
  refine h.new_row (below_new wr _) ⟨by simp, .inr ⟨_, n, _, rfl, Nat.le_refl _, heap_alloc_new wr _, Nat.le_refl _, hn, by simp [madeCells], ?_⟩⟩
  refine List.ext_getElem? fun i => ?_
  rw [Nat.mul_one, List.getElem?_take, List.getElem?_replicate]
  split
  · rename_i hi
    rw [Array.getElem?_toList, madeCells_at _ _ i hi]
    simp [Nat.mod_one]
  · rfl
theorem Lab.nils (h : Lab w0 wr ts) : ∀ m, Lab w0 wr (List.replicate m (Thing.numsK k E (.slice none 0 0) []) ++ ts)
  | 0 => h
  | m + 1 => by
    have := (Lab.nils h m).new_row (E := E) (size := 1) (n := 0) (v := .slice none 0 0) (cells := []) (Below.refl _ _) (World.ownsRow_nil _ _ _ _)
    exact this
theorem Lab.lists_nil {n : Nat} (h : Lab w0 wr (Thing.row Es 1 v n (List.replicate n (.slice none 0 0)) :: ts)) : Lab w0 wr (Thing.lists k E Es v (List.replicate n (.slice none 0 0)) (List.replicate n []) :: ts) := by
  unfold Thing.lists
  refine Lab.bundle ?_
  have e : (List.range (List.replicate n (Value.slice none 0 0)).length).map (innerT k E (List.replicate n (.slice none 0 0)) (List.replicate n [])) = List.replicate n (Thing.numsK k E (.slice none 0 0) []) := by
    rw [List.length_replicate]
    refine List.ext_getElem? fun i => ?_
    rw [List.getElem?_map, List.getElem?_replicate]
    by_cases hi : i < n
    · rw [List.getElem?_range hi, if_pos hi]
      unfold innerT
      simp [List.getD_eq_getElem?_getD, List.getElem?_replicate, hi]
    · rw [if_neg hi, List.getElem?_eq_none (by simp; omega)]
      rfl
  rw [e, List.length_replicate]
  exact (Lab.nils h n).perm List.perm_middle
/-- Lists of lists, as what is read. -/
def NumsOf (w : World) (k : IntKind) (v : Value) (xss : List (List Int)) : Prop :=
  ∃ a n cap, v = .slice a n cap ∧ xss.length = n ∧ ∀ i, i < n → ∃ b off xs va, a = some ⟨b, off, none⟩ ∧ xss[i]? = some xs ∧ w.cell? ⟨b, off + i, none⟩ = some va ∧ SliceOf w k va xs
theorem row_shape {w : World} {B E size n : Nat} {v : Value} {cells : List Value} (h : w.ownsRow B E size v n cells) : ∃ a cap, v = .slice a n cap ∧ (0 < n → ∃ g, a = some ⟨g, 0, none⟩) := by
  rcases h.2 with ⟨rfl, h0⟩ | ⟨g, cap, cur, rfl, -⟩
  · subst h0
    exact ⟨_, _, rfl, fun h => by omega⟩
  · exact ⟨_, _, rfl, fun _ => ⟨g, rfl⟩⟩
theorem Lab.lists_read (hl : xss.length = vs.length) (h : Lab w0 wr (Thing.lists k E Es v vs xss :: ts)) : NumsOf wr k v xss := by
  have hr := h.lists_row
  obtain ⟨a, cap, rfl, ha⟩ := row_shape hr
  refine ⟨a, _, cap, rfl, hl, fun i hi => ?_⟩
  obtain ⟨g, rfl⟩ := ha (by omega)
  have hin := (h.lists_inner hi).slice
  have hcell := World.ownsRow.cellAt hr i (by omega)
  rw [List.getElem?_eq_getElem hi] at hcell
  refine ⟨g, 0, xss.getD i [], vs.getD i undef, rfl, ?_, ?_, hin⟩
  · rw [List.getD_eq_getElem?_getD, List.getElem?_eq_getElem (by omega)]; rfl
  · rw [Nat.zero_add, hcell, List.getD_eq_getElem?_getD, List.getElem?_eq_getElem hi]; rfl
/-- All rows of a list of lists. -/
def innerAll (k : IntKind) (E : Nat) (vs : List Value) (xss : List (List Int)) : Thing := Thing.bundle ((List.range vs.length).map (innerT k E vs xss))
theorem Lab.lists_row_open (h : Lab w0 wr (Thing.lists k E Es v vs xss :: ts)) : Lab w0 wr (Thing.row Es 1 v vs.length vs :: innerAll k E vs xss :: ts) := by
  have h1 := h.unbundle.perm (ts' := (List.range vs.length).map (innerT k E vs xss) ++ (Thing.row Es 1 v vs.length vs :: ts)) List.perm_middle.symm
  exact h1.bundle.swap
theorem Lab.lists_more {v' u : Value} {ys : List Int} (hl : xss.length = vs.length) (h : Lab w0 wr (Thing.row Es 1 v' (vs.length + 1) (vs ++ [u]) :: Thing.numsK k E u ys :: innerAll k E vs xss :: ts)) : Lab w0 wr (Thing.lists k E Es v' (vs ++ [u]) (xss ++ [ys]) :: ts) := by
  unfold Thing.lists
  refine Lab.bundle ?_
  have h1 := (Lab.rot3 h).unbundle
  have e : (List.range (vs ++ [u]).length).map (innerT k E (vs ++ [u]) (xss ++ [ys])) = (List.range vs.length).map (innerT k E vs xss) ++ [Thing.numsK k E u ys] := by
    rw [List.length_append, List.length_singleton, List.range_succ, List.map_append]
    congr 1
    · refine List.map_congr_left fun i hi => ?_
      have hi' := List.mem_range.1 hi
      unfold innerT
      simp only [List.getD_eq_getElem?_getD]
      rw [List.getElem?_append_left hi', List.getElem?_append_left (by omega)]
    · unfold innerT
      simp only [List.map_cons, List.map_nil, List.getD_eq_getElem?_getD]
      rw [List.getElem?_append_right (Nat.le_refl _), List.getElem?_append_right (by omega), hl]
      simp
  rw [e, List.length_append, List.length_singleton]
  refine h1.perm ?_
  simp only [List.cons_append, List.append_assoc, List.nil_append]
  exact List.perm_middle.trans (.cons _ (.refl _))
theorem Lab.lists_none (h : Lab w0 wr ts) : Lab w0 wr (Thing.lists k E Es (.slice none 0 0) [] [] :: ts) :=
  Lab.lists_nil (n := 0) (h.new_row (E := Es) (size := 1) (n := 0) (v := .slice none 0 0) (cells := []) (Below.refl _ _) (World.ownsRow_nil _ _ _ _))
theorem Lab.numsK_none (h : Lab w0 wr ts) : Lab w0 wr (Thing.numsK k E (.slice none 0 0) [] :: ts) :=
  h.new_row (E := E) (size := 1) (n := 0) (v := .slice none 0 0) (cells := []) (Below.refl _ _) (World.ownsRow_nil _ _ _ _)
theorem Lab.append1 {ao : Option Addr} {m c : Nat} {ys : List Int} (T ty bytes : Nat) (x : Int) (hy : ys.length = m) (h : Lab w0 wr (Thing.numsK k E (.slice ao m c) ys :: ts))
    (ht : Tryd.prog.underlying T = some (.slice E)) (hi : (Tryd.prog.info? E).map (fun i => (i.zero, i.size, i.bytes)) = some (some (.int k 0), 1, bytes)) (hbt : bytes ≤ 1000) (hn : m ≤ 999999999) :
    ∃ a' c' w', (Builtin.append_ #[T, T] ty #[.slice ao m c, .slice (some ⟨wr.heap.size, 0, none⟩) 1 1]).run Tryd.prog (wr.alloc (.cells #[.int k x] E)) = .ok (.slice a' (m + 1) c') w' ∧ Lab w0 w' (Thing.numsK k E (.slice a' (m + 1) c') (ys ++ [x]) :: ts) := by
  unfold Thing.numsK at h
  rw [hy] at h
  obtain ⟨a', c', w', hr, hl⟩ := run_append_row T ty E bytes (.int k 0) h rfl (u := .int k x) rfl ht hi rfl hbt hn
  refine ⟨a', c', w', hr, ?_⟩
  unfold Thing.numsK
  rw [List.length_append, hy, List.map_append]
  exact hl
theorem Lab.numsK_len {ao : Option Addr} {m c : Nat} {ys : List Int} (h : Lab w0 wr (Thing.numsK k E (.slice ao m c) ys :: ts)) : m = ys.length := by
  obtain ⟨a, cap, e, -⟩ := row_shape h.head
  simp only [Value.slice.injEq] at e
  exact e.2.1
theorem Lab.lists_len {ao : Option Addr} {m c : Nat} (h : Lab w0 wr (Thing.lists k E Es (.slice ao m c) vs xss :: ts)) : m = vs.length := by
  obtain ⟨a, cap, e, -⟩ := row_shape h.lists_row
  simp only [Value.slice.injEq] at e
  exact e.2.1
end
end Go.Proofs.YtmfendfpjpbhdaaDoor
