/- Lists, StR, StP, StM, StT: joined by wip/bundle.py. -/
import Derived.Test.YtiklidgcmheofaaDoorB1
import Derived.Test.YtiklidgcmheofaaDoorB2
import Derived.Test.YtiklidgcmheofaaDoorB3
import Derived.Test.YtiklidgcmheofaaDoorB4
import Derived.Test.YtiklidgcmheofaaDoorB5
import Derived.Test.YtiklidgcmheofaaDoorB6
import Derived.Test.YtiklidgcmheofaaDoorB7
import Derived.Test.YtiklidgcmheofaaDoorB8
import Derived.Test.YtiklidgcmheofaaDoorB9
import Derived.Test.YtiklidgcmheofaaDoorB10
import Derived.RangeFuncRecord
import Derived.RangeFuncNested
import Derived.RangeFuncCalls
import Derived.RangeFuncLeaves
import Derived.OwnWalkIn
import Derived.TacticsInMore
import Derived.WalkKit
import Derived.LoopNIn
import Derived.LoopIn
import Derived.BigQuiet
import Derived.Deep.RegionHeld3
import Derived.StillTailTactics
namespace Go.Proofs.YtiklidgcmheofaaDoor
open Go.RowKit Go.Maps
set_option maxHeartbeats 3200000
/-- Several things, as one. -/
def Thing.bundle (fs : List Thing) : Thing :=
  ⟨fs.flatMap (·.W), fs.flatMap (·.R), fun w => (∀ f ∈ fs, f.holds w) ∧ fs.Pairwise Apart, fun w w' h hk =>
    ⟨fun f hf => f.keep w w' (h.1 f hf) fun k hm => hk k (hm.imp (fun hm => List.mem_flatMap.2 ⟨f, hf, hm⟩) fun hm => List.mem_flatMap.2 ⟨f, hf, hm⟩), h.2⟩⟩
section
variable {w0 wr w' : World} {fs ts : List Thing}
theorem Lab.bundle (h : Lab w0 wr (fs ++ ts)) : Lab w0 wr (Thing.bundle fs :: ts) := by
  obtain ⟨p1, p2, p3⟩ := List.pairwise_append.1 h.apart
  have hm : ∀ f ∈ fs, f ∈ fs ++ ts := fun f hf => List.mem_append.2 (.inl hf)
  have hm2 : ∀ t ∈ ts, t ∈ fs ++ ts := fun f hf => List.mem_append.2 (.inr hf)
  refine ⟨h.below, fun t ht => ?_, fun t ht k hk => ?_, fun t ht k hk => ?_, List.pairwise_cons.2 ⟨fun t ht => ⟨fun k hk => ?_, fun k hk => ?_⟩, p2⟩⟩
  · rcases List.mem_cons.1 ht with rfl | ht
    · exact ⟨fun f hf => h.holds f (hm f hf), p1⟩
    · exact h.holds t (hm2 t ht)
  · rcases List.mem_cons.1 ht with rfl | ht
    · obtain ⟨f, hf, hx⟩ := List.mem_flatMap.1 hk
      exact h.low f (hm f hf) k hx
    · exact h.low t (hm2 t ht) k hk
  · rcases List.mem_cons.1 ht with rfl | ht
    · rcases hk with hk | hk
      · obtain ⟨f, hf, hx⟩ := List.mem_flatMap.1 hk
        exact h.high f (hm f hf) k (.inl hx)
      · obtain ⟨f, hf, hx⟩ := List.mem_flatMap.1 hk
        exact h.high f (hm f hf) k (.inr hx)
    · exact h.high t (hm2 t ht) k hk
  · obtain ⟨f, hf, hx⟩ := List.mem_flatMap.1 hk
    exact (p3 f hf t ht).1 k hx
  · obtain ⟨f, hf, hx⟩ := List.mem_flatMap.1 hk
    exact (p3 f hf t ht).2 k hx
theorem Lab.unbundle (h : Lab w0 wr (Thing.bundle fs :: ts)) : Lab w0 wr (fs ++ ts) := by
  have hh := h.head
  obtain ⟨p1, p2⟩ := List.pairwise_cons.1 h.apart
  have hW : ∀ f ∈ fs, ∀ k, k ∈ f.W → k ∈ (Thing.bundle fs).W := fun f hf k hk => List.mem_flatMap.2 ⟨f, hf, hk⟩
  have hR : ∀ f ∈ fs, ∀ k, k ∈ f.R → k ∈ (Thing.bundle fs).R := fun f hf k hk => List.mem_flatMap.2 ⟨f, hf, hk⟩
  refine ⟨h.below, fun t ht => ?_, fun t ht k hk => ?_, fun t ht k hk => ?_, List.pairwise_append.2 ⟨hh.2, p2, fun f hf t ht => ⟨fun k hk => (p1 t ht).1 k (hW f hf k hk), fun k hk => (p1 t ht).2 k (hR f hf k hk)⟩⟩⟩
  · rcases List.mem_append.1 ht with ht | ht
    · exact hh.1 t ht
    · exact h.holds t (by simp [ht])
  · rcases List.mem_append.1 ht with ht | ht
    · exact h.low (Thing.bundle fs) (by simp) k (hW t ht k hk)
    · exact h.low t (by simp [ht]) k hk
  · rcases List.mem_append.1 ht with ht | ht
    · exact h.high (Thing.bundle fs) (by simp) k (hk.imp (hW t ht k) (hR t ht k))
    · exact h.high t (by simp [ht]) k hk
end
/-- A list of numbers of one's own. -/
def Thing.numsK (k : IntKind) (E : Nat) (v : Value) (xs : List Int) : Thing := Thing.row E 1 v xs.length (xs.map (Value.int k))
def innerT (k : IntKind) (E : Nat) (vs : List Value) (xss : List (List Int)) (i : Nat) : Thing := Thing.numsK k E (vs.getD i undef) (xss.getD i [])
/-- A list of lists of numbers. -/
def Thing.lists (k : IntKind) (E Es : Nat) (v : Value) (vs : List Value) (xss : List (List Int)) : Thing := Thing.bundle (Thing.row Es 1 v vs.length vs :: (List.range vs.length).map (innerT k E vs xss))
section
variable {w0 wr w' : World} {ts : List Thing} {k : IntKind} {E Es : Nat} {v : Value} {vs : List Value} {xss : List (List Int)} {c : Nat}
/-- All of a list of lists but one row of it. -/
def restT (k : IntKind) (E : Nat) (vs : List Value) (xss : List (List Int)) (c : Nat) : Thing := Thing.bundle (((List.range vs.length).erase c).map (innerT k E vs xss))
theorem range_take (f : Nat → Thing) {c n : Nat} (h : c < n) : ((List.range n).map f).Perm (f c :: ((List.range n).erase c).map f) := (List.perm_cons_erase (List.mem_range.2 h)).map f
theorem Lab.lists_open (hc : c < vs.length) (h : Lab w0 wr (Thing.lists k E Es v vs xss :: ts)) :
    Lab w0 wr (innerT k E vs xss c :: Thing.row Es 1 v vs.length vs :: restT k E vs xss c :: ts) := by
  have h1 := h.unbundle.perm (ts' := ((List.range vs.length).erase c).map (innerT k E vs xss) ++ (innerT k E vs xss c :: Thing.row Es 1 v vs.length vs :: ts)) ?_
  · exact h1.bundle.rot3'
  · refine (List.Perm.cons _ ((range_take (innerT k E vs xss) hc).append_right ts)).trans ?_
    refine (List.Perm.swap _ _ _).trans ?_
    exact (List.Perm.trans (.cons _ List.perm_middle.symm) List.perm_middle.symm)
theorem rest_set (u : Value) (ys : List Int) : restT k E (vs.set c u) (xss.set c ys) c = restT k E vs xss c := by
  unfold restT
  congr 1
  rw [List.length_set]
  refine List.map_congr_left fun i hi => ?_
  have hne : i ≠ c := fun e => by
    subst e
    exact (List.Nodup.not_mem_erase List.nodup_range) hi
  unfold innerT
  congr 1
  · simp only [List.getD_eq_getElem?_getD, List.getElem?_set]
    rw [if_neg (Ne.symm hne)]
  · simp only [List.getD_eq_getElem?_getD, List.getElem?_set]
    rw [if_neg (Ne.symm hne)]
theorem inner_set {u : Value} {ys : List Int} (hc : c < vs.length) (hl : xss.length = vs.length) : innerT k E (vs.set c u) (xss.set c ys) c = Thing.numsK k E u ys := by
  unfold innerT
  simp only [List.getD_eq_getElem?_getD, List.getElem?_set]
  simp only [if_true]
  rw [if_pos hc, if_pos (by omega)]
  rfl
theorem Lab.lists_shut {u : Value} {ys : List Int} (hc : c < vs.length) (hl : xss.length = vs.length) (h : Lab w0 wr (Thing.numsK k E u ys :: Thing.row Es 1 v vs.length (vs.set c u) :: restT k E vs xss c :: ts)) :
    Lab w0 wr (Thing.lists k E Es v (vs.set c u) (xss.set c ys) :: ts) := by
  rw [← rest_set u ys, ← inner_set hc hl] at h
  unfold Thing.lists
  refine Lab.bundle ?_
  have h1 := h.rot3
  unfold restT at h1
  refine h1.unbundle.perm ?_
  rw [List.length_set]
  refine (List.perm_append_comm).trans ?_
  simp only [List.cons_append]
  refine (List.Perm.swap _ _ _).trans (List.Perm.cons _ ?_)
  refine (List.Perm.cons _ List.perm_append_comm).trans ?_
  exact ((range_take (innerT k E (vs.set c u) (xss.set c ys)) hc).append_right ts).symm
theorem Lab.lists_row (h : Lab w0 wr (Thing.lists k E Es v vs xss :: ts)) : wr.ownsRow 0 Es 1 v vs.length vs := h.head.1 (Thing.row Es 1 v vs.length vs) List.mem_cons_self
theorem Lab.lists_inner (h : Lab w0 wr (Thing.lists k E Es v vs xss :: ts)) (hc : c < vs.length) : OwnInts wr 0 E k (vs.getD c undef) (xss.getD c []) :=
  h.head.1 (innerT k E vs xss c) (List.mem_cons_of_mem _ (List.mem_map.2 ⟨c, List.mem_range.2 hc, rfl⟩))
theorem Lab.make_row (h : Lab w0 wr ts) (n T : Nat) (z : Value) (hn : n ≤ maxLen) : Lab w0 (wr.alloc (.cells (madeCells #[z] n) T)) (Thing.row T 1 (.slice (some ⟨wr.heap.size, 0, none⟩) n n) n (List.replicate n z) :: ts) := by
  refine h.new_row (below_new wr _) ⟨by simp, .inr ⟨_, n, _, rfl, Nat.le_refl _, heap_alloc_new wr _, Nat.le_refl _, hn, by simp [madeCells], ?_⟩⟩
  refine List.ext_getElem? fun i => ?_
  rw [Nat.mul_one, List.getElem?_take, List.getElem?_replicate]
  split
  · rename_i hi
    rw [Array.getElem?_toList, madeCells_at _ _ i hi]
    simp [Nat.mod_one]
  · rfl
theorem Lab.nils (h : Lab w0 wr ts) : ∀ m, Lab w0 wr (List.replicate m (Thing.numsK k E (.slice none 0 0) []) ++ ts)
  | 0 => h
  | m + 1 => by
    have := (Lab.nils h m).new_row (E := E) (size := 1) (n := 0) (v := .slice none 0 0) (cells := []) (Below.refl _ _) (World.ownsRow_nil _ _ _ _)
    exact this
theorem Lab.lists_nil {n : Nat} (h : Lab w0 wr (Thing.row Es 1 v n (List.replicate n (.slice none 0 0)) :: ts)) : Lab w0 wr (Thing.lists k E Es v (List.replicate n (.slice none 0 0)) (List.replicate n []) :: ts) := by
  unfold Thing.lists
  refine Lab.bundle ?_
  have e : (List.range (List.replicate n (Value.slice none 0 0)).length).map (innerT k E (List.replicate n (.slice none 0 0)) (List.replicate n [])) = List.replicate n (Thing.numsK k E (.slice none 0 0) []) := by
    rw [List.length_replicate]
    refine List.ext_getElem? fun i => ?_
    rw [List.getElem?_map, List.getElem?_replicate]
    by_cases hi : i < n
    · rw [List.getElem?_range hi, if_pos hi]
      unfold innerT
      simp [List.getD_eq_getElem?_getD, List.getElem?_replicate, hi]
    · rw [if_neg hi, List.getElem?_eq_none (by simp; omega)]
      rfl
  rw [e, List.length_replicate]
  exact (Lab.nils h n).perm List.perm_middle
/-- Lists of lists, as what is read. -/
def NumsOf (w : World) (k : IntKind) (v : Value) (xss : List (List Int)) : Prop :=
  ∃ a n cap, v = .slice a n cap ∧ xss.length = n ∧ ∀ i, i < n → ∃ b off xs va, a = some ⟨b, off, none⟩ ∧ xss[i]? = some xs ∧ w.cell? ⟨b, off + i, none⟩ = some va ∧ SliceOf w k va xs
theorem row_shape {w : World} {B E size n : Nat} {v : Value} {cells : List Value} (h : w.ownsRow B E size v n cells) : ∃ a cap, v = .slice a n cap ∧ (0 < n → ∃ g, a = some ⟨g, 0, none⟩) := by
  rcases h.2 with ⟨rfl, h0⟩ | ⟨g, cap, cur, rfl, -⟩
  · subst h0
    exact ⟨_, _, rfl, fun h => by omega⟩
  · exact ⟨_, _, rfl, fun _ => ⟨g, rfl⟩⟩
theorem Lab.lists_read (hl : xss.length = vs.length) (h : Lab w0 wr (Thing.lists k E Es v vs xss :: ts)) : NumsOf wr k v xss := by
  have hr := h.lists_row
  obtain ⟨a, cap, rfl, ha⟩ := row_shape hr
  refine ⟨a, _, cap, rfl, hl, fun i hi => ?_⟩
  obtain ⟨g, rfl⟩ := ha (by omega)
  have hin := (h.lists_inner hi).slice
  have hcell := World.ownsRow.cellAt hr i (by omega)
  rw [List.getElem?_eq_getElem hi] at hcell
  refine ⟨g, 0, xss.getD i [], vs.getD i undef, rfl, ?_, ?_, hin⟩
  · rw [List.getD_eq_getElem?_getD, List.getElem?_eq_getElem (by omega)]; rfl
  · rw [Nat.zero_add, hcell, List.getD_eq_getElem?_getD, List.getElem?_eq_getElem hi]; rfl
/-- All rows of a list of lists. -/
def innerAll (k : IntKind) (E : Nat) (vs : List Value) (xss : List (List Int)) : Thing := Thing.bundle ((List.range vs.length).map (innerT k E vs xss))
theorem Lab.lists_row_open (h : Lab w0 wr (Thing.lists k E Es v vs xss :: ts)) : Lab w0 wr (Thing.row Es 1 v vs.length vs :: innerAll k E vs xss :: ts) := by
  have h1 := h.unbundle.perm (ts' := (List.range vs.length).map (innerT k E vs xss) ++ (Thing.row Es 1 v vs.length vs :: ts)) List.perm_middle.symm
  exact h1.bundle.swap
theorem Lab.lists_more {v' u : Value} {ys : List Int} (hl : xss.length = vs.length) (h : Lab w0 wr (Thing.row Es 1 v' (vs.length + 1) (vs ++ [u]) :: Thing.numsK k E u ys :: innerAll k E vs xss :: ts)) : Lab w0 wr (Thing.lists k E Es v' (vs ++ [u]) (xss ++ [ys]) :: ts) := by
  unfold Thing.lists
  refine Lab.bundle ?_
  have h1 := (Lab.rot3 h).unbundle
  have e : (List.range (vs ++ [u]).length).map (innerT k E (vs ++ [u]) (xss ++ [ys])) = (List.range vs.length).map (innerT k E vs xss) ++ [Thing.numsK k E u ys] := by
    rw [List.length_append, List.length_singleton, List.range_succ, List.map_append]
    congr 1
    · refine List.map_congr_left fun i hi => ?_
      have hi' := List.mem_range.1 hi
      unfold innerT
      simp only [List.getD_eq_getElem?_getD]
      rw [List.getElem?_append_left hi', List.getElem?_append_left (by omega)]
    · unfold innerT
      simp only [List.map_cons, List.map_nil, List.getD_eq_getElem?_getD]
      rw [List.getElem?_append_right (Nat.le_refl _), List.getElem?_append_right (by omega), hl]
      simp
  rw [e, List.length_append, List.length_singleton]
  refine h1.perm ?_
  simp only [List.cons_append, List.append_assoc, List.nil_append]
  exact List.perm_middle.trans (.cons _ (.refl _))
theorem Lab.lists_none (h : Lab w0 wr ts) : Lab w0 wr (Thing.lists k E Es (.slice none 0 0) [] [] :: ts) :=
  Lab.lists_nil (n := 0) (h.new_row (E := Es) (size := 1) (n := 0) (v := .slice none 0 0) (cells := []) (Below.refl _ _) (World.ownsRow_nil _ _ _ _))
end
end Go.Proofs.YtiklidgcmheofaaDoor
namespace Go.Proofs.YtiklidgcmheofaaDoor
open Go Go.RowKit Go.Maps
set_option maxHeartbeats 800000
/-- A block that holds whatever. -/
def Thing.obj (r : Nat) (o : Obj) : Thing := ⟨[r], [], fun w => w.heap[r]? = some o, fun _ _ h hk => (hk r (.inl (by simp))).trans h⟩
section
variable {w0 wr : World} {ts : List Thing} {r : Nat} {o : Obj}
theorem Lab.obj1 (h : Lab w0 wr (Thing.obj r o :: ts)) : wr.heap[r]? = some o := h.head
theorem Lab.new_obj (h : Lab w0 wr ts) (o : Obj) : Lab w0 (wr.alloc o) (Thing.obj wr.heap.size o :: ts) := by
  refine h.new (s := Thing.obj wr.heap.size o) (below_new wr _) (World.alloc_heap_new wr o) (fun k hk => by simp [Thing.obj] at hk; omega) (fun k hk => by simp [Thing.obj] at hk) (fun k hk => ?_)
  rcases hk with hk | hk
  · simp [Thing.obj] at hk; simp; omega
  · simp [Thing.obj] at hk
theorem Lab.put_obj (h : Lab w0 wr (Thing.obj r o :: ts)) (o' : Obj) : Lab w0 (wr.putObj r o') (Thing.obj r o' :: ts) := by
  have hlt : r < wr.heap.size := (Array.getElem?_eq_some_iff.1 h.obj1).1
  refine h.turn (s' := Thing.obj r o') ⟨rfl, rfl, rfl, by simp, fun k _ hn => World.putObj_heap_other (by intro e; exact hn (by simp [Thing.obj, e]))⟩ (World.putObj_heap_same hlt) (fun k hk => .inl hk) (fun k hk => by simp [Thing.obj] at hk) (fun k hk => ?_)
  rcases hk with hk | hk
  · simp [Thing.obj] at hk; simp; omega
  · simp [Thing.obj] at hk
end
/-- The record of a loop over a function. -/
def loopRec (fn : Nat) (tmps : Array Value) (ps : Array Tmp) (assign body : Code) (D : Nat) (st : LoopState) (pe : Option Code) : Loop := { state := st, pending := pe, fn := fn, tmps := tmps, params := ps, assign := assign, body := body, defers := D }
section
variable {P : Program} {w0 w W : World} {ts : List Thing}
theorem rowsIn_of_rows {n : Nat} {row : String} {args : Array Value} {R : Value → World → Prop} (h : Rows P row args w R) : RowsIn Fence.wide n P row args w R :=
  fun c cs _ => let ⟨v, w', hr, s⟩ := h c cs; ⟨v, w', hr, stepsIn_wide.2 s⟩
theorem rowsIn_round {n l : Nat} {row : String} {args : Array Value} {R : Value → World → Prop} (h : RowsIn Fence.wide n P row args w R) : RowsIn (Fence.wide.inRound l) n P row args w R := h
/-- In a round each operation but a deferred call is carried out as everywhere. -/
theorem oper_round {n l : Nat} {o : Oper} {a : Act} {K K' : Act → World → Prop} {Q : Exit → Act → World → Prop} (hd : ∀ c, o.op ≠ .defer c) (hK : ∀ a w, K a w → K' a w) (h : o.wp P a w K Q) : o.wpIn (Fence.wide.inRound l) n P a w K' Q := by
  refine ⟨fun _ _ => trivial, ?_⟩
  have e : Oper.semAt (Fence.wide.inRound l).round a.eval o = execOp a.eval o := Oper.semAt_some l a.eval o hd
  rw [e]
  unfold Oper.wp at h
  generalize (execOp a.eval o).run P w = x at *
  cases x with
  | ok y w' =>
    cases y with
    | enter f args => exact ⟨(fun hx => by cases hx), CallsIn.inRound l (callsIn_wide.2 (Calls.mono h fun e w'' he => by cases e <;> first | exact hK _ _ he | exact he))⟩
    | row rw' args => exact ⟨(fun hx => by cases hx), rowsIn_round (rowsIn_of_rows (Rows.mono h fun v w'' he => hK _ _ he))⟩
    | value v => exact hK _ _ h
    | skip => exact hK _ _ h
    | defer d => exact hK _ _ h
    | round l f tmps assign body => exact h.elim
    | _ => exact h.elim
  | halt y w' =>
    cases y <;> first | exact h | exact h.elim
theorem opsIn_round {n l : Nat} {ops : Array Oper} {Q : Exit → Act → World → Prop} (hd : ∀ o ∈ ops.toList, ∀ c, o.op ≠ .defer c) (hno : ¬ LetsOut Q) : ∀ (is : List Nat) (a : Act) (w : World), wpOps P ops Q is a w → wpOpsIn (Fence.wide.inRound l) n P ops Q is a w
  | [], _, _, h => h
  | i :: is, a, w, h => by
    have ih := opsIn_round (n := n) (l := l) hd hno is
    unfold wpOps at h
    unfold wpOpsIn
    cases hi : ops[i]? with
    | none => rw [hi] at h; exact ih a w h
    | some o =>
      rw [hi] at h
      dsimp only at h ⊢
      split
      · rename_i hw
        rw [if_pos hw] at h
        exact oper_round (hd o (by have := Array.mem_of_getElem? hi; simpa using this)) ih (h.resolve_right fun h => hno h.2)
      · rename_i hw
        rw [if_neg hw] at h
        exact ⟨fun _ _ => trivial, ih _ _ h⟩
/-- A region that draws its order, in a round. -/
theorem region_round {n l id : Nat} {ops : Array Oper} {Q : Exit → Act → World → Prop} {a : Act} (hm : P.follows .mixedOrders = true) (hd : ∀ o ∈ ops.toList, ∀ c, o.op ≠ .defer c) (hno : ¬ LetsOut Q)
    (h : wpAny P .any ops Q ops.size (Array.replicate ops.size false) a { w with drawn := w.drawn + 1 }) : (Code.region id ops true).wpIn (Fence.wide.inRound l) n P Q a w :=
  wpIn_region_draw fun t => by
    simp only [Region.schedule, hm, Bool.true_or, if_true]
    exact opsIn_round hd hno _ _ _ (wpAny_sound ops.size t _ a _ h)
/-- A function that holds a range over a function. -/
theorem calls_of_marks {f : FuncId} {fn : Func} {c : Code} {args : Array Value} {R : Ending → World → Prop} (hf : P.funcs[f]? = some fn) (hb : fn.body = some c)
    (h : c.wp P (bodyPostM Fence.wide 0 P fn R) { tmps := args ++ Array.replicate (fn.ntmps - args.size) undef, defers := [] } w) : Calls P f args w R :=
  (callsIn_wide (n := 0)).1 (callsIn_of_wp_marks hf hb trivial (wpIn_wide.2 h))
/-- One round of a loop over a function. -/
theorem yield_lab {n l fn D : Nat} {tmps args : Array Value} {ps : Array Tmp} {assign body : Code} {Φ : List Thing → Prop} (h : Lab w0 W (Thing.obj l (.loop (loopRec fn tmps ps assign body D .ready none)) :: ts)) (hs : args.size = ps.size) (a1 : Act)
    (hassign : ∀ (W : World) (K : Act → World → Prop), K a1 W → assign.wpIn (Fence.wide.inRound l) n P (Exit.then K (fun _ _ _ => False)) { tmps := (ps.zip args).foldl (fun t (p, v) => t.setIfInBounds p v) tmps, defers := [] } W)
    (hbody : ∀ W', Lab w0 W' (Thing.obj l (.loop (loopRec fn tmps ps assign body D .busy none)) :: ts) → body.wpIn (Fence.wide.inRound l) n P (fun e _ w' => e = .normal ∧ ∃ ts', Φ ts' ∧ Lab w0 w' (Thing.obj l (.loop (loopRec fn tmps ps assign body D .busy none)) :: ts')) a1 W') :
    YieldAt Fence.wide n P l args W fun e W' => e = .returned (.bool true) ∧ ∃ ts', Φ ts' ∧ Lab w0 W' (Thing.obj l (.loop (loopRec fn tmps ps assign body D .ready none)) :: ts') := by
  refine ⟨fn, _, assign, body, run_yield h.obj1 hs, roundIn_of_wpIn trivial (hassign W _ ⟨_, run_beginRound h.obj1 rfl, wpIn_mono (hbody _ (h.put_obj _)) ?_⟩)⟩
  rintro e a w' ⟨rfl, ts', hΦ, hl'⟩
  exact ⟨_, _, run_endRound none hl'.obj1, rfl, ts', hΦ, hl'.put_obj _⟩
/-- The statement. -/
theorem wp_rangeFunc_lab {g : Operand} {ps : Array Tmp} {assign body : Code} {Q : Exit → Act → World → Prop} {a : Act} {gf : Nat} {lb : Array Value} (hg : a.eval g = .func (.func gf) #[] lb) (eg : ∀ args w, (callFunc gf args).run P w = .ok (.enter gf args) w)
    {Φ : List Thing → Prop} (hl : Lab w0 w ts)
    (hiter : ∀ (fn l D : Nat) (w1 : World), Lab w0 w1 (Thing.obj l (.loop (loopRec fn a.tmps ps assign body D .ready none)) :: Thing.obj D (.deferred (some [])) :: ts) →
      Calls P gf (#[.func (.yield l) #[] #[]] ++ lb) w1 fun e w2 => (∃ v, e = .returned v) ∧ ∃ ts', Φ ts' ∧ Lab w0 w2 (Thing.obj l (.loop (loopRec fn a.tmps ps assign body D .ready none)) :: Thing.obj D (.deferred (some [])) :: ts'))
    (hdone : ∀ (D : Nat) (w2 : World) (ts' : List Thing), Φ ts' → Lab w0 w2 (Thing.obj D (.deferred (some [])) :: ts') → Q .normal { a with defers := { target := .collected D, args := #[] } :: a.defers } w2) :
    (Code.rangeFunc g ps assign body).wp P Q a w := by
  refine (wpIn_wide (n := 0)).1 (wpIn_rangeFunc fun fn _ => ?_)
  have hl1 := (hl.new_obj (.deferred (some []))).new_obj (.loop (loopRec fn a.tmps ps assign body w.heap.size .ready none))
  rw [World.size_alloc] at hl1
  obtain ⟨W1, hW1⟩ : ∃ W1, (w.alloc (.deferred (some []))).alloc (.loop (loopRec fn a.tmps ps assign body w.heap.size .ready none)) = W1 := ⟨_, rfl⟩
  rw [hW1] at hl1
  refine ⟨w.heap.size + 1, [{ target := .collected w.heap.size, args := #[] }], W1, { target := .fn (.func gf) lb, args := #[.func (.yield (w.heap.size + 1)) #[] #[]] }, W1, gf,
    #[.func (.yield (w.heap.size + 1)) #[] #[]] ++ lb, W1, ?_, ?_, fun _ _ => trivial, ?_, (fun hx => by cases hx), ?_⟩
  · rw [← hW1]; exact run_enterLoop_outer _ _ _ _ _
  · simp only [resolve, hg]
    simp [go_sem]
  · simp [invoke, go_sem, eg]
  · refine (callsIn_wide.2 (hiter fn _ _ _ hl1)).mono ?_
    rintro e w2 ⟨⟨v, rfl⟩, ts', hΦ, hl2⟩
    exact ⟨none, _, run_endLoop hl2.obj1 (by simp [loopRec]), hdone _ _ _ hΦ (hl2.put_obj _).drop⟩
end
end Go.Proofs.YtiklidgcmheofaaDoor
namespace Go.Proofs.YtiklidgcmheofaaDoor
/-- A graph's nodes are as they should be. -/
structure GOk (W : Nat) (L : List PNode) : Prop where
  w1 : 1 ≤ W
  w2 : W ≤ 64
  wf : WFL L
  good : GoodL W L
/-- How many of the small numbers are no nodes yet. -/
def missC (W : Nat) (L : List PNode) : Nat := ((List.range 65).filter fun c => decide (((0, c % 2 ^ W, []) : PNode) ∉ L)).length
/-- The room that is taken, the small numbers counted in. -/
def phi (W : Nat) (L : List PNode) : Nat := L.length + missC W L
theorem filter_mono {α : Type} {p q : α → Bool} (h : ∀ x, p x = true → q x = true) : ∀ l : List α, (l.filter p).length ≤ (l.filter q).length
  | [] => Nat.le_refl _
  | x :: l => by
    have ih := filter_mono h l
    cases hp : p x with
    | true => rw [List.filter_cons_of_pos hp, List.filter_cons_of_pos (h x hp)]; simp only [List.length_cons]; omega
    | false =>
      rw [List.filter_cons_of_neg (by simp [hp])]
      cases hq : q x with
      | true => rw [List.filter_cons_of_pos hq]; simp only [List.length_cons]; omega
      | false => rw [List.filter_cons_of_neg (by simp [hq])]; exact ih
theorem filter_lt {α : Type} {p q : α → Bool} (h : ∀ x, p x = true → q x = true) {c : α} (hp : p c = false) (hq : q c = true) : ∀ l : List α, c ∈ l → (l.filter p).length + 1 ≤ (l.filter q).length
  | [], hm => by simp at hm
  | x :: l, hm => by
    rcases List.mem_cons.1 hm with rfl | hm
    · rw [List.filter_cons_of_neg (by simp [hp]), List.filter_cons_of_pos hq]
      have := filter_mono h l
      simp only [List.length_cons]; omega
    · have ih := filter_lt h hp hq l hm
      cases hpx : p x with
      | true => rw [List.filter_cons_of_pos hpx, List.filter_cons_of_pos (h x hpx)]; simp only [List.length_cons]; omega
      | false =>
        rw [List.filter_cons_of_neg (by simp [hpx])]
        cases hqx : q x with
        | true => rw [List.filter_cons_of_pos hqx]; simp only [List.length_cons]; omega
        | false => rw [List.filter_cons_of_neg (by simp [hqx])]; exact ih
section
variable {W room : Nat} {L L' : List PNode}
theorem missC_prefix (h : L <+: L') : missC W L' ≤ missC W L := filter_mono (fun c hc => by
  simp only [decide_eq_true_eq] at hc ⊢
  exact fun hm => hc (h.subset hm)) _
theorem phi_len (W : Nat) (L : List PNode) : L.length ≤ phi W L := Nat.le_add_right _ _
theorem phi_nil (W : Nat) : phi W [] ≤ 65 := by
  unfold phi missC
  have := List.length_filter_le (fun c => decide (((0, c % 2 ^ W, []) : PNode) ∉ ([] : List PNode))) (List.range 65)
  rw [List.length_range] at this
  simpa using this
theorem phi_ask (n : PNode) : phi W (askP room L n).1 ≤ phi W L + 1 := by
  have h1 := (askP_len room L n).2
  have h2 := missC_prefix (W := W) (isPrefix_ask (L := L) room n)
  unfold phi; omega
/-- A small number takes no room that is not counted in. -/
theorem phi_const {c : Nat} (hc : c ≤ 64) : phi W (constR W room L c).1 ≤ phi W L := by
  unfold constR askP
  cases hf : L.findIdx? (· == (0, c % 2 ^ W, [])) with
  | some t => exact Nat.le_refl _
  | none =>
    dsimp only
    split
    · exact Nat.le_refl _
    · have hn := find_none hf
      have := filter_lt (p := fun d => decide (((0, d % 2 ^ W, []) : PNode) ∉ L ++ [(0, c % 2 ^ W, [])])) (q := fun d => decide (((0, d % 2 ^ W, []) : PNode) ∉ L)) (fun x hx => by
        simp only [decide_eq_true_eq] at hx ⊢
        exact fun hm => hx (List.mem_append_left _ hm)) (c := c) (by simp) (by simpa using hn) (List.range 65) (List.mem_range.2 (by omega))
      unfold phi missC
      simp only [List.length_append, List.length_singleton]
      omega
theorem phi_res (a : Ans) : phi W (a.res W room L).1 ≤ phi W L + 1 := by
  cases a with
  | term t => exact Nat.le_succ _
  | num v => exact phi_ask _
  | app o xs =>
    show phi W (appR room L o xs).1 ≤ _
    unfold appR
    split
    · split
      · exact phi_ask _
      · exact Nat.le_succ _
    · exact Nat.le_succ _
/-- What comes of asking: a graph that holds all that it held, and a term with a value. -/
structure Got (W : Nat) (L L' : List PNode) (t : Nat) (f : List Int → Int) : Prop where
  ok : GOk W L'
  pre : L <+: L'
  lt : t < L'.length
  val : ∀ vals, val W vals L' t = f vals
theorem Got.congr {t : Nat} {f g : List Int → Int} (h : Got W L L' t f) (e : ∀ vals, f vals = g vals) : Got W L L' t g := ⟨h.ok, h.pre, h.lt, fun vals => (h.val vals).trans (e vals)⟩
theorem Got.of {L0 : List PNode} {t : Nat} {f : List Int → Int} (h : Got W L L' t f) (hp : L0 <+: L) : Got W L0 L' t f := ⟨h.ok, hp.trans h.pre, h.lt, h.val⟩
theorem Got.keep {L2 : List PNode} {t : Nat} {f : List Int → Int} (h : Got W L L' t f) (hp : L' <+: L2) (hok : GOk W L2) : Got W L L2 t f :=
  ⟨hok, h.pre.trans hp, Nat.lt_of_lt_of_le h.lt hp.length_le, fun vals => by rw [val_prefix hp h.lt]; exact h.val vals⟩
theorem GOk.self (h : GOk W L) {t : Nat} (ht : t < L.length) : Got W L L t (fun vals => val W vals L t) := ⟨h, List.prefix_refl _, ht, fun _ => rfl⟩
theorem GOk.word (h : GOk W L) (vals : List Int) (i : Nat) : 0 ≤ val W vals L i ∧ val W vals L i < ((2 ^ W : Nat) : Int) := val_word h.w1 h.w2 vals h.wf h.good i
/-- An answer of the rules. -/
theorem got_res (hok : GOk W L) (a : Ans) (ha : AnsOk L a) (hr : phi W L < room) : ∃ L' t, a.res W room L = (L', t, 0) ∧ Got W L L' t (fun vals => ansVal W vals L a) ∧ phi W L' ≤ phi W L + 1 := by
  have he := ans_room (W := W) (room := room) (Nat.lt_of_le_of_lt (phi_len W L) hr) a ha
  exact ⟨_, _, (triple0 he).symm, ⟨⟨hok.w1, hok.w2, ans_wf hok.wf hok.w2 a ha, ans_good hok.good a⟩, ans_prefix a, ans_term a ha he, fun vals => ans_val hok.wf hok.w2 a ha he⟩, phi_res a⟩
/-- An operator's simple term. -/
theorem got_simp (hok : GOk W L) {o : Nat} {xs : List Int} (h1 : 2 ≤ o) (h2 : o ≤ 21) (hl : aryN o = xs.length) (hin : ∀ a ∈ xs, (0 : Int) ≤ a ∧ a < (L.length : Int)) (hr : phi W L < room) :
    ∃ L' t, simpR W room L o xs = (L', t, 0) ∧ Got W L L' t (fun vals => wI o W (xs.map fun a => val W vals L a.toNat)) ∧ phi W L' ≤ phi W L + 1 := by
  obtain ⟨L', t, h3, h4, h5⟩ := got_res (room := room) hok (simpA W L o xs) (simpA_ok hok.wf h1 h2 hl hin) hr
  exact ⟨L', t, by rw [simpR_in h1 h2 hl hin, h3], h4.congr fun vals => simpA_val hok.wf hok.good hok.w1 hok.w2 h1 h2 hl, h5⟩
/-- A number's term. -/
theorem got_const (hok : GOk W L) (q : Nat) (hr : phi W L < room) : ∃ L' t, constR W room L q = (L', t, 0) ∧ Got W L L' t (fun _ => ((q % 2 ^ W : Nat) : Int)) ∧ phi W L' ≤ phi W L + 1 ∧ (q ≤ 64 → phi W L' ≤ phi W L) ∧ numOf L' (t : Int) = some (q % 2 ^ W) := by
  obtain ⟨L', t, h3, h4, h5⟩ := got_res (room := room) hok (.num q) trivial hr
  have h3' : constR W room L q = (L', t, 0) := h3
  refine ⟨L', t, h3', h4.congr fun vals => rfl, h5, fun h => by have := phi_const (W := W) (room := room) (L := L) h; rwa [h3'] at this, ?_⟩
  have he : (askP room L (0, q % 2 ^ W, [])).2.2 = 0 := by
    have : askP room L (0, q % 2 ^ W, []) = (L', t, 0) := h3'
    rw [this]
  have ht := ask_term he
  have e : askP room L (0, q % 2 ^ W, []) = (L', t, 0) := h3'
  rw [e] at ht
  unfold numOf
  rw [if_pos (by omega), Int.toNat_natCast, ht]
  rfl
theorem GOk.var_in (hok : GOk W L) {n : Nat} (hn : n ≤ 4194303) (hr : phi W L < room) : ∃ L' t, varR room L (n : Int) = (L', t, 0) ∧ Got W L L' t (fun vals => if n < vals.length then (((vals.getD n 0).toNat % 2 ^ W : Nat) : Int) else 0) ∧ phi W L' ≤ phi W L + 1 := by
  have e : varR room L (n : Int) = askP room L (1, n, []) := by unfold varR; rw [if_pos (by omega)]; simp
  have he := ask_room (room := room) (L := L) (n := (1, n, [])) (Nat.lt_of_le_of_lt (phi_len W L) hr)
  have hwf : WFL (askP room L (1, n, [])).1 := askP_wf hok.wf room ⟨by show 1 ≤ 21; omega, by show n ≤ _; omega, rfl⟩ (by simp)
  have ht := ask_term he
  refine ⟨_, _, by rw [e]; exact (triple0 he).symm, ⟨⟨hok.w1, hok.w2, hwf, hok.good.ask room (.inr (.inl ⟨rfl, hn, rfl⟩))⟩, isPrefix_ask room _, (List.getElem?_eq_some_iff.1 ht).1, fun vals => ?_⟩, phi_ask _⟩
  rw [val_at hwf ht]
  unfold valN
  rw [if_neg (show ¬ ((1 : Nat) = 0) by decide), if_pos (show (1 : Nat) = 1 from rfl)]
theorem val_num (hok : GOk W L) {t : Nat} {c : Nat} (h : numOf L (t : Int) = some c) (vals : List Int) : val W vals L t = (c : Int) := by
  have := (numOf_val (vals := vals) hok.wf hok.good h).1
  rwa [Int.toNat_natCast] at this
/-- The value of eq. -/
theorem wI_eq2 (h1 : 1 ≤ W) (h2 : W ≤ 64) {a b : Int} (ha : 0 ≤ a ∧ a < ((2 ^ W : Nat) : Int)) (hb : 0 ≤ b ∧ b < ((2 ^ W : Nat) : Int)) : wI (15 : Nat) W [a, b] = if a = b then 1 else 0 := by
  obtain ⟨x, rfl⟩ := Int.eq_ofNat_of_zero_le ha.1
  obtain ⟨y, rfl⟩ := Int.eq_ofNat_of_zero_le hb.1
  rw [wI_two' h1 h2 ⟨by omega, by omega⟩ x y (by omega) (by omega)]
  show ((b01 (x == y) : Nat) : Int) = _
  unfold b01
  by_cases h : x = y
  · subst h; simp
  · rw [if_neg (by simpa using h), if_neg (by omega)]; rfl
theorem wI_lt2 (h1 : 1 ≤ W) (h2 : W ≤ 64) {a b : Int} (ha : 0 ≤ a ∧ a < ((2 ^ W : Nat) : Int)) (hb : 0 ≤ b ∧ b < ((2 ^ W : Nat) : Int)) : wI (17 : Nat) W [a, b] = if a < b then 1 else 0 := by
  obtain ⟨x, rfl⟩ := Int.eq_ofNat_of_zero_le ha.1
  obtain ⟨y, rfl⟩ := Int.eq_ofNat_of_zero_le hb.1
  rw [wI_two' h1 h2 ⟨by omega, by omega⟩ x y (by omega) (by omega)]
  show ((b01 (decide (x < y)) : Nat) : Int) = _
  unfold b01
  by_cases h : x < y
  · rw [if_pos (by simpa using h), if_pos (by omega)]; rfl
  · rw [if_neg (by simpa using h), if_neg (by omega)]; rfl
theorem wI_ite3 (h1 : 1 ≤ W) (h2 : W ≤ 64) {a b c : Int} (ha : 0 ≤ a ∧ a < ((2 ^ W : Nat) : Int)) (hb : 0 ≤ b ∧ b < ((2 ^ W : Nat) : Int)) (hc : 0 ≤ c ∧ c < ((2 ^ W : Nat) : Int)) : wI (21 : Nat) W [a, b, c] = if a = 0 then c else b := by
  obtain ⟨x, rfl⟩ := Int.eq_ofNat_of_zero_le ha.1
  obtain ⟨y, rfl⟩ := Int.eq_ofNat_of_zero_le hb.1
  obtain ⟨z, rfl⟩ := Int.eq_ofNat_of_zero_le hc.1
  rw [wI_eq h1 h2 (by omega) (by omega) rfl]
  simp only [List.getD_cons_zero, List.getD_cons_succ, Int.toNat_natCast]
  rw [Nat.mod_eq_of_lt (by omega), Nat.mod_eq_of_lt (by omega), Nat.mod_eq_of_lt (by omega)]
  show ((if x = 0 then z else y : Nat) : Int) = _
  by_cases h : x = 0
  · rw [if_pos h, if_pos (by omega)]
  · rw [if_neg h, if_neg (by omega)]
theorem pair_in {x y : Nat} (hx : x < L.length) (hy : y < L.length) : ∀ a ∈ [(x : Int), (y : Int)], (0 : Int) ≤ a ∧ a < (L.length : Int) := fun a ha => by
  simp only [List.mem_cons, List.not_mem_nil, or_false] at ha
  rcases ha with rfl | rfl <;> omega
theorem three_in {x y z : Nat} (hx : x < L.length) (hy : y < L.length) (hz : z < L.length) : ∀ a ∈ [(x : Int), (y : Int), (z : Int)], (0 : Int) ≤ a ∧ a < (L.length : Int) := fun a ha => by
  simp only [List.mem_cons, List.not_mem_nil, or_false] at ha
  rcases ha with rfl | rfl | rfl <;> omega
theorem numD_val (hok : GOk W L) {x : Nat} (h : isNum L (x : Int) = true) (vals : List Int) : val W vals L x = (numD L (x : Int) : Int) := val_num hok (isNum_some h) vals
/-- eq of numbers is a number, and takes no room. -/
theorem eq_num (hok : GOk W L) {x y : Nat} (hx : x < L.length) (hy : y < L.length) (nx : isNum L (x : Int) = true) (ny : isNum L (y : Int) = true) (hr : phi W L < room) :
    ∃ L' t, simpR W room L 15 [(x : Int), (y : Int)] = (L', t, 0) ∧ phi W L' ≤ phi W L ∧ isNum L' (t : Int) = true := by
  have hs : simpA W L 15 [(x : Int), (y : Int)] = .num (wI (15 : Nat) W ([(x : Int), (y : Int)].map fun t => (numD L t : Int))).toNat := if_pos (fun t ht => by
    simp only [List.mem_cons, List.not_mem_nil, or_false] at ht
    rcases ht with rfl | rfl <;> assumption)
  have hb := wI_eq2 hok.w1 hok.w2 (a := (numD L (x : Int) : Int)) (b := (numD L (y : Int) : Int)) (by rw [← numD_val hok nx []]; exact hok.word [] x) (by rw [← numD_val hok ny []]; exact hok.word [] y)
  obtain ⟨L', t, h1, -, -, h4, h5⟩ := got_const (room := room) hok (wI (15 : Nat) W ([(x : Int), (y : Int)].map fun t => (numD L t : Int))).toNat hr
  refine ⟨L', t, by rw [simpR_in (by omega) (by omega) rfl (pair_in hx hy), hs]; exact h1, h4 ?_, by unfold isNum; rw [h5]; rfl⟩
  simp only [List.map_cons, List.map_nil] at hb ⊢
  rw [hb]
  split <;> decide
theorem const_there (hok : GOk W L) {t : Nat} {c : Nat} (h : numOf L (t : Int) = some c) : constR W room L c = (L, t, 0) := by
  obtain ⟨-, n, h1, h2, h3⟩ := numOf_at h
  rw [Int.toNat_natCast] at h1
  have := const_again hok.wf hok.good h1 h2 room
  rwa [h3] at this
/-- ite of a number that is not 0 is the second argument, and takes no room. -/
theorem ite_num (hok : GOk W L) {h x y : Nat} (hh : h < L.length) (hx : x < L.length) (hy : y < L.length) (nh : isNum L (h : Int) = true) (h0 : numOf L (h : Int) ≠ some 0) :
    simpR W room L 21 [(h : Int), (x : Int), (y : Int)] = (L, x, 0) := by
  rw [simpR_in (by omega) (by omega) rfl (three_in hh hx hy)]
  have hn := isNum_some nh
  have hd : numD L (h : Int) ≠ 0 := fun e => h0 (by rw [hn, e])
  by_cases hall : ∀ t ∈ [(h : Int), (x : Int), (y : Int)], isNum L t = true
  · have hxn := hall x (by simp)
    have hyn := hall y (by simp)
    have hs : simpA W L 21 [(h : Int), (x : Int), (y : Int)] = .num (wI (21 : Nat) W ([(h : Int), (x : Int), (y : Int)].map fun t => (numD L t : Int))).toNat := if_pos hall
    rw [hs]
    simp only [List.map_cons, List.map_nil]
    rw [wI_ite3 hok.w1 hok.w2 (by rw [← numD_val hok nh []]; exact hok.word [] h) (by rw [← numD_val hok hxn []]; exact hok.word [] x) (by rw [← numD_val hok hyn []]; exact hok.word [] y), if_neg (by omega), Int.toNat_natCast]
    exact const_there hok (isNum_some hxn)
  · have hs : simpA W L 21 [(h : Int), (x : Int), (y : Int)] = threeA L h x y := if_neg hall
    rw [hs]
    unfold threeA
    by_cases hxy : (x : Int) = (y : Int)
    · rw [if_pos hxy]; show (L, (x : Int).toNat, 0) = _; rw [Int.toNat_natCast]
    · rw [if_neg hxy, if_pos nh, if_pos hd]; show (L, (x : Int).toNat, 0) = _; rw [Int.toNat_natCast]
/-- One element of an array: the term that holds if it is the one at an index. -/
theorem case_step (hok : GOk W L) {x i : Nat} (hx : x < L.length) (hi : i ≤ 64) (hiW : i < 2 ^ W) (hr : phi W L + 1 < room) :
    ∃ L1 n L2 h, constR W room L i = (L1, n, 0) ∧ L <+: L1 ∧ simpR W room L1 15 [(x : Int), (n : Int)] = (L2, h, 0) ∧
      Got W L L2 h (fun vals => if val W vals L x = (i : Int) then 1 else 0) ∧ phi W L2 ≤ phi W L + 1 ∧ (isNum L (x : Int) = true → phi W L2 ≤ phi W L ∧ isNum L2 (h : Int) = true) := by
  obtain ⟨L1, n, h1, h2, -, h4, h5⟩ := got_const (room := room) hok i (by omega)
  rw [Nat.mod_eq_of_lt hiW] at h2 h5
  have hp := h4 hi
  have hx1 : x < L1.length := Nat.lt_of_lt_of_le hx h2.pre.length_le
  obtain ⟨L2, h, k1, k2, k3⟩ := got_simp (room := room) h2.ok (o := 15) (xs := [(x : Int), (n : Int)]) (by omega) (by omega) rfl (pair_in hx1 h2.lt) (by omega)
  refine ⟨L1, n, L2, h, h1, h2.pre, k1, (k2.of h2.pre).congr fun vals => ?_, by omega, fun hn => ?_⟩
  · simp only [List.map_cons, List.map_nil, Int.toNat_natCast]
    rw [h2.val, val_prefix h2.pre hx]
    exact wI_eq2 hok.w1 hok.w2 (hok.word vals x) ⟨by omega, by omega⟩
  · have hn1 : isNum L1 (x : Int) = true := by rw [isNum_prefix h2.pre (by omega)]; exact hn
    obtain ⟨L3, h3, e1, e2, e3⟩ := eq_num (room := room) h2.ok hx1 h2.lt hn1 (by unfold isNum; rw [h5]; rfl) (by omega)
    rw [k1] at e1
    simp only [Prod.mk.injEq, and_true] at e1
    obtain ⟨rfl, rfl⟩ := e1
    exact ⟨by omega, e3⟩
/-- ite. -/
theorem ite_step (hok : GOk W L) {h x y : Nat} (hh : h < L.length) (hx : x < L.length) (hy : y < L.length) (hr : phi W L < room) :
    ∃ L' u, simpR W room L 21 [(h : Int), (x : Int), (y : Int)] = (L', u, 0) ∧ Got W L L' u (fun vals => if val W vals L h = 0 then val W vals L y else val W vals L x) ∧ phi W L' ≤ phi W L + 1 ∧ (isNum L (h : Int) = true → numOf L (h : Int) ≠ some 0 → phi W L' ≤ phi W L) := by
  obtain ⟨L', u, k1, k2, k3⟩ := got_simp (room := room) hok (o := 21) (xs := [(h : Int), (x : Int), (y : Int)]) (by omega) (by omega) rfl (three_in hh hx hy) hr
  refine ⟨L', u, k1, k2.congr fun vals => ?_, k3, fun hn h0 => ?_⟩
  · simp only [List.map_cons, List.map_nil, Int.toNat_natCast]
    exact wI_ite3 hok.w1 hok.w2 (hok.word vals h) (hok.word vals x) (hok.word vals y)
  · rw [ite_num hok hh hx hy hn h0] at k1
    simp only [Prod.mk.injEq, and_true] at k1
    rw [← k1.1]
    exact Nat.le_refl _
/-- lt with a number. -/
theorem lt_step (hok : GOk W L) {x n : Nat} (hx : x < L.length) (hn : n ≤ 64) (hnW : n < 2 ^ W) (hr : phi W L + 1 < room) :
    ∃ L1 c L2 h, constR W room L n = (L1, c, 0) ∧ L <+: L1 ∧ simpR W room L1 17 [(x : Int), (c : Int)] = (L2, h, 0) ∧ Got W L L2 h (fun vals => if val W vals L x < (n : Int) then 1 else 0) ∧ phi W L2 ≤ phi W L + 1 := by
  obtain ⟨L1, c, h1, h2, -, h4, -⟩ := got_const (room := room) hok n (by omega)
  rw [Nat.mod_eq_of_lt hnW] at h2
  have hp := h4 hn
  have hx1 : x < L1.length := Nat.lt_of_lt_of_le hx h2.pre.length_le
  obtain ⟨L2, h, k1, k2, k3⟩ := got_simp (room := room) h2.ok (o := 17) (xs := [(x : Int), (c : Int)]) (by omega) (by omega) rfl (pair_in hx1 h2.lt) (by omega)
  refine ⟨L1, c, L2, h, h1, h2.pre, k1, (k2.of h2.pre).congr fun vals => ?_, by omega⟩
  simp only [List.map_cons, List.map_nil, Int.toNat_natCast]
  rw [h2.val, val_prefix h2.pre hx]
  exact wI_lt2 hok.w1 hok.w2 (hok.word vals x) ⟨by omega, by omega⟩
end
end Go.Proofs.YtiklidgcmheofaaDoor
namespace Go.Proofs.YtiklidgcmheofaaDoor
open Go.RowKit Go.Maps
set_option maxHeartbeats 3200000
/-- Where a store's parts lie. -/
structure Lay where
  rv : Value
  av : Value
  vs : List Value
/-- A store in memory: its head, registers, arrays. -/
def Thing.store (k : IntKind) (E Es T : Nat) (hd : Value) (sb : Nat) (y : Lay) (regs : List Int) (arrs : List (List Int)) : Thing :=
  Thing.bundle [Thing.box sb T #[hd, y.rv, y.av], Thing.numsK k E y.rv regs, Thing.lists k E Es y.av y.vs arrs]
/-- What is read of a store. -/
structure StC (w : World) (k : IntKind) (hd : Value) (sb : Nat) (y : Lay) (regs : List Int) (arrs : List (List Int)) : Prop where
  c0 : w.cell? ⟨sb, 0, none⟩ = some hd
  c1 : w.cell? ⟨sb, 1, none⟩ = some y.rv
  c2 : w.cell? ⟨sb, 2, none⟩ = some y.av
  regs : SliceOf w k y.rv regs
  arrs : NumsOf w k y.av arrs
theorem SliceOf.laterS {w w' : World} {k : IntKind} {v : Value} {xs : List Int} (h : SliceOf w k v xs) (hb : Below w.heap.size w w') : SliceOf w' k v xs := by
  obtain ⟨a, n, cap, rfl, hl, hx⟩ := h
  refine ⟨a, n, cap, rfl, hl, fun i hi => ?_⟩
  obtain ⟨b, off, h1, h2⟩ := hx i hi
  exact ⟨b, off, h1, cell_later hb h2⟩
theorem NumsOf.later {w w' : World} {k : IntKind} {v : Value} {xss : List (List Int)} (h : NumsOf w k v xss) (hb : Below w.heap.size w w') : NumsOf w' k v xss := by
  obtain ⟨a, n, cap, rfl, hl, hx⟩ := h
  refine ⟨a, n, cap, rfl, hl, fun i hi => ?_⟩
  obtain ⟨b, off, xs, va, h1, h2, h3, h4⟩ := hx i hi
  exact ⟨b, off, xs, va, h1, h2, cell_later hb h3, h4.laterS hb⟩
theorem StC.later {w w' : World} {k : IntKind} {hd : Value} {sb : Nat} {y : Lay} {regs : List Int} {arrs : List (List Int)} (h : StC w k hd sb y regs arrs) (hb : Below w.heap.size w w') : StC w' k hd sb y regs arrs :=
  ⟨cell_later hb h.c0, cell_later hb h.c1, cell_later hb h.c2, h.regs.laterS hb, h.arrs.later hb⟩
section
variable {w0 wr w w' : World} {ts : List Thing} {k : IntKind} {E Es T sb : Nat} {hd : Value} {y : Lay} {regs : List Int} {arrs : List (List Int)}
theorem Lab.st_open (h : Lab w0 wr (Thing.store k E Es T hd sb y regs arrs :: ts)) : Lab w0 wr (Thing.box sb T #[hd, y.rv, y.av] :: Thing.numsK k E y.rv regs :: Thing.lists k E Es y.av y.vs arrs :: ts) := h.unbundle
theorem Lab.st_shut {rv av : Value} {vs : List Value} (h : Lab w0 wr (Thing.box sb T #[hd, rv, av] :: Thing.numsK k E rv regs :: Thing.lists k E Es av vs arrs :: ts)) : Lab w0 wr (Thing.store k E Es T hd sb ⟨rv, av, vs⟩ regs arrs :: ts) := Lab.bundle (fs := [_, _, _]) h
theorem Lab.st_read (hl : arrs.length = y.vs.length) (h : Lab w0 wr (Thing.store k E Es T hd sb y regs arrs :: ts)) : StC wr k hd sb y regs arrs := by
  have h1 := h.st_open
  have hb : wr.heap[sb]? = some (.cells #[hd, y.rv, y.av] T (0, 0)) := h1.head
  refine ⟨?_, ?_, ?_, OwnInts.slice (E := E) h1.second, Lab.lists_read hl h1.rot3⟩
  · rw [cell_of_row wr sb 0 _ _ _ hb]; rfl
  · rw [cell_of_row wr sb 1 _ _ _ hb]; rfl
  · rw [cell_of_row wr sb 2 _ _ _ hb]; rfl
end
/-- A store of terms. -/
def Thing.gst (gb sb : Nat) (y : Lay) (regs : List Int) (arrs : List (List Int)) : Thing := Thing.store .i64 3 23 82 (.pointer (some ⟨gb, 0, none⟩)) sb y regs arrs
/-- A store of words. -/
def Thing.rst (W : Nat) (sb : Nat) (y : Lay) (regs : List Int) (arrs : List (List Int)) : Thing := Thing.store .u64 40 48 97 (.int .i64 W) sb y regs arrs
abbrev StG (w : World) (gb sb : Nat) (y : Lay) (regs : List Int) (arrs : List (List Int)) : Prop := StC w .i64 (.pointer (some ⟨gb, 0, none⟩)) sb y regs arrs
section
variable {w : World} {F I : List Nat} {gb W room sb : Nat} {L : List PNode} {y : Lay} {regs : List Int} {arrs : List (List Int)}
/-- is. -/
theorem is_any (hs : StG w gb sb y regs arrs) (hg : Gr w 0 F I gb W room L) (t : Int) :
    Calls Tryd.prog 35 #[.pointer (some ⟨sb, 0, none⟩), .int .i64 t] w fun e w' => e = .returned (.bool (decide (0 ≤ t ∧ t < (L.length : Int)))) ∧ w = w' := by
  have hln := len_any hg
  obtain ⟨d0, d1, d2, -, -⟩ := hs
  obtain ⟨n, hn⟩ : ∃ n, L.length = n := ⟨_, rfl⟩
  rw [hn] at hln ⊢
  have HLN := Lib.hid hln
  clear hln hn hg
  by_cases h0 : 0 ≤ t
  · have g0 : decide (0 ≤ t) = true := decide_eq_true h0
    by_cases h1 : t < (n : Int)
    · have e : decide (0 ≤ t ∧ t < (n : Int)) = true := decide_eq_true ⟨h0, h1⟩
      rw [e]
      have g1 : decide (t < (n : Int)) = true := decide_eq_true h1
      clear h0 h1 e
      go_enter Tryd.func35, Tryd.ntmps35
      go_wp2_with (go_at_call 48; refine HLN.out.mono ?_; rintro e w5 ⟨rfl, rfl⟩)
      go_ret
      exact ⟨rfl, rfl⟩
    · have e : decide (0 ≤ t ∧ t < (n : Int)) = false := decide_eq_false (fun h => h1 h.2)
      rw [e]
      have g1 : decide (t < (n : Int)) = false := decide_eq_false h1
      clear h0 h1 e
      go_enter Tryd.func35, Tryd.ntmps35
      go_wp2_with (go_at_call 48; refine HLN.out.mono ?_; rintro e w5 ⟨rfl, rfl⟩)
      go_ret
      exact ⟨rfl, rfl⟩
  · have g0 : decide (0 ≤ t) = false := decide_eq_false h0
    have e : decide (0 ≤ t ∧ t < (n : Int)) = false := decide_eq_false (fun h => h0 h.1)
    rw [e]
    clear h0 e
    go_enter Tryd.func35, Tryd.ntmps35
    go_wp2
    go_ret
    exact ⟨rfl, rfl⟩
/-- may. -/
theorem smay_any (hs : StG w gb sb y regs arrs) (hg : Gr w 0 F I gb W room L) (a t : Int) :
    Calls Tryd.prog 34 #[.pointer (some ⟨sb, 0, none⟩), .int .i64 a, .int .i64 t] w fun e w' => e = .returned (.int .i64 (if (0 ≤ a ∧ a < (arrs.length : Int)) ∧ 0 ≤ t ∧ t < (L.length : Int) then 0 else 3)) ∧ w = w' := by
  have his := is_any hs hg t
  obtain ⟨d0, d1, d2, -, hx⟩ := hs
  obtain ⟨aa, na, ca, hav, hna, -⟩ := hx
  rw [hav] at d2
  rw [hna]
  by_cases h0 : 0 ≤ a
  · have g0 : decide (a < 0) = false := decide_eq_false (by omega)
    by_cases h1 : a < (na : Int)
    · have g1 : decide ((na : Int) ≤ a) = false := decide_eq_false (by omega)
      by_cases ht : 0 ≤ t ∧ t < (L.length : Int)
      · rw [if_pos ⟨⟨h0, h1⟩, ht⟩]
        rw [decide_eq_true ht] at his
        have HIS := Lib.hid his
        clear his ht h0 h1 hav hna hg
        go_enter Tryd.func34, Tryd.ntmps34
        go_wp2_with (go_at_call 35; refine HIS.out.mono ?_; rintro e w5 ⟨rfl, rfl⟩)
        go_ret
        exact ⟨rfl, rfl⟩
      · rw [if_neg (fun h => ht h.2)]
        rw [decide_eq_false ht] at his
        have HIS := Lib.hid his
        clear his ht h0 h1 hav hna hg
        go_enter Tryd.func34, Tryd.ntmps34
        go_wp2_with (go_at_call 35; refine HIS.out.mono ?_; rintro e w5 ⟨rfl, rfl⟩)
        go_ret
        exact ⟨rfl, rfl⟩
    · rw [if_neg (fun h => h1 h.1.2)]
      have g1 : decide ((na : Int) ≤ a) = true := decide_eq_true (by omega)
      clear his h0 h1 hav hna hg
      go_enter Tryd.func34, Tryd.ntmps34
      go_wp2
      go_ret
      exact ⟨rfl, rfl⟩
  · rw [if_neg (fun h => h0 h.1.1)]
    have g0 : decide (a < 0) = true := decide_eq_true (by omega)
    clear his h0 hav hna hg
    go_enter Tryd.func34, Tryd.ntmps34
    go_wp2
    go_ret
    exact ⟨rfl, rfl⟩
end
section
variable {w0 wr : World} {ts : List Thing} {F I : List Nat} {gb W room sb : Nat} {L : List PNode} {y : Lay} {regs : List Int} {arrs : List (List Int)}
theorem cells2S {w : World} {b : Nat} {x z : Value} {t : TypeId} (h : w.heap[b]? = some (.cells #[x, z] t (0, 0))) : w.cell? ⟨b, 0, none⟩ = some x ∧ w.cell? ⟨b, 1, none⟩ = some z :=
  ⟨by rw [cell_of_row w b 0 _ _ _ h]; rfl, by rw [cell_of_row w b 1 _ _ _ h]; rfl⟩
/-- Ref of a register. -/
theorem sref_reg {w : World} (hs : StG w gb sb y regs arrs) (r : Nat) (q : Nat) {t : Int} (hr : regs[r]? = some t) :
    Calls Tryd.prog 12 #[.pointer (some ⟨sb, 0, none⟩), .agg #[.int .i64 r, .int .u64 q]] w fun e w' => e = .returned (.tuple #[.int .i64 t, .int .i64 0]) ∧ Below w.heap.size w w' := by
  have hb := (Lab.nil (Below.refl _ w)).alloc #[.int .i64 (r : Int), .int .u64 q] 42
  obtain ⟨p, hp⟩ : ∃ p, w.heap.size = p := ⟨_, rfl⟩
  have HS := Lib.hid hs; have HB := Lib.hid hb; have HP := Lib.hid hp
  obtain ⟨ar, nr, cr, hrv, hnr, hx⟩ := hs.regs
  have hlt := (List.getElem?_eq_some_iff.1 hr).1
  have hr' : (r : Int) < (nr : Int) := by omega
  have r0 : (0 : Int) ≤ (r : Int) := by omega
  obtain ⟨b, off, rfl, hc⟩ := hx r (by omega)
  have ht : regs.getD r 0 = t := by rw [List.getD_eq_getElem?_getD, hr]; rfl
  rw [ht] at hc
  have HRV := Lib.hid hrv; have HC := Lib.hid hc
  clear hs hb hrv hnr hx hc ht hr hlt
  have g : decide ((r : Int) < -1) = false := decide_eq_false (by omega)
  have g1 : decide ((nr : Int) ≤ (r : Int)) = false := decide_eq_false (by omega)
  have g2 : ((r : Int) == -1) = false := by rw [beq_eq_false_iff_ne]; omega
  go_enter Tryd.func12, Tryd.ntmps12
  go_upto_region 3 with fail
  refine wp_abs (fun wx => Lab w wx [Thing.box w.heap.size 42 #[.int .i64 r, .int .u64 q]]) HB.out ?_
  intro w1 hl
  rw [hp] at hl
  obtain ⟨e0, e1⟩ := cells2S hl.head
  have hs1 := HS.out.later hl.below
  have d1 := hs1.c1
  rw [HRV.out] at d1
  have hcl := cell_later hl.below HC.out
  have HL := Lib.hid hl
  clear hl hs1
  go_quiet (fail)
  go_wp2
  go_quiet (fail)
  go_wp2
  go_ret2
  exact ⟨rfl, below_drewN (below_drewN HL.out.below _) _⟩
/-- Ref of a number. -/
theorem Lab.sref_num (h : Lab w0 wr (Thing.graph F I gb W room L :: Thing.gst gb sb y regs arrs :: ts)) (hy : arrs.length = y.vs.length) (q : Nat) (hq : q < 18446744073709551616) {R : List PNode × Nat × Nat} (hR : constR W room L q = R) :
    Calls Tryd.prog 12 #[.pointer (some ⟨sb, 0, none⟩), .agg #[.int .i64 (-1), .int .u64 q]] wr fun e w' => ∃ F' I', e = .returned (.tuple #[.int .i64 R.2.1, .int .i64 R.2.2]) ∧ Lab w0 w' (Thing.graph F' I' gb W room R.1 :: Thing.gst gb sb y regs arrs :: ts) := by
  have hb := (h.alloc #[.int .i64 (-1), .int .u64 q] 42).rot3
  obtain ⟨p, hp⟩ : ∃ p, wr.heap.size = p := ⟨_, rfl⟩
  have hs := Lab.st_read hy h.swap
  obtain ⟨ar, nr, cr, hrv, -⟩ := hs.regs
  have HRV := Lib.hid hrv; have HB := Lib.hid hb
  have HQ := Lib.hid (And.intro hq hR); have HY := Lib.hid hy
  clear hs hb hrv hq hR h hy
  have g1 : decide ((nr : Int) ≤ (-1 : Int)) = false := decide_eq_false (by omega)
  go_enter Tryd.func12, Tryd.ntmps12
  go_upto_region 3 with fail
  refine wp_abs (fun wx => Lab w0 wx (Thing.gst gb sb y regs arrs :: Thing.box wr.heap.size 42 #[.int .i64 (-1), .int .u64 q] :: Thing.graph F I gb W room L :: ts)) HB.out ?_
  intro w1 hl
  rw [hp] at hl
  obtain ⟨e0, e1⟩ := cells2S hl.second
  have hs1 := Lab.st_read HY.out hl
  have d1 := hs1.c1
  rw [HRV.out] at d1
  have HL := Lib.hid hl
  clear hl hs1
  go_quiet (fail)
  go_upto_region 6 with fail
  refine wp_abs (fun wx => Lab w0 wx (Thing.gst gb sb y regs arrs :: Thing.box p 42 #[.int .i64 (-1), .int .u64 q] :: Thing.graph F I gb W room L :: ts)) (HL.out.drewN _) ?_
  intro w2 hl2
  clear e0 e1 d1 HL
  obtain ⟨e0, e1⟩ := cells2S hl2.second
  have d0 := (Lab.st_read HY.out hl2).c0
  have hl3 := hl2.rot3.drewN 1
  have hc := const_any hl3.gr q HQ.out.1
  rw [HQ.out.2] at hc
  have HC := Lib.hid hc; have HL3 := Lib.hid hl3
  clear hl2 hl3 hc
  go_region_held3 (fun w' => w'.cell? ⟨p, 1, none⟩ = some (.int .u64 q) ∧ w'.cell? ⟨sb, 0, none⟩ = some (.pointer (some ⟨gb, 0, none⟩))) (first | exact ⟨by assumption, by assumption⟩ | go_keep)
    (first | (go_at_call 31; refine HC.out.mono ?_; intro e w5 hp; obtain ⟨F2, I2, rfl, hl2⟩ := HL3.out.gpost hp; have q1 := (cells2S hl2.third).2; have q2 := (Lab.st_read HY.out hl2.swap).c0; have HL2 := Lib.hid hl2; clear hl2 hp))
  all_goals
    go_wp2
    go_ret2
    exact ⟨_, _, rfl, HL2.out.rot3.drop⟩
end
end Go.Proofs.YtiklidgcmheofaaDoor
namespace Go.Proofs.YtiklidgcmheofaaDoor
open Go.RowKit Go.Maps
set_option maxHeartbeats 3200000
theorem rtrim30 {w : World} {W rb : Nat} (c0 : w.cell? ⟨rb, 0, none⟩ = some (.int .i64 W)) (h1 : 1 ≤ W) (h2 : W ≤ 64) (v : Nat) (hv : v ≤ 18446744073709551615) :
    Calls Tryd.prog 20 #[.pointer (some ⟨rb, 0, none⟩), .int .u64 v] w fun e w' => e = .returned (.int .u64 ((v % 2 ^ W : Nat) : Int)) ∧ w = w' := by
  by_cases hW : W = 64
  · subst hW
    have hr : v % 2 ^ 64 = v := Nat.mod_eq_of_lt (by omega)
    rw [hr]; clear hr
    go_enter Tryd.func20, Tryd.ntmps20
    go_wp2
    go_ret
    exact ⟨rfl, rfl⟩
  · have hd : decide ((64 : Int) ≤ (W : Int)) = false := decide_eq_false (by omega)
    have ha := and_mask v W (by omega) h1 h2
    have hp := wrap_pow W h1 h2
    have e1 : ((W : Int)).toNat = W := Int.toNat_natCast W
    rw [e1] at hp
    obtain ⟨M, hM⟩ : ∃ M, 2 ^ W - 1 = M := ⟨_, rfl⟩
    obtain ⟨r, hr⟩ : ∃ r, v % 2 ^ W = r := ⟨_, rfl⟩
    rw [hM] at hp ha
    rw [hr] at ha ⊢
    have hmw : min W 64 = W := by omega
    have HP := Lib.hid hp; have HA := Lib.hid ha
    clear hr hM hp ha
    go_enter Tryd.func20, Tryd.ntmps20
    go_wp2
    go_ret
    show Ending.returned (.int .u64 (bits .and .u64 (v : Int) (IntKind.u64.wrap (IntKind.u64.wrap (2 ^ W) - 1)))) = _ ∧ _
    rw [HP.out, HA.out]
    exact ⟨rfl, rfl⟩
section
variable {w0 wr w : World} {ts : List Thing} {W rb a : Nat} {y : Lay} {regs us : List Int} {arrs : List (List Int)}
end
end Go.Proofs.YtiklidgcmheofaaDoor
