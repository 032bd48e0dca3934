/- Lab, Lists, Ord13, OrdT, SplitA, SplitB: joined by wip/bundle.py. -/
import Derived.Test.YteamnchoddegpaaGreatDoorB1
import Derived.Test.YteamnchoddegpaaGreatDoorB2
import Derived.Test.YteamnchoddegpaaGreatDoorB3
import Derived.Test.YteamnchoddegpaaGreatDoorB4
import Derived.Test.YteamnchoddegpaaGreatDoorB5
import Derived.Test.YteamnchoddegpaaGreatDoorB6
import Derived.Test.YteamnchoddegpaaGreatDoorB7
import Derived.Test.YteamnchoddegpaaGreatDoorB8
import Derived.Test.YteamnchoddegpaaGreatDoorB9
import Derived.Test.YteamnchoddegpaaGreatDoorB10
import Derived.Test.YteamnchoddegpaaGreatDoorB11
import Derived.Test.YteamnchoddegpaaGreatDoorB12
import Derived.Test.YteamnchoddegpaaGreatDoorB13
import Derived.Test.YteamnchoddegpaaGreatDoorB14
import Derived.Test.YteamnchoddegpaaGreatDoorB15
import Derived.Test.YteamnchoddegpaaGreatDoorB16
import Derived.Test.YteamnchoddegpaaGreatDoorB17
import Derived.Test.YteamnchoddegpaaGreatDoorB18
import Derived.Test.YteamnchoddegpaaGreatDoorB19
import Derived.Test.YteamnchoddegpaaGreatDoorB20
import Derived.Test.YteamnchoddegpaaGreatDoorB21
import Derived.Test.YteamnchoddegpaaGreatDoorB22
import Derived.Test.YteamnchoddegpaaGreatDoorB23
import Derived.Test.YteamnchoddegpaaGreatDoorB24
import Derived.Deep.DeepCutAuto
import Derived.Deep.CutBlock
import Derived.Deep.RegionHeld3
import Derived.OrdersHeld
import Derived.StillTail
import Derived.Laws.BitsAllLaws
import Derived.Lib.Hide
import Derived.WalkKit
import Derived.WalkSpells
import Derived.WalkLawsBesides
import Derived.BigQuiet
import Derived.Deep.QuietTactic
import Derived.ProofKit
import Derived.Maps.Keyed
import Derived.DeepKeys4
import Derived.StillTailTactics
import Derived.Laws.CopyOwn
import Derived.Deep.RegionLaw
import Derived.Deep.Slices
import Derived.Deep.Fields
import Derived.ChangeSame
import Derived.OpenShut
import Derived.Deep.OwnRows
import Derived.Maps.RangeWalk
import Derived.Outline
import Derived.Maps.RangeRun
import Derived.Below
import Derived.WalkSmall
import Derived.Deep.Upon
import Derived.WalkMore
import Derived.Ground.NamesProg
import Derived.Shelf.Sort.Plain
import Derived.Shelf.Slices.In.SortNone
import Derived.Lib.SortBridge
import Derived.Sort.OwnSortedInts
import Derived.Deep.DrawnRows
import Derived.Defers
import Derived.Recover
import Derived.WideKeyArr2
import Derived.Lib.AppendZeros
import Derived.BigRegion
import Derived.Lib.TrailingZeros
namespace Go.Proofs.YteamnchoddegpaaGreatDoor
end Go.Proofs.YteamnchoddegpaaGreatDoor
namespace Go.Proofs.YteamnchoddegpaaGreatDoor
open Go.RowKit Go.Maps
set_option maxHeartbeats 400000
section
variable {w0 wr w' : World} {s s' : Thing} {ts : List Thing}
end
section
variable {w0 wr w' : World} {ts : List Thing} {F I : List Nat} {gb W room : Nat} {L : List PNode}
end
end Go.Proofs.YteamnchoddegpaaGreatDoor
namespace Go.Proofs.YteamnchoddegpaaGreatDoor
open Go.RowKit Go.Maps
set_option maxHeartbeats 400000
section
variable {P : Program}
end
section
variable {w0 wr w' : World} {s s' u : Thing} {ts : List Thing}
end
section
variable {w0 wr w' : World} {ts : List Thing} {I : List Nat} {v : Value} {L : List PNode}
end
end Go.Proofs.YteamnchoddegpaaGreatDoor
namespace Go.Proofs.YteamnchoddegpaaGreatDoor
open Go.RowKit Go.Maps
set_option maxHeartbeats 400000
end Go.Proofs.YteamnchoddegpaaGreatDoor
namespace Go.Proofs.YteamnchoddegpaaGreatDoor
end Go.Proofs.YteamnchoddegpaaGreatDoor
namespace Go.Proofs.YteamnchoddegpaaGreatDoor
open Go.RowKit Go.Maps
set_option maxHeartbeats 400000
section
variable {w0 wr w' : World} {ts : List Thing} {F I : List Nat} {gb W room : Nat} {L : List PNode}
theorem Lab.rot6 {s t u v x y : Thing} (h : Lab w0 wr (s :: t :: u :: v :: x :: y :: ts)) : Lab w0 wr (y :: s :: t :: u :: v :: x :: ts) := h.perm (List.perm_middle (l₁ := [s, t, u, v, x]))
open Classical in
end
end Go.Proofs.YteamnchoddegpaaGreatDoor
namespace Go.Proofs.YteamnchoddegpaaGreatDoor
open Go.RowKit Go.Maps
set_option maxHeartbeats 800000
end Go.Proofs.YteamnchoddegpaaGreatDoor
namespace Go.Proofs.YteamnchoddegpaaGreatDoor
end Go.Proofs.YteamnchoddegpaaGreatDoor
namespace Go.Proofs.YteamnchoddegpaaGreatDoor
open Go.RowKit Go.Maps
set_option maxHeartbeats 3200000
section
variable {w0 wr w' : World} {fs ts : List Thing}
theorem Lab.unbundle (h : Lab w0 wr (Thing.bundle fs :: ts)) : Lab w0 wr (fs ++ ts) := by
  have hh := h.head
  obtain ⟨p1, p2⟩ := List.pairwise_cons.1 h.apart
  have hW : ∀ f ∈ fs, ∀ k, k ∈ f.W → k ∈ (Thing.bundle fs).W := fun f hf k hk => List.mem_flatMap.2 ⟨f, hf, hk⟩
  have hR : ∀ f ∈ fs, ∀ k, k ∈ f.R → k ∈ (Thing.bundle fs).R := fun f hf k hk => List.mem_flatMap.2 ⟨f, hf, hk⟩
  refine ⟨h.below, fun t ht => ?_, fun t ht k hk => ?_, fun t ht k hk => ?_, List.pairwise_append.2 ⟨hh.2, p2, fun f hf t ht => ⟨fun k hk => (p1 t ht).1 k (hW f hf k hk), fun k hk => (p1 t ht).2 k (hR f hf k hk)⟩⟩⟩
  · rcases List.mem_append.1 ht with ht | ht
    · exact hh.1 t ht
    · exact h.holds t (by simp [ht])
  · rcases List.mem_append.1 ht with ht | ht
    · exact h.low (Thing.bundle fs) (by simp) k (hW t ht k hk)
    · exact h.low t (by simp [ht]) k hk
  · rcases List.mem_append.1 ht with ht | ht
    · exact h.high (Thing.bundle fs) (by simp) k (hk.imp (hW t ht k) (hR t ht k))
    · exact h.high t (by simp [ht]) k hk
end
def innerT (k : IntKind) (E : Nat) (vs : List Value) (xss : List (List Int)) (i : Nat) : Thing := Thing.numsK k E (vs.getD i undef) (xss.getD i [])
/-- A list of lists of numbers. -/
def Thing.lists (k : IntKind) (E Es : Nat) (v : Value) (vs : List Value) (xss : List (List Int)) : Thing := Thing.bundle (Thing.row Es 1 v vs.length vs :: (List.range vs.length).map (innerT k E vs xss))
section
variable {w0 wr w' : World} {ts : List Thing} {k : IntKind} {E Es : Nat} {v : Value} {vs : List Value} {xss : List (List Int)} {c : Nat}
/-- All of a list of lists but one row of it. -/
def restT (k : IntKind) (E : Nat) (vs : List Value) (xss : List (List Int)) (c : Nat) : Thing := Thing.bundle (((List.range vs.length).erase c).map (innerT k E vs xss))
theorem range_take (f : Nat → Thing) {c n : Nat} (h : c < n) : ((List.range n).map f).Perm (f c :: ((List.range n).erase c).map f) := (List.perm_cons_erase (List.mem_range.2 h)).map f
theorem Lab.lists_open (hc : c < vs.length) (h : Lab w0 wr (Thing.lists k E Es v vs xss :: ts)) :
    Lab w0 wr (innerT k E vs xss c :: Thing.row Es 1 v vs.length vs :: restT k E vs xss c :: ts) := by
  have h1 := h.unbundle.perm (ts' := ((List.range vs.length).erase c).map (innerT k E vs xss) ++ (innerT k E vs xss c :: Thing.row Es 1 v vs.length vs :: ts)) ?_
  · exact h1.bundle.rot3'
  · refine (List.Perm.cons _ ((range_take (innerT k E vs xss) hc).append_right ts)).trans ?_
    refine (List.Perm.swap _ _ _).trans ?_
    exact (List.Perm.trans (.cons _ List.perm_middle.symm) List.perm_middle.symm)
theorem rest_set (u : Value) (ys : List Int) : restT k E (vs.set c u) (xss.set c ys) c = restT k E vs xss c := by
  unfold restT
  congr 1
  rw [List.length_set]
  refine List.map_congr_left fun i hi => ?_
  have hne : i ≠ c := fun e => by
    subst e
    exact (List.Nodup.not_mem_erase List.nodup_range) hi
  unfold innerT
  congr 1
  · simp only [List.getD_eq_getElem?_getD, List.getElem?_set]
    rw [if_neg (Ne.symm hne)]
  · simp only [List.getD_eq_getElem?_getD, List.getElem?_set]
    rw [if_neg (Ne.symm hne)]
theorem inner_set {u : Value} {ys : List Int} (hc : c < vs.length) (hl : xss.length = vs.length) : innerT k E (vs.set c u) (xss.set c ys) c = Thing.numsK k E u ys := by
  unfold innerT
  simp only [List.getD_eq_getElem?_getD, List.getElem?_set]
  simp only [if_true]
  rw [if_pos hc, if_pos (by omega)]
  rfl
theorem Lab.lists_shut {u : Value} {ys : List Int} (hc : c < vs.length) (hl : xss.length = vs.length) (h : Lab w0 wr (Thing.numsK k E u ys :: Thing.row Es 1 v vs.length (vs.set c u) :: restT k E vs xss c :: ts)) :
    Lab w0 wr (Thing.lists k E Es v (vs.set c u) (xss.set c ys) :: ts) := by
  rw [← rest_set u ys, ← inner_set hc hl] at h
  unfold Thing.lists
  refine Lab.bundle ?_
  have h1 := h.rot3
  unfold restT at h1
  refine h1.unbundle.perm ?_
  rw [List.length_set]
  refine (List.perm_append_comm).trans ?_
  simp only [List.cons_append]
  refine (List.Perm.swap _ _ _).trans (List.Perm.cons _ ?_)
  refine (List.Perm.cons _ List.perm_append_comm).trans ?_
  exact ((range_take (innerT k E (vs.set c u) (xss.set c ys)) hc).append_right ts).symm
theorem Lab.lists_row (h : Lab w0 wr (Thing.lists k E Es v vs xss :: ts)) : wr.ownsRow 0 Es 1 v vs.length vs := h.head.1 (Thing.row Es 1 v vs.length vs) List.mem_cons_self
theorem Lab.lists_inner (h : Lab w0 wr (Thing.lists k E Es v vs xss :: ts)) (hc : c < vs.length) : OwnInts wr 0 E k (vs.getD c undef) (xss.getD c []) :=
  h.head.1 (innerT k E vs xss c) (List.mem_cons_of_mem _ (List.mem_map.2 ⟨c, List.mem_range.2 hc, rfl⟩))
theorem Lab.joined {wx : World} {us : List Thing} (h : Lab w0 wr ts) (hu : Lab wr wx us) (hR : ∀ u ∈ us, u.R = []) : Lab w0 wx (us ++ ts) := by
  have hl := h.later hu.below
  refine ⟨hl.below, fun t ht => ?_, fun t ht k hk => ?_, fun t ht => ?_, List.pairwise_append.2 ⟨hu.apart, hl.apart, fun u h1 t h2 => ⟨fun k hk => ⟨fun h3 => ?_, fun h3 => ?_⟩, fun k hk h3 => ?_⟩⟩⟩
  · rcases List.mem_append.1 ht with h1 | h1
    · exact hu.holds t h1
    · exact hl.holds t h1
  · rcases List.mem_append.1 ht with h1 | h1
    · exact Nat.le_trans h.below.size (hu.low t h1 k hk)
    · exact hl.low t h1 k hk
  · rcases List.mem_append.1 ht with h1 | h1
    · exact hu.high t h1
    · exact hl.high t h1
  · have := hu.low u h1 k hk; have := h.high t h2 k (.inl h3); omega
  · have := hu.low u h1 k hk; have := h.high t h2 k (.inr h3); omega
  · rw [hR u h1] at hk; cases hk
theorem lists_R : (Thing.lists k E Es v vs xss).R = [] := by
  unfold Thing.lists Thing.bundle
  refine List.flatMap_eq_nil_iff.2 fun f hf => ?_
  rcases List.mem_cons.1 hf with rfl | hf
  · rfl
  · obtain ⟨i, -, rfl⟩ := List.mem_map.1 hf
    rfl
theorem Lab.nils (h : Lab w0 wr ts) : ∀ m, Lab w0 wr (List.replicate m (Thing.numsK k E (.slice none 0 0) []) ++ ts)
  | 0 => h
  | m + 1 => by
    have := (Lab.nils h m).new_row (E := E) (size := 1) (n := 0) (v := .slice none 0 0) (cells := []) (Below.refl _ _) (World.ownsRow_nil _ _ _ _)
    exact this
theorem Lab.lists_nil {n : Nat} (h : Lab w0 wr (Thing.row Es 1 v n (List.replicate n (.slice none 0 0)) :: ts)) : Lab w0 wr (Thing.lists k E Es v (List.replicate n (.slice none 0 0)) (List.replicate n []) :: ts) := by
  unfold Thing.lists
  refine Lab.bundle ?_
  have e : (List.range (List.replicate n (Value.slice none 0 0)).length).map (innerT k E (List.replicate n (.slice none 0 0)) (List.replicate n [])) = List.replicate n (Thing.numsK k E (.slice none 0 0) []) := by
    rw [List.length_replicate]
    refine List.ext_getElem? fun i => ?_
    rw [List.getElem?_map, List.getElem?_replicate]
    by_cases hi : i < n
    · rw [List.getElem?_range hi, if_pos hi]
      unfold innerT
      simp [List.getD_eq_getElem?_getD, List.getElem?_replicate, hi]
    · rw [if_neg hi, List.getElem?_eq_none (by simp; omega)]
      rfl
  rw [e, List.length_replicate]
  exact (Lab.nils h n).perm List.perm_middle
/-- Lists of lists, as what is read. -/
def NumsOf (w : World) (k : IntKind) (v : Value) (xss : List (List Int)) : Prop :=
  ∃ a n cap, v = .slice a n cap ∧ xss.length = n ∧ ∀ i, i < n → ∃ b off xs va, a = some ⟨b, off, none⟩ ∧ xss[i]? = some xs ∧ w.cell? ⟨b, off + i, none⟩ = some va ∧ SliceOf w k va xs
theorem row_shape {w : World} {B E size n : Nat} {v : Value} {cells : List Value} (h : w.ownsRow B E size v n cells) : ∃ a cap, v = .slice a n cap ∧ (0 < n → ∃ g, a = some ⟨g, 0, none⟩) := by
  rcases h.2 with ⟨rfl, h0⟩ | ⟨g, cap, cur, rfl, -⟩
  · subst h0
    exact ⟨_, _, rfl, fun h => by omega⟩
  · exact ⟨_, _, rfl, fun _ => ⟨g, rfl⟩⟩
theorem Lab.lists_read (hl : xss.length = vs.length) (h : Lab w0 wr (Thing.lists k E Es v vs xss :: ts)) : NumsOf wr k v xss := by
  have hr := h.lists_row
  obtain ⟨a, cap, rfl, ha⟩ := row_shape hr
  refine ⟨a, _, cap, rfl, hl, fun i hi => ?_⟩
  obtain ⟨g, rfl⟩ := ha (by omega)
  have hin := (h.lists_inner hi).slice
  have hcell := World.ownsRow.cellAt hr i (by omega)
  rw [List.getElem?_eq_getElem hi] at hcell
  refine ⟨g, 0, xss.getD i [], vs.getD i undef, rfl, ?_, ?_, hin⟩
  · rw [List.getD_eq_getElem?_getD, List.getElem?_eq_getElem (by omega)]; rfl
  · rw [Nat.zero_add, hcell, List.getD_eq_getElem?_getD, List.getElem?_eq_getElem hi]; rfl
theorem Lab.lists_none (h : Lab w0 wr ts) : Lab w0 wr (Thing.lists k E Es (.slice none 0 0) [] [] :: ts) :=
  Lab.lists_nil (n := 0) (h.new_row (E := Es) (size := 1) (n := 0) (v := .slice none 0 0) (cells := []) (Below.refl _ _) (World.ownsRow_nil _ _ _ _))
end
end Go.Proofs.YteamnchoddegpaaGreatDoor
namespace Go.Proofs.YteamnchoddegpaaGreatDoor
open Go
section
variable {P : Program} {ops : Array Oper} {Q : Exit → Act → World → Prop} {md : Region.Mode} {S : Array Bool → World → Prop}
/-- Whatever comes up next, and what is known of the world behind it. -/
def wpAnyT (P : Program) (md : Region.Mode) (ops : Array Oper) (Q : Exit → Act → World → Prop) (S : Array Bool → World → Prop) : Nat → Array Bool → Act → World → Prop
  | 0, listed, a, w => Region.ready md ops listed = [] ∧ Q .normal a w
  | fuel + 1, listed, a, w =>
    (Region.ready md ops listed = [] → Q .normal a w) ∧
    ∀ i ∈ Region.ready md ops listed, wpOp P ops Q i (fun a' w' => S (listed.setIfInBounds i true) w' ∧ wpAnyT P md ops Q S fuel (listed.setIfInBounds i true) a' w') a w
theorem wpAny_of_T : ∀ (fuel : Nat) (listed : Array Bool) (a : Act) (w : World), wpAnyT P md ops Q S fuel listed a w → wpAny P md ops Q fuel listed a w
  | 0, _, _, _, h => h
  | fuel + 1, _, _, _, h => ⟨h.1, fun i hi => wpOp_mono (fun a' w' h' => wpAny_of_T fuel _ a' w' h'.2) (h.2 i hi)⟩
theorem wpAnyT_first {T : World → Prop} {i : Nat} {oi : Oper} {v : Value} (hi : ops[i]? = some oi) (hsel : ∀ (j : Nat) (o : Oper) cs b, ops[j]? = some o → o.op ≠ .select cs b)
    (hQ : ∀ c a w, Q (.panic c) (a.put oi.dst v) w → Q (.panic c) a w)
    (hT : ∀ listed w, S listed w → i ∈ Region.ready md ops listed → T w)
    (hfwd : ∀ listed w, S listed w → i ∈ Region.ready md ops listed → S (listed.setIfInBounds i true) w)
    (hback : ∀ listed j w w', S listed w → i ∈ Region.ready md ops listed → j ∈ Region.ready md ops listed → j ≠ i → S ((listed.setIfInBounds j true).setIfInBounds i true) w' → S (listed.setIfInBounds j true) w') :
    ∀ (fuel : Nat) (listed : Array Bool) (a : Act) (w : World),
      (∀ j oj, ops[j]? = some oj → j ≠ i → listed.getD j true = false → (∀ e ∈ oj.after, Region.binds md e = true → e.on ≠ i) → oi.apart ops oj = true) →
      i ∈ Region.ready md ops listed → YieldsIf P ops T oi v a → S listed w →
      wpAnyT P md ops Q S fuel (listed.setIfInBounds i true) (a.put oi.dst v) w → wpAnyT P md ops Q S (fuel + 1) listed a w := by
  intro fuel
  induction fuel with
  | zero =>
    intro listed a w _ hr hy hS H
    refine ⟨fun h => absurd (h ▸ hr) (by simp), fun j hj => ?_⟩
    by_cases hji : j = i
    · subst hji
      exact hy.wpOp hi (hT _ _ hS hr) ⟨hfwd _ _ hS hr, H⟩
    · exact absurd (H.1 ▸ ready_mono hj hji) (by simp)
  | succ fuel ih =>
    intro listed a w hfree hr hy hS H
    refine ⟨fun h => absurd (h ▸ hr) (by simp), fun j hj => ?_⟩
    by_cases hji : j = i
    · subst hji
      exact hy.wpOp hi (hT _ _ hS hr) ⟨hfwd _ _ hS hr, H⟩
    · have h1 := H.2 j (ready_mono hj hji)
      obtain ⟨hjun, oj, hoj, hall⟩ := mem_ready.1 hj
      have hiun := (mem_ready.1 hr).1
      have hnot : ∀ e ∈ oj.after, Region.binds md e = true → e.on ≠ i := fun e he hb heq => by
        have h2 := hall e he hb
        rw [heq] at h2
        rw [Array.getD_eq_getD_getElem?] at h2 hiun
        cases hl : listed[i]? with
        | none => rw [hl] at h2; exact absurd h2 (by simp)
        | some b => rw [hl] at h2 hiun; simp only [Option.getD_some] at h2 hiun; rw [h2] at hiun; cases hiun
      have h2 := wpOp_putIf hoj (hfree j oj hoj hji hjun hnot) (fun cs b => hsel i oi cs b hi) (fun cs b => hsel j oj cs b hoj) hQ hy h1
      refine wpOp_mono (fun a' w' h3 => ?_) h2
      obtain ⟨hy', hS', H'⟩ := h3
      rw [Array.setIfInBounds_comm _ _ (Ne.symm hji)] at hS' H'
      have hS'' := hback _ _ _ _ hS hr hj hji hS'
      refine ⟨hS'', ih _ a' w' (fun k ok hk hki hun hno => hfree k ok hk hki ?_ hno) (ready_mono hr (Ne.symm hji)) hy' hS'' H'⟩
      by_cases hjk : j = k
      · subst hjk; exact hjun
      · rwa [getD_set_ne true hjk] at hun
theorem wpAnyT_all {rs : List Nat} {fuel : Nat} {listed : Array Bool} {a : Act} {w : World} (hr : Region.ready md ops listed = rs) (hne : rs ≠ [])
    (h : ∀ i ∈ rs, wpOp P ops Q i (fun a' w' => S (listed.setIfInBounds i true) w' ∧ wpAnyT P md ops Q S fuel (listed.setIfInBounds i true) a' w') a w) : wpAnyT P md ops Q S (fuel + 1) listed a w :=
  ⟨fun h0 => absurd (hr.symm.trans h0) hne, fun i hi => h i (hr ▸ hi)⟩
theorem getD_set_true {listed : Array Bool} {i x : Nat} (h : listed.getD x true = true ∨ x = i) : (listed.setIfInBounds i true).getD x true = true := by
  by_cases e : i = x
  · subst e
    rw [Array.getD_eq_getD_getElem?, Array.getElem?_setIfInBounds]
    simp only [if_true]
    split <;> rfl
  · rw [getD_set_ne true e]
    exact h.resolve_right (Ne.symm e)
theorem getD_of_set {listed : Array Bool} {i x : Nat} (h : (listed.setIfInBounds i true).getD x true = true) (hne : x ≠ i) : listed.getD x true = true := by
  rwa [getD_set_ne true (Ne.symm hne)] at h
theorem wpAnyT_one {i : Nat} {o : Oper} {fuel : Nat} {listed : Array Bool} {a : Act} {w : World} (hr : Region.ready md ops listed = [i]) (ho : ops[i]? = some o)
    (h : ∀ K' : Act → World → Prop, Shut (∀ a w, S (listed.setIfInBounds i true) w → (S (listed.setIfInBounds i true) w → wpAnyT P md ops Q S fuel (listed.setIfInBounds i true) a w) → K' a w) → if Region.wanted o (yielded ops a.tmps) = true then Oper.wp P o a w K' Q else K' (a.put o.dst undef) w) :
    wpAnyT P md ops Q S (fuel + 1) listed a w :=
  wpAnyT_all hr (by simp) fun j hj => by
    obtain rfl := List.mem_singleton.1 hj
    exact wpOp_step ho (fun K' hK => h K' (fun a w hS hW => hK a w ⟨hS, hW hS⟩))
theorem wpAnyT_done {listed : Array Bool} {a : Act} {w : World} (hr : Region.ready md ops listed = []) (h : Q .normal a w) : ∀ fuel, wpAnyT P md ops Q S fuel listed a w
  | 0 => ⟨hr, h⟩
  | _ + 1 => ⟨fun _ => h, by rw [hr]; simp⟩
end
end Go.Proofs.YteamnchoddegpaaGreatDoor
namespace Go.Proofs.YteamnchoddegpaaGreatDoor
open Go
/-- A region, by its number, wherever it stands. -/
def regionBy (id : Nat) : Code → Option Code
  | .region i ops d => if i = id then some (.region i ops d) else none
  | .seq a b => (regionBy id a).or (regionBy id b)
  | .cond _ a b => (regionBy id a).or (regionBy id b)
  | .block _ a => regionBy id a
  | .loop a => regionBy id a
  | _ => none
section
variable {P : Program} {ops : Array Oper} {Q : Exit → Act → World → Prop} {md : Region.Mode} {S : Array Bool → World → Prop}
/-- Until the operation st has come up the world is as T says; by then the loads have come up. -/
def SUpto (T : World → Prop) (st : Nat) (ls : List Nat) (listed : Array Bool) (w : World) : Prop :=
  (listed.getD st true = true ∧ ∀ l ∈ ls, listed.getD l true = true) ∨ (listed.getD st true = false ∧ T w)
theorem wpAnyT_takeU {T : World → Prop} {st : Nat} {ls : List Nat} {i : Nat} {oi : Oper} {v : Value} {fuel : Nat} {listed : Array Bool} {a : Act} {w : World} (hi : ops[i]? = some oi) (hs : Region.noSelect ops = true) (hf : Region.free md ops listed i = true) (hr : (Region.ready md ops listed).contains i = true)
    (hst : i ≠ st) (hk : i ∈ ls → Region.waitsFor md ops st i = true) (hQ : ∀ c a w, Q (.panic c) (a.put oi.dst v) w → Q (.panic c) a w) (hy : YieldsIf P ops (fun w => i ∈ ls → T w) oi v a) (hS : SUpto T st ls listed w)
    (h : SUpto T st ls (listed.setIfInBounds i true) w → wpAnyT P md ops Q (SUpto T st ls) fuel (listed.setIfInBounds i true) (a.put oi.dst v) w) : wpAnyT P md ops Q (SUpto T st ls) (fuel + 1) listed a w := by
  have fwd : ∀ listed w, SUpto T st ls listed w → SUpto T st ls (listed.setIfInBounds i true) w := by
    rintro listed w (⟨h1, h2⟩ | ⟨h1, h2⟩)
    · exact .inl ⟨getD_set_true (.inl h1), fun l hl => getD_set_true (.inl (h2 l hl))⟩
    · exact .inr ⟨by rw [getD_set_ne true hst]; exact h1, h2⟩
  refine wpAnyT_first hi (Region.noSelect_spec hs) hQ ?_ (fun listed w hS _ => fwd listed w hS) ?_ fuel listed a w (Region.free_spec hi hf) (by simpa using hr) hy hS (h (fwd _ _ hS))
  · rintro listed w (⟨h1, h2⟩ | ⟨h1, h2⟩) hr' hil
    · have := (mem_ready.1 hr').1
      rw [h2 i hil] at this
      cases this
    · exact h2
  · rintro listed j w w' hS hr' hj hji hS'
    have hiun := (mem_ready.1 hr').1
    rcases hS with ⟨h1, h2⟩ | ⟨h1, h2⟩
    · exact .inl ⟨getD_set_true (.inl h1), fun l hl => getD_set_true (.inl (h2 l hl))⟩
    · by_cases hjs : j = st
      · subst hjs
        by_cases hil : i ∈ ls
        · obtain ⟨oj, hoj, e, he, hb, heq⟩ := Region.waitsFor_spec (hk hil)
          obtain ⟨_, oj', hoj', hall⟩ := mem_ready.1 hj
          rw [hoj] at hoj'
          cases hoj'
          have h3 := hall e he hb
          rw [heq] at h3
          rw [Array.getD_eq_getD_getElem?] at h3 hiun
          cases hl : listed[i]? with
          | none => rw [hl] at h3; exact absurd h3 (by simp)
          | some b => rw [hl] at h3 hiun; simp only [Option.getD_some] at h3 hiun; rw [h3] at hiun; cases hiun
        · rcases hS' with ⟨_, k2⟩ | ⟨k1, _⟩
          · exact .inl ⟨getD_set_true (.inr rfl), fun l hl => getD_of_set (k2 l hl) (fun e => hil (e ▸ hl))⟩
          · rw [getD_set_true (.inl (getD_set_true (.inr rfl)))] at k1
            cases k1
      · have hu : ((listed.setIfInBounds j true).setIfInBounds i true).getD st true = false := by rw [getD_set_ne true hst, getD_set_ne true hjs]; exact h1
        rcases hS' with ⟨k1, _⟩ | ⟨_, k2⟩
        · rw [hu] at k1; cases k1
        · exact .inr ⟨by rw [getD_set_ne true hjs]; exact h1, k2⟩
theorem wpAnyT_two {i j : Nat} {o o' : Oper} {fuel : Nat} {listed : Array Bool} {a : Act} {w : World} (hr : Region.ready md ops listed = [i, j]) (ho : ops[i]? = some o) (ho' : ops[j]? = some o')
    (h : ∀ K' : Act → World → Prop, Shut (∀ a w, S (listed.setIfInBounds i true) w → (S (listed.setIfInBounds i true) w → wpAnyT P md ops Q S fuel (listed.setIfInBounds i true) a w) → K' a w) → if Region.wanted o (yielded ops a.tmps) = true then Oper.wp P o a w K' Q else K' (a.put o.dst undef) w)
    (h' : ∀ K' : Act → World → Prop, Shut (∀ a w, S (listed.setIfInBounds j true) w → (S (listed.setIfInBounds j true) w → wpAnyT P md ops Q S fuel (listed.setIfInBounds j true) a w) → K' a w) → if Region.wanted o' (yielded ops a.tmps) = true then Oper.wp P o' a w K' Q else K' (a.put o'.dst undef) w) :
    wpAnyT P md ops Q S (fuel + 1) listed a w :=
  wpAnyT_all hr (by simp) fun k hk => by
    simp only [List.mem_cons, List.not_mem_nil, or_false] at hk
    rcases hk with rfl | rfl
    · exact wpOp_step ho (fun K' hK => h K' (fun a w hS hW => hK a w ⟨hS, hW hS⟩))
    · exact wpOp_step ho' (fun K' hK => h' K' (fun a w hS hW => hK a w ⟨hS, hW hS⟩))
end
end Go.Proofs.YteamnchoddegpaaGreatDoor
namespace Go.Proofs.YteamnchoddegpaaGreatDoor
open Go.RowKit Go.Maps
set_option maxHeartbeats 3200000
set_option maxRecDepth 100000 in
theorem input_any (w : World) (n c k : Nat) (h2 : n ≤ 32) (hc : c < n) (hk : k < 65536) :
    Calls Tryz.prog 47 #[.int .i64 n, .int .i64 c, .int .i64 k] w fun e w' => e = .returned (.tuple #[.int .i64 (2 * (k * n + c) : Nat), .int .i64 0]) ∧ w = w' := by
  obtain ⟨m, hm⟩ : ∃ m, k * n = m := ⟨_, rfl⟩
  have hmb : m ≤ 65536 * 32 := by rw [← hm]; exact Nat.mul_le_mul (by omega) h2
  have e1 : (k : Int) * (n : Int) = (m : Int) := by rw [← hm]; simp
  have e2 : IntKind.i64.wrap (m : Int) = (m : Int) := by simp [IntKind.wrap, IntKind.bits, IntKind.signed]; omega
  have e3 : IntKind.i64.wrap ((m : Int) + (c : Int)) = (m : Int) + (c : Int) := by simp [IntKind.wrap, IntKind.bits, IntKind.signed]; omega
  have e4 : IntKind.i64.wrap (2 * ((m : Int) + (c : Int))) = 2 * ((m : Int) + (c : Int)) := by simp [IntKind.wrap, IntKind.bits, IntKind.signed]; omega
  have q1 : ¬ (n : Int) < 1 := by omega
  have q2 : ¬ (32 : Int) < (n : Int) := by omega
  have q3 : ¬ (n : Int) ≤ (c : Int) := by omega
  have q4 : ¬ (65536 : Int) ≤ (k : Int) := by omega
  have q5 : ¬ (c : Int) < 0 := by omega
  have q6 : ¬ (k : Int) < 0 := by omega
  rw [hm, show ((2 * (m + c) : Nat) : Int) = 2 * ((m : Int) + (c : Int)) by omega]
  clear hm hmb h2 hc hk
  go_enter Tryz.func47, Tryz.ntmps47
  go_wp2
  go_ret2
  exact ⟨rfl, rfl⟩
set_option maxRecDepth 100000 in
theorem value1_any {w : World} {v : Value} {vals : List Int} {p : Nat} (hs : SliceOf w .u64 v vals) (hp : w.cell? ⟨p, 0, none⟩ = some v) (n : Nat) :
    Calls Tryz.prog 45 #[.int .i64 n, .pointer (some ⟨p, 0, none⟩)] w fun e w' => e = .returned (.int .u64 (valAt vals n)) ∧ w = w' := by
  obtain ⟨ao, no, co, rfl, hol, -⟩ := hs.parts
  have HS := Lib.hid hs
  clear hs
  by_cases h : n < no
  · obtain ⟨b, off, x, rfl, hc, hx⟩ := HS.out.parts' h
    have hv : valAt vals n = x := by unfold valAt; rw [List.getD_eq_getElem?_getD, hx]; rfl
    rw [hv]
    have q2 : (n : Int) < (no : Int) := by omega
    have q3 : (0 : Int) ≤ (n : Int) := by omega
    clear hx hv h HS hol
    go_enter Tryz.func45, Tryz.ntmps45
    go_wp2
    go_ret
    exact ⟨rfl, rfl⟩
  · have hv : valAt vals n = 0 := by unfold valAt; rw [List.getD_eq_getElem?_getD, List.getElem?_eq_none (by omega)]; rfl
    rw [hv]
    have q1 : ¬ (n : Int) < (no : Int) := by omega
    clear hv h HS hol
    go_enter Tryz.func45, Tryz.ntmps45
    go_wp2
    go_ret
    exact ⟨rfl, rfl⟩
end Go.Proofs.YteamnchoddegpaaGreatDoor
namespace Go.Proofs.YteamnchoddegpaaGreatDoor
open Go.RowKit Go.Maps
set_option maxHeartbeats 3200000
noncomputable def splitRegion (id : Nat) : Code := (Tryz.f46.body.bind (regionBy id)).getD .skip
/-- What the closure holds by reference and does not write. -/
def splK (p5 p6 p7 p8 p9 p14 lb : Nat) (level n : Int) (chv vv : Value) : Thing := Thing.bundle [Thing.box p5 28 #[.pointer (some ⟨lb, 0, none⟩)], Thing.box p6 3 #[.int .i64 level], Thing.box p7 24 #[chv], Thing.box p8 3 #[.int .i64 n], Thing.box p9 25 #[vv], Thing.box p14 94 #[.func (.func 45) #[] #[.pointer (some ⟨p9, 0, none⟩)]]]
structure SplC (p5 p6 p7 p8 p9 p14 lb : Nat) (level n : Int) (chv vv : Value) (w : World) : Prop where
  c5 : w.cell? ⟨p5, 0, none⟩ = some (.pointer (some ⟨lb, 0, none⟩))
  c6 : w.cell? ⟨p6, 0, none⟩ = some (.int .i64 level)
  c7 : w.cell? ⟨p7, 0, none⟩ = some chv
  c8 : w.cell? ⟨p8, 0, none⟩ = some (.int .i64 n)
  c9 : w.cell? ⟨p9, 0, none⟩ = some vv
  c14 : w.cell? ⟨p14, 0, none⟩ = some (.func (.func 45) #[] #[.pointer (some ⟨p9, 0, none⟩)])
theorem splK_cells {p5 p6 p7 p8 p9 p14 lb : Nat} {level n : Int} {chv vv : Value} {w : World} (h : (splK p5 p6 p7 p8 p9 p14 lb level n chv vv).holds w) : SplC p5 p6 p7 p8 p9 p14 lb level n chv vv w := by
  have g : ∀ b T x, Thing.box b T #[x] ∈ [Thing.box p5 28 #[.pointer (some ⟨lb, 0, none⟩)], Thing.box p6 3 #[.int .i64 level], Thing.box p7 24 #[chv], Thing.box p8 3 #[.int .i64 n], Thing.box p9 25 #[vv], Thing.box p14 94 #[.func (.func 45) #[] #[.pointer (some ⟨p9, 0, none⟩)]]] → w.cell? ⟨b, 0, none⟩ = some x := fun b T x hm => by
    rw [cell_of_row w b 0 _ _ _ (h.1 _ hm)]; rfl
  exact ⟨g p5 28 _ (by simp), g p6 3 _ (by simp), g p7 24 _ (by simp), g p8 3 _ (by simp), g p9 25 _ (by simp), g p14 94 _ (by simp)⟩
section
variable {w0 wq wr w' : World} {ts : List Thing}
theorem Lab.rotG7 {s t u v x y z : Thing} (h : Lab w0 wr (s :: t :: u :: v :: x :: y :: z :: ts)) : Lab w0 wr (z :: s :: t :: u :: v :: x :: y :: ts) := h.perm (List.perm_middle (l₁ := [s, t, u, v, x, y]))
theorem Lab.rotG8 {s t u v x y z a : Thing} (h : Lab w0 wr (s :: t :: u :: v :: x :: y :: z :: a :: ts)) : Lab w0 wr (a :: s :: t :: u :: v :: x :: y :: z :: ts) := h.perm (List.perm_middle (l₁ := [s, t, u, v, x, y, z]))
theorem Lab.rotG9 {s t u v x y z a b : Thing} (h : Lab w0 wr (s :: t :: u :: v :: x :: y :: z :: a :: b :: ts)) : Lab w0 wr (b :: s :: t :: u :: v :: x :: y :: z :: a :: ts) := h.perm (List.perm_middle (l₁ := [s, t, u, v, x, y, z, a]))
theorem spl_T {p5 p6 p7 p8 p9 p14 pa pb ga gb na nb ca cb c lb : Nat} {level n : Int} {chv vv sa sb : Value} {vsa vsb : List Value} (ha : vsa[c]? = some sa) (hb : vsb[c]? = some sb) (hca : c < na) (hcb : c < nb)
    (h : Lab wq wr (Thing.box pa 54 #[.slice (some ⟨ga, 0, none⟩) na ca] :: Thing.box pb 54 #[.slice (some ⟨gb, 0, none⟩) nb cb] :: Thing.row 25 1 (.slice (some ⟨ga, 0, none⟩) na ca) na vsa :: Thing.row 25 1 (.slice (some ⟨gb, 0, none⟩) nb cb) nb vsb :: splK p5 p6 p7 p8 p9 p14 lb level n chv vv :: ts)) :
    SplT p5 p6 p7 p14 p9 pa pb ga gb na nb ca cb c lb level chv sa sb wr := by
  have k := splK_cells h.fifth
  refine ⟨by rw [cell_of_row _ pa 0 _ _ _ h.box1]; rfl, by rw [cell_of_row _ pb 0 _ _ _ h.box2]; rfl, ?_, ?_, k.c14, k.c5, k.c6, k.c7⟩
  · rw [World.ownsRow.cellAt h.third c (by omega), ha]
  · rw [World.ownsRow.cellAt h.fourth c (by omega), hb]
set_option maxRecDepth 100000 in
theorem split_region7 {u8 u10 u11 u12 u13 u14 u15 u16 u17 u18 u19 u20 u21 u22 u23 u24 u25 u26 u27 u28 u29 u30 u31 u32 u33 u34 u35 u36 u37 u38 u39 u40 u41 u42 u43 u44 u45 u46 u47 u48 u49 u50 u51 u52 u53 u54 u55 u56 u57 : Value} {Q : Exit → Act → World → Prop} {z1 : Value} {p5 p6 p7 p8 p9 p14 pa pb ga gb na nb ca cb c lb N m q ma mb cca ccb : Nat} {level n : Int} {chv vv : Value} {R : Rel} {ls vals : List Int} {aa ab : Option Addr} {vsa vsb ca0 cb0 : List Value} {xa xb : Thing}
    (hv : SliceOf wq .u64 vv vals) (hlat : LatIs wq lb N R) (hch : SliceOf wq .i64 chv ls) (hl1 : 1 ≤ ls.length) (hl2 : ls.length ≤ 32) (hm : m < 999999999) (hq : ofR N R level ls (m : Int) = (q : Int)) (hma : ma ≤ 999999999) (hmb : mb ≤ 999999999)
    (ha : vsa[c]? = some (.slice aa ma cca)) (hb : vsb[c]? = some (.slice ab mb ccb)) (hca : c < na) (hcb : c < nb)
    (h : Lab wq wr (Thing.row 43 1 (.slice aa ma cca) ma ca0 :: Thing.row 25 1 (.slice (some ⟨ga, 0, none⟩) na ca) na vsa :: xa :: Thing.row 43 1 (.slice ab mb ccb) mb cb0 :: Thing.row 25 1 (.slice (some ⟨gb, 0, none⟩) nb cb) nb vsb :: xb :: Thing.box pa 54 #[.slice (some ⟨ga, 0, none⟩) na ca] :: Thing.box pb 54 #[.slice (some ⟨gb, 0, none⟩) nb cb] :: splK p5 p6 p7 p8 p9 p14 lb level n chv vv :: ts))
    (hQ : ∀ aa' cca' ab' ccb' v28 v29 v30 v31 v32 v33 v34 v35 v36 v37 v38 v39 v40 v41 v42 v43 v44 v45 v46 v47 v48 v49 v50 v51 v52 v53 v54 v55 w3, Lab wq w3 (Thing.row 43 1 (.slice aa' (ma + 1) cca') (ma + 1) (ca0 ++ [.int .u64 (valAt vals m)]) :: Thing.row 25 1 (.slice (some ⟨ga, 0, none⟩) na ca) na (vsa.set c (.slice aa' (ma + 1) cca')) :: xa :: Thing.row 43 1 (.slice ab' (mb + 1) ccb') (mb + 1) (cb0 ++ [.int .u64 (valAt vals q)]) :: Thing.row 25 1 (.slice (some ⟨gb, 0, none⟩) nb cb) nb (vsb.set c (.slice ab' (mb + 1) ccb')) :: xb :: Thing.box pa 54 #[.slice (some ⟨ga, 0, none⟩) na ca] :: Thing.box pb 54 #[.slice (some ⟨gb, 0, none⟩) nb cb] :: splK p5 p6 p7 p8 p9 p14 lb level n chv vv :: ts) → Q .normal ⟨(List.toArray (.pointer (some ⟨p7, 0, none⟩) :: z1 :: .pointer (some ⟨pa, 0, none⟩) :: .pointer (some ⟨p14, 0, none⟩) :: .pointer (some ⟨pb, 0, none⟩) :: .pointer (some ⟨p5, 0, none⟩) :: .pointer (some ⟨p6, 0, none⟩) :: .int .i64 c :: u8 :: .int .i64 m :: u10 :: u11 :: u12 :: u13 :: u14 :: u15 :: u16 :: u17 :: u18 :: u19 :: u20 :: u21 :: u22 :: u23 :: u24 :: u25 :: u26 :: u27 :: v28 :: v29 :: v30 :: v31 :: v32 :: v33 :: v34 :: v35 :: v36 :: v37 :: v38 :: v39 :: v40 :: v41 :: v42 :: v43 :: v44 :: v45 :: v46 :: v47 :: v48 :: v49 :: v50 :: v51 :: v52 :: v53 :: v54 :: v55 :: u56 :: u57 :: [])), []⟩ w3) :
    Code.wp Tryz.prog (splitRegion 7) Q ⟨(List.toArray (.pointer (some ⟨p7, 0, none⟩) :: z1 :: .pointer (some ⟨pa, 0, none⟩) :: .pointer (some ⟨p14, 0, none⟩) :: .pointer (some ⟨pb, 0, none⟩) :: .pointer (some ⟨p5, 0, none⟩) :: .pointer (some ⟨p6, 0, none⟩) :: .int .i64 c :: u8 :: .int .i64 m :: u10 :: u11 :: u12 :: u13 :: u14 :: u15 :: u16 :: u17 :: u18 :: u19 :: u20 :: u21 :: u22 :: u23 :: u24 :: u25 :: u26 :: u27 :: u28 :: u29 :: u30 :: u31 :: u32 :: u33 :: u34 :: u35 :: u36 :: u37 :: u38 :: u39 :: u40 :: u41 :: u42 :: u43 :: u44 :: u45 :: u46 :: u47 :: u48 :: u49 :: u50 :: u51 :: u52 :: u53 :: u54 :: u55 :: u56 :: u57 :: [])), []⟩ wr := by
  have c0 : (0 : Int) ≤ (c : Int) := by omega
  have c1 : (c : Int) < (na : Int) := by omega
  have c2 : (c : Int) < (nb : Int) := by omega
  have HL := Lib.hid h.drew1; have HQ := Lib.hid hQ; have HV := Lib.hid (And.intro hv (And.intro hlat hch)); have HA := Lib.hid (And.intro (And.intro ha hca) (And.intro hb hcb)); have HLS := Lib.hid (And.intro hl1 hl2); have HM := Lib.hid (And.intro hm (And.intro hma hmb)); have HOF := Lib.hid hq
  clear h hQ hv hlat hch hl1 hl2 ha hb hm hma hmb hca hcb hq
  have HT : Hid (SplT p5 p6 p7 p14 p9 pa pb ga gb na nb ca cb c lb level chv (.slice aa ma cca) (.slice ab mb ccb) wr.drew) := Lib.hid (spl_T HA.out.1.1 HA.out.2.1 HA.out.1.2 HA.out.2.2 HL.out.rotG9.rot6.rot4.rotG9.rotG9)
  conv => arg 2; whnf
  refine wp_region_noPanic ?_
  refine wp_region_any (by kernel_rfl) (wpAny_of_T (S := SUpto (SplT p5 p6 p7 p14 p9 pa pb ga gb na nb ca cb c lb level chv (.slice aa ma cca) (.slice ab mb ccb)) 27 [0, 2, 4, 7, 8, 13, 16, 17, 18, 19, 20]) _ _ _ _ ?_)
  have hS : SUpto (SplT p5 p6 p7 p14 p9 pa pb ga gb na nb ca cb c lb level chv (.slice aa ma cca) (.slice ab mb ccb)) 27 [0, 2, 4, 7, 8, 13, 16, 17, 18, 19, 20] (Array.replicate 30 false) wr.drew := .inr ⟨rfl, HT.out⟩
  refine wpAnyT_takeU (i := 0) (oi := { dst := some 28, op := Go.Op.load 54 (Go.Operand.tmp 2), type := 54, pos := "twin.go:105", after := #[], guard := none }) (v := ?v0) rfl (by kernel_rfl) (by kernel_rfl) (by kernel_rfl) (by decide) (fun _ => by kernel_rfl) (fun _ _ _ h => h) (Or.inl ⟨by rfl, ?hy0⟩) hS (fun hS => ?rest0)
  case hy0 =>
    intro w hSw
    obtain ⟨f0, f1, f2, f3, f4, f5, f6, f7⟩ := hSw (by decide)
    clear hSw
    go_simp
    with_reducible rfl
  try simp only [Act.put, List.setIfInBounds_toArray, List.set_cons_zero, List.set_cons_succ]
  refine wpAnyT_takeU (i := 1) (oi := { dst := some 29, op := Go.Op.move (Go.Operand.tmp 7), type := 3, pos := "twin.go:105", after := #[], guard := none }) (v := ?v1) rfl (by kernel_rfl) (by kernel_rfl) (by kernel_rfl) (by decide) (fun h => absurd h (by decide)) (fun _ _ _ h => h) (Or.inl ⟨by rfl, ?hy1⟩) hS (fun hS => ?rest1)
  case hy1 =>
    intro w hSw
    clear hSw
    go_simp
    with_reducible rfl
  try simp only [Act.put, List.setIfInBounds_toArray, List.set_cons_zero, List.set_cons_succ]
  refine wpAnyT_takeU (i := 2) (oi := { dst := some 30, op := Go.Op.load 54 (Go.Operand.tmp 4), type := 54, pos := "twin.go:105", after := #[], guard := none }) (v := ?v2) rfl (by kernel_rfl) (by kernel_rfl) (by kernel_rfl) (by decide) (fun _ => by kernel_rfl) (fun _ _ _ h => h) (Or.inl ⟨by rfl, ?hy2⟩) hS (fun hS => ?rest2)
  case hy2 =>
    intro w hSw
    obtain ⟨f0, f1, f2, f3, f4, f5, f6, f7⟩ := hSw (by decide)
    clear hSw
    go_simp
    with_reducible rfl
  try simp only [Act.put, List.setIfInBounds_toArray, List.set_cons_zero, List.set_cons_succ]
  refine wpAnyT_takeU (i := 3) (oi := { dst := some 31, op := Go.Op.move (Go.Operand.tmp 7), type := 3, pos := "twin.go:105", after := #[{ on := 27, ground := Go.Ground.gcOnly Go.Departure.lateStores }], guard := none }) (v := ?v3) rfl (by kernel_rfl) (by kernel_rfl) (by kernel_rfl) (by decide) (fun h => absurd h (by decide)) (fun _ _ _ h => h) (Or.inl ⟨by rfl, ?hy3⟩) hS (fun hS => ?rest3)
  case hy3 =>
    intro w hSw
    clear hSw
    go_simp
    with_reducible rfl
  try simp only [Act.put, List.setIfInBounds_toArray, List.set_cons_zero, List.set_cons_succ]
  refine wpAnyT_takeU (i := 4) (oi := { dst := some 32, op := Go.Op.load 54 (Go.Operand.tmp 2), type := 54, pos := "twin.go:105", after := #[], guard := none }) (v := ?v4) rfl (by kernel_rfl) (by kernel_rfl) (by kernel_rfl) (by decide) (fun _ => by kernel_rfl) (fun _ _ _ h => h) (Or.inl ⟨by rfl, ?hy4⟩) hS (fun hS => ?rest4)
  case hy4 =>
    intro w hSw
    obtain ⟨f0, f1, f2, f3, f4, f5, f6, f7⟩ := hSw (by decide)
    clear hSw
    go_simp
    with_reducible rfl
  try simp only [Act.put, List.setIfInBounds_toArray, List.set_cons_zero, List.set_cons_succ]
  refine wpAnyT_takeU (i := 5) (oi := { dst := some 33, op := Go.Op.move (Go.Operand.tmp 7), type := 3, pos := "twin.go:105", after := #[], guard := none }) (v := ?v5) rfl (by kernel_rfl) (by kernel_rfl) (by kernel_rfl) (by decide) (fun h => absurd h (by decide)) (fun _ _ _ h => h) (Or.inl ⟨by rfl, ?hy5⟩) hS (fun hS => ?rest5)
  case hy5 =>
    intro w hSw
    clear hSw
    go_simp
    with_reducible rfl
  try simp only [Act.put, List.setIfInBounds_toArray, List.set_cons_zero, List.set_cons_succ]
  refine wpAnyT_takeU (i := 6) (oi := { dst := some 34, op := Go.Op.indexAddr 54 (Go.Operand.tmp 32) (Go.Operand.tmp 33), type := 0, pos := "twin.go:105", after := #[{ on := 4, ground := Go.Ground.data }, { on := 5, ground := Go.Ground.data }], guard := none }) (v := ?v6) rfl (by kernel_rfl) (by kernel_rfl) (by kernel_rfl) (by decide) (fun h => absurd h (by decide)) (fun _ _ _ h => h) (Or.inl ⟨by rfl, ?hy6⟩) hS (fun hS => ?rest6)
  case hy6 =>
    intro w hSw
    clear hSw
    go_simp
    with_reducible rfl
  try simp only [Act.put, List.setIfInBounds_toArray, List.set_cons_zero, List.set_cons_succ]
  refine wpAnyT_takeU (i := 7) (oi := { dst := some 35, op := Go.Op.load 25 (Go.Operand.tmp 34), type := 25, pos := "twin.go:105", after := #[{ on := 6, ground := Go.Ground.data }], guard := none }) (v := ?v7) rfl (by kernel_rfl) (by kernel_rfl) (by kernel_rfl) (by decide) (fun _ => by kernel_rfl) (fun _ _ _ h => h) (Or.inl ⟨by rfl, ?hy7⟩) hS (fun hS => ?rest7)
  case hy7 =>
    intro w hSw
    obtain ⟨f0, f1, f2, f3, f4, f5, f6, f7⟩ := hSw (by decide)
    clear hSw
    go_simp
    with_reducible rfl
  try simp only [Act.put, List.setIfInBounds_toArray, List.set_cons_zero, List.set_cons_succ]
  refine wpAnyT_takeU (i := 8) (oi := { dst := some 36, op := Go.Op.load 94 (Go.Operand.tmp 3), type := 94, pos := "twin.go:105", after := #[], guard := none }) (v := ?v8) rfl (by kernel_rfl) (by kernel_rfl) (by kernel_rfl) (by decide) (fun _ => by kernel_rfl) (fun _ _ _ h => h) (Or.inl ⟨by rfl, ?hy8⟩) hS (fun hS => ?rest8)
  case hy8 =>
    intro w hSw
    obtain ⟨f0, f1, f2, f3, f4, f5, f6, f7⟩ := hSw (by decide)
    clear hSw
    go_simp
    with_reducible rfl
  try simp only [Act.put, List.setIfInBounds_toArray, List.set_cons_zero, List.set_cons_succ]
  refine wpAnyT_takeU (i := 9) (oi := { dst := some 37, op := Go.Op.move (Go.Operand.tmp 9), type := 3, pos := "twin.go:105", after := #[], guard := none }) (v := ?v9) rfl (by kernel_rfl) (by kernel_rfl) (by kernel_rfl) (by decide) (fun h => absurd h (by decide)) (fun _ _ _ h => h) (Or.inl ⟨by rfl, ?hy9⟩) hS (fun hS => ?rest9)
  case hy9 =>
    intro w hSw
    clear hSw
    go_simp
    with_reducible rfl
  try simp only [Act.put, List.setIfInBounds_toArray, List.set_cons_zero, List.set_cons_succ]
  refine wpAnyT_takeU (i := 13) (oi := { dst := some 41, op := Go.Op.load 54 (Go.Operand.tmp 4), type := 54, pos := "twin.go:105", after := #[], guard := none }) (v := ?v13) rfl (by kernel_rfl) (by kernel_rfl) (by kernel_rfl) (by decide) (fun _ => by kernel_rfl) (fun _ _ _ h => h) (Or.inl ⟨by rfl, ?hy13⟩) hS (fun hS => ?rest13)
  case hy13 =>
    intro w hSw
    obtain ⟨f0, f1, f2, f3, f4, f5, f6, f7⟩ := hSw (by decide)
    clear hSw
    go_simp
    with_reducible rfl
  try simp only [Act.put, List.setIfInBounds_toArray, List.set_cons_zero, List.set_cons_succ]
  refine wpAnyT_takeU (i := 14) (oi := { dst := some 42, op := Go.Op.move (Go.Operand.tmp 7), type := 3, pos := "twin.go:105", after := #[], guard := none }) (v := ?v14) rfl (by kernel_rfl) (by kernel_rfl) (by kernel_rfl) (by decide) (fun h => absurd h (by decide)) (fun _ _ _ h => h) (Or.inl ⟨by rfl, ?hy14⟩) hS (fun hS => ?rest14)
  case hy14 =>
    intro w hSw
    clear hSw
    go_simp
    with_reducible rfl
  try simp only [Act.put, List.setIfInBounds_toArray, List.set_cons_zero, List.set_cons_succ]
  refine wpAnyT_takeU (i := 15) (oi := { dst := some 43, op := Go.Op.indexAddr 54 (Go.Operand.tmp 41) (Go.Operand.tmp 42), type := 0, pos := "twin.go:105", after := #[{ on := 13, ground := Go.Ground.data }, { on := 14, ground := Go.Ground.data }], guard := none }) (v := ?v15) rfl (by kernel_rfl) (by kernel_rfl) (by kernel_rfl) (by decide) (fun h => absurd h (by decide)) (fun _ _ _ h => h) (Or.inl ⟨by rfl, ?hy15⟩) hS (fun hS => ?rest15)
  case hy15 =>
    intro w hSw
    clear hSw
    go_simp
    with_reducible rfl
  try simp only [Act.put, List.setIfInBounds_toArray, List.set_cons_zero, List.set_cons_succ]
  refine wpAnyT_takeU (i := 16) (oi := { dst := some 44, op := Go.Op.load 25 (Go.Operand.tmp 43), type := 25, pos := "twin.go:105", after := #[{ on := 15, ground := Go.Ground.data }], guard := none }) (v := ?v16) rfl (by kernel_rfl) (by kernel_rfl) (by kernel_rfl) (by decide) (fun _ => by kernel_rfl) (fun _ _ _ h => h) (Or.inl ⟨by rfl, ?hy16⟩) hS (fun hS => ?rest16)
  case hy16 =>
    intro w hSw
    obtain ⟨f0, f1, f2, f3, f4, f5, f6, f7⟩ := hSw (by decide)
    clear hSw
    go_simp
    with_reducible rfl
  try simp only [Act.put, List.setIfInBounds_toArray, List.set_cons_zero, List.set_cons_succ]
  refine wpAnyT_takeU (i := 17) (oi := { dst := some 45, op := Go.Op.load 94 (Go.Operand.tmp 3), type := 94, pos := "twin.go:105", after := #[], guard := none }) (v := ?v17) rfl (by kernel_rfl) (by kernel_rfl) (by kernel_rfl) (by decide) (fun _ => by kernel_rfl) (fun _ _ _ h => h) (Or.inl ⟨by rfl, ?hy17⟩) hS (fun hS => ?rest17)
  case hy17 =>
    intro w hSw
    obtain ⟨f0, f1, f2, f3, f4, f5, f6, f7⟩ := hSw (by decide)
    clear hSw
    go_simp
    with_reducible rfl
  try simp only [Act.put, List.setIfInBounds_toArray, List.set_cons_zero, List.set_cons_succ]
  refine wpAnyT_takeU (i := 18) (oi := { dst := some 46, op := Go.Op.load 28 (Go.Operand.tmp 5), type := 28, pos := "twin.go:105", after := #[], guard := none }) (v := ?v18) rfl (by kernel_rfl) (by kernel_rfl) (by kernel_rfl) (by decide) (fun _ => by kernel_rfl) (fun _ _ _ h => h) (Or.inl ⟨by rfl, ?hy18⟩) hS (fun hS => ?rest18)
  case hy18 =>
    intro w hSw
    obtain ⟨f0, f1, f2, f3, f4, f5, f6, f7⟩ := hSw (by decide)
    clear hSw
    go_simp
    with_reducible rfl
  try simp only [Act.put, List.setIfInBounds_toArray, List.set_cons_zero, List.set_cons_succ]
  refine wpAnyT_takeU (i := 19) (oi := { dst := some 47, op := Go.Op.load 3 (Go.Operand.tmp 6), type := 3, pos := "twin.go:105", after := #[], guard := none }) (v := ?v19) rfl (by kernel_rfl) (by kernel_rfl) (by kernel_rfl) (by decide) (fun _ => by kernel_rfl) (fun _ _ _ h => h) (Or.inl ⟨by rfl, ?hy19⟩) hS (fun hS => ?rest19)
  case hy19 =>
    intro w hSw
    obtain ⟨f0, f1, f2, f3, f4, f5, f6, f7⟩ := hSw (by decide)
    clear hSw
    go_simp
    with_reducible rfl
  try simp only [Act.put, List.setIfInBounds_toArray, List.set_cons_zero, List.set_cons_succ]
  refine wpAnyT_takeU (i := 20) (oi := { dst := some 48, op := Go.Op.load 24 (Go.Operand.tmp 0), type := 24, pos := "twin.go:105", after := #[], guard := none }) (v := ?v20) rfl (by kernel_rfl) (by kernel_rfl) (by kernel_rfl) (by decide) (fun _ => by kernel_rfl) (fun _ _ _ h => h) (Or.inl ⟨by rfl, ?hy20⟩) hS (fun hS => ?rest20)
  case hy20 =>
    intro w hSw
    obtain ⟨f0, f1, f2, f3, f4, f5, f6, f7⟩ := hSw (by decide)
    clear hSw
    go_simp
    with_reducible rfl
  try simp only [Act.put, List.setIfInBounds_toArray, List.set_cons_zero, List.set_cons_succ]
  refine wpAnyT_takeU (i := 21) (oi := { dst := some 49, op := Go.Op.move (Go.Operand.tmp 9), type := 3, pos := "twin.go:105", after := #[], guard := none }) (v := ?v21) rfl (by kernel_rfl) (by kernel_rfl) (by kernel_rfl) (by decide) (fun h => absurd h (by decide)) (fun _ _ _ h => h) (Or.inl ⟨by rfl, ?hy21⟩) hS (fun hS => ?rest21)
  case hy21 =>
    intro w hSw
    clear hSw
    go_simp
    with_reducible rfl
  try simp only [Act.put, List.setIfInBounds_toArray, List.set_cons_zero, List.set_cons_succ]
  change wpAnyT _ _ _ _ _ _ _ _ wr.drew
  clear hS
  refine wpAnyT_one (i := 10) (o := { dst := some 38, op := Go.Op.call { callee := Go.Callee.value (Go.Operand.tmp 36), args := #[Go.Operand.tmp 37], argTypes := #[3] }, type := 43, pos := "twin.go:105", after := #[{ on := 8, ground := Go.Ground.data }, { on := 9, ground := Go.Ground.data }], guard := none }) (by kernel_rfl) rfl (fun K hK => ?_)
  go_simp
  go_at_call 45
  refine (value1_any (w := wr.drew) (HV.out.1.later (HL.out.below.mono (Nat.le_refl _))) (splK_cells (HL.out.holds (splK p5 p6 p7 p8 p9 p14 lb level n chv vv) (by simp))).c9 m).mono ?_
  rintro e w1 ⟨rfl, rfl⟩
  go_simp
  refine hK.out _ _ (.inr ⟨rfl, HT.out⟩) (fun hS => ?_)
  clear hK K hS
  try simp only [Act.put, List.setIfInBounds_toArray, List.set_cons_zero, List.set_cons_succ]
  refine wpAnyT_one (i := 11) (o := { dst := some 39, op := Go.Op.buildSlice 25 1 #[(0, Go.Operand.tmp 38)], type := 25, pos := "twin.go:105", after := #[{ on := 10, ground := Go.Ground.data }], guard := none }) (by kernel_rfl) rfl (fun K hK => ?_)
  go_simp
  refine hK.out _ _ (.inr ⟨rfl, HT.out.later (below_new _ _)⟩) (fun hS => ?_)
  clear hK K hS
  try simp only [Act.put, List.setIfInBounds_toArray, List.set_cons_zero, List.set_cons_succ]
  refine wpAnyT_one (i := 12) (o := { dst := some 40, op := Go.Op.call { callee := Go.Callee.builtin Go.Builtin.append, args := #[Go.Operand.tmp 35, Go.Operand.tmp 39], argTypes := #[25, 25] }, type := 25, pos := "twin.go:105", after := #[{ on := 7, ground := Go.Ground.data }, { on := 11, ground := Go.Ground.data }, { on := 10, ground := Go.Ground.chain }], guard := none }) (by kernel_rfl) rfl (fun K hK => ?_)
  obtain ⟨aa', cca', w2, hr, hl2⟩ := run_append_row 25 25 43 8 (.int .u64 0) HL.out rfl (u := .int .u64 (valAt vals m)) rfl Tryz.underlying25 Tryz.infoU64 rfl (by decide) (by have := HM.out; omega)
  have HL2 := Lib.hid hl2
  have HT2 : Hid (SplT p5 p6 p7 p14 p9 pa pb ga gb na nb ca cb c lb level chv (.slice aa ma cca) (.slice ab mb ccb) w2) := Lib.hid (spl_T HA.out.1.1 HA.out.2.1 HA.out.1.2 HA.out.2.2 HL2.out.rotG9.rot6.rot4.rotG9.rotG9)
  clear hl2
  refine step_append_is (P := Tryz.prog) rfl _ _ 25 rfl _ _ rfl rfl _ _ hr ?_
  refine hK.out _ _ (.inr ⟨rfl, HT2.out⟩) (fun hS => ?_)
  clear hK K hS hr HT HL
  try simp only [Act.put, List.setIfInBounds_toArray, List.set_cons_zero, List.set_cons_succ]
  refine wpAnyT_one (i := 22) (o := { dst := some 50, op := Go.Op.call { callee := Go.Callee.value (Go.Operand.func 37), args := #[Go.Operand.tmp 46, Go.Operand.tmp 47, Go.Operand.tmp 48, Go.Operand.tmp 49], argTypes := #[28, 3, 24, 3] }, type := 3, pos := "twin.go:105", after := #[{ on := 18, ground := Go.Ground.data }, { on := 19, ground := Go.Ground.data }, { on := 20, ground := Go.Ground.data }, { on := 21, ground := Go.Ground.data }, { on := 12, ground := Go.Ground.chain }], guard := none }) (by kernel_rfl) rfl (fun K hK => ?_)
  go_simp
  go_at_call 37
  refine (twof_any (HV.out.2.1.later HL2.out.below) level (HV.out.2.2.later HL2.out.below) HLS.out.1 HLS.out.2 (m : Int) (by omega) (by have := HM.out; omega)).mono ?_
  rintro e w1 ⟨rfl, rfl⟩
  rw [HOF.out]
  go_simp
  refine hK.out _ _ (.inr ⟨rfl, HT2.out⟩) (fun hS => ?_)
  clear hK K hS
  try simp only [Act.put, List.setIfInBounds_toArray, List.set_cons_zero, List.set_cons_succ]
  refine wpAnyT_one (i := 23) (o := { dst := some 51, op := Go.Op.call { callee := Go.Callee.value (Go.Operand.tmp 45), args := #[Go.Operand.tmp 50], argTypes := #[3] }, type := 43, pos := "twin.go:105", after := #[{ on := 17, ground := Go.Ground.data }, { on := 22, ground := Go.Ground.data }, { on := 22, ground := Go.Ground.chain }], guard := none }) (by kernel_rfl) rfl (fun K hK => ?_)
  go_simp
  go_at_call 45
  refine (value1_any (HV.out.1.later HL2.out.below) (splK_cells (HL2.out.holds (splK p5 p6 p7 p8 p9 p14 lb level n chv vv) (by simp))).c9 q).mono ?_
  rintro e w1 ⟨rfl, rfl⟩
  go_simp
  refine hK.out _ _ (.inr ⟨rfl, HT2.out⟩) (fun hS => ?_)
  clear hK K hS
  try simp only [Act.put, List.setIfInBounds_toArray, List.set_cons_zero, List.set_cons_succ]
  refine wpAnyT_one (i := 24) (o := { dst := some 52, op := Go.Op.buildSlice 25 1 #[(0, Go.Operand.tmp 51)], type := 25, pos := "twin.go:105", after := #[{ on := 23, ground := Go.Ground.data }], guard := none }) (by kernel_rfl) rfl (fun K hK => ?_)
  go_simp
  refine hK.out _ _ (.inr ⟨rfl, HT2.out.later (below_new _ _)⟩) (fun hS => ?_)
  clear hK K hS
  try simp only [Act.put, List.setIfInBounds_toArray, List.set_cons_zero, List.set_cons_succ]
  refine wpAnyT_one (i := 25) (o := { dst := some 53, op := Go.Op.call { callee := Go.Callee.builtin Go.Builtin.append, args := #[Go.Operand.tmp 44, Go.Operand.tmp 52], argTypes := #[25, 25] }, type := 25, pos := "twin.go:105", after := #[{ on := 16, ground := Go.Ground.data }, { on := 24, ground := Go.Ground.data }, { on := 23, ground := Go.Ground.chain }], guard := none }) (by kernel_rfl) rfl (fun K hK => ?_)
  obtain ⟨ab', ccb', w4, hr, hl4⟩ := run_append_row 25 25 43 8 (.int .u64 0) HL2.out.rot4 rfl (u := .int .u64 (valAt vals q)) rfl Tryz.underlying25 Tryz.infoU64 rfl (by decide) (by have := HM.out; omega)
  have HL4 := Lib.hid hl4
  have HT4 : Hid (SplT p5 p6 p7 p14 p9 pa pb ga gb na nb ca cb c lb level chv (.slice aa ma cca) (.slice ab mb ccb) w4) := Lib.hid (spl_T HA.out.1.1 HA.out.2.1 HA.out.1.2 HA.out.2.2 HL4.out.rotG9.rot6.rot5.rotG9.rotG9)
  clear hl4
  refine step_append_is (P := Tryz.prog) rfl _ _ 25 rfl _ _ rfl rfl _ _ hr ?_
  refine hK.out _ _ (.inr ⟨rfl, HT4.out⟩) (fun hS => ?_)
  clear hK K hr HT2 HL2
  try simp only [Act.put, List.setIfInBounds_toArray, List.set_cons_zero, List.set_cons_succ]
  refine wpAnyT_takeU (i := 26) (oi := { dst := some 54, op := Go.Op.indexAddr 54 (Go.Operand.tmp 28) (Go.Operand.tmp 29), type := 0, pos := "twin.go:105", after := #[{ on := 0, ground := Go.Ground.data }, { on := 1, ground := Go.Ground.data }, { on := 0, ground := Go.Ground.phase }, { on := 1, ground := Go.Ground.phase }, { on := 2, ground := Go.Ground.phase }, { on := 3, ground := Go.Ground.textOnly Go.Departure.lateStores }, { on := 4, ground := Go.Ground.phase }, { on := 5, ground := Go.Ground.phase }, { on := 6, ground := Go.Ground.phase }, { on := 7, ground := Go.Ground.phase }, { on := 8, ground := Go.Ground.phase }, { on := 9, ground := Go.Ground.phase }, { on := 10, ground := Go.Ground.phase }, { on := 11, ground := Go.Ground.phase }, { on := 12, ground := Go.Ground.phase }, { on := 13, ground := Go.Ground.phase }, { on := 14, ground := Go.Ground.textOnly Go.Departure.lateStores }, { on := 15, ground := Go.Ground.textOnly Go.Departure.lateStoresUnsure }, { on := 16, ground := Go.Ground.phase }, { on := 17, ground := Go.Ground.phase }, { on := 18, ground := Go.Ground.phase }, { on := 19, ground := Go.Ground.phase }, { on := 20, ground := Go.Ground.phase }, { on := 21, ground := Go.Ground.textOnly Go.Departure.lateStores }, { on := 22, ground := Go.Ground.phase }, { on := 23, ground := Go.Ground.phase }, { on := 24, ground := Go.Ground.textOnly Go.Departure.lateStoresUnsure }, { on := 25, ground := Go.Ground.phase }], guard := none }) (v := ?v26) rfl (by kernel_rfl) (by kernel_rfl) (by kernel_rfl) (by decide) (fun h => absurd h (by decide)) (fun _ _ _ h => h) (Or.inl ⟨by rfl, ?hy26⟩) hS (fun hS => ?rest26)
  case hy26 =>
    intro w hSw
    clear hSw
    go_simp
    with_reducible rfl
  try simp only [Act.put, List.setIfInBounds_toArray, List.set_cons_zero, List.set_cons_succ]
  have hza := (row_cellAt HL4.out.rot3.head HA.out.1.2).2
  have hca := (row_cellAt HL4.out.rot3.head HA.out.1.2).1
  rw [HA.out.1.1] at hca
  refine wpAnyT_one (i := 27) (o := { dst := none, op := Go.Op.store 25 (Go.Operand.tmp 54) (Go.Operand.tmp 40), type := 0, pos := "twin.go:105", after := #[{ on := 26, ground := Go.Ground.data }, { on := 12, ground := Go.Ground.data }, { on := 25, ground := Go.Ground.chain }, { on := 0, ground := Go.Ground.phase }, { on := 1, ground := Go.Ground.phase }, { on := 2, ground := Go.Ground.phase }, { on := 3, ground := Go.Ground.textOnly Go.Departure.lateStores }, { on := 4, ground := Go.Ground.phase }, { on := 5, ground := Go.Ground.phase }, { on := 6, ground := Go.Ground.phase }, { on := 7, ground := Go.Ground.phase }, { on := 8, ground := Go.Ground.phase }, { on := 9, ground := Go.Ground.phase }, { on := 10, ground := Go.Ground.phase }, { on := 11, ground := Go.Ground.phase }, { on := 12, ground := Go.Ground.phase }, { on := 13, ground := Go.Ground.phase }, { on := 14, ground := Go.Ground.textOnly Go.Departure.lateStores }, { on := 15, ground := Go.Ground.textOnly Go.Departure.lateStoresUnsure }, { on := 16, ground := Go.Ground.phase }, { on := 17, ground := Go.Ground.phase }, { on := 18, ground := Go.Ground.phase }, { on := 19, ground := Go.Ground.phase }, { on := 20, ground := Go.Ground.phase }, { on := 21, ground := Go.Ground.textOnly Go.Departure.lateStores }, { on := 22, ground := Go.Ground.phase }, { on := 23, ground := Go.Ground.phase }, { on := 24, ground := Go.Ground.textOnly Go.Departure.lateStoresUnsure }, { on := 25, ground := Go.Ground.phase }], guard := none }) (by kernel_rfl) rfl (fun K hK => ?_)
  go_simp
  have HL5 := Lib.hid (HL4.out.rot3.row_set c (.slice aa' (ma + 1) cca'))
  refine hK.out _ _ (.inl ⟨rfl, by decide⟩) (fun hS => ?_)
  clear hK K hza hca HL4 HT4
  obtain ⟨w5, hw5⟩ : ∃ w5, w4.setCell ⟨ga, c, none⟩ (.slice aa' (ma + 1) cca') = w5 := ⟨_, rfl⟩
  rw [hw5] at HL5 hS ⊢
  clear hw5
  try simp only [Act.put, List.setIfInBounds_toArray, List.set_cons_zero, List.set_cons_succ]
  refine wpAnyT_takeU (i := 28) (oi := { dst := some 55, op := Go.Op.indexAddr 54 (Go.Operand.tmp 30) (Go.Operand.tmp 31), type := 0, pos := "twin.go:105", after := #[{ on := 2, ground := Go.Ground.data }, { on := 3, ground := Go.Ground.data }, { on := 0, ground := Go.Ground.phase }, { on := 1, ground := Go.Ground.phase }, { on := 2, ground := Go.Ground.phase }, { on := 3, ground := Go.Ground.phase }, { on := 4, ground := Go.Ground.phase }, { on := 5, ground := Go.Ground.phase }, { on := 6, ground := Go.Ground.phase }, { on := 7, ground := Go.Ground.phase }, { on := 8, ground := Go.Ground.phase }, { on := 9, ground := Go.Ground.phase }, { on := 10, ground := Go.Ground.phase }, { on := 11, ground := Go.Ground.phase }, { on := 12, ground := Go.Ground.phase }, { on := 13, ground := Go.Ground.phase }, { on := 14, ground := Go.Ground.phase }, { on := 15, ground := Go.Ground.phase }, { on := 16, ground := Go.Ground.phase }, { on := 17, ground := Go.Ground.phase }, { on := 18, ground := Go.Ground.phase }, { on := 19, ground := Go.Ground.phase }, { on := 20, ground := Go.Ground.phase }, { on := 21, ground := Go.Ground.phase }, { on := 22, ground := Go.Ground.phase }, { on := 23, ground := Go.Ground.phase }, { on := 24, ground := Go.Ground.phase }, { on := 25, ground := Go.Ground.phase }, { on := 26, ground := Go.Ground.phase }, { on := 27, ground := Go.Ground.phase }], guard := none }) (v := ?v28) rfl (by kernel_rfl) (by kernel_rfl) (by kernel_rfl) (by decide) (fun h => absurd h (by decide)) (fun _ _ _ h => h) (Or.inl ⟨by rfl, ?hy28⟩) hS (fun hS => ?rest28)
  case hy28 =>
    intro w hSw
    clear hSw
    go_simp
    with_reducible rfl
  try simp only [Act.put, List.setIfInBounds_toArray, List.set_cons_zero, List.set_cons_succ]
  have hza := (row_cellAt HL5.out.rot5.head HA.out.2.2).2
  have hca := (row_cellAt HL5.out.rot5.head HA.out.2.2).1
  rw [HA.out.2.1] at hca
  refine wpAnyT_one (i := 29) (o := { dst := none, op := Go.Op.store 25 (Go.Operand.tmp 55) (Go.Operand.tmp 53), type := 0, pos := "twin.go:105", after := #[{ on := 28, ground := Go.Ground.data }, { on := 25, ground := Go.Ground.data }, { on := 27, ground := Go.Ground.chain }, { on := 0, ground := Go.Ground.phase }, { on := 1, ground := Go.Ground.phase }, { on := 2, ground := Go.Ground.phase }, { on := 3, ground := Go.Ground.phase }, { on := 4, ground := Go.Ground.phase }, { on := 5, ground := Go.Ground.phase }, { on := 6, ground := Go.Ground.phase }, { on := 7, ground := Go.Ground.phase }, { on := 8, ground := Go.Ground.phase }, { on := 9, ground := Go.Ground.phase }, { on := 10, ground := Go.Ground.phase }, { on := 11, ground := Go.Ground.phase }, { on := 12, ground := Go.Ground.phase }, { on := 13, ground := Go.Ground.phase }, { on := 14, ground := Go.Ground.phase }, { on := 15, ground := Go.Ground.phase }, { on := 16, ground := Go.Ground.phase }, { on := 17, ground := Go.Ground.phase }, { on := 18, ground := Go.Ground.phase }, { on := 19, ground := Go.Ground.phase }, { on := 20, ground := Go.Ground.phase }, { on := 21, ground := Go.Ground.phase }, { on := 22, ground := Go.Ground.phase }, { on := 23, ground := Go.Ground.phase }, { on := 24, ground := Go.Ground.phase }, { on := 25, ground := Go.Ground.phase }, { on := 26, ground := Go.Ground.phase }, { on := 27, ground := Go.Ground.phase }], guard := none }) (by kernel_rfl) rfl (fun K hK => ?_)
  go_simp
  have HL6 := Lib.hid (HL5.out.rot5.row_set c (.slice ab' (mb + 1) ccb'))
  refine hK.out _ _ (.inl ⟨rfl, by decide⟩) (fun hS => ?_)
  clear hK K hza hca HL5 hS
  try simp only [Act.put, List.setIfInBounds_toArray, List.set_cons_zero, List.set_cons_succ]
  refine wpAnyT_done (by kernel_rfl) ?_ _
  refine NoPanic.normal ?_
  exact HQ.out _ _ _ _ _ _ _ _ _ _ _ _ _ _ _ _ _ _ _ _ _ _ _ _ _ _ _ _ _ _ _ _ _ HL6.out.rotG9.rotG9.rotG9.rotG9.rot5.rotG7.rotG9.rotG8.rotG9
end
end Go.Proofs.YteamnchoddegpaaGreatDoor
