/- Copies of graphs, among things. -/
import Derived.Test.YteofgmjejocleaaLabO
import Derived.Test.YteofgmjejocleaaPlainI
import Derived.Deep.DeepCutAuto
import Derived.Deep.CutBlock
import Derived.Deep.RegionHeld3
namespace Go.Proofs.Yteofgmjejocleaa
open Go.RowKit Go.Maps
set_option maxHeartbeats 400000

section
variable {w0 wr w' : World} {ts : List Thing} {F I : List Nat} {gb W room : Nat} {L : List PNode}
theorem Lab.perm {ts' : List Thing} (h : Lab w0 wr ts) (hp : ts.Perm ts') : Lab w0 wr ts' :=
  ⟨h.below, fun t ht => h.holds t (hp.mem_iff.2 ht), fun t ht => h.low t (hp.mem_iff.2 ht), fun t ht => h.high t (hp.mem_iff.2 ht), (hp.pairwise_iff (fun {_ _} hs => hs.symm)).1 h.apart⟩
theorem Lab.rot4 {s t u v : Thing} (h : Lab w0 wr (s :: t :: u :: v :: ts)) : Lab w0 wr (v :: s :: t :: u :: ts) := h.perm (List.perm_middle (l₁ := [s, t, u]))
theorem Lab.rot5 {s t u v x : Thing} (h : Lab w0 wr (s :: t :: u :: v :: x :: ts)) : Lab w0 wr (x :: s :: t :: u :: v :: ts) := h.perm (List.perm_middle (l₁ := [s, t, u, v]))
theorem Lab.rot6 {s t u v x y : Thing} (h : Lab w0 wr (s :: t :: u :: v :: x :: y :: ts)) : Lab w0 wr (y :: s :: t :: u :: v :: x :: ts) := h.perm (List.perm_middle (l₁ := [s, t, u, v, x]))
open Classical in
/-- The blocks of arguments, and no others. -/
noncomputable def onlyInts (w : World) (I : List Nat) : List Nat := I.filter fun k => decide (IntBlk w k)
theorem mem_onlyInts {w : World} {I : List Nat} {k : Nat} : k ∈ onlyInts w I ↔ k ∈ I ∧ IntBlk w k := by
  unfold onlyInts
  rw [List.mem_filter]
  simp
theorem Gr.inB {base : Nat} (h : Gr wr base F I gb W room L) : Gr wr base F (onlyInts wr I) gb W room L := by
  obtain ⟨sv, mb, cells, hF, h1, h2, h3, h4, h5, h6⟩ := h.mem
  refine ⟨h.wf, h.len, h.w1, h.w2, h.r2, sv, mb, cells, hF, h1, h2, h3, h4, ⟨h5.1, fun i n hn => ?_⟩, h6⟩
  obtain ⟨va, k1, k2, k3, k4, k5⟩ := h5.2 i n hn
  exact ⟨va, k1, k2, k3, k4, fun k hk => ⟨mem_onlyInts.2 (k5 k hk), (k5 k hk).2⟩⟩
end
theorem fillS_vars (W : Nat) (qs : List PAsk) : VarsLt 6 (fillS W qs).1 := by
  refine snoc_ind (p := fun qs => VarsLt 6 (fillS W qs).1) (by simp [fillS, VarsLt]) (fun qs a ih => ?_) qs
  rw [fillS_snoc]
  exact ih.add (Nat.le_refl 6) 1048576 a
theorem isPrefix_add (W room : Nat) (L : List PNode) (a : PAsk) : L <+: (addR W room L a).1 := by
  rw [addR_ask]
  unfold askP
  cases L.findIdx? (· == addN W L a) with
  | some t => exact List.prefix_refl _
  | none =>
    dsimp only
    split
    · exact List.prefix_refl _
    · exact List.prefix_append _ _
/-- A variable that is not there yet. -/
theorem varR_new {K room : Nat} {L : List PNode} {m : Nat} (h : VarsLt K L) (hk : K ≤ m) (hm : m ≤ 4194303) (hl : L.length < room) : varR room L (m : Int) = (L ++ [(1, m, [])], L.length, 0) ∧ VarsLt (m + 1) (L ++ [(1, m, [])]) := by
  have e : varR room L (m : Int) = askP room L (1, m, []) := by unfold varR; rw [if_pos (by omega)]; simp
  refine ⟨?_, ?_⟩
  · rw [e]
    rcases askP_cases room L (1, m, []) (by omega) with ⟨t, _, ht⟩ | ⟨_, _, h⟩ | ⟨_, h, _⟩
    · exact absurd (List.mem_of_getElem? ht) (h.not_mem hk [])
    · exact h
    · omega
  · intro n hn h1
    rcases List.mem_append.1 hn with hn | hn
    · have := h n hn h1; omega
    · simp at hn; subst hn; show m < m + 1; omega
end Go.Proofs.Yteofgmjejocleaa
