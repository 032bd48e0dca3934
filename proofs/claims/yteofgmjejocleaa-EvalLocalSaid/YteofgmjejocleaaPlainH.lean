/- Graphs of terms, in plain lists: of what form the nodes are, and what is asked for again. -/
import Derived.Test.YteofgmjejocleaaFill
namespace Go.Proofs.Yteofgmjejocleaa

/-- A node as a graph of a width holds it. -/
def NodeGood (W : Nat) (n : PNode) : Prop := (n.1 = 0 ∧ n.2.1 < 2 ^ W ∧ n.2.2 = []) ∨ (n.1 = 1 ∧ n.2.1 ≤ 4194303 ∧ n.2.2 = []) ∨ (2 ≤ n.1 ∧ n.1 ≤ 21 ∧ n.2.1 = 0 ∧ aryN n.1 = n.2.2.length)
def GoodL (W : Nat) (L : List PNode) : Prop := ∀ n ∈ L, NodeGood W n
theorem GoodL.nil (W : Nat) : GoodL W [] := by simp [GoodL]
theorem aryN_pos {o : Nat} (h : 2 ≤ o) : aryN o ≠ 0 := by
  unfold aryN
  rw [if_neg (by omega)]
  split
  · decide
  · split <;> decide
theorem GoodL.ask {W : Nat} {L : List PNode} (h : GoodL W L) (room : Nat) {n : PNode} (hn : NodeGood W n) : GoodL W (askP room L n).1 := by
  unfold askP
  cases L.findIdx? (· == n) with
  | some t => exact h
  | none =>
    dsimp only
    split
    · exact h
    · intro m hm
      rcases List.mem_append.1 hm with hm | hm
      · exact h m hm
      · simp at hm; subst hm; exact hn
theorem GoodL.const {W : Nat} {L : List PNode} (h : GoodL W L) (room q : Nat) : GoodL W (constR W room L q).1 := h.ask room (.inl ⟨rfl, Nat.mod_lt _ (pow_pos2 W), rfl⟩)
theorem GoodL.var {W : Nat} {L : List PNode} (h : GoodL W L) (room : Nat) (n : Int) : GoodL W (varR room L n).1 := by
  unfold varR
  split
  · exact h.ask room (.inr (.inl ⟨rfl, by show n.toNat ≤ 4194303; omega, rfl⟩))
  · exact h
theorem GoodL.app {W : Nat} {L : List PNode} (h : GoodL W L) (room o : Nat) (xs : List Int) : GoodL W (appR room L o xs).1 := by
  unfold appR
  split
  · rename_i hc
    split
    · refine h.ask room (.inr (.inr ⟨?_, hc.1, rfl, hc.2.2⟩))
      show 2 ≤ o
      have := hc.2.1
      unfold aryN at this
      by_cases h1 : o ≤ 1
      · rw [if_pos h1] at this; omega
      · omega
    · exact h
  · exact h
theorem GoodL.add {W : Nat} {L : List PNode} (h : GoodL W L) (room : Nat) (a : PAsk) : GoodL W (addR W room L a).1 := by
  unfold addR
  split
  · exact h.const room _
  · split
    · exact h.var room _
    · exact h.app room _ _
theorem askP_hit {L : List PNode} (h : L.Nodup) {k : Nat} {n : PNode} (hk : L[k]? = some n) (room : Nat) : askP room L n = (L, k, 0) := by
  unfold askP
  rw [find_of_mem h hk]
/-- What is asked for again is the same term. -/
theorem const_again {W : Nat} {L : List PNode} (h : WFL L) (hg : GoodL W L) {k : Nat} {n : PNode} (hk : L[k]? = some n) (h0 : n.1 = 0) (room : Nat) : constR W room L n.2.1 = (L, k, 0) := by
  have hn := hg n (List.mem_of_getElem? hk)
  rcases hn with ⟨h1, h2, h3⟩ | ⟨h1, _⟩ | ⟨h1, _⟩
  · unfold constR
    rw [Nat.mod_eq_of_lt h2]
    obtain ⟨o, q, xs⟩ := n
    simp only at h0 h3
    subst h0; subst h3
    exact askP_hit h.nodup hk room
  · omega
  · omega
theorem var_again {W : Nat} {L : List PNode} (h : WFL L) (hg : GoodL W L) {k : Nat} {n : PNode} (hk : L[k]? = some n) (h0 : n.1 = 1) (room : Nat) : varR room L (n.2.1 : Int) = (L, k, 0) := by
  have hn := hg n (List.mem_of_getElem? hk)
  rcases hn with ⟨h1, _⟩ | ⟨h1, h2, h3⟩ | ⟨h1, _⟩
  · omega
  · unfold varR
    rw [if_pos (by omega)]
    obtain ⟨o, q, xs⟩ := n
    simp only at h0 h3
    subst h0; subst h3
    rw [Int.toNat_natCast]
    exact askP_hit h.nodup hk room
  · omega
theorem app_again {W : Nat} {L : List PNode} (h : WFL L) (hg : GoodL W L) {k : Nat} {n : PNode} (hk : L[k]? = some n) (h0 : 2 ≤ n.1) (room : Nat) : appR room L n.1 n.2.2 = (L, k, 0) := by
  have hn := hg n (List.mem_of_getElem? hk)
  have hl := (List.getElem?_eq_some_iff.1 hk).1
  rcases hn with ⟨h1, _⟩ | ⟨h1, _⟩ | ⟨h1, h2, h3, h4⟩
  · omega
  · omega
  · unfold appR
    rw [if_pos ⟨h2, aryN_pos h1, h4⟩, if_pos (fun a ha => by have := h.args k n hk a ha; omega)]
    obtain ⟨o, q, xs⟩ := n
    simp only at h3
    subst h3
    exact askP_hit h.nodup hk room
theorem fillS_good (W : Nat) (qs : List PAsk) : GoodL W (fillS W qs).1 := by
  refine snoc_ind (p := fun qs => GoodL W (fillS W qs).1) (GoodL.nil W) (fun qs a ih => ?_) qs
  rw [fillS_snoc]
  exact ih.add 1048576 a
/-- The terms of Fill are terms. -/
theorem fillS_terms (W : Nat) (qs : List PAsk) (hq : qs.length ≤ 1000) : ∀ t ∈ (fillS W qs).2, (0 : Int) ≤ t ∧ t < ((fillS W qs).1.length : Int) := by
  revert hq
  refine snoc_ind (p := fun qs => qs.length ≤ 1000 → ∀ t ∈ (fillS W qs).2, (0 : Int) ≤ t ∧ t < ((fillS W qs).1.length : Int)) (by simp [fillS]) (fun qs a ih hq => ?_) qs
  have hq' : qs.length ≤ 999 := by simp at hq; omega
  have hl := fillS_len W qs
  have hg := addR_grown W (L := (fillS W qs).1) (room := 1048576) (by omega) a
  rw [fillS_snoc]
  unfold fillStep
  intro t ht
  simp only [List.mem_append, List.mem_singleton] at ht
  rcases hg.2 with ⟨h1, h2⟩ | ⟨_, h1, h2⟩
  · rw [h1]
    rcases ht with ht | rfl
    · exact ih (by omega) t ht
    · have := (List.getElem?_eq_some_iff.1 h2).1; omega
  · rw [h1]
    simp only [List.length_append, List.length_singleton]
    rcases ht with ht | rfl
    · have := ih (by omega) t ht; omega
    · rw [h2]; omega
end Go.Proofs.Yteofgmjejocleaa
