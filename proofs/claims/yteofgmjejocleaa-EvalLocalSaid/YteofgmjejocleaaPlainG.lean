/- Graphs of terms, in plain lists: no program in sight. -/
import Derived.Test.YteofgmjejocleaaPlainX
namespace Go.Proofs.Yteofgmjejocleaa

/-- A node: operator, number, arguments. -/
abbrev PNode := Nat × Nat × List Int
def NodeOk (n : PNode) : Prop := n.1 ≤ 21 ∧ n.2.1 ≤ 18446744073709551615 ∧ n.2.2.length = aryN n.1
/-- The nodes of a graph: each once, of the right form, its arguments before it. -/
structure WFL (L : List PNode) : Prop where
  nodup : L.Nodup
  ok : ∀ n ∈ L, NodeOk n
  args : ∀ (i : Nat) (n : PNode), L[i]? = some n → ∀ a ∈ n.2.2, (0 : Int) ≤ a ∧ a < (i : Int)
/-- What becomes of a list of nodes that is asked for a node: the list, the term, the error. -/
def askP (room : Nat) (L : List PNode) (n : PNode) : List PNode × Nat × Nat :=
  match L.findIdx? (· == n) with
  | some t => (L, t, 0)
  | none => if room ≤ L.length then (L, 0, 10) else (L ++ [n], L.length, 0)
theorem WFL.nil : WFL [] := ⟨by simp, by simp, by simp⟩
theorem WFL.snoc {L : List PNode} (h : WFL L) {n : PNode} (hn : n ∉ L) (hok : NodeOk n) (ha : ∀ a ∈ n.2.2, (0 : Int) ≤ a ∧ a < (L.length : Int)) : WFL (L ++ [n]) := by
  refine ⟨?_, ?_, ?_⟩
  · rw [List.nodup_append]
    refine ⟨h.nodup, by simp, ?_⟩
    intro x hx b hb hab
    simp at hb
    subst hb; subst hab
    exact hn hx
  · intro m hm
    rcases List.mem_append.1 hm with hm | hm
    · exact h.ok m hm
    · simp at hm; subst hm; exact hok
  · intro i m hm a hma
    rcases Nat.lt_or_ge i L.length with hl | hl
    · rw [List.getElem?_append_left hl] at hm
      exact h.args i m hm a hma
    · rw [List.getElem?_append_right hl] at hm
      have : i - L.length = 0 := by
        rcases Nat.eq_zero_or_pos (i - L.length) with h0 | h0
        · exact h0
        · rw [List.getElem?_eq_none (by simp; omega)] at hm; cases hm
      rw [this] at hm
      simp at hm; subst hm
      have := ha a hma
      omega
theorem find_some {L : List PNode} {n : PNode} {t : Nat} (h : L.findIdx? (· == n) = some t) : L[t]? = some n := by
  rw [List.findIdx?_eq_some_iff_getElem] at h
  obtain ⟨ht, h1, _⟩ := h
  rw [List.getElem?_eq_getElem ht]
  simpa using h1
theorem find_none {L : List PNode} {n : PNode} (h : L.findIdx? (· == n) = none) : n ∉ L := by
  rw [List.findIdx?_eq_none_iff] at h
  intro hm
  simpa using h n hm
theorem find_of_mem {L : List PNode} {n : PNode} {t : Nat} (hn : L.Nodup) (h : L[t]? = some n) : L.findIdx? (· == n) = some t := by
  cases hf : L.findIdx? (· == n) with
  | none => exact absurd (List.mem_of_getElem? h) (find_none hf)
  | some u =>
    have hu := find_some hf
    have h1 := List.getElem?_eq_some_iff.1 h
    have h2 := List.getElem?_eq_some_iff.1 hu
    obtain ⟨l1, e1⟩ := h1
    obtain ⟨l2, e2⟩ := h2
    congr 1
    exact (List.getElem_inj hn).1 (e2.trans e1.symm)
theorem askP_wf {L : List PNode} (h : WFL L) (room : Nat) {n : PNode} (hok : NodeOk n) (ha : ∀ a ∈ n.2.2, (0 : Int) ≤ a ∧ a < (L.length : Int)) : WFL (askP room L n).1 := by
  unfold askP
  cases hf : L.findIdx? (· == n) with
  | some t => exact h
  | none =>
    dsimp only
    split
    · exact h
    · exact h.snoc (find_none hf) hok ha
theorem askP_len (room : Nat) (L : List PNode) (n : PNode) : L.length ≤ (askP room L n).1.length ∧ (askP room L n).1.length ≤ L.length + 1 := by
  unfold askP
  cases L.findIdx? (· == n) with
  | some t => simp
  | none => dsimp only; split <;> simp
end Go.Proofs.Yteofgmjejocleaa
