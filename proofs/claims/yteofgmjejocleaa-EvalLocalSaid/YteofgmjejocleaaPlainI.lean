/- Graphs of terms, in plain lists: what asking leaves as it is. -/
import Derived.Test.YteofgmjejocleaaPlainH
namespace Go.Proofs.Yteofgmjejocleaa

/-- A list of nodes of which another one is the beginning. -/
theorem isPrefix_ask {L : List PNode} (room : Nat) (n : PNode) : L <+: (askP room L n).1 := by
  unfold askP
  cases L.findIdx? (· == n) with
  | some t => exact List.prefix_refl _
  | none =>
    dsimp only
    split
    · exact List.prefix_refl _
    · exact List.prefix_append _ _
theorem isPrefix_const (W room : Nat) (L : List PNode) (q : Nat) : L <+: (constR W room L q).1 := isPrefix_ask room _
theorem isPrefix_var (room : Nat) (L : List PNode) (n : Int) : L <+: (varR room L n).1 := by
  unfold varR; split
  · exact isPrefix_ask room _
  · exact List.prefix_refl _
theorem isPrefix_app (room : Nat) (L : List PNode) (o : Nat) (xs : List Int) : L <+: (appR room L o xs).1 := by
  unfold appR; split
  · split
    · exact isPrefix_ask room _
    · exact List.prefix_refl _
  · exact List.prefix_refl _
theorem prefix_at {L L' : List PNode} (h : L <+: L') {i : Nat} {n : PNode} (hi : L[i]? = some n) : L'[i]? = some n := by
  obtain ⟨t, rfl⟩ := h
  rw [List.getElem?_append_left (List.getElem?_eq_some_iff.1 hi).1]; exact hi
/-- What is refused leaves the nodes as they are. -/
theorem ask_err {L : List PNode} {room : Nat} {n : PNode} (h : (askP room L n).2.2 ≠ 0) : (askP room L n).1 = L := by
  unfold askP at h ⊢
  cases hf : L.findIdx? (· == n) with
  | some t => rfl
  | none =>
    rw [hf] at h
    dsimp only at h ⊢
    split
    · rfl
    · rw [if_neg (by assumption)] at h; exact absurd rfl h
theorem const_err {W room : Nat} {L : List PNode} {q : Nat} (h : (constR W room L q).2.2 ≠ 0) : (constR W room L q).1 = L := ask_err h
theorem var_err {room : Nat} {L : List PNode} {n : Int} (h : (varR room L n).2.2 ≠ 0) : (varR room L n).1 = L := by
  unfold varR at h ⊢; split
  · rw [if_pos (by assumption)] at h; exact ask_err h
  · rfl
theorem app_err {room : Nat} {L : List PNode} {o : Nat} {xs : List Int} (h : (appR room L o xs).2.2 ≠ 0) : (appR room L o xs).1 = L := by
  unfold appR at h ⊢; split
  · rw [if_pos (by assumption)] at h
    split
    · rw [if_pos (by assumption)] at h; exact ask_err h
    · rfl
  · rfl
end Go.Proofs.Yteofgmjejocleaa
