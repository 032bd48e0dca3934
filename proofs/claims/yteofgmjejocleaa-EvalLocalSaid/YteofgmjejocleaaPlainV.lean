/- Values of terms, in plain lists: no program in sight. -/
import Derived.Test.YteofgmjejocleaaPlainI
namespace Go.Proofs.Yteofgmjejocleaa

/-- The value of a node, with the values of the terms before it. -/
def valN (W : Nat) (vals acc : List Int) (n : PNode) : Int :=
  if n.1 = 0 then (n.2.1 : Int) else if n.1 = 1 then (if n.2.1 < vals.length then (((vals.getD n.2.1 0).toNat % 2 ^ W : Nat) : Int) else 0)
  else wI n.1 W (n.2.2.map fun a => acc.getD a.toNat 0)
/-- The values of all nodes. -/
def valsL (W : Nat) (vals : List Int) (L : List PNode) : List Int := L.foldl (fun acc n => acc ++ [valN W vals acc n]) []
theorem valsL_nil (W : Nat) (vals : List Int) : valsL W vals [] = [] := rfl
theorem valsL_snoc (W : Nat) (vals : List Int) (L : List PNode) (n : PNode) : valsL W vals (L ++ [n]) = valsL W vals L ++ [valN W vals (valsL W vals L) n] := by
  unfold valsL; rw [List.foldl_append]; rfl
theorem valsL_len (W : Nat) (vals : List Int) (L : List PNode) : (valsL W vals L).length = L.length := by
  refine snoc_ind (p := fun L => (valsL W vals L).length = L.length) rfl (fun L n ih => ?_) L
  rw [valsL_snoc, List.length_append, List.length_append, ih]; rfl
theorem valsL_append (W : Nat) (vals : List Int) (L M : List PNode) : valsL W vals L <+: valsL W vals (L ++ M) := by
  refine snoc_ind (p := fun M => valsL W vals L <+: valsL W vals (L ++ M)) (by rw [List.append_nil]; exact List.prefix_refl _) (fun M n ih => ?_) M
  rw [← List.append_assoc, valsL_snoc]
  exact ih.trans (List.prefix_append _ _)
theorem valsL_prefix {W : Nat} {vals : List Int} {L L' : List PNode} (h : L <+: L') : valsL W vals L <+: valsL W vals L' := by
  obtain ⟨M, rfl⟩ := h
  exact valsL_append W vals L M
theorem prefix_getD {α : Type} {l l' : List α} {i : Nat} (h : l <+: l') (hi : i < l.length) (d : α) : l'.getD i d = l.getD i d := by
  obtain ⟨t, rfl⟩ := h
  rw [List.getD_eq_getElem?_getD, List.getElem?_append_left hi, ← List.getD_eq_getElem?_getD]
/-- The value of a term. -/
def val (W : Nat) (vals : List Int) (L : List PNode) (i : Nat) : Int := (valsL W vals L).getD i 0
theorem val_prefix {W : Nat} {vals : List Int} {L L' : List PNode} (h : L <+: L') {i : Nat} (hi : i < L.length) : val W vals L' i = val W vals L i :=
  prefix_getD (valsL_prefix h) (by rw [valsL_len]; exact hi) 0
theorem valN_congr {W : Nat} {vals acc acc' : List Int} {n : PNode} (h : ∀ a ∈ n.2.2, acc.getD a.toNat 0 = acc'.getD a.toNat 0) : valN W vals acc n = valN W vals acc' n := by
  unfold valN
  split
  · rfl
  · split
    · rfl
    · congr 1
      exact List.map_congr_left h
/-- What a value is: what its operator makes of the values of its arguments. -/
theorem val_at {W : Nat} {vals : List Int} {L : List PNode} (h : WFL L) {i : Nat} {n : PNode} (hi : L[i]? = some n) : val W vals L i = valN W vals (valsL W vals L) n := by
  obtain ⟨hl, rfl⟩ := List.getElem?_eq_some_iff.1 hi
  have hp : L.take i ++ [L[i]] <+: L := by rw [List.take_append_getElem hl]; exact List.take_prefix _ _
  have hti : (L.take i).length = i := by rw [List.length_take]; omega
  have e1 : val W vals L i = val W vals (L.take i ++ [L[i]]) i := val_prefix hp (by rw [List.length_append, hti]; simp)
  rw [e1]
  unfold val
  rw [valsL_snoc, List.getD_eq_getElem?_getD, List.getElem?_append_right (by rw [valsL_len, hti]; exact Nat.le_refl i), valsL_len, hti, Nat.sub_self]
  refine valN_congr fun a ha => ?_
  have := h.args i _ hi a ha
  exact (prefix_getD (valsL_prefix (List.take_prefix i L)) (by rw [valsL_len, hti]; omega) 0).symm
theorem wE_zero {o W n : Nat} (h1 : 1 ≤ W) (h2 : W ≤ 64) (ho1 : 2 ≤ o) (ho2 : o ≤ 21) (h : aryN o = n) : wE o W n = 0 := by
  unfold wE; rw [if_neg (by omega), if_neg (by omega), if_pos (by simpa using h)]
/-- Values are words. -/
theorem wI_bounds (o W : Int) (xs : List Int) (h1 : 1 ≤ W) (h2 : W ≤ 64) : 0 ≤ wI o W xs ∧ wI o W xs < ((2 ^ W.toNat : Nat) : Int) := by
  have hp := pow_pos2 W.toNat
  unfold wI
  split
  · have h := wop_lt W.toNat o.toNat (wA W xs 0) (wA W xs 1) (wA W xs 2) (by omega) (Nat.mod_lt _ hp) (Nat.mod_lt _ hp) (Nat.mod_lt _ hp)
    omega
  · omega
theorem valN_u64 {W : Nat} (h1 : 1 ≤ W) (h2 : W ≤ 64) (vals acc : List Int) {n : PNode} (hn : NodeOk n) : 0 ≤ valN W vals acc n ∧ valN W vals acc n ≤ 18446744073709551615 := by
  have hp := pow_le64 h2
  have hq := pow_pos2 W
  unfold valN
  split
  · have := hn.2.1; omega
  · split
    · split
      · have := Nat.mod_lt (vals.getD n.2.1 0).toNat hq
        omega
      · omega
    · have := wI_bounds n.1 W (n.2.2.map fun a => acc.getD a.toNat 0) (by omega) (by omega)
      rw [Int.toNat_natCast] at this
      omega
theorem valN_word {W : Nat} (h1 : 1 ≤ W) (h2 : W ≤ 64) (vals acc : List Int) {n : PNode} (hn : NodeGood W n) : 0 ≤ valN W vals acc n ∧ valN W vals acc n < ((2 ^ W : Nat) : Int) := by
  have hq := pow_pos2 W
  unfold valN
  split
  · rcases hn with ⟨_, h, _⟩ | ⟨h, _⟩ | ⟨h, _⟩
    · omega
    · omega
    · omega
  · split
    · split
      · have := Nat.mod_lt (vals.getD n.2.1 0).toNat hq
        omega
      · omega
    · have := wI_bounds n.1 W (n.2.2.map fun a => acc.getD a.toNat 0) (by omega) (by omega)
      rw [Int.toNat_natCast] at this
      exact this
theorem val_u64 {W : Nat} (h1 : 1 ≤ W) (h2 : W ≤ 64) (vals : List Int) {L : List PNode} (h : WFL L) (i : Nat) : 0 ≤ val W vals L i ∧ val W vals L i ≤ 18446744073709551615 := by
  cases hi : L[i]? with
  | some n => rw [val_at h hi]; exact valN_u64 h1 h2 _ _ (h.ok n (List.mem_of_getElem? hi))
  | none =>
    have : val W vals L i = 0 := by unfold val; rw [List.getD_eq_getElem?_getD, List.getElem?_eq_none (by rw [valsL_len]; exact List.getElem?_eq_none_iff.1 hi)]; rfl
    rw [this]; decide
theorem val_word {W : Nat} (h1 : 1 ≤ W) (h2 : W ≤ 64) (vals : List Int) {L : List PNode} (h : WFL L) (hg : GoodL W L) (i : Nat) : 0 ≤ val W vals L i ∧ val W vals L i < ((2 ^ W : Nat) : Int) := by
  have hq := pow_pos2 W
  cases hi : L[i]? with
  | some n => rw [val_at h hi]; exact valN_word h1 h2 _ _ (hg n (List.mem_of_getElem? hi))
  | none =>
    have : val W vals L i = 0 := by unfold val; rw [List.getD_eq_getElem?_getD, List.getElem?_eq_none (by rw [valsL_len]; exact List.getElem?_eq_none_iff.1 hi)]; rfl
    rw [this]; omega
theorem valN_app {W : Nat} {vals acc : List Int} {n : PNode} (h0 : n.1 ≠ 0) (h1 : n.1 ≠ 1) : valN W vals acc n = wI n.1 W (n.2.2.map fun a => acc.getD a.toNat 0) := by
  unfold valN; rw [if_neg h0, if_neg h1]
theorem valN_const {W : Nat} {vals acc : List Int} {n : PNode} (h0 : n.1 = 0) : valN W vals acc n = n.2.1 := by unfold valN; rw [if_pos h0]
theorem valN_var {W : Nat} {vals acc : List Int} {n : PNode} (h0 : n.1 = 1) (h1 : n.2.1 < vals.length) : valN W vals acc n = (((vals.getD n.2.1 0).toNat % 2 ^ W : Nat) : Int) := by unfold valN; rw [if_neg (by omega), if_pos h0, if_pos h1]
theorem valN_no {W : Nat} {vals acc : List Int} {n : PNode} (h0 : n.1 = 1) (h1 : ¬ n.2.1 < vals.length) : valN W vals acc n = 0 := by unfold valN; rw [if_neg (by omega), if_pos h0, if_neg h1]
end Go.Proofs.Yteofgmjejocleaa
