/- Add of law 10: the whole, and what it answers. -/
import Derived.Test.YteofgmjejocleaaGraphH
namespace Go.Proofs.Yteofgmjejocleaa
open Go.RowKit Go.Maps
set_option maxHeartbeats 800000

section
variable {w : World} {base : Nat} {F I : List Nat} {gb W room : Nat} {L : List PNode}
theorem ladd_any (h : Gr w base F I gb W room L) (a : PAsk) (v : Value) (hv : AskV w v a) (ha : a.Ok) :
    Calls Try.prog 30 #[.pointer (some ⟨gb, 0, none⟩), v] w (GPost w base F I gb W room (addR W room L a)) := by
  unfold addR
  by_cases h1 : a.1 % 4 = 0 ∨ (L.length = 0 ∧ 1 < a.1 % 4)
  · rw [if_pos h1]; exact add_const h a v hv ha h1
  · rw [if_neg h1]
    by_cases h2 : a.1 % 4 = 1
    · rw [if_pos h2]; exact add_var h a v hv ha h2
    · rw [if_neg h2]; exact add_app h a v hv ha (by omega) (by omega)
end
/-- What asking gives where there is room. -/
def Grown (L : List PNode) (n : PNode) (R : List PNode × Nat × Nat) : Prop := R.2.2 = 0 ∧ (R.1 = L ∧ L[R.2.1]? = some n ∨ n ∉ L ∧ R.1 = L ++ [n] ∧ R.2.1 = L.length)
theorem askP_grown {L : List PNode} {room : Nat} (h : L.length < room) (n : PNode) : Grown L n (askP room L n) := by
  unfold askP Grown
  cases hf : L.findIdx? (· == n) with
  | some t => exact ⟨rfl, .inl ⟨rfl, find_some hf⟩⟩
  | none =>
    rw [if_neg (by omega)]
    exact ⟨rfl, .inr ⟨find_none hf, rfl, rfl⟩⟩
theorem code_bounds (a : PAsk) : 2 ≤ a.code ∧ a.code ≤ 21 ∧ aryN a.code ≠ 0 := by
  unfold PAsk.code
  have : a.2.1 % 20 < 20 := Nat.mod_lt _ (by decide)
  refine ⟨by omega, by omega, ?_⟩
  unfold aryN
  rw [if_neg (by omega)]
  split
  · decide
  · split <;> decide
theorem addArgs_in (a : PAsk) (n : Nat) (hn : n ≠ 0) : ∀ x ∈ addArgs a n, (0 : Int) ≤ x ∧ x < (n : Int) := by
  intro x hx
  obtain ⟨i, _, rfl⟩ := List.mem_map.1 hx
  exact ⟨Int.emod_nonneg _ (by omega), Int.emod_lt_of_pos _ (by omega)⟩
/-- The node that Add asks for. -/
def addN (W : Nat) (L : List PNode) (a : PAsk) : PNode :=
  if a.1 % 4 = 0 ∨ (L.length = 0 ∧ 1 < a.1 % 4) then (0, a.2.2.1 % 2 ^ W, [])
  else if a.1 % 4 = 1 then (1, (a.2.2.2.1 % 6).toNat, []) else (a.code, 0, addArgs a L.length)
theorem addR_ask (W room : Nat) (L : List PNode) (a : PAsk) : addR W room L a = askP room L (addN W L a) := by
  unfold addR addN
  by_cases h1 : a.1 % 4 = 0 ∨ (L.length = 0 ∧ 1 < a.1 % 4)
  · rw [if_pos h1, if_pos h1]; rfl
  · rw [if_neg h1, if_neg h1]
    by_cases h2 : a.1 % 4 = 1
    · rw [if_pos h2, if_pos h2]
      unfold varR
      rw [if_pos ⟨Int.emod_nonneg _ (by decide), by have := Int.emod_lt_of_pos a.2.2.2.1 (show (0 : Int) < 6 by decide); omega⟩]
    · rw [if_neg h2, if_neg h2]
      have hc := code_bounds a
      unfold appR
      rw [if_pos ⟨hc.2.1, hc.2.2, (addArgs_len a _).symm⟩, if_pos (addArgs_in a _ (by omega))]
theorem addR_grown {L : List PNode} {room : Nat} (W : Nat) (h : L.length < room) (a : PAsk) : Grown L (addN W L a) (addR W room L a) := by
  rw [addR_ask]; exact askP_grown h _
end Go.Proofs.Yteofgmjejocleaa
