/- New, among things; what asking gives. -/
import Derived.Test.YteofgmjejocleaaLabN
namespace Go.Proofs.Yteofgmjejocleaa
open Go.RowKit Go.Maps
set_option maxHeartbeats 400000

theorem Lab.new_graph {w0 wr : World} {ts : List Thing} (h : Lab w0 wr ts) (W most : Int) (hok : newOk W most) :
    Calls Try.prog 16 #[.int .i64 W, .int .i64 most] wr fun e w' => ∃ gb F, e = .returned (.tuple #[.pointer (some ⟨gb, 0, none⟩), .int .i64 0]) ∧ Lab w0 w' (Thing.graph F [] gb W.toNat (roomOf most) [] :: ts) := by
  refine (new_any W most hok wr).mono ?_
  rintro e w' ⟨gb, F, rfl, hg, hb⟩
  refine ⟨gb, F, rfl, h.new (s := Thing.graph F [] gb W.toNat (roomOf most) []) hb (hg.mono (Nat.zero_le _)) hg.base_le (fun k hk => by simp [Thing.graph] at hk) (fun k hk => ?_)⟩
  rcases hk with hk | hk
  · exact hg.lt k hk
  · simp [Thing.graph] at hk
/-- What asking gives, in three cases. -/
theorem askP_cases (room : Nat) (L : List PNode) (n : PNode) (hl : L.length ≤ room) :
    (∃ t, askP room L n = (L, t, 0) ∧ L[t]? = some n) ∨ (n ∉ L ∧ L.length < room ∧ askP room L n = (L ++ [n], L.length, 0)) ∨ (n ∉ L ∧ L.length = room ∧ askP room L n = (L, 0, 10)) := by
  unfold askP
  cases hf : L.findIdx? (· == n) with
  | some t => exact .inl ⟨t, rfl, find_some hf⟩
  | none =>
    right
    by_cases h : room ≤ L.length
    · exact .inr ⟨find_none hf, by omega, by rw [if_pos h]⟩
    · exact .inl ⟨find_none hf, by omega, by rw [if_neg h]⟩
/-- The variables are few. -/
def VarsLt (K : Nat) (L : List PNode) : Prop := ∀ n ∈ L, n.1 = 1 → n.2.1 < K
theorem VarsLt.mono {K K' : Nat} {L : List PNode} (h : VarsLt K L) (hk : K ≤ K') : VarsLt K' L := fun n hn h1 => Nat.lt_of_lt_of_le (h n hn h1) hk
theorem VarsLt.ask {K : Nat} {L : List PNode} (h : VarsLt K L) (room : Nat) {n : PNode} (hn : n.1 = 1 → n.2.1 < K) : VarsLt K (askP room L n).1 := by
  unfold askP
  cases L.findIdx? (· == n) with
  | some t => exact h
  | none =>
    dsimp only
    split
    · exact h
    · intro m hm
      rcases List.mem_append.1 hm with hm | hm
      · exact h m hm
      · simp at hm; subst hm; exact hn
theorem VarsLt.add {K W : Nat} {L : List PNode} (h : VarsLt K L) (hK : 6 ≤ K) (room : Nat) (a : PAsk) : VarsLt K (addR W room L a).1 := by
  rw [addR_ask]
  refine h.ask room ?_
  unfold addN
  split
  · intro h; simp at h
  · split
    · intro _
      have h0 := Int.emod_nonneg a.2.2.2.1 (show (6 : Int) ≠ 0 by decide)
      have h1 := Int.emod_lt_of_pos a.2.2.2.1 (show (0 : Int) < 6 by decide)
      show (a.2.2.2.1 % 6).toNat < K
      omega
    · intro h
      have := code_bounds a
      simp only at h
      omega
theorem VarsLt.not_mem {K : Nat} {L : List PNode} (h : VarsLt K L) {m : Nat} (hm : K ≤ m) (xs : List Int) : ((1, m, xs) : PNode) ∉ L := fun hin => by have := h _ hin rfl; simp only at this; omega
end Go.Proofs.Yteofgmjejocleaa
