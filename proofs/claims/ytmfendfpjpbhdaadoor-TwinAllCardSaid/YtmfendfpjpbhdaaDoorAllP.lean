/- TwinAll: the values that make two lists of inputs. -/
import Derived.Test.YtmfendfpjpbhdaaDoorAllA
namespace Go.Proofs.YtmfendfpjpbhdaaDoor
open Go.RowKit Go.Maps
set_option maxHeartbeats 3200000

def fA (ass : List (List Int)) (c k : Nat) : Int := (ass.getD c []).getD k 0
def fB (nl : Nat) (R : Rel) (level : Int) (ls : List Int) (ass bss : List (List Int)) (c k : Nat) : Int := if leB nl R (ls.getD c 0) level = true then fA ass c k else fA bss c k
/-- The values of the variables of all inputs ahead of the input k of channel c. -/
structure Vok (nl : Nat) (R : Rel) (level : Int) (ls : List Int) (ass bss : List (List Int)) (c k : Nat) (V : List Int) : Prop where
  len : V.length ≤ 200
  vals : ∀ c' k', c' < ls.length → k' < 8 → (c' < c ∨ (c' = c ∧ k' < k)) → valA ls.length V c' k' = fA ass c' k' ∧ valB ls.length nl R level ls V c' k' = fB nl R level ls ass bss c' k'
theorem ofR_at (nl : Nat) (R : Rel) (level : Int) (ls : List Int) {c k : Nat} (hc : c < ls.length) : ofR nl R level ls ((2 * (k * ls.length + c) : Nat) : Int) = if leB nl R (ls.getD c 0) level = true then ((2 * (k * ls.length + c) : Nat) : Int) else ((2 * (k * ls.length + c) : Nat) : Int) + 1 := by
  have e : ((2 * (k * ls.length + c) : Nat) : Int).toNat / 2 % ls.length = c := by
    rw [Int.toNat_natCast, Nat.mul_div_cancel_left _ (by decide), Nat.mul_comm k, Nat.mul_add_mod, Nat.mod_eq_of_lt hc]
  unfold ofR
  rw [e]
theorem valAt_set (V : List Int) (i n : Nat) (v : Int) (hi : i < V.length) : valAt (V.set i v) n = if n = i then v else valAt V n := by
  unfold valAt
  rw [List.getD_eq_getElem?_getD, List.getElem?_set, List.getD_eq_getElem?_getD]
  by_cases h : n = i
  · subst h; rw [if_pos rfl, if_pos hi, if_pos rfl]; rfl
  · rw [if_neg (fun e => h e.symm), if_neg h]
theorem valAt_zeros (V : List Int) (j n : Nat) : valAt (V ++ List.replicate j 0) n = valAt V n := by
  unfold valAt
  rw [List.getD_eq_getElem?_getD, List.getD_eq_getElem?_getD]
  by_cases h : n < V.length
  · rw [List.getElem?_append_left h]
  · rw [List.getElem?_append_right (by omega), List.getElem?_replicate, List.getElem?_eq_none (l := V) (by omega)]
    split <;> rfl
theorem at_ne {N c k c' k' : Nat} (hc : c < N) (hc' : c' < N) (h : ¬ (c' = c ∧ k' = k)) : k' * N + c' ≠ k * N + c := by
  intro e
  have e1 : (k' * N + c') % N = (k * N + c) % N := by rw [e]
  rw [Nat.mul_comm k', Nat.mul_comm k, Nat.mul_add_mod, Nat.mul_add_mod, Nat.mod_eq_of_lt hc, Nat.mod_eq_of_lt hc'] at e1
  subst e1
  have e2 : k' * N = k * N := by omega
  exact h ⟨rfl, Nat.eq_of_mul_eq_mul_right (by omega) e2⟩
theorem Vok.step {nl : Nat} {R : Rel} {level : Int} {ls : List Int} {ass bss : List (List Int)} {c k j m q : Nat} {V : List Int} (h : Vok nl R level ls ass bss c k V) (hc : c < ls.length) (hm : 2 * (k * ls.length + c) = m) (hq : ofR nl R level ls (m : Int) = (q : Int))
    (h1 : m < V.length + j) (h2 : q < V.length + j) (h3 : V.length + j ≤ 200) : Vok nl R level ls ass bss c (k + 1) (((V ++ List.replicate j 0).set m (fA ass c k)).set q (fB nl R level ls ass bss c k)) := by
  have hl : (V ++ List.replicate j 0).length = V.length + j := by simp
  refine ⟨by rw [List.length_set, List.length_set, hl]; exact h3, fun c' k' hc' hk' hlt => ?_⟩
  have get : ∀ n, valAt (((V ++ List.replicate j 0).set m (fA ass c k)).set q (fB nl R level ls ass bss c k)) n = if n = q then fB nl R level ls ass bss c k else if n = m then fA ass c k else valAt V n := fun n => by
    rw [valAt_set _ _ _ _ (by rw [List.length_set, hl]; exact h2), valAt_set _ _ _ _ (by rw [hl]; exact h1), valAt_zeros]
  have hq2 := ofR_at nl R level ls (k := k) hc
  rw [hm, hq] at hq2
  have hqm : q = m ∨ q = m + 1 := by split at hq2 <;> omega
  unfold valA valB
  by_cases e : c' = c ∧ k' = k
  · obtain ⟨rfl, rfl⟩ := e
    rw [hm, hq, Int.toNat_natCast, get, get]
    refine ⟨?_, if_pos rfl⟩
    by_cases hmq : m = q
    · rw [if_pos hmq]
      unfold fB
      rw [if_pos]
      by_cases hle : leB nl R (ls.getD c' 0) level = true
      · exact hle
      · rw [if_neg hle] at hq2; omega
    · rw [if_neg hmq, if_pos rfl]
  · have hne := at_ne (k := k) (k' := k') hc hc' e
    obtain ⟨m', hm'⟩ : ∃ m', 2 * (k' * ls.length + c') = m' := ⟨_, rfl⟩
    have hq2' := ofR_at nl R level ls (k := k') hc'
    have hold := h.vals c' k' hc' hk' (by omega)
    unfold valA valB at hold
    rw [hm'] at hq2' hold ⊢
    obtain ⟨q', hq'⟩ : ∃ q' : Nat, ofR nl R level ls (m' : Int) = (q' : Int) := by
      rcases ofR_or nl R level ls (m' : Int) with h | h
      · exact ⟨m', h⟩
      · exact ⟨m' + 1, by omega⟩
    rw [hq', Int.toNat_natCast] at hold ⊢
    rw [hq'] at hq2'
    have hqm' : q' = m' ∨ q' = m' + 1 := by split at hq2' <;> omega
    have hmm : m' ≠ m := by omega
    have hmm1 : m' ≠ m + 1 := by omega
    have hmm2 : m' + 1 ≠ m := by omega
    rw [get, get, if_neg (by omega), if_neg hmm, if_neg (by omega), if_neg (by omega)]
    exact hold
theorem Vok.line {nl : Nat} {R : Rel} {level : Int} {ls : List Int} {ass bss : List (List Int)} {c : Nat} {V : List Int} (h : Vok nl R level ls ass bss c 8 V) : Vok nl R level ls ass bss (c + 1) 0 V :=
  ⟨h.len, fun c' k' hc' hk' hlt => h.vals c' k' hc' hk' (by omega)⟩
theorem Vok.start {nl : Nat} {R : Rel} {level : Int} {ls : List Int} {ass bss : List (List Int)} : Vok nl R level ls ass bss 0 0 [] :=
  ⟨by simp, fun c' k' hc' hk' hlt => by omega⟩
theorem Vok.fullA {nl : Nat} {R : Rel} {level : Int} {ls : List Int} {ass bss : List (List Int)} {V : List Int} (h : Vok nl R level ls ass bss ls.length 0 V) : full (valA ls.length V) 8 ls.length = full (fA ass) 8 ls.length := by
  unfold full
  refine List.map_congr_left fun c hc => List.map_congr_left fun k hk => ?_
  rw [List.mem_range] at hc hk
  exact (h.vals c k hc hk (.inl hc)).1
theorem Vok.fullB {nl : Nat} {R : Rel} {level : Int} {ls : List Int} {ass bss : List (List Int)} {V : List Int} (h : Vok nl R level ls ass bss ls.length 0 V) : full (valB ls.length nl R level ls V) 8 ls.length = full (fB nl R level ls ass bss) 8 ls.length := by
  unfold full
  refine List.map_congr_left fun c hc => List.map_congr_left fun k hk => ?_
  rw [List.mem_range] at hc hk
  exact (h.vals c k hc hk (.inl hc)).2
end Go.Proofs.YtmfendfpjpbhdaaDoor
