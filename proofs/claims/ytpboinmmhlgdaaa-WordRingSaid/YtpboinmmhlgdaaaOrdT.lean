/- A region that draws its order: until an operation has come up, what is known of the world holds; by then the loads have come up. -/
import Derived.Test.YtpboinmmhlgdaaaOrd13
namespace Go.Proofs.Ytpboinmmhlgdaaa
open Go

/-- A region, by its number, wherever it stands. -/
def regionBy (id : Nat) : Code → Option Code
  | .region i ops d => if i = id then some (.region i ops d) else none
  | .seq a b => (regionBy id a).or (regionBy id b)
  | .cond _ a b => (regionBy id a).or (regionBy id b)
  | .block _ a => regionBy id a
  | .loop a => regionBy id a
  | _ => none
section
variable {P : Program} {ops : Array Oper} {Q : Exit → Act → World → Prop} {md : Region.Mode} {S : Array Bool → World → Prop}
/-- Until the operation st has come up the world is as T says; by then the loads have come up. -/
def SUpto (T : World → Prop) (st : Nat) (ls : List Nat) (listed : Array Bool) (w : World) : Prop :=
  (listed.getD st true = true ∧ ∀ l ∈ ls, listed.getD l true = true) ∨ (listed.getD st true = false ∧ T w)
theorem wpAnyT_takeU {T : World → Prop} {st : Nat} {ls : List Nat} {i : Nat} {oi : Oper} {v : Value} {fuel : Nat} {listed : Array Bool} {a : Act} {w : World} (hi : ops[i]? = some oi) (hs : Region.noSelect ops = true) (hf : Region.free md ops listed i = true) (hr : (Region.ready md ops listed).contains i = true)
    (hst : i ≠ st) (hk : i ∈ ls → Region.waitsFor md ops st i = true) (hQ : ∀ c a w, Q (.panic c) (a.put oi.dst v) w → Q (.panic c) a w) (hy : YieldsIf P ops (fun w => i ∈ ls → T w) oi v a) (hS : SUpto T st ls listed w)
    (h : SUpto T st ls (listed.setIfInBounds i true) w → wpAnyT P md ops Q (SUpto T st ls) fuel (listed.setIfInBounds i true) (a.put oi.dst v) w) : wpAnyT P md ops Q (SUpto T st ls) (fuel + 1) listed a w := by
  have fwd : ∀ listed w, SUpto T st ls listed w → SUpto T st ls (listed.setIfInBounds i true) w := by
    rintro listed w (⟨h1, h2⟩ | ⟨h1, h2⟩)
    · exact .inl ⟨getD_set_true (.inl h1), fun l hl => getD_set_true (.inl (h2 l hl))⟩
    · exact .inr ⟨by rw [getD_set_ne true hst]; exact h1, h2⟩
  refine wpAnyT_first hi (Region.noSelect_spec hs) hQ ?_ (fun listed w hS _ => fwd listed w hS) ?_ fuel listed a w (Region.free_spec hi hf) (by simpa using hr) hy hS (h (fwd _ _ hS))
  · rintro listed w (⟨h1, h2⟩ | ⟨h1, h2⟩) hr' hil
    · have := (mem_ready.1 hr').1
      rw [h2 i hil] at this
      cases this
    · exact h2
  · rintro listed j w w' hS hr' hj hji hS'
    have hiun := (mem_ready.1 hr').1
    rcases hS with ⟨h1, h2⟩ | ⟨h1, h2⟩
    · exact .inl ⟨getD_set_true (.inl h1), fun l hl => getD_set_true (.inl (h2 l hl))⟩
    · by_cases hjs : j = st
      · subst hjs
        by_cases hil : i ∈ ls
        · obtain ⟨oj, hoj, e, he, hb, heq⟩ := Region.waitsFor_spec (hk hil)
          obtain ⟨_, oj', hoj', hall⟩ := mem_ready.1 hj
          rw [hoj] at hoj'
          cases hoj'
          have h3 := hall e he hb
          rw [heq] at h3
          rw [Array.getD_eq_getD_getElem?] at h3 hiun
          cases hl : listed[i]? with
          | none => rw [hl] at h3; exact absurd h3 (by simp)
          | some b => rw [hl] at h3 hiun; simp only [Option.getD_some] at h3 hiun; rw [h3] at hiun; cases hiun
        · rcases hS' with ⟨_, k2⟩ | ⟨k1, _⟩
          · exact .inl ⟨getD_set_true (.inr rfl), fun l hl => getD_of_set (k2 l hl) (fun e => hil (e ▸ hl))⟩
          · rw [getD_set_true (.inl (getD_set_true (.inr rfl)))] at k1
            cases k1
      · have hu : ((listed.setIfInBounds j true).setIfInBounds i true).getD st true = false := by rw [getD_set_ne true hst, getD_set_ne true hjs]; exact h1
        rcases hS' with ⟨k1, _⟩ | ⟨_, k2⟩
        · rw [hu] at k1; cases k1
        · exact .inr ⟨by rw [getD_set_ne true hjs]; exact h1, k2⟩
theorem wpAnyT_two {i j : Nat} {o o' : Oper} {fuel : Nat} {listed : Array Bool} {a : Act} {w : World} (hr : Region.ready md ops listed = [i, j]) (ho : ops[i]? = some o) (ho' : ops[j]? = some o')
    (h : ∀ K' : Act → World → Prop, Shut (∀ a w, S (listed.setIfInBounds i true) w → (S (listed.setIfInBounds i true) w → wpAnyT P md ops Q S fuel (listed.setIfInBounds i true) a w) → K' a w) → if Region.wanted o (yielded ops a.tmps) = true then Oper.wp P o a w K' Q else K' (a.put o.dst undef) w)
    (h' : ∀ K' : Act → World → Prop, Shut (∀ a w, S (listed.setIfInBounds j true) w → (S (listed.setIfInBounds j true) w → wpAnyT P md ops Q S fuel (listed.setIfInBounds j true) a w) → K' a w) → if Region.wanted o' (yielded ops a.tmps) = true then Oper.wp P o' a w K' Q else K' (a.put o'.dst undef) w) :
    wpAnyT P md ops Q S (fuel + 1) listed a w :=
  wpAnyT_all hr (by simp) fun k hk => by
    simp only [List.mem_cons, List.not_mem_nil, or_false] at hk
    rcases hk with rfl | rfl
    · exact wpOp_step ho (fun K' hK => h K' (fun a w hS hW => hK a w ⟨hS, hW hS⟩))
    · exact wpOp_step ho' (fun K' hK => h' K' (fun a w hS hW => hK a w ⟨hS, hW hS⟩))
end
end Go.Proofs.Ytpboinmmhlgdaaa
