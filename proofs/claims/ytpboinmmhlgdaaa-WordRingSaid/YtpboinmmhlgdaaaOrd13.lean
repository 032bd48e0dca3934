/- A region that draws its order, under a condition that may depend on what has come up. -/
import Derived.OrdersHeld
import Derived.StillTail
import Derived.Deep.RegionHeld3
namespace Go.Proofs.Ytpboinmmhlgdaaa
open Go

section
variable {P : Program} {ops : Array Oper} {Q : Exit → Act → World → Prop} {md : Region.Mode} {S : Array Bool → World → Prop}
/-- Whatever comes up next, and what is known of the world behind it. -/
def wpAnyT (P : Program) (md : Region.Mode) (ops : Array Oper) (Q : Exit → Act → World → Prop) (S : Array Bool → World → Prop) : Nat → Array Bool → Act → World → Prop
  | 0, listed, a, w => Region.ready md ops listed = [] ∧ Q .normal a w
  | fuel + 1, listed, a, w =>
    (Region.ready md ops listed = [] → Q .normal a w) ∧
    ∀ i ∈ Region.ready md ops listed, wpOp P ops Q i (fun a' w' => S (listed.setIfInBounds i true) w' ∧ wpAnyT P md ops Q S fuel (listed.setIfInBounds i true) a' w') a w
theorem wpAny_of_T : ∀ (fuel : Nat) (listed : Array Bool) (a : Act) (w : World), wpAnyT P md ops Q S fuel listed a w → wpAny P md ops Q fuel listed a w
  | 0, _, _, _, h => h
  | fuel + 1, _, _, _, h => ⟨h.1, fun i hi => wpOp_mono (fun a' w' h' => wpAny_of_T fuel _ a' w' h'.2) (h.2 i hi)⟩
theorem wpAnyT_first {T : World → Prop} {i : Nat} {oi : Oper} {v : Value} (hi : ops[i]? = some oi) (hsel : ∀ (j : Nat) (o : Oper) cs b, ops[j]? = some o → o.op ≠ .select cs b)
    (hQ : ∀ c a w, Q (.panic c) (a.put oi.dst v) w → Q (.panic c) a w)
    (hT : ∀ listed w, S listed w → i ∈ Region.ready md ops listed → T w)
    (hfwd : ∀ listed w, S listed w → i ∈ Region.ready md ops listed → S (listed.setIfInBounds i true) w)
    (hback : ∀ listed j w w', S listed w → i ∈ Region.ready md ops listed → j ∈ Region.ready md ops listed → j ≠ i → S ((listed.setIfInBounds j true).setIfInBounds i true) w' → S (listed.setIfInBounds j true) w') :
    ∀ (fuel : Nat) (listed : Array Bool) (a : Act) (w : World),
      (∀ j oj, ops[j]? = some oj → j ≠ i → listed.getD j true = false → (∀ e ∈ oj.after, Region.binds md e = true → e.on ≠ i) → oi.apart ops oj = true) →
      i ∈ Region.ready md ops listed → YieldsIf P ops T oi v a → S listed w →
      wpAnyT P md ops Q S fuel (listed.setIfInBounds i true) (a.put oi.dst v) w → wpAnyT P md ops Q S (fuel + 1) listed a w := by
  intro fuel
  induction fuel with
  | zero =>
    intro listed a w _ hr hy hS H
    refine ⟨fun h => absurd (h ▸ hr) (by simp), fun j hj => ?_⟩
    by_cases hji : j = i
    · subst hji
      exact hy.wpOp hi (hT _ _ hS hr) ⟨hfwd _ _ hS hr, H⟩
    · exact absurd (H.1 ▸ ready_mono hj hji) (by simp)
  | succ fuel ih =>
    intro listed a w hfree hr hy hS H
    refine ⟨fun h => absurd (h ▸ hr) (by simp), fun j hj => ?_⟩
    by_cases hji : j = i
    · subst hji
      exact hy.wpOp hi (hT _ _ hS hr) ⟨hfwd _ _ hS hr, H⟩
    · have h1 := H.2 j (ready_mono hj hji)
      obtain ⟨hjun, oj, hoj, hall⟩ := mem_ready.1 hj
      have hiun := (mem_ready.1 hr).1
      have hnot : ∀ e ∈ oj.after, Region.binds md e = true → e.on ≠ i := fun e he hb heq => by
        have h2 := hall e he hb
        rw [heq] at h2
        rw [Array.getD_eq_getD_getElem?] at h2 hiun
        cases hl : listed[i]? with
        | none => rw [hl] at h2; exact absurd h2 (by simp)
        | some b => rw [hl] at h2 hiun; simp only [Option.getD_some] at h2 hiun; rw [h2] at hiun; cases hiun
      have h2 := wpOp_putIf hoj (hfree j oj hoj hji hjun hnot) (fun cs b => hsel i oi cs b hi) (fun cs b => hsel j oj cs b hoj) hQ hy h1
      refine wpOp_mono (fun a' w' h3 => ?_) h2
      obtain ⟨hy', hS', H'⟩ := h3
      rw [Array.setIfInBounds_comm _ _ (Ne.symm hji)] at hS' H'
      have hS'' := hback _ _ _ _ hS hr hj hji hS'
      refine ⟨hS'', ih _ a' w' (fun k ok hk hki hun hno => hfree k ok hk hki ?_ hno) (ready_mono hr (Ne.symm hji)) hy' hS'' H'⟩
      by_cases hjk : j = k
      · subst hjk; exact hjun
      · rwa [getD_set_ne true hjk] at hun
theorem wpAnyT_all {rs : List Nat} {fuel : Nat} {listed : Array Bool} {a : Act} {w : World} (hr : Region.ready md ops listed = rs) (hne : rs ≠ [])
    (h : ∀ i ∈ rs, wpOp P ops Q i (fun a' w' => S (listed.setIfInBounds i true) w' ∧ wpAnyT P md ops Q S fuel (listed.setIfInBounds i true) a' w') a w) : wpAnyT P md ops Q S (fuel + 1) listed a w :=
  ⟨fun h0 => absurd (hr.symm.trans h0) hne, fun i hi => h i (hr ▸ hi)⟩
theorem getD_set_true {listed : Array Bool} {i x : Nat} (h : listed.getD x true = true ∨ x = i) : (listed.setIfInBounds i true).getD x true = true := by
  by_cases e : i = x
  · subst e
    rw [Array.getD_eq_getD_getElem?, Array.getElem?_setIfInBounds]
    simp only [if_true]
    split <;> rfl
  · rw [getD_set_ne true e]
    exact h.resolve_right (Ne.symm e)
theorem getD_of_set {listed : Array Bool} {i x : Nat} (h : (listed.setIfInBounds i true).getD x true = true) (hne : x ≠ i) : listed.getD x true = true := by
  rwa [getD_set_ne true (Ne.symm hne)] at h
/-- Until the first store has come up the world stands; by then the loads have come up. -/
def S13 (w0 : World) (st : Nat) (ls : List Nat) (listed : Array Bool) (w : World) : Prop :=
  (listed.getD st true = true ∧ ∀ l ∈ ls, listed.getD l true = true) ∨ (listed.getD st true = false ∧ w = w0)
theorem wpAnyT_take {w0 : World} {st : Nat} {ls : List Nat} {i : Nat} {oi : Oper} {v : Value} {fuel : Nat} {listed : Array Bool} {a : Act} {w : World} (hi : ops[i]? = some oi) (hs : Region.noSelect ops = true) (hf : Region.free md ops listed i = true) (hr : (Region.ready md ops listed).contains i = true)
    (hst : i ≠ st) (hk : i ∈ ls → Region.waitsFor md ops st i = true) (hQ : ∀ c a w, Q (.panic c) (a.put oi.dst v) w → Q (.panic c) a w) (hy : YieldsIf P ops (fun w => i ∈ ls → w = w0) oi v a) (hS : S13 w0 st ls listed w)
    (h : S13 w0 st ls (listed.setIfInBounds i true) w → wpAnyT P md ops Q (S13 w0 st ls) fuel (listed.setIfInBounds i true) (a.put oi.dst v) w) : wpAnyT P md ops Q (S13 w0 st ls) (fuel + 1) listed a w := by
  have fwd : ∀ listed w, S13 w0 st ls listed w → S13 w0 st ls (listed.setIfInBounds i true) w := by
    rintro listed w (⟨h1, h2⟩ | ⟨h1, h2⟩)
    · exact .inl ⟨getD_set_true (.inl h1), fun l hl => getD_set_true (.inl (h2 l hl))⟩
    · exact .inr ⟨by rw [getD_set_ne true hst]; exact h1, h2⟩
  refine wpAnyT_first hi (Region.noSelect_spec hs) hQ ?_ (fun listed w hS _ => fwd listed w hS) ?_ fuel listed a w (Region.free_spec hi hf) (by simpa using hr) hy hS (h (fwd _ _ hS))
  · rintro listed w (⟨h1, h2⟩ | ⟨h1, h2⟩) hr' hil
    · have := (mem_ready.1 hr').1
      rw [h2 i hil] at this
      cases this
    · exact h2
  · rintro listed j w w' hS hr' hj hji hS'
    have hiun := (mem_ready.1 hr').1
    rcases hS with ⟨h1, h2⟩ | ⟨h1, h2⟩
    · exact .inl ⟨getD_set_true (.inl h1), fun l hl => getD_set_true (.inl (h2 l hl))⟩
    · by_cases hjs : j = st
      · subst hjs
        by_cases hil : i ∈ ls
        · obtain ⟨oj, hoj, e, he, hb, heq⟩ := Region.waitsFor_spec (hk hil)
          obtain ⟨_, oj', hoj', hall⟩ := mem_ready.1 hj
          rw [hoj] at hoj'
          cases hoj'
          have h3 := hall e he hb
          rw [heq] at h3
          rw [Array.getD_eq_getD_getElem?] at h3 hiun
          cases hl : listed[i]? with
          | none => rw [hl] at h3; exact absurd h3 (by simp)
          | some b => rw [hl] at h3 hiun; simp only [Option.getD_some] at h3 hiun; rw [h3] at hiun; cases hiun
        · rcases hS' with ⟨_, k2⟩ | ⟨k1, _⟩
          · exact .inl ⟨getD_set_true (.inr rfl), fun l hl => getD_of_set (k2 l hl) (fun e => hil (e ▸ hl))⟩
          · rw [getD_set_true (.inl (getD_set_true (.inr rfl)))] at k1
            cases k1
      · have hu : ((listed.setIfInBounds j true).setIfInBounds i true).getD st true = false := by rw [getD_set_ne true hst, getD_set_ne true hjs]; exact h1
        rcases hS' with ⟨k1, _⟩ | ⟨_, k2⟩
        · rw [hu] at k1; cases k1
        · exact .inr ⟨by rw [getD_set_ne true hjs]; exact h1, k2⟩
theorem wpAnyT_one {i : Nat} {o : Oper} {fuel : Nat} {listed : Array Bool} {a : Act} {w : World} (hr : Region.ready md ops listed = [i]) (ho : ops[i]? = some o)
    (h : ∀ K' : Act → World → Prop, Shut (∀ a w, S (listed.setIfInBounds i true) w → (S (listed.setIfInBounds i true) w → wpAnyT P md ops Q S fuel (listed.setIfInBounds i true) a w) → K' a w) → if Region.wanted o (yielded ops a.tmps) = true then Oper.wp P o a w K' Q else K' (a.put o.dst undef) w) :
    wpAnyT P md ops Q S (fuel + 1) listed a w :=
  wpAnyT_all hr (by simp) fun j hj => by
    obtain rfl := List.mem_singleton.1 hj
    exact wpOp_step ho (fun K' hK => h K' (fun a w hS hW => hK a w ⟨hS, hW hS⟩))
theorem wpAnyT_done {listed : Array Bool} {a : Act} {w : World} (hr : Region.ready md ops listed = []) (h : Q .normal a w) : ∀ fuel, wpAnyT P md ops Q S fuel listed a w
  | 0 => ⟨hr, h⟩
  | _ + 1 => ⟨fun _ => h, by rw [hr]; simp⟩
end
end Go.Proofs.Ytpboinmmhlgdaaa
