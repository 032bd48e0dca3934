/- Package simp: the rules one after another, plain; a rule called by its value. Package simp: a rule called by its value. -/
import Derived.Test.YtcpgiadhmmmafaaSimpE
import Derived.Test.YtcpgiadhmmmafaaPlainS
namespace Go.Proofs.Ytcpgiadhmmmafaa
open Go.RowKit Go.Maps
set_option maxHeartbeats 1600000

/-- What a rule answers: its kind, a term, a number. -/
def ruleA (W : Nat) (L : List PNode) (o : Nat) (x y z : Int) : Rul → Nat × Int × Nat
  | .twice => match L[x.toNat]? with
    | some nd => if nd.1 = o then (1, nd.2.2.getD 0 0, 0) else (0, 0, 0)
    | none => (0, 0, 0)
  | .neutral v => if isNum L y = true ∧ numD L y = v then (1, x, 0) else (0, 0, 0)
  | .fixed i v u => if isNum L ([x, y].getD i 0) = true ∧ numD L ([x, y].getD i 0) = v then (2, 0, u) else (0, 0, 0)
  | .equal v => if x = y then (2, 0, v) else (0, 0, 0)
  | .both => if x = y then (1, x, 0) else (0, 0, 0)
  | .full k => if isNum L y = true ∧ numD L y = 2 ^ W - 1 then (k, x, 2 ^ W - 1) else (0, 0, 0)
  | .beyond => if isNum L y = true ∧ W ≤ numD L y then (2, 0, 0) else (0, 0, 0)
  | .chosen => if y = z then (1, y, 0) else if isNum L x = true then (if numD L x ≠ 0 then (1, y, 0) else (1, z, 0)) else (0, 0, 0)
/-- What an answer makes. -/
def ansOf (L : List PNode) (a : Nat × Int × Nat) : Ans := if a.1 = 1 then .term a.2.1 else if a.1 = 2 then .num a.2.2 else oneA L 2 a.2.1
/-- The first rule that answers. -/
def firstA (W : Nat) (L : List PNode) (o : Nat) (x y z : Int) (xs : List Int) : List Rul → Ans
  | [] => .app o xs
  | r :: rs => if (ruleA W L o x y z r).1 = 0 then firstA W L o x y z xs rs else ansOf L (ruleA W L o x y z r)
theorem numOf_iff {L : List PNode} {y : Int} {v : Nat} : numOf L y = some v ↔ isNum L y = true ∧ numD L y = v := by
  unfold isNum numD
  cases numOf L y with
  | none => simp
  | some c => simp
section
variable (W : Nat) (L : List PNode) (o : Nat) (x y z : Int) (xs : List Int)
theorem first_yes {r : Rul} {rs : List Rul} {a : Nat × Int × Nat} (h : ruleA W L o x y z r = a) (ha : a.1 ≠ 0) : firstA W L o x y z xs (r :: rs) = ansOf L a := by
  show (if (ruleA W L o x y z r).1 = 0 then _ else _) = _
  rw [h, if_neg ha]
theorem first_no {r : Rul} {rs : List Rul} (h : (ruleA W L o x y z r).1 = 0) : firstA W L o x y z xs (r :: rs) = firstA W L o x y z xs rs := if_pos h
theorem firstA_nil : firstA W L o x y z xs [] = .app o xs := rfl
theorem f_neutral (v : Nat) (rs : List Rul) : firstA W L o x y z xs (.neutral v :: rs) = if numOf L y = some v then .term x else firstA W L o x y z xs rs := by
  have e : ruleA W L o x y z (.neutral v) = ((if isNum L y = true ∧ numD L y = v then (1, x, 0) else (0, 0, 0)) : Nat × Int × Nat) := rfl
  by_cases h : numOf L y = some v
  · rw [if_pos h, first_yes W L o x y z xs (e.trans (if_pos (numOf_iff.1 h))) (by simp)]; rfl
  · rw [if_neg h, first_no W L o x y z xs (by rw [e, if_neg (fun q => h (numOf_iff.2 q))])]
theorem f_fixed1 (v u : Nat) (rs : List Rul) : firstA W L o x y z xs (.fixed 1 v u :: rs) = if numOf L y = some v then .num u else firstA W L o x y z xs rs := by
  have e : ruleA W L o x y z (.fixed 1 v u) = ((if isNum L y = true ∧ numD L y = v then (2, 0, u) else (0, 0, 0)) : Nat × Int × Nat) := rfl
  by_cases h : numOf L y = some v
  · rw [if_pos h, first_yes W L o x y z xs (e.trans (if_pos (numOf_iff.1 h))) (by simp)]; rfl
  · rw [if_neg h, first_no W L o x y z xs (by rw [e, if_neg (fun q => h (numOf_iff.2 q))])]
theorem f_fixed0 (v u : Nat) (rs : List Rul) : firstA W L o x y z xs (.fixed 0 v u :: rs) = if numOf L x = some v then .num u else firstA W L o x y z xs rs := by
  have e : ruleA W L o x y z (.fixed 0 v u) = ((if isNum L x = true ∧ numD L x = v then (2, 0, u) else (0, 0, 0)) : Nat × Int × Nat) := rfl
  by_cases h : numOf L x = some v
  · rw [if_pos h, first_yes W L o x y z xs (e.trans (if_pos (numOf_iff.1 h))) (by simp)]; rfl
  · rw [if_neg h, first_no W L o x y z xs (by rw [e, if_neg (fun q => h (numOf_iff.2 q))])]
theorem f_equal (v : Nat) (rs : List Rul) : firstA W L o x y z xs (.equal v :: rs) = if x = y then .num v else firstA W L o x y z xs rs := by
  have e : ruleA W L o x y z (.equal v) = ((if x = y then (2, 0, v) else (0, 0, 0)) : Nat × Int × Nat) := rfl
  by_cases h : x = y
  · rw [if_pos h, first_yes W L o x y z xs (e.trans (if_pos h)) (by simp)]; rfl
  · rw [if_neg h, first_no W L o x y z xs (by rw [e, if_neg h])]
theorem f_both  (rs : List Rul) : firstA W L o x y z xs (.both :: rs) = if x = y then .term x else firstA W L o x y z xs rs := by
  have e : ruleA W L o x y z (.both) = ((if x = y then (1, x, 0) else (0, 0, 0)) : Nat × Int × Nat) := rfl
  by_cases h : x = y
  · rw [if_pos h, first_yes W L o x y z xs (e.trans (if_pos h)) (by simp)]; rfl
  · rw [if_neg h, first_no W L o x y z xs (by rw [e, if_neg h])]
theorem f_full (k : Nat) (hk : k ≠ 0) (rs : List Rul) : firstA W L o x y z xs (.full k :: rs) = if numOf L y = some (2 ^ W - 1) then ansOf L (k, x, 2 ^ W - 1) else firstA W L o x y z xs rs := by
  have e : ruleA W L o x y z (.full k) = ((if isNum L y = true ∧ numD L y = 2 ^ W - 1 then (k, x, 2 ^ W - 1) else (0, 0, 0)) : Nat × Int × Nat) := rfl
  by_cases h : numOf L y = some (2 ^ W - 1)
  · rw [if_pos h, first_yes W L o x y z xs (e.trans (if_pos (numOf_iff.1 h))) (show (k, x, 2 ^ W - 1).1 ≠ 0 from hk)]
  · rw [if_neg h, first_no W L o x y z xs (by rw [e, if_neg (fun q => h (numOf_iff.2 q))])]
theorem f_beyond  (rs : List Rul) : firstA W L o x y z xs (.beyond :: rs) = if isNum L y = true ∧ W ≤ numD L y then .num 0 else firstA W L o x y z xs rs := by
  have e : ruleA W L o x y z (.beyond) = ((if isNum L y = true ∧ W ≤ numD L y then (2, 0, 0) else (0, 0, 0)) : Nat × Int × Nat) := rfl
  by_cases h : isNum L y = true ∧ W ≤ numD L y
  · rw [if_pos h, first_yes W L o x y z xs (e.trans (if_pos h)) (by simp)]; rfl
  · rw [if_neg h, first_no W L o x y z xs (by rw [e, if_neg h])]
theorem first_two (h1 : 4 ≤ o) (h2 : o ≤ 20) : firstA W L o x y z [x, y] (rulesOf o) = twoA W L o x y := by
  have hc : o = 4 ∨ o = 5 ∨ o = 6 ∨ o = 7 ∨ o = 8 ∨ o = 9 ∨ o = 10 ∨ o = 11 ∨ o = 12 ∨ o = 13 ∨ o = 14 ∨ o = 15 ∨ o = 16 ∨ o = 17 ∨ o = 18 ∨ o = 19 ∨ o = 20 := by omega
  rcases hc with rfl | rfl | rfl | rfl | rfl | rfl | rfl | rfl | rfl | rfl | rfl | rfl | rfl | rfl | rfl | rfl | rfl <;>
    simp only [rulesOf, f_neutral, f_fixed1, f_fixed0, f_equal, f_both, f_beyond, f_full W L _ x y z _ 1 (by decide), f_full W L _ x y z _ 2 (by decide), f_full W L _ x y z _ 3 (by decide), firstA_nil, ansOf, twoA] <;> simp
end
theorem first_one (W : Nat) (L : List PNode) {o : Nat} (h : o = 2 ∨ o = 3) (x y z : Int) : firstA W L o x y z [x] (rulesOf o) = oneA L o x := by
  have hr : rulesOf o = [.twice] := by rcases h with rfl | rfl <;> rfl
  rw [hr]
  unfold oneA
  cases hx : L[x.toNat]? with
  | none => exact first_no W L o x y z [x] (by simp only [ruleA, hx])
  | some nd =>
    by_cases hn : nd.1 = o
    · rw [first_yes W L o x y z [x] (a := (1, nd.2.2.getD 0 0, 0)) (by simp only [ruleA, hx]; exact if_pos hn) (show (1 : Nat) ≠ 0 by decide)]
      simp only [if_pos hn]; rfl
    · simp only [if_neg hn]
      exact first_no W L o x y z [x] (by simp only [ruleA, hx]; rw [if_neg hn])
theorem first_three (W : Nat) (L : List PNode) (x y z : Int) : firstA W L 21 x y z [x, y, z] (rulesOf 21) = threeA L x y z := by
  show (if (ruleA W L 21 x y z .chosen).1 = 0 then Ans.app 21 [x, y, z] else ansOf L (ruleA W L 21 x y z .chosen)) = _
  unfold threeA
  by_cases h1 : y = z
  · have e : ruleA W L 21 x y z .chosen = (1, y, 0) := if_pos h1
    rw [e, if_pos h1]; rfl
  · by_cases h2 : isNum L x = true
    · by_cases h3 : numD L x ≠ 0
      · have e : ruleA W L 21 x y z .chosen = (1, y, 0) := by simp only [ruleA]; rw [if_neg h1, if_pos h2, if_pos h3]
        rw [e, if_neg h1, if_pos h2, if_pos h3]; rfl
      · have e : ruleA W L 21 x y z .chosen = (1, z, 0) := by simp only [ruleA]; rw [if_neg h1, if_pos h2, if_neg h3]
        rw [e, if_neg h1, if_pos h2, if_neg h3]; rfl
    · have e : ruleA W L 21 x y z .chosen = (0, 0, 0) := by simp only [ruleA]; rw [if_neg h1, if_neg h2]
      rw [e, if_neg h1, if_neg h2]; rfl
end Go.Proofs.Ytcpgiadhmmmafaa
namespace Go.Proofs.Ytcpgiadhmmmafaa
open Go.RowKit Go.Maps
set_option maxHeartbeats 800000

/-- A value that is called with x and answers a. -/
def RulCalls (w : World) (xb : Nat) (f : Value) (a : Nat × Int × Nat) : Prop := ∃ N caps, f = .func (.func N) #[] caps ∧ (∀ w, (callFunc N (#[.pointer (some ⟨xb, 0, none⟩)] ++ caps)).run Try.prog w = .ok (.enter N (#[.pointer (some ⟨xb, 0, none⟩)] ++ caps)) w) ∧ Calls Try.prog N (#[.pointer (some ⟨xb, 0, none⟩)] ++ caps) w fun e w' => e = .returned (ansV a) ∧ Below w.heap.size w w'
section
variable {w : World} {xb gb ab ca nb ib W room mb : Nat} {L : List PNode} {o : Nat} {x y z : Int} {base : Nat} {F I : List Nat} {f : Value}
/-- The rules of two arguments. -/
def Rul.two : Rul → Bool
  | .twice => false
  | .chosen => false
  | .fixed i _ _ => decide (i < 2)
  | _ => true
theorem rule_two (h : Asked w xb gb ab ca nb ib 2 L o [x, y]) (hg : Gr w base F I gb W room L) (r : Rul) (hr : r.two = true) (hf : RulV w mb r f) : RulCalls w xb f (ruleA W L o x y z r) := by
  cases r with
  | twice => cases hr
  | chosen => cases hr
  | neutral v => obtain ⟨b, rfl, hb, -⟩ := hf; exact ⟨_, _, rfl, fun _ => by kernel_rfl, neutral_any h b v hb⟩
  | fixed i v u => obtain ⟨b1, b2, b3, rfl, q1, q2, q3, -⟩ := hf; exact ⟨_, _, rfl, fun _ => by kernel_rfl, fixed_any h b1 b2 b3 i v u (of_decide_eq_true hr) _ rfl q1 q2 q3⟩
  | equal v => obtain ⟨b, rfl, hb, -⟩ := hf; exact ⟨_, _, rfl, fun _ => by kernel_rfl, equal_any h b v hb⟩
  | both => obtain rfl := hf; exact ⟨_, _, rfl, fun _ => by kernel_rfl, both_any h⟩
  | full k => obtain ⟨b, rfl, hb, -⟩ := hf; exact ⟨_, _, rfl, fun _ => by kernel_rfl, full_any h hg b k hb⟩
  | beyond => obtain rfl := hf; exact ⟨_, _, rfl, fun _ => by kernel_rfl, beyond_any h hg⟩
theorem rule_three (h : Asked w xb gb ab ca nb ib 3 L o [x, y, z]) (hf : RulV w mb .chosen f) : RulCalls w xb f (ruleA W L o x y z .chosen) := by
  obtain rfl := hf
  exact ⟨_, _, rfl, fun _ => by kernel_rfl, chosen_any h⟩
theorem rule_one {t : Nat} {nd : PNode} (h : Asked w xb gb ab ca nb ib 1 L o [(t : Int)]) (hg : Gr w base F I gb W room L) (hi : L[t]? = some nd) (ho : aryN o = 1) (hf : RulV w mb .twice f) : RulCalls w xb f (ruleA W L o (t : Int) y z .twice) := by
  obtain rfl := hf
  refine ⟨_, _, rfl, fun _ => by kernel_rfl, ?_⟩
  have e : ruleA W L o (t : Int) y z .twice = if nd.1 = o then (1, nd.2.2.getD 0 0, 0) else (0, 0, 0) := by simp only [ruleA, Int.toNat_natCast, hi]
  rw [e]
  exact twice_any h hg hi ho
/-- Whatever rule it is that an operator has. -/
theorem rules_two (h1 : 4 ≤ o) (h2 : o ≤ 20) : ∀ r ∈ rulesOf o, r.two = true := by
  have hc : o = 4 ∨ o = 5 ∨ o = 6 ∨ o = 7 ∨ o = 8 ∨ o = 9 ∨ o = 10 ∨ o = 11 ∨ o = 12 ∨ o = 13 ∨ o = 14 ∨ o = 15 ∨ o = 16 ∨ o = 17 ∨ o = 18 ∨ o = 19 ∨ o = 20 := by omega
  rcases hc with rfl | rfl | rfl | rfl | rfl | rfl | rfl | rfl | rfl | rfl | rfl | rfl | rfl | rfl | rfl | rfl | rfl <;> simp [rulesOf, Rul.two]
theorem rule_any {n : Nat} {xs : List Int} (h : Asked w xb gb ab ca nb ib n L o xs) (hg : Gr w base F I gb W room L) (ho1 : 2 ≤ o) (ho2 : o ≤ 21) (hl : aryN o = n) (hxs : ∀ t ∈ xs, 0 ≤ t ∧ t < (L.length : Int)) (r : Rul) (hr : r ∈ rulesOf o) (hf : RulV w mb r f) :
    RulCalls w xb f (ruleA W L o (xs.getD 0 0) (xs.getD 1 0) (xs.getD 2 0) r) := by
  have hn := h.len
  by_cases h2 : o ≤ 3
  · have ha : aryN o = 1 := by have : o = 2 ∨ o = 3 := by omega
                               rcases this with rfl | rfl <;> rfl
    obtain rfl : n = 1 := by omega
    obtain ⟨x, rfl⟩ : ∃ x, xs = [x] := by
      match xs, hn with
      | [x], _ => exact ⟨x, rfl⟩
    obtain ⟨t, rfl⟩ := Int.eq_ofNat_of_zero_le (hxs x (by simp)).1
    have ht := (hxs _ (List.mem_singleton.2 rfl)).2
    obtain ⟨nd, hi⟩ : ∃ nd, L[t]? = some nd := ⟨_, List.getElem?_eq_getElem (by omega)⟩
    have hr2 : r = .twice := by
      have : o = 2 ∨ o = 3 := by omega
      rcases this with rfl | rfl <;> simpa [rulesOf] using hr
    subst hr2
    exact rule_one h hg hi ha hf
  · by_cases h3 : o = 21
    · subst h3
      have ha : aryN 21 = 3 := rfl
      obtain rfl : n = 3 := by omega
      obtain ⟨x, y, z, rfl⟩ : ∃ x y z, xs = [x, y, z] := by
        match xs, hn with
        | [x, y, z], _ => exact ⟨x, y, z, rfl⟩
      have hr2 : r = .chosen := by simpa [rulesOf] using hr
      subst hr2
      exact rule_three h hf
    · have ha : aryN o = 2 := by
        have hc : o = 4 ∨ o = 5 ∨ o = 6 ∨ o = 7 ∨ o = 8 ∨ o = 9 ∨ o = 10 ∨ o = 11 ∨ o = 12 ∨ o = 13 ∨ o = 14 ∨ o = 15 ∨ o = 16 ∨ o = 17 ∨ o = 18 ∨ o = 19 ∨ o = 20 := by omega
        rcases hc with rfl | rfl | rfl | rfl | rfl | rfl | rfl | rfl | rfl | rfl | rfl | rfl | rfl | rfl | rfl | rfl | rfl <;> rfl
      obtain rfl : n = 2 := by omega
      obtain ⟨x, y, rfl⟩ : ∃ x y, xs = [x, y] := by
        match xs, hn with
        | [x, y], _ => exact ⟨x, y, rfl⟩
      exact rule_two h hg r (rules_two (by omega) (by omega) r hr) hf
end
end Go.Proofs.Ytcpgiadhmmmafaa
