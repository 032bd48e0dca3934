/- PlainS, PlainP: joined by wip/bundle.py. -/
import Derived.Test.YteamnchoddegpaaGreatDoorB1
import Derived.Test.YteamnchoddegpaaGreatDoorB2
import Derived.Test.YteamnchoddegpaaGreatDoorB3
import Derived.Test.YteamnchoddegpaaGreatDoorB4
import Derived.BigQuiet
namespace Go.Proofs.YteamnchoddegpaaGreatDoor
/-- The number of a term that is one. -/
def numOf (L : List PNode) (t : Int) : Option Nat := if 0 ≤ t then (match L[t.toNat]? with | some n => if n.1 = 0 then some n.2.1 else none | none => none) else none
def numD (L : List PNode) (t : Int) : Nat := (numOf L t).getD 0
def isNum (L : List PNode) (t : Int) : Bool := (numOf L t).isSome
def commN (o : Nat) : Bool := decide (o = 4 ∨ o = 6 ∨ o = 9 ∨ o = 10 ∨ o = 11 ∨ o = 15 ∨ o = 16)
/-- What a simple term is: a term, a number, or an operator with arguments. -/
inductive Ans where
  | term (t : Int)
  | num (v : Nat)
  | app (o : Nat) (xs : List Int)
def Ans.res (W room : Nat) (L : List PNode) : Ans → List PNode × Nat × Nat
  | .term t => (L, t.toNat, 0)
  | .num v => constR W room L v
  | .app o xs => appR room L o xs
/-- The rules of operators with one argument. -/
def oneA (L : List PNode) (o : Nat) (x : Int) : Ans := match L[x.toNat]? with
  | some n => if n.1 = o then .term (n.2.2.getD 0 0) else .app o [x]
  | none => .app o [x]
/-- The rules of operators with two arguments. -/
def twoA (W : Nat) (L : List PNode) (o : Nat) (x y : Int) : Ans :=
  if o = 4 then (if numOf L y = some 0 then .term x else .app o [x, y])
  else if o = 5 then (if numOf L y = some 0 then .term x else if x = y then .num 0 else .app o [x, y])
  else if o = 6 then (if numOf L y = some 0 then .num 0 else if numOf L y = some 1 then .term x else .app o [x, y])
  else if o = 7 then (if numOf L y = some 1 then .term x else .app o [x, y])
  else if o = 8 then (if numOf L y = some 1 then .num 0 else .app o [x, y])
  else if o = 9 then (if numOf L y = some 0 then .num 0 else if numOf L y = some (2 ^ W - 1) then .term x else if x = y then .term x else .app o [x, y])
  else if o = 10 then (if numOf L y = some 0 then .term x else if numOf L y = some (2 ^ W - 1) then .num (2 ^ W - 1) else if x = y then .term x else .app o [x, y])
  else if o = 11 then (if numOf L y = some 0 then .term x else if numOf L y = some (2 ^ W - 1) then oneA L 2 x else if x = y then .num 0 else .app o [x, y])
  else if o = 12 ∨ o = 13 then (if numOf L y = some 0 then .term x else if isNum L y = true ∧ W ≤ numD L y then .num 0 else .app o [x, y])
  else if o = 14 then (if numOf L y = some 0 then .term x else .app o [x, y])
  else if o = 15 ∨ o = 20 then (if x = y then .num 1 else .app o [x, y])
  else if o = 18 then (if x = y then .num 1 else if numOf L x = some 0 then .num 1 else .app o [x, y])
  else if o = 16 ∨ o = 19 then (if x = y then .num 0 else .app o [x, y])
  else if o = 17 then (if x = y then .num 0 else if numOf L y = some 0 then .num 0 else .app o [x, y])
  else .app o [x, y]
/-- The rules of ite. -/
def threeA (L : List PNode) (x y z : Int) : Ans :=
  if y = z then .term y else if isNum L x = true then (if numD L x ≠ 0 then .term y else .term z) else .app 21 [x, y, z]
def swapA (L : List PNode) (o : Nat) (x y : Int) : Prop := commN o = true ∧ (isNum L x = true ∨ isNum L y = false ∧ y < x)
instance (L : List PNode) (o : Nat) (x y : Int) : Decidable (swapA L o x y) := by unfold swapA; exact inferInstance
/-- The simple term of an operator and arguments. -/
def simpA (W : Nat) (L : List PNode) (o : Nat) (xs : List Int) : Ans :=
  if ∀ t ∈ xs, isNum L t = true then .num (wI o W (xs.map fun t => (numD L t : Int))).toNat
  else match xs with
    | [x] => oneA L o x
    | [x, y] => if swapA L o x y then twoA W L o y x else twoA W L o x y
    | [x, y, z] => threeA L x y z
    | _ => .app o xs
end Go.Proofs.YteamnchoddegpaaGreatDoor
namespace Go.Proofs.YteamnchoddegpaaGreatDoor
theorem aryN_le3 (n : Nat) : aryN n ≤ 3 := by
  unfold aryN
  split
  · omega
  · split
    · omega
    · split <;> omega
section
variable {W : Nat} {vals : List Int} {L : List PNode}
theorem numOf_at {t : Int} {c : Nat} (h : numOf L t = some c) : 0 ≤ t ∧ ∃ n, L[t.toNat]? = some n ∧ n.1 = 0 ∧ n.2.1 = c := by
  unfold numOf at h
  split at h
  · split at h
    · split at h
      · exact ⟨by assumption, _, by assumption, by assumption, by simpa using h⟩
      · cases h
    · cases h
  · cases h
theorem numOf_val (hwf : WFL L) (hg : GoodL W L) {t : Int} {c : Nat} (h : numOf L t = some c) : val W vals L t.toNat = (c : Int) ∧ c < 2 ^ W := by
  obtain ⟨_, n, hn, h0, h1⟩ := numOf_at h
  have hgd := hg n (List.mem_of_getElem? hn)
  refine ⟨by rw [val_at hwf hn, valN, if_pos h0, h1], ?_⟩
  rcases hgd with ⟨_, h2, _⟩ | ⟨h2, _⟩ | ⟨h2, _⟩
  · omega
  · omega
  · omega
theorem isNum_some {t : Int} (h : isNum L t = true) : numOf L t = some (numD L t) := by
  unfold isNum at h
  unfold numD
  cases hn : numOf L t with
  | none => rw [hn] at h; cases h
  | some c => rfl
/-- The value of a simple term. -/
def ansVal (W : Nat) (vals : List Int) (L : List PNode) : Ans → Int
  | .term t => val W vals L t.toNat
  | .num v => ((v % 2 ^ W : Nat) : Int)
  | .app o xs => wI o W (xs.map fun a => val W vals L a.toNat)
theorem wI_eq {o : Nat} (h1 : 1 ≤ W) (h2 : W ≤ 64) (ho1 : 2 ≤ o) (ho2 : o ≤ 21) {xs : List Int} (hl : aryN o = xs.length) : wI o W xs = ((wop W o ((xs.getD 0 0).toNat % 2 ^ W) ((xs.getD 1 0).toNat % 2 ^ W) ((xs.getD 2 0).toNat % 2 ^ W) : Nat) : Int) := by
  unfold wI
  rw [if_pos (wE_zero h1 h2 ho1 ho2 hl)]
  simp only [Int.toNat_natCast, wA]
theorem wop_not (W a : Nat) (ha : a < 2 ^ W) : wop W 2 (wop W 2 a 0 0) 0 0 = a := by
  show 2 ^ W - 1 - (2 ^ W - 1 - a) = a
  omega
theorem wop_neg (W a : Nat) (ha : a < 2 ^ W) : wop W 3 (wop W 3 a 0 0) 0 0 = a := by
  show (2 ^ W - (2 ^ W - a) % 2 ^ W) % 2 ^ W = a
  rcases Nat.eq_zero_or_pos a with h | h
  · subst h; simp
  · rw [Nat.mod_eq_of_lt (show 2 ^ W - a < 2 ^ W by omega), show 2 ^ W - (2 ^ W - a) = a by omega, Nat.mod_eq_of_lt ha]
theorem and_ones (W a : Nat) (ha : a < 2 ^ W) : a &&& (2 ^ W - 1) = a := by rw [Nat.and_two_pow_sub_one_eq_mod, Nat.mod_eq_of_lt ha]
theorem or_ones (W a : Nat) (ha : a < 2 ^ W) : a ||| (2 ^ W - 1) = 2 ^ W - 1 := by
  apply Nat.eq_of_testBit_eq
  intro i
  rw [Nat.testBit_or, Nat.testBit_two_pow_sub_one]
  by_cases hi : i < W
  · simp [hi]
  · rw [Nat.testBit_lt_two_pow (Nat.lt_of_lt_of_le ha (Nat.pow_le_pow_right (by decide) (by omega)))]; simp [hi]
theorem xor_onesW (W a : Nat) (ha : a < 2 ^ W) : a ^^^ (2 ^ W - 1) = 2 ^ W - 1 - a := by
  apply Nat.eq_of_testBit_eq
  intro i
  rw [Nat.testBit_xor, Nat.testBit_two_pow_sub_one, Nat.sub_sub, Nat.add_comm, Nat.testBit_two_pow_sub_succ ha]
  by_cases hi : i < W
  · simp [hi]
  · rw [Nat.testBit_lt_two_pow (Nat.lt_of_lt_of_le ha (Nat.pow_le_pow_right (by decide) (by omega)))]; simp [hi]
theorem one_lt_pow {W : Nat} (h : 1 ≤ W) : 1 < 2 ^ W := by have := two_le_pow h; omega
/-- Not of a term, made simple. -/
theorem oneA_val (hwf : WFL L) (hg : GoodL W L) (h1 : 1 ≤ W) (h2 : W ≤ 64) {o : Nat} (ho : o = 2 ∨ o = 3) (x : Int) : ansVal W vals L (oneA L o x) = wI o W [val W vals L x.toNat] := by
  have hl : aryN o = 1 := by rcases ho with rfl | rfl <;> rfl
  unfold oneA
  split
  · rename_i n hn
    split
    · rename_i hno
      have hw := val_word h1 h2 vals hwf hg (n.2.2.getD 0 0).toNat
      obtain ⟨a, ha⟩ := Int.eq_ofNat_of_zero_le hw.1
      have hok := (hwf.ok n (List.mem_of_getElem? hn)).2.2
      obtain ⟨y, hy⟩ : ∃ y, n.2.2 = [y] := by
        rw [hno, hl] at hok
        match n.2.2, hok with
        | [y], _ => exact ⟨y, rfl⟩
      show val W vals L (n.2.2.getD 0 0).toNat = _
      rw [val_at hwf hn, valN_app (by omega) (by omega), hno, hy]
      rw [hy] at ha hw
      have hgd : val W vals L (([y] : List Int).getD 0 0).toNat = val W vals L y.toNat := rfl
      rw [hgd] at ha hw ⊢
      show _ = wI o W [wI o W [val W vals L y.toNat]]
      rw [ha, wI_eq h1 h2 (by omega) (by omega) (xs := [((a : Nat) : Int)]) (by rw [hl]; rfl)]
      rw [wI_eq h1 h2 (by omega) (by omega) (xs := [_]) (by rw [hl]; rfl)]
      simp only [List.getD_cons_zero, List.getD_cons_succ, List.getD_nil, Int.toNat_natCast, Int.toNat_zero, Nat.zero_mod]
      have ha2 : a < 2 ^ W := by rw [ha] at hw; omega
      rw [Nat.mod_eq_of_lt ha2, Nat.mod_eq_of_lt (wop_lt W o a 0 0 h1 ha2 (pow_pos2 W) (pow_pos2 W))]
      rcases ho with rfl | rfl
      · rw [wop_not W a ha2]
      · rw [wop_neg W a ha2]
    · rfl
  · rfl
theorem wI_two' {o : Nat} (h1 : 1 ≤ W) (h2 : W ≤ 64) (ho : 4 ≤ o ∧ o ≤ 20) (a b : Nat) (ha : a < 2 ^ W) (hb : b < 2 ^ W) : wI o W [(a : Int), (b : Int)] = ((wop W o a b 0 : Nat) : Int) := by
  rw [wI_eq h1 h2 (by omega) (by omega) (by unfold aryN; rw [if_neg (by omega), if_neg (by omega), if_neg (by omega)]; rfl)]
  simp only [List.getD_cons_zero, List.getD_cons_succ, List.getD_nil, Int.toNat_natCast, Int.toNat_zero, Nat.zero_mod]
  rw [Nat.mod_eq_of_lt ha, Nat.mod_eq_of_lt hb]
theorem twoA_val (hwf : WFL L) (hg : GoodL W L) (h1 : 1 ≤ W) (h2 : W ≤ 64) {o : Nat} (ho : 4 ≤ o ∧ o ≤ 20) (x y : Int) : ansVal W vals L (twoA W L o x y) = wI o W [val W vals L x.toNat, val W vals L y.toNat] := by
  have hx := val_word h1 h2 vals hwf hg x.toNat
  have hy := val_word h1 h2 vals hwf hg y.toNat
  obtain ⟨u, hu⟩ := Int.eq_ofNat_of_zero_le hx.1
  obtain ⟨v, hv⟩ := Int.eq_ofNat_of_zero_le hy.1
  have hul : u < 2 ^ W := by omega
  have hvl : v < 2 ^ W := by omega
  have hp := pow_pos2 W
  have h1p := one_lt_pow h1
  have happ : ansVal W vals L (.app o [x, y]) = ((wop W o u v 0 : Nat) : Int) := by
    show wI o W [val W vals L x.toNat, val W vals L y.toNat] = _
    rw [hu, hv, wI_two' h1 h2 ho u v hul hvl]
  have hnum : ∀ c, numOf L y = some c → v = c := fun c hc => by have := (numOf_val (vals := vals) hwf hg hc).1; omega
  have hnumx : ∀ c, numOf L x = some c → u = c := fun c hc => by have := (numOf_val (vals := vals) hwf hg hc).1; omega
  have heq : x = y → u = v := fun e => by subst e; omega
  have hterm : ansVal W vals L (.term x) = (u : Int) := hu
  have hconst : ∀ c, c < 2 ^ W → ansVal W vals L (.num c) = (c : Int) := fun c hc => by show ((c % 2 ^ W : Nat) : Int) = _; rw [Nat.mod_eq_of_lt hc]
  rw [hu, hv, wI_two' h1 h2 ho u v hul hvl]
  have hone := oneA_val (vals := vals) hwf hg h1 h2 (o := 2) (.inl rfl) x
  have hsw : 2 ^ W - 1 < 2 ^ W := by omega
  unfold twoA
  by_cases hc0 : o = 4
  · rw [if_pos hc0]
    subst o
    split
    · rw [hterm, hnum 0 (by assumption)]; congr 1; show u = (u + 0) % 2 ^ W; rw [Nat.add_zero, Nat.mod_eq_of_lt hul]
    · exact happ
  rw [if_neg hc0]
  by_cases hc1 : o = 5
  · rw [if_pos hc1]
    subst o
    split
    · rw [hterm, hnum 0 (by assumption)]; congr 1; show u = (u + 2 ^ W - 0) % 2 ^ W; rw [Nat.sub_zero, Nat.add_mod_right, Nat.mod_eq_of_lt hul]
    · split
      · rw [hconst 0 hp, heq (by assumption)]; congr 1; show 0 = (v + 2 ^ W - v) % 2 ^ W; rw [Nat.add_sub_cancel_left, Nat.mod_self]
      · exact happ
  rw [if_neg hc1]
  by_cases hc2 : o = 6
  · rw [if_pos hc2]
    subst o
    split
    · rw [hconst 0 hp, hnum 0 (by assumption)]; congr 1 <;> (show 0 = u * 0 % 2 ^ W; rw [Nat.mul_zero, Nat.zero_mod])
    · split
      · rw [hterm, hnum 1 (by assumption)]; congr 1; show u = u * 1 % 2 ^ W; rw [Nat.mul_one, Nat.mod_eq_of_lt hul]
      · exact happ
  rw [if_neg hc2]
  by_cases hc3 : o = 7
  · rw [if_pos hc3]
    subst o
    split
    · rw [hterm, hnum 1 (by assumption)]; congr 1; show u = if (1 : Nat) = 0 then 2 ^ W - 1 else u / 1; rw [if_neg (by decide), Nat.div_one]
    · exact happ
  rw [if_neg hc3]
  by_cases hc4 : o = 8
  · rw [if_pos hc4]
    subst o
    split
    · rw [hconst 0 hp, hnum 1 (by assumption)]; congr 1; show 0 = if (1 : Nat) = 0 then u else u % 1; rw [if_neg (by decide), Nat.mod_one]
    · exact happ
  rw [if_neg hc4]
  by_cases hc5 : o = 9
  · rw [if_pos hc5]
    subst o
    split
    · rw [hconst 0 hp, hnum 0 (by assumption)]; congr 1; show 0 = u &&& 0; rw [Nat.and_zero]
    · split
      · rw [hterm, hnum _ (by assumption)]; congr 1; exact (and_ones W u hul).symm
      · split
        · rw [hterm, ← heq (by assumption)]; congr 1; exact (Nat.and_self u).symm
        · exact happ
  rw [if_neg hc5]
  by_cases hc6 : o = 10
  · rw [if_pos hc6]
    subst o
    split
    · rw [hterm, hnum 0 (by assumption)]; congr 1; show u = u ||| 0; rw [Nat.or_zero]
    · split
      · rw [hconst _ hsw, hnum _ (by assumption)]; congr 1; exact (or_ones W u hul).symm
      · split
        · rw [hterm, ← heq (by assumption)]; congr 1; exact (Nat.or_self u).symm
        · exact happ
  rw [if_neg hc6]
  by_cases hc7 : o = 11
  · rw [if_pos hc7]
    subst o
    split
    · rw [hterm, hnum 0 (by assumption)]; congr 1; show u = u ^^^ 0; rw [Nat.xor_zero]
    · split
      · rw [hone, hu, wI_eq h1 h2 (by decide) (by decide) (xs := [(u : Int)]) rfl, hnum _ (by assumption)]
        congr 1
        simp only [List.getD_cons_zero, List.getD_cons_succ, List.getD_nil, Int.toNat_natCast, Int.toNat_zero, Nat.zero_mod]
        rw [Nat.mod_eq_of_lt hul]
        show 2 ^ W - 1 - u = u ^^^ (2 ^ W - 1)
        exact (xor_onesW W u hul).symm
      · split
        · rw [hconst 0 hp, ← heq (by assumption)]; congr 1; exact (Nat.xor_self u).symm
        · exact happ
  rw [if_neg hc7]
  by_cases hc8 : o = 12 ∨ o = 13
  · rw [if_pos hc8]
    have hoo := hc8
    have hsh : ∀ o', o' = 12 ∨ o' = 13 → wop W o' u 0 0 = u := fun o' h => by
      rcases h with rfl | rfl
      · show (if W ≤ 0 then 0 else u * 2 ^ 0 % 2 ^ W) = u
        rw [if_neg (by omega), Nat.pow_zero, Nat.mul_one, Nat.mod_eq_of_lt hul]
      · show (if W ≤ 0 then 0 else u / 2 ^ 0) = u
        rw [if_neg (by omega), Nat.pow_zero, Nat.div_one]
    have hfar : ∀ o', o' = 12 ∨ o' = 13 → W ≤ v → wop W o' u v 0 = 0 := fun o' h hw => by
      rcases h with rfl | rfl
      · show (if W ≤ v then 0 else u * 2 ^ v % 2 ^ W) = 0
        rw [if_pos hw]
      · show (if W ≤ v then 0 else u / 2 ^ v) = 0
        rw [if_pos hw]
    split
    · rw [hterm, hnum 0 (by assumption), hsh o hoo]
    · split
      · rename_i hb
        rw [hconst 0 hp, hfar o hoo (by rw [hnum _ (isNum_some hb.1)]; exact hb.2)]
      · exact happ
  rw [if_neg hc8]
  by_cases hc9 : o = 14
  · rw [if_pos hc9]
    subst o
    split
    · rw [hterm, hnum 0 (by assumption)]
      congr 1
      show u = if u < 2 ^ (W - 1) then u / 2 ^ min 0 64 else 2 ^ W - 1 - (2 ^ W - 1 - u) / 2 ^ min 0 64
      rw [show min 0 64 = 0 from rfl, Nat.pow_zero, Nat.div_one, Nat.div_one]
      split <;> omega
    · exact happ
  rw [if_neg hc9]
  by_cases hc10 : o = 15 ∨ o = 20
  · rw [if_pos hc10]
    have hoo := hc10
    split
    · rw [hconst 1 h1p, ← heq (by assumption)]
      congr 1
      rcases hoo with rfl | rfl
      · show 1 = b01 (u == u); simp [b01]
      · show 1 = b01 (decide (sgn W u ≤ sgn W u)); simp [b01]
    · exact happ
  rw [if_neg hc10]
  by_cases hc11 : o = 18
  · rw [if_pos hc11]
    subst o
    split
    · rw [hconst 1 h1p, ← heq (by assumption)]
      congr 1
      show 1 = b01 (decide (u ≤ u)); simp [b01]
    · split
      · rw [hconst 1 h1p, hnumx 0 (by assumption)]
        congr 1 <;> (show 1 = b01 (decide (0 ≤ v)); simp [b01])
      · exact happ
  rw [if_neg hc11]
  by_cases hc12 : o = 16 ∨ o = 19
  · rw [if_pos hc12]
    have hoo := hc12
    split
    · rw [hconst 0 hp, ← heq (by assumption)]
      congr 1
      rcases hoo with rfl | rfl
      · show 0 = b01 (u != u); simp [b01]
      · show 0 = b01 (decide (sgn W u < sgn W u)); simp [b01]
    · exact happ
  rw [if_neg hc12]
  by_cases hc13 : o = 17
  · rw [if_pos hc13]
    subst o
    split
    · rw [hconst 0 hp, ← heq (by assumption)]
      congr 1
      show 0 = b01 (decide (u < u)); simp [b01]
    · split
      · rw [hconst 0 hp, hnum 0 (by assumption)]
        congr 1 <;> (show 0 = b01 (decide (u < 0)); simp [b01])
      · exact happ
  rw [if_neg hc13]
  exact happ
theorem threeA_val (hwf : WFL L) (hg : GoodL W L) (h1 : 1 ≤ W) (h2 : W ≤ 64) (x y z : Int) : ansVal W vals L (threeA L x y z) = wI (21 : Nat) W [val W vals L x.toNat, val W vals L y.toNat, val W vals L z.toNat] := by
  have hx := val_word h1 h2 vals hwf hg x.toNat
  have hy := val_word h1 h2 vals hwf hg y.toNat
  have hz := val_word h1 h2 vals hwf hg z.toNat
  obtain ⟨u, hu⟩ := Int.eq_ofNat_of_zero_le hx.1
  obtain ⟨v, hv⟩ := Int.eq_ofNat_of_zero_le hy.1
  obtain ⟨q, hq⟩ := Int.eq_ofNat_of_zero_le hz.1
  have hul : u < 2 ^ W := by omega
  have hvl : v < 2 ^ W := by omega
  have hql : q < 2 ^ W := by omega
  have hw : wI (21 : Nat) W [val W vals L x.toNat, val W vals L y.toNat, val W vals L z.toNat] = ((if u = 0 then q else v : Nat) : Int) := by
    rw [hu, hv, hq, wI_eq h1 h2 (by decide) (by decide) rfl]
    simp only [List.getD_cons_zero, List.getD_cons_succ, Int.toNat_natCast]
    rw [Nat.mod_eq_of_lt hul, Nat.mod_eq_of_lt hvl, Nat.mod_eq_of_lt hql]; rfl
  rw [hw]
  unfold threeA
  split
  · rename_i e
    subst e
    have : q = v := by omega
    subst this
    show val W vals L y.toNat = _
    rw [hv]; split <;> rfl
  · split
    · rename_i hn
      have hc := (numOf_val (vals := vals) hwf hg (isNum_some hn)).1
      have huc : u = numD L x := by omega
      split
      · rename_i hne
        show val W vals L y.toNat = _
        rw [hv, if_neg (by omega)]
      · rename_i hne
        show val W vals L z.toNat = _
        rw [hq, if_pos (by omega)]
    · exact hw
theorem comm_val {o : Nat} (hc : commN o = true) (h1 : 1 ≤ W) (h2 : W ≤ 64) {a b : Int} (ha : 0 ≤ a ∧ a < ((2 ^ W : Nat) : Int)) (hb : 0 ≤ b ∧ b < ((2 ^ W : Nat) : Int)) : wI o W [a, b] = wI o W [b, a] := by
  obtain ⟨u, rfl⟩ := Int.eq_ofNat_of_zero_le ha.1
  obtain ⟨v, rfl⟩ := Int.eq_ofNat_of_zero_le hb.1
  have hul : u < 2 ^ W := by omega
  have hvl : v < 2 ^ W := by omega
  have ho : o = 4 ∨ o = 6 ∨ o = 9 ∨ o = 10 ∨ o = 11 ∨ o = 15 ∨ o = 16 := by simpa [commN] using hc
  rw [wI_two' h1 h2 (by omega) u v hul hvl, wI_two' h1 h2 (by omega) v u hvl hul]
  have := m_comm W o u v ho
  unfold wm at this
  rw [Nat.mod_eq_of_lt hul, Nat.mod_eq_of_lt hvl] at this
  rw [this]
/-- The value of a simple term is what the operator makes of the arguments' values. -/
theorem simpA_val (hwf : WFL L) (hg : GoodL W L) (h1 : 1 ≤ W) (h2 : W ≤ 64) {o : Nat} (ho1 : 2 ≤ o) (ho2 : o ≤ 21) {xs : List Int} (hl : aryN o = xs.length) : ansVal W vals L (simpA W L o xs) = wI o W (xs.map fun a => val W vals L a.toNat) := by
  unfold simpA
  split
  · rename_i hall
    have he : (xs.map fun t => (numD L t : Int)) = xs.map fun a => val W vals L a.toNat := List.map_congr_left fun t ht => ((numOf_val (vals := vals) hwf hg (isNum_some (hall t ht))).1).symm
    rw [he]
    have hb := wI_bounds o W (xs.map fun a => val W vals L a.toNat) (by omega) (by omega)
    show (((wI o W (xs.map fun a => val W vals L a.toNat)).toNat % 2 ^ W : Nat) : Int) = _
    rw [Int.toNat_natCast] at hb
    rw [Nat.mod_eq_of_lt (by omega)]
    omega
  · match xs, hl with
    | [], hl => exact absurd hl (by have := aryN_pos ho1; simpa using this)
    | [x], hl => exact oneA_val hwf hg h1 h2 (by unfold aryN at hl; rw [if_neg (by omega)] at hl; split at hl; · omega
                                                 · split at hl <;> simp at hl) x
    | [x, y], hl =>
      have ho : 4 ≤ o ∧ o ≤ 20 := by
        unfold aryN at hl; rw [if_neg (by omega)] at hl
        split at hl
        · simp at hl
        · split at hl
          · simp at hl
          · omega
      show ansVal W vals L (if swapA L o x y then twoA W L o y x else twoA W L o x y) = _
      split
      · rename_i hs
        rw [twoA_val hwf hg h1 h2 ho]
        exact comm_val hs.1 h1 h2 (val_word h1 h2 vals hwf hg _) (val_word h1 h2 vals hwf hg _)
      · exact twoA_val hwf hg h1 h2 ho x y
    | [x, y, z], hl =>
      obtain rfl : o = 21 := by
        unfold aryN at hl; rw [if_neg (by omega)] at hl
        split at hl
        · simp at hl
        · split at hl
          · assumption
          · simp at hl
      exact threeA_val hwf hg h1 h2 x y z
    | _ :: _ :: _ :: _ :: _, hl => 
      exfalso
      have := aryN_le3 o
      simp at hl; omega
end
end Go.Proofs.YteamnchoddegpaaGreatDoor
namespace Go.Proofs.YteamnchoddegpaaGreatDoor
/-- What becomes of a graph that is asked for the simple term of an operator and arguments. -/
def simpR (W room : Nat) (L : List PNode) (o : Nat) (xs : List Int) : List PNode × Nat × Nat :=
  if o ≤ 21 ∧ aryN o ≠ 0 ∧ aryN o = xs.length then (if ∀ a ∈ xs, (0 : Int) ≤ a ∧ a < (L.length : Int) then (simpA W L o xs).res W room L else (L, 0, 3)) else (L, 0, 2)
theorem simpR_in {W room : Nat} {L : List PNode} {o : Nat} {xs : List Int} (h1 : 2 ≤ o) (h2 : o ≤ 21) (hl : aryN o = xs.length) (hin : ∀ a ∈ xs, (0 : Int) ≤ a ∧ a < (L.length : Int)) : simpR W room L o xs = (simpA W L o xs).res W room L := by
  unfold simpR
  rw [if_pos ⟨h2, aryN_pos h1, hl⟩, if_pos hin]
/-- What an answer of the rules is. -/
def AnsOk (L : List PNode) : Ans → Prop
  | .term t => 0 ≤ t ∧ t < (L.length : Int)
  | .num _ => True
  | .app o xs => 2 ≤ o ∧ o ≤ 21 ∧ aryN o = xs.length ∧ ∀ a ∈ xs, (0 : Int) ≤ a ∧ a < (L.length : Int)
theorem ite_ok {P : Ans → Prop} {c : Prop} [Decidable c] {a b : Ans} (ha : P a) (hb : P b) : P (if c then a else b) := by
  split
  · exact ha
  · exact hb
section
variable {W room : Nat} {L L' : List PNode} {o : Nat} {x y z : Int} {xs : List Int}
theorem oneA_cases (L : List PNode) (o : Nat) (x : Int) : oneA L o x = .app o [x] ∨ ∃ n, L[x.toNat]? = some n ∧ oneA L o x = .term (n.2.2.getD 0 0) ∧ n.1 = o := by
  unfold oneA
  cases h : L[x.toNat]? with
  | none => exact .inl rfl
  | some n =>
    by_cases hn : n.1 = o
    · exact .inr ⟨n, rfl, if_pos hn, hn⟩
    · exact .inl (if_neg hn)
theorem oneA_ok (hw : WFL L) (h0 : 0 ≤ x) (h1 : x < (L.length : Int)) (ho : o = 2 ∨ o = 3) : AnsOk L (oneA L o x) := by
  rcases oneA_cases L o x with h | ⟨n, hn, h, hno⟩
  · rw [h]
    exact ⟨by omega, by omega, by rcases ho with rfl | rfl <;> rfl, fun a ha => by obtain rfl := List.mem_singleton.1 ha; exact ⟨h0, h1⟩⟩
  · rw [h]
    have hl := (hw.ok n (List.mem_of_getElem? hn)).2.2
    have ha := hw.args _ n hn
    have hx := (List.getElem?_eq_some_iff.1 hn).1
    have h1 : aryN n.1 = 1 := by rcases ho with rfl | rfl <;> rw [hno] <;> rfl
    rw [h1] at hl
    match n.2.2, hl, ha with
    | [a], _, ha =>
      have := ha a (by simp)
      show 0 ≤ a ∧ a < _
      omega
theorem twoA_pred {P : Ans → Prop} (h1 : P (.term x)) (h2 : ∀ v, P (.num v)) (h3 : P (oneA L 2 x)) (h4 : P (.app o [x, y])) : P (twoA W L o x y) := by
  unfold twoA
  repeat' (refine ite_ok ?_ ?_)
  all_goals first | exact h1 | exact h4 | exact h3 | exact h2 _
theorem simpA_ok (hw : WFL L) (h1 : 2 ≤ o) (h2 : o ≤ 21) (hl : aryN o = xs.length) (hin : ∀ a ∈ xs, (0 : Int) ≤ a ∧ a < (L.length : Int)) : AnsOk L (simpA W L o xs) := by
  unfold simpA
  split
  · trivial
  · match xs, hl, hin with
    | [], hl, _ => exact absurd hl (aryN_pos h1)
    | [x], hl, hin =>
      have := hin x (by simp)
      exact oneA_ok hw this.1 this.2 (by unfold aryN at hl; rw [if_neg (by omega)] at hl; split at hl; · omega
                                         · split at hl <;> simp at hl)
    | [x, y], hl, hin =>
      have hx := hin x (by simp)
      have hy := hin y (by simp)
      have h4 : AnsOk L (.app o [x, y]) := ⟨h1, h2, hl, hin⟩
      have h5 : AnsOk L (.app o [y, x]) := ⟨h1, h2, hl, fun a ha => hin a (by simpa [or_comm] using ha)⟩
      refine ite_ok ?_ ?_
      · exact twoA_pred hy (fun _ => trivial) (oneA_ok hw hy.1 hy.2 (.inl rfl)) h5
      · exact twoA_pred hx (fun _ => trivial) (oneA_ok hw hx.1 hx.2 (.inl rfl)) h4
    | [x, y, z], hl, hin =>
      obtain rfl : o = 21 := by
        unfold aryN at hl; rw [if_neg (by omega)] at hl
        split at hl
        · simp at hl
        · split at hl
          · assumption
          · simp at hl
      show AnsOk L (threeA L x y z)
      unfold threeA
      repeat' (refine ite_ok ?_ ?_)
      · exact hin y (by simp)
      · exact hin y (by simp)
      · exact hin z (by simp)
      · exact ⟨h1, h2, hl, hin⟩
    | _ :: _ :: _ :: _ :: _, hl, _ =>
      exfalso
      have := aryN_le3 o
      simp at hl; omega
/-! What stays in a longer graph. -/
theorem ans_prefix (a : Ans) : L <+: (a.res W room L).1 := by
  cases a with
  | term t => exact List.prefix_refl _
  | num v => exact isPrefix_const W room L v
  | app o xs => exact isPrefix_app room L o xs
theorem ans_wf (hw : WFL L) (hW : W ≤ 64) (a : Ans) (ha : AnsOk L a) : WFL (a.res W room L).1 := by
  cases a with
  | term t => exact hw
  | num v =>
    have hp : 2 ^ W ≤ 2 ^ 64 := Nat.pow_le_pow_right (by decide) hW
    have hlt := Nat.mod_lt v (pow_pos2 W)
    exact askP_wf hw room ⟨by show 0 ≤ 21; omega, by show v % 2 ^ W ≤ _; omega, by show 0 = aryN 0; rfl⟩ (by simp)
  | app o xs =>
    obtain ⟨h1, h2, h3, h4⟩ := ha
    show WFL (appR room L o xs).1
    unfold appR
    rw [if_pos ⟨h2, aryN_pos h1, h3⟩, if_pos h4]
    exact askP_wf hw room ⟨h2, by show 0 ≤ _; omega, h3.symm⟩ h4
theorem ans_good (hg : GoodL W L) (a : Ans) : GoodL W (a.res W room L).1 := by
  cases a with
  | term t => exact hg
  | num v => exact hg.const room v
  | app o xs => exact hg.app room o xs
theorem ask_room {n : PNode} (h : L.length < room) : (askP room L n).2.2 = 0 := by
  unfold askP
  cases L.findIdx? (· == n) with
  | some t => rfl
  | none => dsimp only; rw [if_neg (by omega)]
theorem ask_term {n : PNode} (h : (askP room L n).2.2 = 0) : (askP room L n).1[(askP room L n).2.1]? = some n := by
  unfold askP at h ⊢
  cases hf : L.findIdx? (· == n) with
  | some t => exact find_some hf
  | none =>
    rw [hf] at h
    dsimp only at h ⊢
    by_cases hr : room ≤ L.length
    · rw [if_pos hr] at h; cases h
    · rw [if_neg hr]; simp
/-- With room no answer is refused. -/
theorem ans_room (hr : L.length < room) (a : Ans) (ha : AnsOk L a) : (a.res W room L).2.2 = 0 := by
  cases a with
  | term t => rfl
  | num v => exact ask_room hr
  | app o xs =>
    obtain ⟨h1, h2, h3, h4⟩ := ha
    show (appR room L o xs).2.2 = 0
    unfold appR
    rw [if_pos ⟨h2, aryN_pos h1, h3⟩, if_pos h4]
    exact ask_room hr
theorem ans_len (a : Ans) : (a.res W room L).1.length ≤ L.length + 1 := by
  cases a with
  | term t => exact Nat.le_succ _
  | num v => exact (askP_len room L _).2
  | app o xs =>
    show (appR room L o xs).1.length ≤ _
    unfold appR
    split
    · split
      · exact (askP_len room L _).2
      · exact Nat.le_succ _
    · exact Nat.le_succ _
/-- An answer's term is one of the graph. -/
theorem ans_term (a : Ans) (ha : AnsOk L a) (he : (a.res W room L).2.2 = 0) : (a.res W room L).2.1 < (a.res W room L).1.length := by
  cases a with
  | term t => have : 0 ≤ t ∧ t < (L.length : Int) := ha; show t.toNat < L.length; omega
  | num v => exact (List.getElem?_eq_some_iff.1 (ask_term (n := (0, v % 2 ^ W, [])) he)).1
  | app o xs =>
    obtain ⟨h1, h2, h3, h4⟩ := ha
    have e : Ans.res W room L (.app o xs) = askP room L (o, 0, xs) := by
      show appR room L o xs = _
      unfold appR
      rw [if_pos ⟨h2, aryN_pos h1, h3⟩, if_pos h4]
    rw [e] at he ⊢
    exact (List.getElem?_eq_some_iff.1 (ask_term he)).1
/-- The value of an answer's term. -/
theorem ans_val (hw : WFL L) (hW : W ≤ 64) {vals : List Int} (a : Ans) (ha : AnsOk L a) (he : (a.res W room L).2.2 = 0) : val W vals (a.res W room L).1 (a.res W room L).2.1 = ansVal W vals L a := by
  have hwf := ans_wf (room := room) hw hW a ha
  have hpre := ans_prefix (W := W) (room := room) (L := L) a
  cases a with
  | term t => rfl
  | num v =>
    have e : Ans.res W room L (.num v) = askP room L (0, v % 2 ^ W, []) := rfl
    rw [e] at he hwf ⊢
    rw [val_at hwf (ask_term he), valN_const rfl]; rfl
  | app o xs =>
    obtain ⟨h1, h2, h3, h4⟩ := ha
    have e : Ans.res W room L (.app o xs) = askP room L (o, 0, xs) := by
      show appR room L o xs = _
      unfold appR
      rw [if_pos ⟨h2, aryN_pos h1, h3⟩, if_pos h4]
    rw [e] at he hwf hpre ⊢
    rw [val_at hwf (ask_term he), valN_app (by show o ≠ 0; omega) (by show o ≠ 1; omega)]
    show wI o W (xs.map fun a => (valsL W vals _).getD a.toNat 0) = wI o W (xs.map fun a => val W vals L a.toNat)
    congr 1
    exact List.map_congr_left fun a ha => val_prefix hpre (by have := h4 a ha; omega)
end
end Go.Proofs.YteamnchoddegpaaGreatDoor
namespace Go.Proofs.YteamnchoddegpaaGreatDoor
/-- The arguments of a node. -/
def argsOf (L : List PNode) (j : Nat) : List Int := match L[j]? with | some n => n.2.2 | none => []
/-- The arguments of a node that occurs occur. -/
def occStep (L : List PNode) (j : Nat) (f : Nat → Bool) : Nat → Bool := fun i => f i || (f j && (argsOf L j).any fun a => a.toNat == i)
def occDown (L : List PNode) : Nat → (Nat → Bool) → Nat → Bool
  | 0, f => f
  | k + 1, f => occDown L k (occStep L k f)
/-- What occurs in the term t. -/
def occ (L : List PNode) (t : Nat) : Nat → Bool := occDown L (t + 1) (fun i => i == t)
/-- Terms made anew: the nodes, what became of each term, the error. -/
def madeStep (W room : Nat) (L0 : List PNode) (O : Nat → Bool) (lf : Nat → PNode → Int) (i : Nat) (s : List PNode × List Int × Nat) : List PNode × List Int × Nat :=
  match L0[i]? with
  | none => s
  | some n =>
    if O i = false then (s.1, s.2.1 ++ [(i : Int)], 0)
    else if n.2.2 = [] then (s.1, s.2.1 ++ [lf i n], 0)
    else
      if (simpR W room s.1 n.1 (n.2.2.map fun a => s.2.1.getD a.toNat 0)).2.2 = 0 then ((simpR W room s.1 n.1 (n.2.2.map fun a => s.2.1.getD a.toNat 0)).1, s.2.1 ++ [((simpR W room s.1 n.1 (n.2.2.map fun a => s.2.1.getD a.toNat 0)).2.1 : Int)], 0)
      else ((simpR W room s.1 n.1 (n.2.2.map fun a => s.2.1.getD a.toNat 0)).1, s.2.1, (simpR W room s.1 n.1 (n.2.2.map fun a => s.2.1.getD a.toNat 0)).2.2)
def madeRun (W room : Nat) (L0 : List PNode) (O : Nat → Bool) (lf : Nat → PNode → Int) : Nat → List PNode × List Int × Nat
  | 0 => (L0, [], 0)
  | i + 1 => if (madeRun W room L0 O lf i).2.2 = 0 then madeStep W room L0 O lf i (madeRun W room L0 O lf i) else madeRun W room L0 O lf i
/-- The end of it. -/
def madeEnd (t : Nat) (s : List PNode × List Int × Nat) : List PNode × Nat × Nat := if s.2.2 = 0 then (s.1, (s.2.1.getD t 0).toNat, 0) else (s.1, 0, s.2.2)
section
variable {W room : Nat} {L L0 : List PNode} {O : Nat → Bool} {lf : Nat → PNode → Int} {f g : Nat → Bool}
theorem occStep_no {j : Nat} (h : f j = false) : occStep L j f = f := by
  funext i; unfold occStep; rw [h]; simp
theorem occStep_mono {j i : Nat} (h : f i = true) : occStep L j f i = true := by unfold occStep; rw [h]; rfl
theorem occDown_mono {i : Nat} : ∀ (k : Nat) (f : Nat → Bool), f i = true → occDown L k f i = true
  | 0, _, h => h
  | k + 1, _f, h => occDown_mono k _ (occStep_mono h)
/-- Later steps mark smaller nodes alone. -/
theorem occDown_same (hw : WFL L) {i : Nat} : ∀ (k : Nat) (f : Nat → Bool), k ≤ i → occDown L k f i = f i
  | 0, _, _ => rfl
  | k + 1, f, h => by
    show occDown L k (occStep L k f) i = f i
    rw [occDown_same hw k _ (by omega)]
    unfold occStep
    have : ((argsOf L k).any fun a => a.toNat == i) = false := by
      rw [List.any_eq_false]
      intro a ha
      unfold argsOf at ha
      split at ha
      · rename_i n hn
        have := hw.args k n hn a ha
        simp; omega
      · cases ha
    rw [this]; simp
/-- The arguments of what occurs occur. -/
theorem occ_args (hw : WFL L) {t j : Nat} (hj : j ≤ t) (ho : occ L t j = true) : ∀ a ∈ argsOf L j, occ L t a.toNat = true := by
  have key : ∀ (k : Nat) (f : Nat → Bool), j < k → occDown L k f j = true → ∀ a ∈ argsOf L j, occDown L k f a.toNat = true := by
    intro k
    induction k with
    | zero => intro f h; omega
    | succ k ih =>
      intro f hk h a ha
      show occDown L k (occStep L k f) a.toNat = true
      rcases Nat.lt_or_ge j k with h1 | h1
      · exact ih _ h1 h a ha
      · obtain rfl : j = k := by omega
        have hf : f j = true := by
          have h2 : occDown L j (occStep L j f) j = true := h
          rw [occDown_same hw j _ (Nat.le_refl _)] at h2
          unfold occStep at h2
          have : ((argsOf L j).any fun a => a.toNat == j) = false := by
            rw [List.any_eq_false]
            intro b hb
            unfold argsOf at hb
            split at hb
            · rename_i n hn
              have := hw.args j n hn b hb
              simp; omega
            · cases hb
          rw [this] at h2
          simpa using h2
        refine occDown_mono _ _ ?_
        unfold occStep
        rw [hf]
        have : ((argsOf L j).any fun b => b.toNat == a.toNat) = true := List.any_eq_true.2 ⟨a, ha, by simp⟩
        rw [this]; simp
  exact key (t + 1) _ (by omega) ho
theorem occ_top (L : List PNode) (t : Nat) : occ L t t = true := occDown_mono _ _ (by simp)
/-! Steps. -/
theorem madeRun_succ {i : Nat} (h : (madeRun W room L0 O lf i).2.2 = 0) : madeRun W room L0 O lf (i + 1) = madeStep W room L0 O lf i (madeRun W room L0 O lf i) := if_pos h
theorem madeRun_stop {i k : Nat} (h : (madeRun W room L0 O lf i).2.2 ≠ 0) (hk : i ≤ k) : madeRun W room L0 O lf k = madeRun W room L0 O lf i := by
  induction k with
  | zero => obtain rfl : i = 0 := by omega
            rfl
  | succ k ih =>
    rcases Nat.lt_or_ge i (k + 1) with h1 | h1
    · have := ih (by omega)
      show (if (madeRun W room L0 O lf k).2.2 = 0 then _ else madeRun W room L0 O lf k) = _
      rw [this, if_neg h]
    · obtain rfl : i = k + 1 := by omega
      rfl
theorem step_skip {i : Nat} {n : PNode} {s : List PNode × List Int × Nat} (hn : L0[i]? = some n) (h : O i = false) : madeStep W room L0 O lf i s = (s.1, s.2.1 ++ [(i : Int)], 0) := by
  unfold madeStep; rw [hn]; exact if_pos h
theorem step_leaf {i : Nat} {n : PNode} {s : List PNode × List Int × Nat} (hn : L0[i]? = some n) (h : O i = true) (ha : n.2.2 = []) : madeStep W room L0 O lf i s = (s.1, s.2.1 ++ [lf i n], 0) := by
  unfold madeStep; rw [hn]; simp only [h, Bool.true_eq_false, if_false, if_pos ha]
theorem step_app {i : Nat} {n : PNode} {s : List PNode × List Int × Nat} {R : List PNode × Nat × Nat} (hn : L0[i]? = some n) (h : O i = true) (ha : n.2.2 ≠ []) (hR : simpR W room s.1 n.1 (n.2.2.map fun a => s.2.1.getD a.toNat 0) = R) :
    madeStep W room L0 O lf i s = if R.2.2 = 0 then (R.1, s.2.1 ++ [(R.2.1 : Int)], 0) else (R.1, s.2.1, R.2.2) := by
  subst hR
  unfold madeStep; rw [hn]; simp only [h, Bool.true_eq_false, if_false, if_neg ha]
theorem madeStep_len {i : Nat} {s : List PNode × List Int × Nat} (hi : i < L0.length) (he : (madeStep W room L0 O lf i s).2.2 = 0) (hs : s.2.1.length = i) : (madeStep W room L0 O lf i s).2.1.length = i + 1 := by
  obtain ⟨n, hn⟩ : ∃ n, L0[i]? = some n := ⟨_, List.getElem?_eq_getElem hi⟩
  cases hO : O i with
  | false => rw [step_skip hn hO]; simp [hs]
  | true =>
    by_cases ha : n.2.2 = []
    · rw [step_leaf hn hO ha]; simp [hs]
    · rw [step_app hn hO ha rfl] at he ⊢
      split
      · simp [hs]
      · rename_i hc
        rw [if_neg hc] at he
        exact absurd he hc
theorem madeRun_len {k : Nat} (hk : k ≤ L0.length) (he : (madeRun W room L0 O lf k).2.2 = 0) : (madeRun W room L0 O lf k).2.1.length = k := by
  induction k with
  | zero => rfl
  | succ k ih =>
    by_cases h0 : (madeRun W room L0 O lf k).2.2 = 0
    · rw [madeRun_succ h0] at he ⊢
      exact madeStep_len (by omega) he (ih (by omega) h0)
    · rw [madeRun_stop h0 (Nat.le_succ k)] at he
      exact absurd he h0
theorem madeRun_ok {k : Nat} (he : (madeRun W room L0 O lf (k + 1)).2.2 = 0) : (madeRun W room L0 O lf k).2.2 = 0 := by
  by_cases h0 : (madeRun W room L0 O lf k).2.2 = 0
  · exact h0
  · rw [madeRun_stop h0 (Nat.le_succ k)] at he; exact he
end
end Go.Proofs.YteamnchoddegpaaGreatDoor
namespace Go.Proofs.YteamnchoddegpaaGreatDoor
section
variable {W room : Nat} {L0 : List PNode} {O : Nat → Bool} {lf : Nat → PNode → Int}
/-- What holds of terms that were made anew. -/
structure MadeInv (W room : Nat) (L0 : List PNode) (k : Nat) (s : List PNode × List Int × Nat) : Prop where
  wf : WFL s.1
  good : GoodL W s.1
  pre : L0 <+: s.1
  len : s.1.length ≤ L0.length + k
  many : s.2.1.length = k
  at_ : ∀ (i : Nat) (m : Int), s.2.1[i]? = some m → 0 ≤ m ∧ m < (s.1.length : Int)
theorem made_args {k : Nat} {s : List PNode × List Int × Nat} (h : MadeInv W room L0 k s) {xs : List Int} (hx : ∀ a ∈ xs, (0 : Int) ≤ a ∧ a < (k : Int)) : ∀ b ∈ xs.map (fun a => s.2.1.getD a.toNat 0), (0 : Int) ≤ b ∧ b < (s.1.length : Int) := by
  intro b hb
  obtain ⟨a, ha, rfl⟩ := List.mem_map.1 hb
  have hk := hx a ha
  obtain ⟨m, hm⟩ : ∃ m, s.2.1[a.toNat]? = some m := ⟨_, List.getElem?_eq_getElem (by rw [h.many]; omega)⟩
  rw [List.getD_eq_getElem?_getD, hm]
  exact h.at_ _ _ hm
/-- A node with arguments. -/
theorem good_app {n : PNode} (hg : NodeGood W n) (ha : n.2.2 ≠ []) : 2 ≤ n.1 ∧ n.1 ≤ 21 ∧ n.2.1 = 0 ∧ aryN n.1 = n.2.2.length := by
  rcases hg with ⟨_, _, h⟩ | ⟨_, _, h⟩ | h
  · exact absurd h ha
  · exact absurd h ha
  · exact h
theorem made_step (hW : W ≤ 64) {k : Nat} {s : List PNode × List Int × Nat} (h : MadeInv W room L0 k s) (hw0 : WFL L0) (hg0 : GoodL W L0) (hk : k < L0.length)
    (hlf : ∀ n, L0[k]? = some n → 0 ≤ lf k n ∧ lf k n < (L0.length : Int)) (he : (madeStep W room L0 O lf k s).2.2 = 0) : MadeInv W room L0 (k + 1) (madeStep W room L0 O lf k s) := by
  obtain ⟨n, hn⟩ : ∃ n, L0[k]? = some n := ⟨_, List.getElem?_eq_getElem hk⟩
  have hl := h.pre.length_le
  have put : ∀ v : Int, 0 ≤ v → v < (L0.length : Int) → MadeInv W room L0 (k + 1) (s.1, s.2.1 ++ [v], 0) := by
    intro v h0 h1
    refine ⟨h.wf, h.good, h.pre, Nat.le_succ_of_le h.len, by simp [h.many], fun i m hm => ?_⟩
    simp only at hm
    rcases Nat.lt_or_ge i s.2.1.length with hi | hi
    · rw [List.getElem?_append_left hi] at hm
      exact h.at_ i m hm
    · rw [List.getElem?_append_right hi] at hm
      have : m = v := by
        cases hd : i - s.2.1.length with
        | zero => rw [hd] at hm; simpa using hm.symm
        | succ j => rw [hd] at hm; simp at hm
      subst this
      exact ⟨h0, by show m < (s.1.length : Int); omega⟩
  cases hO : O k with
  | false => rw [step_skip hn hO]; exact put _ (by omega) (by omega)
  | true =>
    by_cases ha : n.2.2 = []
    · rw [step_leaf hn hO ha]
      have := hlf n hn
      exact put _ this.1 this.2
    · obtain ⟨h1, h2, _, h3⟩ := good_app (hg0 n (List.mem_of_getElem? hn)) ha
      have hin := made_args h (hw0.args k n hn)
      have hR := simpR_in (W := W) (room := room) h1 h2 (by rw [List.length_map]; exact h3) hin
      rw [step_app hn hO ha hR] at he ⊢
      have hok := simpA_ok (W := W) h.wf h1 h2 (by rw [List.length_map]; exact h3) hin
      have hpre := ans_prefix (W := W) (room := room) (L := s.1) (simpA W s.1 n.1 (n.2.2.map fun a => s.2.1.getD a.toNat 0))
      have hal := ans_len (W := W) (room := room) (L := s.1) (simpA W s.1 n.1 (n.2.2.map fun a => s.2.1.getD a.toNat 0))
      have hwf := ans_wf (room := room) h.wf hW _ hok
      have hgd := ans_good (room := room) h.good (simpA W s.1 n.1 (n.2.2.map fun a => s.2.1.getD a.toNat 0))
      have htm := ans_term (W := W) (room := room) _ hok
      generalize Ans.res W room s.1 (simpA W s.1 n.1 (n.2.2.map fun a => s.2.1.getD a.toNat 0)) = R at *
      split
      · rename_i hc
        have hsl := h.len
        have hpl := hpre.length_le
        refine ⟨hwf, hgd, h.pre.trans hpre, by show R.1.length ≤ L0.length + (k + 1); omega, by simp [h.many], fun i m hm => ?_⟩
        simp only at hm
        show 0 ≤ m ∧ m < (R.1.length : Int)
        rcases Nat.lt_or_ge i s.2.1.length with hi | hi
        · rw [List.getElem?_append_left hi] at hm
          have := h.at_ i m hm
          omega
        · rw [List.getElem?_append_right hi] at hm
          have hv := htm hc
          have : m = (R.2.1 : Int) := by
            cases hd : i - s.2.1.length with
            | zero => rw [hd] at hm; simpa using hm.symm
            | succ j => rw [hd] at hm; simp at hm
          subst this
          omega
      · rename_i hc
        rw [if_neg hc] at he
        exact absurd he hc
theorem made_inv (hW : W ≤ 64) (hw0 : WFL L0) (hg0 : GoodL W L0) (hlf : ∀ i n, L0[i]? = some n → 0 ≤ lf i n ∧ lf i n < (L0.length : Int)) : ∀ k, k ≤ L0.length → (madeRun W room L0 O lf k).2.2 = 0 → MadeInv W room L0 k (madeRun W room L0 O lf k)
  | 0, _, _ => ⟨hw0, hg0, List.prefix_refl _, Nat.le_refl _, rfl, fun i m hm => by simp [madeRun] at hm⟩
  | k + 1, hk, he => by
    have h0 := madeRun_ok he
    rw [madeRun_succ h0] at he ⊢
    exact made_step hW (made_inv hW hw0 hg0 hlf k (by omega) h0) hw0 hg0 (by omega) (hlf k) he
/-- With room nothing is refused. -/
theorem made_room (hW : W ≤ 64) (hw0 : WFL L0) (hg0 : GoodL W L0) (hlf : ∀ i n, L0[i]? = some n → 0 ≤ lf i n ∧ lf i n < (L0.length : Int)) : ∀ k, k ≤ L0.length → L0.length + k ≤ room → (madeRun W room L0 O lf k).2.2 = 0
  | 0, _, _ => rfl
  | k + 1, hk, hr => by
    have h0 := made_room hW hw0 hg0 hlf k (by omega) (by omega)
    have h := made_inv (O := O) hW hw0 hg0 hlf k (by omega) h0
    rw [madeRun_succ h0]
    obtain ⟨n, hn⟩ : ∃ n, L0[k]? = some n := ⟨_, List.getElem?_eq_getElem (by omega)⟩
    cases hO : O k with
    | false => rw [step_skip hn hO]
    | true =>
      by_cases ha : n.2.2 = []
      · rw [step_leaf hn hO ha]
      · obtain ⟨h1, h2, _, h3⟩ := good_app (hg0 n (List.mem_of_getElem? hn)) ha
        have hin := made_args h (hw0.args k n hn)
        have hR := simpR_in (W := W) (room := room) h1 h2 (by rw [List.length_map]; exact h3) hin
        have hok := simpA_ok (W := W) h.wf h1 h2 (by rw [List.length_map]; exact h3) hin
        have hlen := h.len
        rw [step_app hn hO ha hR, if_pos (ans_room (by omega) _ hok)]
/-- The values of terms that were made anew. -/
theorem made_vals (h1 : 1 ≤ W) (hW : W ≤ 64) (hw0 : WFL L0) (hg0 : GoodL W L0) (hlf : ∀ i n, L0[i]? = some n → 0 ≤ lf i n ∧ lf i n < (L0.length : Int)) {vals vals2 : List Int}
    (hO : ∀ i n, L0[i]? = some n → O i = true → ∀ a ∈ n.2.2, O a.toNat = true)
    (hv : ∀ i n, L0[i]? = some n → O i = true → n.2.2 = [] → val W vals2 L0 (lf i n).toNat = val W vals L0 i) :
    ∀ k, k ≤ L0.length → (madeRun W room L0 O lf k).2.2 = 0 → ∀ i, i < k → O i = true → val W vals2 (madeRun W room L0 O lf k).1 ((madeRun W room L0 O lf k).2.1.getD i 0).toNat = val W vals L0 i
  | 0, _, _ => fun i hi => by omega
  | k + 1, hk, he => by
    have h0 := madeRun_ok he
    have ih := made_vals h1 hW hw0 hg0 hlf hO hv k (by omega) h0
    have h := made_inv (O := O) hW hw0 hg0 hlf k (by omega) h0
    have h' := made_inv (O := O) hW hw0 hg0 hlf (k + 1) hk he
    rw [madeRun_succ h0] at he h' ⊢
    obtain ⟨n, hn⟩ : ∃ n, L0[k]? = some n := ⟨_, List.getElem?_eq_getElem (by omega)⟩
    generalize madeRun W room L0 O lf k = s at *
    intro i hi hOi
    have old : ∀ (M : List PNode) (v : Int) (i : Nat), s.1 <+: M → i < k → val W vals2 M ((s.2.1 ++ [v]).getD i 0).toNat = val W vals2 s.1 (s.2.1.getD i 0).toNat := by
      intro M v i hp hi
      obtain ⟨m, hm⟩ : ∃ m, s.2.1[i]? = some m := ⟨_, List.getElem?_eq_getElem (by rw [h.many]; omega)⟩
      rw [List.getD_eq_getElem?_getD, List.getElem?_append_left (by rw [h.many]; omega), List.getD_eq_getElem?_getD, hm]
      have := h.at_ i m hm
      exact val_prefix hp (by show m.toNat < _; omega)
    have top : ∀ v : Int, (s.2.1 ++ [v]).getD k 0 = v := by
      intro v
      rw [List.getD_eq_getElem?_getD, List.getElem?_append_right (by rw [h.many]; omega), h.many]
      simp
    have hlk : i < k ∨ i = k := by omega
    by_cases hOk : O k = true
    · by_cases ha : n.2.2 = []
      · rw [step_leaf hn hOk ha]
        rcases hlk with hik | rfl
        · rw [old _ _ _ (List.prefix_refl _) hik]; exact ih i hik hOi
        · show val W vals2 s.1 ((s.2.1 ++ [lf i n]).getD i 0).toNat = _
          rw [top]
          have := hlf i n hn
          rw [val_prefix h.pre (by omega)]
          exact hv i n hn hOk ha
      · obtain ⟨g1, g2, _, g3⟩ := good_app (hg0 n (List.mem_of_getElem? hn)) ha
        have hin := made_args h (hw0.args k n hn)
        have hR := simpR_in (W := W) (room := room) g1 g2 (by rw [List.length_map]; exact g3) hin
        have hok := simpA_ok (W := W) h.wf g1 g2 (by rw [List.length_map]; exact g3) hin
        rw [step_app hn hOk ha hR] at he ⊢
        have hc : (Ans.res W room s.1 (simpA W s.1 n.1 (n.2.2.map fun a => s.2.1.getD a.toNat 0))).2.2 = 0 := by
          split at he
          · assumption
          · exact he
        rw [if_pos hc]
        rcases hlk with hik | rfl
        · rw [old _ _ _ (ans_prefix _) hik]; exact ih i hik hOi
        · show val W vals2 _ ((s.2.1 ++ [_]).getD i 0).toNat = _
          rw [top, Int.toNat_natCast, ans_val h.wf hW _ hok hc, simpA_val h.wf h.good h1 hW g1 g2 (by rw [List.length_map]; exact g3), val_at hw0 hn, valN_app (by omega) (by omega), List.map_map]
          congr 1
          refine List.map_congr_left fun a ha' => ?_
          have hai := hw0.args i n hn a ha'
          exact ih a.toNat (by omega) (hO i n hn hOk a ha')
    · rw [Bool.not_eq_true] at hOk
      rw [step_skip hn hOk]
      rcases hlk with hik | rfl
      · rw [old _ _ _ (List.prefix_refl _) hik]; exact ih i hik hOi
      · rw [hOk] at hOi; cases hOi
end
end Go.Proofs.YteamnchoddegpaaGreatDoor
namespace Go.Proofs.YteamnchoddegpaaGreatDoor
section
variable {W room : Nat} {L L' : List PNode} {o : Nat} {x y z : Int} {xs : List Int}
end
section
variable {W room : Nat} {L L' L0 : List PNode} {o : Nat} {xs : List Int}
theorem argsOf_prefix (h : L <+: L') {j : Nat} (hj : j < L.length) : argsOf L' j = argsOf L j := by
  unfold argsOf
  obtain ⟨n, hn⟩ : ∃ n, L[j]? = some n := ⟨_, List.getElem?_eq_getElem hj⟩
  rw [prefix_at h hn, hn]
/-- The nodes of such a term. -/
theorem occ_closed {S : Nat → Prop} (hS : ∀ j, S j → ∀ a ∈ argsOf L j, S a.toNat) : ∀ (k : Nat) (f : Nat → Bool), (∀ i, f i = true → S i) → ∀ i, occDown L k f i = true → S i
  | 0, _, hf, i, hi => hf i hi
  | k + 1, f, hf, i, hi => occ_closed hS k (occStep L k f) (fun j hj => by
      unfold occStep at hj
      rw [Bool.or_eq_true] at hj
      rcases hj with hj | hj
      · exact hf j hj
      · rw [Bool.and_eq_true, List.any_eq_true] at hj
        obtain ⟨hk, a, ha, hja⟩ := hj
        have : a.toNat = j := by simpa using hja
        rw [← this]
        exact hS k (hf k hk) a ha) i hi
theorem occ_in {S : Nat → Prop} {t : Nat} (ht : S t) (hS : ∀ j, S j → ∀ a ∈ argsOf L j, S a.toNat) : ∀ i, occ L t i = true → S i :=
  occ_closed hS _ _ fun i hi => by
    have : i = t := by simpa using hi
    rw [this]; exact ht
end
end Go.Proofs.YteamnchoddegpaaGreatDoor
namespace Go.Proofs.YteamnchoddegpaaGreatDoor
section
variable {W room : Nat} {L L' L0 : List PNode} {o : Nat} {xs : List Int} {Q : List PNode → Int → Prop}
/-- What occurs in a term is not greater than it. -/
theorem occ_le (hw : WFL L) {t i : Nat} (h : occ L t i = true) : i ≤ t := by
  rcases Nat.lt_or_ge t i with hi | hi
  · unfold occ at h
    rw [occDown_same hw (t + 1) _ (by omega)] at h
    have : i = t := by simpa using h
    omega
  · exact hi
theorem occ_hO (hw : WFL L) {t : Nat} : ∀ i n, L[i]? = some n → occ L t i = true → ∀ a ∈ n.2.2, occ L t a.toNat = true := fun i n hn ho a ha =>
  occ_args hw (occ_le hw ho) ho a (by unfold argsOf; rw [hn]; exact ha)
end
/-- A term none of whose nodes is the variable v. -/
def NoVar (L : List PNode) (v t : Nat) : Prop := ∃ S : Nat → Prop, S t ∧ ∀ j, S j → j < L.length ∧ (∀ n, L[j]? = some n → n.1 = 1 → n.2.1 ≠ v) ∧ ∀ a ∈ argsOf L j, S a.toNat
section
variable {W room : Nat} {L L' : List PNode} {o v : Nat} {xs : List Int}
theorem NoVar.at {t : Nat} (hf : NoVar L v t) {n : PNode} (hn : L[t]? = some n) (h1 : n.1 = 1) : n.2.1 ≠ v := by
  obtain ⟨S, hS, hc⟩ := hf
  exact (hc t hS).2.1 n hn h1
end
end Go.Proofs.YteamnchoddegpaaGreatDoor
namespace Go.Proofs.YteamnchoddegpaaGreatDoor
/-- What takes the place of a variable, by pairs. -/
def subOf (ps : List (Int × Int)) (v : Nat) : Option Int := (ps.find? fun p => p.1 == (v : Int)).map (·.2)
def subLf (ps : List (Int × Int)) (i : Nat) (n : PNode) : Int := if n.1 = 1 then (subOf ps n.2.1).getD i else i
/-- The first error of the pairs. -/
def subErr (L : List PNode) (ps : List (Int × Int)) : Nat → Nat
  | 0 => 0
  | k + 1 => if subErr L ps k ≠ 0 then subErr L ps k else match ps[k]? with
    | none => 0
    | some p => if p.1 ∈ (ps.take k).map (·.1) then 8 else if 0 ≤ p.2 ∧ p.2 < (L.length : Int) then 0 else 3
/-- What becomes of a graph in one of whose terms terms take the place of variables. -/
def substR (W room : Nat) (L : List PNode) (t : Int) (ps : List (Int × Int)) : List PNode × Nat × Nat :=
  if 0 ≤ t ∧ t < (L.length : Int) then (if subErr L ps ps.length = 0 then madeEnd t.toNat (madeRun W room L (occ L t.toNat) (subLf ps) (t.toNat + 1)) else (L, 0, subErr L ps ps.length)) else (L, 0, 3)
/-- Pairs that are right. -/
def SubOk (L : List PNode) (ps : List (Int × Int)) : Prop := (ps.map (·.1)).Nodup ∧ ∀ p ∈ ps, 0 ≤ p.2 ∧ p.2 < (L.length : Int)
section
variable {W room : Nat} {L L' L0 : List PNode} {ps qs : List (Int × Int)}
theorem subErr_succ {k : Nat} {p : Int × Int} (h0 : subErr L ps k = 0) (hp : ps[k]? = some p) : subErr L ps (k + 1) = if p.1 ∈ (ps.take k).map (·.1) then 8 else if 0 ≤ p.2 ∧ p.2 < (L.length : Int) then 0 else 3 := by
  show (if subErr L ps k ≠ 0 then _ else _) = _
  rw [if_neg (by rw [h0]; simp), hp]
theorem subErr_stop {k : Nat} (h : subErr L ps k ≠ 0) : ∀ m, k ≤ m → subErr L ps m = subErr L ps k
  | 0, hm => by obtain rfl : k = 0 := by omega
                rfl
  | m + 1, hm => by
    rcases Nat.lt_or_ge k (m + 1) with h1 | h1
    · have ih := subErr_stop h m (by omega)
      show (if subErr L ps m ≠ 0 then subErr L ps m else _) = _
      rw [if_pos (by rw [ih]; exact h), ih]
    · obtain rfl : k = m + 1 := by omega
      rfl
theorem subErr_ok {k : Nat} (h : subErr L ps (k + 1) = 0) : subErr L ps k = 0 := by
  by_cases h0 : subErr L ps k = 0
  · exact h0
  · rw [subErr_stop h0 (k + 1) (by omega)] at h; exact h
theorem take_map_snoc {k : Nat} {p : Int × Int} (hp : ps[k]? = some p) : (ps.take (k + 1)).map (·.1) = (ps.take k).map (·.1) ++ [p.1] := by
  obtain ⟨hk, rfl⟩ := List.getElem?_eq_some_iff.1 hp
  rw [← List.take_append_getElem hk, List.map_append]; rfl
theorem subErr_good (h : SubOk L ps) : ∀ k, subErr L ps k = 0
  | 0 => rfl
  | k + 1 => by
    have h0 := subErr_good h k
    cases hp : ps[k]? with
    | none =>
      show (if subErr L ps k ≠ 0 then _ else _) = _
      rw [if_neg (by rw [h0]; simp), hp]
    | some p =>
      have hn : p.1 ∉ (ps.take k).map (·.1) := by
        have h1 := h.1.sublist (List.Sublist.map (·.1) (List.take_sublist (k + 1) ps))
        rw [take_map_snoc hp, List.nodup_append] at h1
        intro hm
        exact h1.2.2 p.1 hm p.1 (by simp) rfl
      rw [subErr_succ h0 hp, if_neg hn, if_pos (h.2 p (List.mem_of_getElem? hp))]
theorem subErr_zero : ∀ k, k ≤ ps.length → subErr L ps k = 0 → SubOk L (ps.take k)
  | 0, _, _ => ⟨by simp, by simp⟩
  | k + 1, hk, h => by
    have h0 := subErr_ok h
    obtain ⟨i1, i2⟩ := subErr_zero k (by omega) h0
    obtain ⟨p, hp⟩ : ∃ p, ps[k]? = some p := ⟨_, List.getElem?_eq_getElem (by omega)⟩
    rw [subErr_succ h0 hp] at h
    have hn : p.1 ∉ (ps.take k).map (·.1) := fun hm => by rw [if_pos hm] at h; cases h
    rw [if_neg hn] at h
    have hr : 0 ≤ p.2 ∧ p.2 < (L.length : Int) := by
      by_cases hr : 0 ≤ p.2 ∧ p.2 < (L.length : Int)
      · exact hr
      · rw [if_neg hr] at h; cases h
    refine ⟨?_, fun q hq => ?_⟩
    · rw [take_map_snoc hp, List.nodup_append]
      exact ⟨i1, by simp, fun a ha b hb => by obtain rfl := List.mem_singleton.1 hb; rintro rfl; exact hn ha⟩
    · obtain ⟨hk', rfl⟩ := List.getElem?_eq_some_iff.1 hp
      rw [← List.take_append_getElem hk'] at hq
      rcases List.mem_append.1 hq with hq | hq
      · exact i2 q hq
      · obtain rfl := List.mem_singleton.1 hq; exact hr
theorem subErr_end (h : subErr L ps ps.length = 0) : SubOk L ps := by have := subErr_zero ps.length (Nat.le_refl _) h; rwa [List.take_length] at this
theorem SubOk.mono (h : SubOk L ps) (hl : L.length ≤ L'.length) : SubOk L' ps := ⟨h.1, fun p hp => by have := h.2 p hp; omega⟩
theorem subOf_mem {v : Nat} {s : Int} (h : subOf ps v = some s) : ((v : Int), s) ∈ ps := by
  unfold subOf at h
  rw [Option.map_eq_some_iff] at h
  obtain ⟨p, hp, rfl⟩ := h
  have h1 := List.find?_some hp
  have h2 := List.mem_of_find?_eq_some hp
  have : p.1 = (v : Int) := by simpa using h1
  rw [← this]; exact h2
theorem mem_subOf (hn : (ps.map (·.1)).Nodup) {v : Nat} {s : Int} (h : ((v : Int), s) ∈ ps) : subOf ps v = some s := by
  induction ps with
  | nil => cases h
  | cons p ps ih =>
    rw [List.map_cons, List.nodup_cons] at hn
    unfold subOf
    rw [List.find?_cons]
    rcases List.mem_cons.1 h with rfl | h
    · simp
    · have hne : (p.1 == (v : Int)) = false := by
        rw [beq_eq_false_iff_ne]
        rintro he
        exact hn.1 (by rw [he]; exact List.mem_map.2 ⟨_, h, rfl⟩)
      rw [hne]
      exact ih hn.2 h
theorem subOf_none {v : Nat} : subOf ps v = none ↔ ∀ s, ((v : Int), s) ∉ ps := by
  unfold subOf
  rw [Option.map_eq_none_iff, List.find?_eq_none]
  constructor
  · intro h s hm
    have := h _ hm
    simp at this
  · intro h p hp he
    have : p.1 = (v : Int) := by simpa using he
    exact h p.2 (by rw [← this]; exact hp)
theorem subLf_ok (h : SubOk L ps) : ∀ i n, L[i]? = some n → 0 ≤ subLf ps i n ∧ subLf ps i n < (L.length : Int) := by
  intro i n hn
  have hi := (List.getElem?_eq_some_iff.1 hn).1
  unfold subLf
  split
  · cases hs : subOf ps n.2.1 with
    | none => simp; omega
    | some s => exact h.2 _ (subOf_mem hs)
  · omega
theorem subLf_nonneg (h : SubOk L ps) : ∀ i n, 0 ≤ subLf ps i n := by
  intro i n
  unfold subLf
  split
  · cases hs : subOf ps n.2.1 with
    | none => simp
    | some s => exact (h.2 _ (subOf_mem hs)).1
  · omega
theorem substR_in {t : Nat} (ht : t < L.length) (h : SubOk L ps) : substR W room L t ps = madeEnd t (madeRun W room L (occ L t) (subLf ps) (t + 1)) := by
  unfold substR
  rw [if_pos ⟨by omega, by omega⟩, if_pos (subErr_good h _), Int.toNat_natCast]
theorem madeEnd_inv {t : Nat} {s : List PNode × List Int × Nat} (h : MadeInv W room L0 (t + 1) s) (he : s.2.2 = 0) : ∃ q : Nat, madeEnd t s = (s.1, q, 0) ∧ q < s.1.length ∧ s.2.1.getD t 0 = (q : Int) := by
  obtain ⟨m, hm⟩ : ∃ m, s.2.1[t]? = some m := ⟨_, List.getElem?_eq_getElem (by rw [h.many]; omega)⟩
  have hb := h.at_ t m hm
  refine ⟨m.toNat, ?_, by omega, ?_⟩
  · unfold madeEnd
    rw [if_pos he, List.getD_eq_getElem?_getD, hm]; rfl
  · rw [List.getD_eq_getElem?_getD, hm]
    show m = _
    omega
/-- With room. -/
theorem substR_ok (hW : W ≤ 64) (hw : WFL L) (hg : GoodL W L) {t : Nat} (ht : t < L.length) (h : SubOk L ps) (hr : L.length + (t + 1) ≤ room) :
    ∃ L' s, substR W room L t ps = (L', s, 0) ∧ WFL L' ∧ GoodL W L' ∧ L <+: L' ∧ L'.length ≤ L.length + (t + 1) ∧ s < L'.length := by
  have he := made_room (room := room) (O := occ L t) hW hw hg (subLf_ok h) (t + 1) (by omega) hr
  have hi := made_inv (O := occ L t) hW hw hg (subLf_ok h) (t + 1) (by omega) he
  obtain ⟨q, h1, h2, -⟩ := madeEnd_inv hi he
  exact ⟨_, q, (substR_in ht h).trans h1, hi.wf, hi.good, hi.pre, hi.len, h2⟩
end
section
variable {W room : Nat} {L L' M L0 : List PNode} {O : Nat → Bool} {lf : Nat → PNode → Int}
theorem occDown_prefix (h : L <+: L') : ∀ (k : Nat) (f : Nat → Bool), k ≤ L.length → occDown L' k f = occDown L k f
  | 0, _, _ => rfl
  | k + 1, f, hk => by
    show occDown L' k (occStep L' k f) = occDown L k (occStep L k f)
    have : occStep L' k f = occStep L k f := by
      funext i
      unfold occStep
      rw [argsOf_prefix h (by omega)]
    rw [this]
    exact occDown_prefix h k _ (by omega)
theorem occ_prefix (h : L <+: L') {t : Nat} (ht : t < L.length) : occ L' t = occ L t := occDown_prefix h (t + 1) _ (by omega)
end
end Go.Proofs.YteamnchoddegpaaGreatDoor
