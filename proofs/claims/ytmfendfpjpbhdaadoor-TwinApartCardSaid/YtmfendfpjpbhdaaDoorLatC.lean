/- Lattices: plain facts. -/
import Derived.Test.YtmfendfpjpbhdaaDoorLatB
namespace Go.Proofs.YtmfendfpjpbhdaaDoor
open Go.RowKit Go.Maps
set_option maxHeartbeats 1600000

abbrev Rel := Nat → Nat → Bool
def initR : Rel := fun i j => decide (i = j)
def addP (R : Rel) (a b : Nat) : Rel := fun i j => R i j || (decide (i = a) && decide (j = b))
def cloK (R : Rel) (k : Nat) : Rel := fun i j => R i j || (R i k && R k j)
def cloN (R : Rel) : Nat → Rel | 0 => R | k + 1 => cloK (cloN R k) k
def addAll (R : Rel) (os : List (Int × Int)) : Rel := os.foldl (fun R p => addP R p.1.toNat p.2.toNat) R
def badP (n : Nat) (p : Int × Int) : Prop := ¬ (0 ≤ p.1 ∧ p.1 < (n : Int) ∧ 0 ≤ p.2 ∧ p.2 < (n : Int))
def latR (n : Nat) (os : List (Int × Int)) : Rel := cloN (addAll initR os) n
/-- Two levels are each at most the other. -/
def Loops (n : Nat) (R : Rel) : Prop := ∃ i j, i < n ∧ j < n ∧ i ≠ j ∧ R i j = true ∧ R j i = true
/-- Each two levels have a least upper bound. -/
def Joins (n : Nat) (R : Rel) : Prop := ∀ a, a < n → ∀ b, b < n → ∃ c, c < n ∧ R a c = true ∧ R b c = true ∧ ∀ d, d < n → R a d = true → R b d = true → R c d = true
def rev (R : Rel) : Rel := fun i j => R j i
open Classical in
/-- The error of a lattice. -/
noncomputable def latE (n : Int) (os : List (Int × Int)) : Nat :=
  if n < 1 ∨ 32 < n then 3 else if 1024 < os.length then 5 else if ∃ p ∈ os, badP n.toNat p then 3 else
  if Loops n.toNat (latR n.toNat os) then 9 else if Joins n.toNat (latR n.toNat os) ∧ Joins n.toNat (rev (latR n.toNat os)) then 0 else 4
/-- A relation in rows of bits. -/
structure RowsOf (n : Nat) (R : Rel) (u : Nat → Nat) : Prop where
  lt : ∀ i, i < 32 → u i < 4294967296
  bit : ∀ i, i < n → ∀ j, (u i).testBit j = (decide (j < n) && R i j)
def upd (u : Nat → Nat) (a y : Nat) : Nat → Nat := fun i => if i = a then y else u i
theorem upd_self (u : Nat → Nat) (a y : Nat) : upd u a y a = y := if_pos rfl
theorem upd_other {u : Nat → Nat} {a y i : Nat} (h : i ≠ a) : upd u a y i = u i := if_neg h
theorem RowsOf.put {n : Nat} {R R' : Rel} {u : Nat → Nat} (h : RowsOf n R u) {a y : Nat} (hy : y < 4294967296) (hb : ∀ j, y.testBit j = (decide (j < n) && R' a j)) (hR : ∀ i j, i < n → j < n → i ≠ a → R' i j = R i j) : RowsOf n R' (upd u a y) := by
  refine ⟨fun i hi => ?_, fun i hi j => ?_⟩
  · by_cases e : i = a
    · subst e; rw [upd_self]; exact hy
    · rw [upd_other e]; exact h.lt i hi
  · by_cases e : i = a
    · subst e; rw [upd_self]; exact hb j
    · rw [upd_other e, h.bit i hi j]
      by_cases hj : j < n
      · rw [hR i j hi hj e]
      · simp [hj]
theorem RowsOf.congr {n : Nat} {R R' : Rel} {u : Nat → Nat} (h : RowsOf n R u) (hR : ∀ i j, i < n → j < n → R' i j = R i j) : RowsOf n R' u := by
  refine ⟨h.lt, fun i hi j => ?_⟩
  rw [h.bit i hi j]
  by_cases hj : j < n
  · rw [hR i j hi hj]
  · simp [hj]
theorem pow32 {i : Nat} (h : i < 32) : 2 ^ i < 4294967296 := by
  have : (2 : Nat) ^ i < 2 ^ 32 := Nat.pow_lt_pow_right (by decide) h
  omega
theorem bit_pow (i j : Nat) : (2 ^ i).testBit j = decide (j = i) := by
  rw [Nat.testBit_two_pow]; by_cases h : i = j <;> simp [h, eq_comm]
/-- The test of a bit: x>>k&1 == 1. -/
theorem bit_test {x k : Nat} (_hx : x < 4294967296) : ((x / 2 ^ k) &&& 1) = if x.testBit k = true then 1 else 0 := by
  rw [Nat.and_one_is_mod, Nat.testBit_eq_decide_div_mod_eq]
  have := Nat.mod_two_eq_zero_or_one (x / 2 ^ k)
  rcases this with h | h <;> simp [h]
theorem cloN_refl {R : Rel} (h : ∀ i, R i i = true) : ∀ k i, cloN R k i i = true
  | 0, i => h i
  | k + 1, i => by unfold cloN cloK; rw [cloN_refl h k i]; simp
theorem addAll_refl : ∀ (os : List (Int × Int)) (R : Rel), (∀ i, R i i = true) → ∀ i, addAll R os i i = true
  | [], _, h, i => h i
  | p :: os, R, h, i => by
    unfold addAll
    rw [List.foldl_cons]
    exact addAll_refl os _ (fun i => by unfold addP; rw [h i]; simp) i
theorem latR_refl (n : Nat) (os : List (Int × Int)) (i : Nat) : latR n os i i = true := cloN_refl (addAll_refl os _ (fun i => by simp [initR])) n i
theorem addAll_snoc (R : Rel) (os : List (Int × Int)) (p : Int × Int) : addAll R (os ++ [p]) = addP (addAll R os) p.1.toNat p.2.toNat := by unfold addAll; rw [List.foldl_append]; rfl
/-- The bounds in rows of bits. -/
theorem whole_rows {n : Nat} {R : Rel} {u : Nat → Nat} (h : RowsOf n R u) : WholeB n u ↔ Joins n R := by
  unfold WholeB Joins
  constructor
  · intro hw a ha b hb
    obtain ⟨c, hc, hs⟩ := hw a ha b hb
    rw [Nat.testBit_and, h.bit a ha, h.bit b hb, Bool.and_eq_true, Bool.and_eq_true, Bool.and_eq_true, decide_eq_true_eq] at hc
    obtain ⟨⟨hcn, h1⟩, -, h2⟩ := hc
    refine ⟨c, hcn, h1, h2, fun d hd h3 h4 => ?_⟩
    have := hs d (by rw [Nat.testBit_and, h.bit a ha, h.bit b hb, h3, h4]; simp [hd])
    rw [h.bit c hcn, Bool.and_eq_true] at this
    exact this.2
  · intro hj a ha b hb
    obtain ⟨c, hcn, h1, h2, h3⟩ := hj a ha b hb
    refine ⟨c, by rw [Nat.testBit_and, h.bit a ha, h.bit b hb, h1, h2]; simp [hcn], fun d hd => ?_⟩
    rw [Nat.testBit_and, h.bit a ha, h.bit b hb, Bool.and_eq_true, Bool.and_eq_true, Bool.and_eq_true, decide_eq_true_eq] at hd
    obtain ⟨⟨hdn, h4⟩, -, h5⟩ := hd
    rw [h.bit c hcn, h3 d hdn h4 h5]; simp [hdn]
/-- Whether a level and another one are at most each other, in rows. -/
theorem loop_row {n : Nat} {R : Rel} {u d : Nat → Nat} (h : RowsOf n R u) (hd : RowsOf n (rev R) d) {i : Nat} (hi : i < n) (hr : R i i = true) : (u i &&& d i = 2 ^ i) ↔ ∀ j, j < n → j ≠ i → ¬ (R i j = true ∧ R j i = true) := by
  constructor
  · intro e j hj hne h1
    have := congrArg (fun x => x.testBit j) e
    simp only [Nat.testBit_and, h.bit i hi, hd.bit i hi, bit_pow] at this
    rw [h1.1, show rev R i j = true from h1.2] at this
    simp [hj, hne] at this
  · intro hno
    apply Nat.eq_of_testBit_eq
    intro j
    rw [Nat.testBit_and, h.bit i hi, hd.bit i hi, bit_pow]
    by_cases hj : j < n
    · by_cases e : j = i
      · subst e; rw [hr, show rev R j j = true from hr]; simp [hj]
      · have := hno j hj e
        cases h1 : R i j <;> cases h2 : rev R i j <;> simp [hj, e]
        exact this ⟨h1, h2⟩
    · have : j ≠ i := by omega
      simp [hj, this]
/-- A lattice's cells. -/
def latF (n : Nat) (u d : Nat → Nat) : Nat → Value := fun k => if k = 0 then .int .i64 n else if k < 33 then .int .u32 (u (k - 1)) else .int .u32 (d (k - 33))
theorem latF_up (n : Nat) (u d : Nat → Nat) {a : Nat} (ha : a < 32) (y : Nat) (j : Nat) : (if j = 1 + a then Value.int .u32 (y : Int) else latF n u d j) = latF n (upd u a y) d j := by
  unfold latF upd
  by_cases e : j = 1 + a
  · subst e; rw [if_pos rfl, if_neg (by omega), if_pos (by omega), if_pos (by omega)]
  · rw [if_neg e]
    by_cases h0 : j = 0
    · rw [if_pos h0, if_pos h0]
    · rw [if_neg h0, if_neg h0]
      by_cases h1 : j < 33
      · rw [if_pos h1, if_pos h1, if_neg (by omega)]
      · rw [if_neg h1, if_neg h1]
theorem latF_down (n : Nat) (u d : Nat → Nat) {a : Nat} (_ha : a < 32) (y : Nat) (j : Nat) : (if j = 33 + a then Value.int .u32 (y : Int) else latF n u d j) = latF n u (upd d a y) j := by
  unfold latF upd
  by_cases e : j = 33 + a
  · subst e; rw [if_pos rfl, if_neg (by omega), if_neg (by omega), if_pos (by omega)]
  · rw [if_neg e]
    by_cases h0 : j = 0
    · rw [if_pos h0, if_pos h0]
    · rw [if_neg h0, if_neg h0]
      by_cases h1 : j < 33
      · rw [if_pos h1, if_pos h1]
      · rw [if_neg h1, if_neg h1, if_neg (by omega)]
theorem latF_at0 (n : Nat) (u d : Nat → Nat) : latF n u d 0 = .int .i64 n := rfl
theorem latF_atU (n : Nat) (u d : Nat → Nat) {i : Nat} (h : i < 32) : latF n u d (1 + i) = .int .u32 (u i) := by unfold latF; rw [if_neg (by omega), if_pos (by omega), show 1 + i - 1 = i by omega]
theorem latF_atD (n : Nat) (u d : Nat → Nat) (i : Nat) : latF n u d (33 + i) = .int .u32 (d i) := by unfold latF; rw [if_neg (by omega), if_neg (by omega), show 33 + i - 33 = i by omega]
/-- The closure, as far as row i of step k. -/
def midR (R : Rel) (k i : Nat) : Rel := fun a b => if a < i then R a b || (R a k && R k b) else R a b
theorem midR_zero (R : Rel) (k : Nat) : midR R k 0 = R := by funext a b; simp [midR]
theorem midR_end {n : Nat} {R : Rel} {k : Nat} {u : Nat → Nat} (h : RowsOf n (midR R k n) u) : RowsOf n (cloK R k) u := h.congr fun i j hi _ => by unfold midR cloK; rw [if_pos hi]
theorem midR_row {R : Rel} {k i j : Nat} : midR R k i k j = R k j := by
  unfold midR
  split
  · cases R k j <;> cases R k k <;> rfl
  · rfl
theorem midR_own {R : Rel} {k i j : Nat} : midR R k i i j = R i j := by unfold midR; rw [if_neg (by omega)]
theorem midR_other {R : Rel} {k i a b : Nat} (h : a ≠ i) : midR R k (i + 1) a b = midR R k i a b := by
  unfold midR
  by_cases h1 : a < i
  · rw [if_pos h1, if_pos (by omega)]
  · rw [if_neg h1, if_neg (by omega)]
theorem midR_next {R : Rel} {k i j : Nat} : midR R k (i + 1) i j = (R i j || (R i k && R k j)) := by unfold midR; rw [if_pos (by omega)]
theorem RowsOf.mid_put {n : Nat} {R : Rel} {k i : Nat} {u : Nat → Nat} (h : RowsOf n (midR R k i) u) (hi : i < n) (hk : k < n) (hn : n ≤ 32) (hr : R i k = true) : RowsOf n (midR R k (i + 1)) (upd u i (u i ||| u k)) := by
  refine h.put ?_ (fun j => ?_) (fun a b _ _ hne => midR_other hne)
  · have : u i ||| u k < 2 ^ 32 := Nat.or_lt_two_pow (h.lt i (by omega)) (h.lt k (by omega))
    omega
  · rw [Nat.testBit_or, h.bit i hi, h.bit k hk, midR_own, midR_row, midR_next, hr]
    cases decide (j < n) <;> simp
theorem RowsOf.mid_skip {n : Nat} {R : Rel} {k i : Nat} {u : Nat → Nat} (h : RowsOf n (midR R k i) u) (hr : R i k = false) : RowsOf n (midR R k (i + 1)) u := h.congr fun a b _ _ => by
  by_cases e : a = i
  · subst e; rw [midR_next, midR_own, hr]; simp
  · exact midR_other e
/-- The relation turned round, as far as row i and place k. -/
def dR (R : Rel) (i k : Nat) : Rel := fun a b => R b a && (decide (b < i) || (decide (b = i) && decide (a < k)))
theorem dR_zero {n : Nat} (R : Rel) {d : Nat → Nat} (hd : ∀ i, d i = 0) : RowsOf n (dR R 0 0) d := ⟨fun i _ => by rw [hd i]; decide, fun i _ j => by rw [hd i]; simp [dR]⟩
theorem dR_line {n : Nat} {R : Rel} {i : Nat} {d : Nat → Nat} (h : RowsOf n (dR R i n) d) : RowsOf n (dR R (i + 1) 0) d := h.congr fun a b ha _ => by
  unfold dR
  congr 1
  by_cases h1 : b < i
  · have : b < i + 1 := by omega
    simp [h1, this]
  · by_cases h2 : b = i
    · simp [h2, ha]
    · have : ¬ b < i + 1 := by omega
      simp [h1, h2, this]
theorem dR_end {n : Nat} {R : Rel} {d : Nat → Nat} (h : RowsOf n (dR R n 0) d) : RowsOf n (rev R) d := h.congr fun a b _ hb => by unfold dR rev; simp [hb]
theorem RowsOf.d_put {n : Nat} {R : Rel} {i k : Nat} {d : Nat → Nat} (h : RowsOf n (dR R i k) d) (hi : i < n) (hk : k < n) (hn : n ≤ 32) (hr : R i k = true) : RowsOf n (dR R i (k + 1)) (upd d k (d k ||| 2 ^ i)) := by
  refine h.put ?_ (fun j => ?_) (fun a b _ _ hne => ?_)
  · have h1 := pow32 (i := i) (by omega)
    have : d k ||| 2 ^ i < 2 ^ 32 := Nat.or_lt_two_pow (h.lt k (by omega)) (by omega)
    omega
  · rw [Nat.testBit_or, h.bit k hk, bit_pow]
    unfold dR
    by_cases e : j = i
    · subst e; rw [hr]; simp [hi]
    · simp [e]
  · unfold dR
    congr 2
    have e1 : (a < k + 1) ↔ (a < k) := by omega
    simp [e1]
theorem RowsOf.d_skip {n : Nat} {R : Rel} {i k : Nat} {d : Nat → Nat} (h : RowsOf n (dR R i k) d) (hr : R i k = false) : RowsOf n (dR R i (k + 1)) d := h.congr fun a b _ _ => by
  unfold dR
  by_cases e : a = k
  · subst e
    by_cases e2 : b = i
    · subst e2; rw [hr]; simp
    · simp [e2]
  · have e1 : (a < k + 1) ↔ (a < k) := by omega
    simp [e1]
/-- A bit put into a row. -/
theorem RowsOf.add_put {n : Nat} {R : Rel} {i j : Nat} {u : Nat → Nat} (h : RowsOf n R u) (hi : i < n) (hj : j < n) (hn : n ≤ 32) : RowsOf n (addP R i j) (upd u i (u i ||| 2 ^ j)) := by
  refine h.put ?_ (fun b => ?_) (fun a b _ _ hne => ?_)
  · have h1 := pow32 (i := j) (by omega)
    have : u i ||| 2 ^ j < 2 ^ 32 := Nat.or_lt_two_pow (h.lt i (by omega)) (by omega)
    omega
  · rw [Nat.testBit_or, h.bit i hi, bit_pow]
    unfold addP
    by_cases e : b = j
    · subst e; simp [hj]
    · simp [e]
  · unfold addP; simp [hne]
/-- A shift, and the last bit, as the walk shows them. -/
theorem shift_bit {x k : Nat} (hx : x < 4294967296) : bits .and .u32 ((x : Int) / (2 : Int) ^ k) 1 = if x.testBit k = true then 1 else 0 := by
  have e : (x : Int) / (2 : Int) ^ k = ((x / 2 ^ k : Nat) : Int) := by simp
  have hq : x / 2 ^ k < 4294967296 := Nat.lt_of_le_of_lt (Nat.div_le_self _ _) hx
  rw [e, show (1 : Int) = ((1 : Nat) : Int) from rfl, and32 _ _ hq (by decide), bit_test hx]
  split <;> rfl
theorem latE_rest {n : Nat} {os : List (Int × Int)} (h1 : 1 ≤ n) (h2 : n ≤ 32) (h3 : os.length ≤ 1024) (h4 : ∀ p ∈ os, ¬ badP n p) {R : Rel} (hR : latR n os = R) :
    (Loops n R → latE (n : Int) os = 9) ∧ (¬ Loops n R → (Joins n R ∧ Joins n (rev R)) → latE (n : Int) os = 0) ∧ (¬ Loops n R → ¬ (Joins n R ∧ Joins n (rev R)) → latE (n : Int) os = 4) := by
  have hb : ¬ ∃ p ∈ os, badP (n : Int).toNat p := by rintro ⟨p, hp, hb⟩; exact h4 p hp (by rwa [Int.toNat_natCast] at hb)
  subst hR
  refine ⟨fun hl => ?_, fun hl hj => ?_, fun hl hj => ?_⟩
  · unfold latE; rw [if_neg (by omega), if_neg (by omega), if_neg hb, Int.toNat_natCast, if_pos hl]
  · unfold latE; rw [if_neg (by omega), if_neg (by omega), if_neg hb, Int.toNat_natCast, if_neg hl, if_pos hj]
  · unfold latE; rw [if_neg (by omega), if_neg (by omega), if_neg hb, Int.toNat_natCast, if_neg hl, if_neg hj]
end Go.Proofs.YtmfendfpjpbhdaaDoor
