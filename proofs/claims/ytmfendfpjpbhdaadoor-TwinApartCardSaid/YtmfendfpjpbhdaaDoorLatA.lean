/- Bits of 32; math/bits.TrailingZeros32; a bound in a set of levels. -/
import Derived.Test.YtmfendfpjpbhdaaDoorCore
import Derived.Lib.TrailingZeros
namespace Go.Proofs.YtmfendfpjpbhdaaDoor
open Go.RowKit Go.Maps
set_option maxHeartbeats 3200000

theorem wrap32 (n : Int) : IntKind.u32.wrap n = n % 4294967296 := by simp [IntKind.wrap, IntKind.signed, IntKind.bits]
theorem of32 {a : Nat} (ha : a < 4294967296) : (BitVec.ofInt 32 (a : Int)).toNat = a := by
  rw [BitVec.ofInt_natCast, BitVec.toNat_ofNat]; exact Nat.mod_eq_of_lt (by omega)
theorem and32 (a b : Nat) (ha : a < 4294967296) (hb : b < 4294967296) : bits .and .u32 (a : Int) (b : Int) = ((a &&& b : Nat) : Int) := by
  have hx : a &&& b < 2 ^ 32 := Nat.and_lt_two_pow _ (by omega)
  show IntKind.u32.wrap ((BitVec.ofInt 32 (a : Int) &&& BitVec.ofInt 32 (b : Int)).toNat : Int) = _
  rw [BitVec.toNat_and, of32 ha, of32 hb, wrap32]
  omega
theorem or32 (a b : Nat) (ha : a < 4294967296) (hb : b < 4294967296) : bits .or .u32 (a : Int) (b : Int) = ((a ||| b : Nat) : Int) := by
  have hx : a ||| b < 2 ^ 32 := Nat.or_lt_two_pow (by omega) (by omega)
  show IntKind.u32.wrap ((BitVec.ofInt 32 (a : Int) ||| BitVec.ofInt 32 (b : Int)).toNat : Int) = _
  rw [BitVec.toNat_or, of32 ha, of32 hb, wrap32]
  omega
/-- One set within another. -/
def SubB (x y : Nat) : Prop := ∀ d, x.testBit d = true → y.testBit d = true
theorem andNot32 (a b : Nat) (ha : a < 4294967296) (_hb : b < 4294967296) : (bits .andNot .u32 (a : Int) (b : Int) = 0) ↔ SubB a b := by
  have e : bits .andNot .u32 (a : Int) (b : Int) = (((BitVec.ofNat 32 a &&& ~~~ BitVec.ofNat 32 b).toNat : Nat) : Int) := by
    show IntKind.u32.wrap ((BitVec.ofInt 32 (a : Int) &&& ~~~ BitVec.ofInt 32 (b : Int)).toNat : Int) = _
    rw [BitVec.ofInt_natCast, BitVec.ofInt_natCast, wrap32]
    have := (BitVec.ofNat 32 a &&& ~~~ BitVec.ofNat 32 b).isLt
    omega
  rw [e]
  constructor
  · intro h d hd
    have h0 : (BitVec.ofNat 32 a &&& ~~~ BitVec.ofNat 32 b) = 0#32 := BitVec.eq_of_toNat_eq (by simpa using h)
    have h1 := congrArg (fun v => v.getLsbD d) h0
    have hd32 : d < 32 := by
      apply Nat.lt_of_not_le
      intro hle
      have : a < 2 ^ d := Nat.lt_of_lt_of_le ha (Nat.pow_le_pow_right (n := 2) (i := 32) (by decide) hle)
      rw [Nat.testBit_lt_two_pow this] at hd
      cases hd
    simp only [BitVec.getLsbD_and, BitVec.getLsbD_not, BitVec.getLsbD_ofNat, hd32, hd, decide_true, Bool.true_and] at h1
    simpa using h1
  · intro h
    have h0 : (BitVec.ofNat 32 a &&& ~~~ BitVec.ofNat 32 b) = 0#32 := by
      apply BitVec.eq_of_getLsbD_eq
      intro i hi
      simp only [BitVec.getLsbD_and, BitVec.getLsbD_not, BitVec.getLsbD_ofNat, hi, decide_true, Bool.true_and]
      cases ha2 : a.testBit i with
      | false => simp
      | true => rw [h i ha2]; simp
    rw [h0]; rfl
theorem clear_low (k m : Nat) : (2 ^ k * (2 * m + 1)) &&& (2 ^ k * (2 * m + 1) - 1) = 2 ^ k * (2 * m) := by
  have hp : 0 < 2 ^ k := Nat.two_pow_pos k
  have e : 2 ^ k * (2 * m + 1) - 1 = 2 ^ k * (2 * m) + (2 ^ k - 1) := by rw [Nat.mul_add, Nat.mul_one]; omega
  have h0 : ∀ a, 2 ^ k * a = 2 ^ k * a + 0 := fun a => rfl
  apply Nat.eq_of_testBit_eq
  intro j
  rw [Nat.testBit_and, e, Nat.testBit_two_pow_mul_add _ (by omega : 2 ^ k - 1 < 2 ^ k), h0 (2 * m + 1), h0 (2 * m), Nat.testBit_two_pow_mul_add _ hp, Nat.testBit_two_pow_mul_add _ hp]
  by_cases hj : j < k
  · simp [hj]
  · rw [if_neg hj, if_neg hj, if_neg hj]
    rcases Nat.eq_zero_or_pos (j - k) with h | h
    · rw [h]; simp
    · obtain ⟨i, hi⟩ : ∃ i, j - k = i + 1 := ⟨j - k - 1, by omega⟩
      rw [hi, Nat.testBit_succ, Nat.testBit_succ]
      have d1 : (2 * m + 1) / 2 = m := by omega
      have d2 : (2 * m) / 2 = m := by omega
      rw [d1, d2, Bool.and_self]
/-- The lowest bit of a number that is not 0, and the others. -/
theorem low_bit {x : Nat} (h0 : x ≠ 0) (h : x < 4294967296) : Lib.ctz 32 x < 32 ∧ x.testBit (Lib.ctz 32 x) = true ∧ (x &&& (x - 1)) < x ∧ ∀ j, (x &&& (x - 1)).testBit j = (x.testBit j && decide (j ≠ Lib.ctz 32 x)) := by
  obtain ⟨m, hm, hk⟩ := Lib.ctzFrom_spec 32 x (by omega) h
  have e : Lib.ctz 32 x = Lib.ctzFrom 32 x := by simp [Lib.ctz, h0]
  rw [e]
  obtain ⟨k, hk'⟩ : ∃ k, Lib.ctzFrom 32 x = k := ⟨_, rfl⟩
  rw [hk'] at hm hk ⊢
  have hp : 0 < 2 ^ k := Nat.two_pow_pos k
  have hz : ∀ a, 2 ^ k * a = 2 ^ k * a + 0 := fun a => rfl
  subst hm
  refine ⟨hk, ?_, ?_, fun j => ?_⟩
  · rw [hz, Nat.testBit_two_pow_mul_add _ hp]; simp
  · rw [clear_low]; exact Nat.mul_lt_mul_of_pos_left (by omega) hp
  · rw [clear_low, hz (2 * m), hz (2 * m + 1), Nat.testBit_two_pow_mul_add _ hp, Nat.testBit_two_pow_mul_add _ hp]
    by_cases hj : j < k
    · simp [hj]
    · rw [if_neg hj, if_neg hj]
      rcases Nat.eq_zero_or_pos (j - k) with h1 | h1
      · have : j = k := by omega
        rw [h1]; simp [this]
      · obtain ⟨i, hi⟩ : ∃ i, j - k = i + 1 := ⟨j - k - 1, by omega⟩
        rw [hi, Nat.testBit_succ, Nat.testBit_succ]
        have d1 : (2 * m + 1) / 2 = m := by omega
        have d2 : (2 * m) / 2 = m := by omega
        have hne : j ≠ k := by omega
        rw [d1, d2]; simp [hne]
/-- The table of math/bits, in its variable. -/
def TabOk (w : World) : Prop := ∀ j, j < 32 → w.cell? ⟨0, j, none⟩ = some (.int .u8 ((Lib.deBruijn32tab.getD j 0 : Nat) : Int))
theorem tz_key (x a : Nat) (hx : x < 4294967296) (hx0 : x ≠ 0) (hlow : x &&& (4294967296 - x) = a) :
    bits BinOp.and IntKind.u32 (x : Int) (-(x : Int) % 4294967296) * 125613361 % 4294967296 / 134217728 = ((a * 125613361 % 4294967296 / 134217728 : Nat) : Int) := by
  have e1 : -(x : Int) % 4294967296 = ((4294967296 - x : Nat) : Int) := by omega
  rw [e1, and32 x _ hx (by omega), hlow]
  omega
set_option maxRecDepth 100000 in
theorem tz_any (x : Nat) (hx0 : x ≠ 0) (hx : x < 4294967296) (w : World) (hT : TabOk w) :
    Calls Tryd.prog 37 #[.int .u32 x] w fun e w' => e = .returned (.int .i64 (Lib.ctz 32 x)) ∧ w = w' := by
  obtain ⟨hlow, hk⟩ := Lib.lowest_bit 32 x hx0 hx
  obtain ⟨hi, htab⟩ := Lib.deBruijn32_at _ hk
  have hcell := hT _ hi
  rw [htab] at hcell
  have key := tz_key x _ hx hx0 hlow
  have hx0' : ((x : Int) == 0) = false := by rw [beq_eq_false_iff_ne]; omega
  obtain ⟨idx, hidx⟩ : ∃ idx, 2 ^ Lib.ctz 32 x * 125613361 % 4294967296 / 134217728 = idx := ⟨_, rfl⟩
  obtain ⟨k, hkk⟩ : ∃ k, Lib.ctz 32 x = k := ⟨_, rfl⟩
  rw [hidx] at hi hcell key
  rw [hkk] at hk hcell ⊢
  clear hlow htab hidx hkk hT
  go_enter Tryd.func37, Tryd.ntmps37
  go_wp2_with (simp only [key])
  go_ret
  exact ⟨rfl, rfl⟩
/-- Which bound has been found. -/
def BoundIs (x : Nat) (s : Nat → Nat) (r : Int) : Prop := (∃ c : Nat, r = c ∧ c < 32 ∧ x.testBit c = true ∧ SubB x (s c)) ∨ (r = -1 ∧ ∀ c, x.testBit c = true → ¬ SubB x (s c))
set_option maxRecDepth 100000 in
theorem bound_any (wa : World) (b off : Nat) (s : Nat → Nat) (x : Nat) (hx : x < 4294967296) (hs : ∀ i, i < 32 → wa.cell? ⟨b, off + i, none⟩ = some (.int .u32 (s i))) (hs2 : ∀ i, i < 32 → s i < 4294967296) (hT : TabOk wa) :
    Calls Tryd.prog 31 #[.pointer (some ⟨b, off, none⟩), .int .u32 x] wa fun e w' => ∃ r, e = .returned (.int .i64 r) ∧ BoundIs x s r ∧ wa = w' := by
  have HS := Lib.hid (And.intro hs (And.intro hs2 hT))
  clear hs hs2 hT
  go_enter Tryd.func31, Tryd.ntmps31
  go_wp2
  go_loopw [5] (fun v wx => wa = wx ∧ ∃ rest : Nat, v = .int .u32 rest ∧ rest < 4294967296 ∧ (∀ c, rest.testBit c = true → x.testBit c = true) ∧ ∀ c, x.testBit c = true → rest.testBit c = true ∨ ¬ SubB x (s c)) (fun v _ => (intOf v).toNat)
  case atStart => exact ⟨rfl, x, rfl, hx, fun _ hc => hc, fun c hc => .inl hc⟩
  case round =>
    obtain ⟨rfl, rest, rfl, hr, hin, hrest⟩ := hrel
    have HR := Lib.hid hrest; have HIN := Lib.hid hin
    clear hrest hin
    by_cases h0 : rest = 0
    · subst h0
      go_wp2
      go_ret
      exact ⟨-1, rfl, .inr ⟨rfl, fun c hc => (HR.out c hc).elim (fun h => by simp at h) id⟩, rfl⟩
    · have h0' : ((rest : Int) != 0) = true := by rw [bne_iff_ne]; omega
      obtain ⟨l1, l2, l3, l4⟩ := low_bit h0 hr
      have htz := tz_any rest h0 hr wa HS.out.2.2
      obtain ⟨k, hk⟩ : ∃ k, Lib.ctz 32 rest = k := ⟨_, rfl⟩
      rw [hk] at l1 l2 htz
      simp only [hk] at l4
      have hc := HS.out.1 k l1
      have hsk := HS.out.2.1 k l1
      have hnot := andNot32 x (s k) hx hsk
      have hk0 : (0 : Int) ≤ (k : Int) := by omega
      have hk32 : (k : Int) < 32 := by omega
      have HL := Lib.hid (And.intro l2 (And.intro l3 l4)); have HTZ := Lib.hid htz; have HR0 := Lib.hid h0
      clear l2 l3 l4 htz hk h0
      by_cases hsub : SubB x (s k)
      · have hz : bits .andNot .u32 (x : Int) (s k : Int) = 0 := hnot.2 hsub
        have HSUB := Lib.hid hsub
        clear hnot hsub
        go_wp2_with (go_at_call 37; refine HTZ.out.mono ?_; rintro e w2 ⟨rfl, rfl⟩)
        go_ret
        exact ⟨(k : Int), rfl, .inl ⟨k, rfl, l1, HIN.out k HL.out.1, HSUB.out⟩, rfl⟩
      · have hz : (bits .andNot .u32 (x : Int) (s k : Int) == 0) = false := by rw [beq_eq_false_iff_ne]; exact fun h => hsub (hnot.1 h)
        have HSUB := Lib.hid hsub
        have hw1 : IntKind.u32.wrap ((rest : Int) - 1) = ((rest - 1 : Nat) : Int) := by have := HR0.out; rw [wrap32]; omega
        have ha1 := and32 rest (rest - 1) hr (by omega)
        clear hnot hsub
        go_wp2_with (go_at_call 37; refine HTZ.out.mono ?_; rintro e w2 ⟨rfl, rfl⟩)
        go_roundw
        case rel =>
          obtain ⟨b1, b2, b3⟩ := HL.out
          refine ⟨trivial, rest &&& (rest - 1), rfl, by omega, fun c hc => ?_, fun c hc => ?_⟩
          · rw [b3, Bool.and_eq_true] at hc
            exact HIN.out c hc.1
          · rcases HR.out c hc with h | h
            · by_cases e : c = k
              · subst e; exact .inr HSUB.out
              · left; rw [b3, h]; simp [e]
            · exact .inr h
        case measure => simp only [intOf, Int.toNat_natCast]; exact HL.out.2.1
end Go.Proofs.YtmfendfpjpbhdaaDoor
