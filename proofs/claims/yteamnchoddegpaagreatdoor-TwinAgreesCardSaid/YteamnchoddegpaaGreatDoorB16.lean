/- Core, LatA, LatB, LatC: joined by wip/bundle.py. -/
import Derived.Test.YteamnchoddegpaaGreatDoorB1
import Derived.Test.YteamnchoddegpaaGreatDoorB2
import Derived.Test.YteamnchoddegpaaGreatDoorB3
import Derived.Test.YteamnchoddegpaaGreatDoorB4
import Derived.Test.YteamnchoddegpaaGreatDoorB5
import Derived.Test.YteamnchoddegpaaGreatDoorB6
import Derived.Test.YteamnchoddegpaaGreatDoorB7
import Derived.Test.YteamnchoddegpaaGreatDoorB8
import Derived.Test.YteamnchoddegpaaGreatDoorB9
import Derived.Test.YteamnchoddegpaaGreatDoorB10
import Derived.Test.YteamnchoddegpaaGreatDoorB11
import Derived.Test.YteamnchoddegpaaGreatDoorB12
import Derived.Test.YteamnchoddegpaaGreatDoorB13
import Derived.Test.YteamnchoddegpaaGreatDoorB14
import Derived.Test.YteamnchoddegpaaGreatDoorB15
import Derived.Test.YteamnchoddegpaaGreatDoorChecked
import Derived.Laws.BitsAllLaws
import Derived.Lib.Hide
import Derived.WalkKit
import Derived.WalkSpells
import Derived.WalkLawsBesides
import Derived.BigQuiet
import Derived.Deep.QuietTactic
import Derived.Deep.RegionHeld3
import Derived.ProofKit
import Derived.Deep.Slices
import Derived.Deep.Fields
import Derived.ChangeSame
import Derived.OpenShut
import Derived.Deep.DrawnRows
import Derived.Deep.Upon
import Derived.WideKeyArr2
import Derived.StillTailTactics
import Derived.Laws.CopyOwn
import Derived.Lib.AppendZeros
import Derived.Deep.DeepCutAuto
import Derived.Deep.CutBlock
import Derived.Outline
import Derived.BigRegion
import Derived.StillTail
import Derived.Deep.OwnRows
import Derived.Lib.TrailingZeros
namespace Go.Proofs.YteamnchoddegpaaGreatDoor
open Go.RowKit Go.Maps
set_option maxHeartbeats 3200000
section
variable {P : Program}
--⟦IF kit.CopyNums
end
section
variable {w0 wr w' : World} {s s' : Thing} {ts : List Thing}
end
section
variable {w w' : World} {base : Nat}
end
section
variable {w0 wr w' : World} {ts : List Thing}
end
section
variable {w0 wr w' : World} {ts : List Thing} {b T n : Nat} {f g : Nat → Value}
end
def PairsOf (w : World) (v : Value) (ps : List (Int × Int)) : Prop :=
  ∃ a n cap, v = .slice a n cap ∧ ps.length = n ∧ ∀ i, i < n → ∃ b off x, a = some ⟨b, off, none⟩ ∧ ps[i]? = some x ∧ w.cell? ⟨b, off + i * 2, none⟩ = some (.int .i64 x.1) ∧ w.cell? ⟨b, off + i * 2 + 1, none⟩ = some (.int .i64 x.2)
theorem PairsOf.nil (w : World) : PairsOf w (.slice none 0 0) [] := ⟨_, _, _, rfl, rfl, fun i hi => by omega⟩
theorem list2 (cs : List Value) (h : cs.length = 2) : ∃ c0 c1, cs = [c0, c1] := by
  match cs, h with
  | [c0, c1], _ => exact ⟨_, _, rfl⟩
set_option maxRecDepth 100000 in
theorem pair_of_cells {H : Type} {enc : TypeId × Value → H} {w : World} {fuel base : Nat} {held : Bool} {cs : List Value} {x : DataW H × List MemPlace}
    (h : DataW.trod enc Tryz.prog w base (fun _ => true) held fuel 93 cs = some x) : ∃ p q : Int, cs = [.int .i64 p, .int .i64 q] := by
  obtain ⟨ys, m, _, _, hl, hyl, hf⟩ := DataW.trod_array Tryz.underlying93 h
  have h2 : Tryz.prog.cellsOf 93 = 2 := by kernel_rfl
  have h1 : Tryz.prog.cellsOf 3 = 1 := by kernel_rfl
  obtain ⟨c0, c1, rfl⟩ := list2 cs (hl.trans h2)
  obtain ⟨y0, e0⟩ : ∃ y, ys[0]? = some y := ⟨_, List.getElem?_eq_getElem (by rw [hyl]; decide)⟩
  obtain ⟨y1, e1⟩ : ∃ y, ys[1]? = some y := ⟨_, List.getElem?_eq_getElem (by rw [hyl]; decide)⟩
  have g0 := hf 0 (by decide)
  rw [h1, e0] at g0
  replace g0 : DataW.trod enc Tryz.prog w base (fun _ => true) held m 3 [c0] = some y0 := g0
  have g1 := hf 1 (by decide)
  rw [h1, e1] at g1
  replace g1 : DataW.trod enc Tryz.prog w base (fun _ => true) held m 3 [c1] = some y1 := g1
  obtain ⟨n0, q0, _, _⟩ := DataW.trod_int Tryz.underlying3 g0
  obtain ⟨n1, q1, _, _⟩ := DataW.trod_int Tryz.underlying3 g1
  simp only [List.cons.injEq, and_true] at q0 q1
  subst q0; subst q1
  exact ⟨n0, n1, rfl⟩
set_option maxRecDepth 100000 in
theorem pairs_of_trod {H : Type} {enc : TypeId × Value → H} {w : World} {base : Nat} {v : Value} {d : DataW H} {p : List MemPlace}
    (h : DataW.Trod enc Tryz.prog w 0 (fun _ => true) true 23 v d p) (o : Value.okWide Tryz.prog w .any base 23 v) :
    ∃ ps, PairsOf w v ps ∧ ps.length ≤ 9223372036854775807 := by
  have h2 : Tryz.prog.cellsOf 93 = 2 := by kernel_rfl
  rcases slice_of_trod Tryz.underlying23 h o with rfl | ⟨ad, n, cap, fu, elems, rfl, hl, hm, hlen, hel⟩
  · exact ⟨[], PairsOf.nil w, by rw [List.length_nil]; omega⟩
  · clear h o
    have each : ∀ i, i < n → ∃ b off, ∃ x : Int × Int, (ad : Addr) = ⟨b, off, none⟩ ∧ w.cell? ⟨b, off + i * 2, none⟩ = some (.int .i64 x.1) ∧ w.cell? ⟨b, off + i * 2 + 1, none⟩ = some (.int .i64 x.2) := by
      have cells : ∀ i, i < n → ∃ x : Int × Int, w.cell? ((ad.add (i * 2)).add 0) = some (.int .i64 x.1) ∧ w.cell? ((ad.add (i * 2)).add 1) = some (.int .i64 x.2) := by
        intro i hi
        have he := hel i hi
        rw [h2, List.getElem?_eq_getElem (by omega)] at he
        obtain ⟨cs, hc, ht⟩ := Option.bind_eq_some_iff.1 he
        obtain ⟨x, y, rfl⟩ := pair_of_cells ht
        obtain ⟨_, _, hat⟩ := World.cells?_some hc
        exact ⟨(x, y), hat 0 (by decide), hat 1 (by decide)⟩
      intro i hi
      have hsp : ad.spot = none := by
        obtain ⟨x, t0, _⟩ := cells 0 (by omega)
        simpa [Addr.add] using World.cell?_spot t0
      obtain ⟨x, t0, t1⟩ := cells i hi
      obtain ⟨b, off, spot⟩ := ad
      simp only at hsp
      subst hsp
      simp only [Go.WideShapes.add_plain, Nat.add_zero] at t0 t1
      exact ⟨b, off, x, rfl, t0, t1⟩
    obtain ⟨ps, hq, hp⟩ := list_of_each (p := fun i (x : Int × Int) => ∃ b off, (ad : Addr) = ⟨b, off, none⟩ ∧ w.cell? ⟨b, off + i * 2, none⟩ = some (.int .i64 x.1) ∧ w.cell? ⟨b, off + i * 2 + 1, none⟩ = some (.int .i64 x.2)) n
      (fun i hi => by obtain ⟨b, off, x, r⟩ := each i hi; exact ⟨x, b, off, r⟩)
    refine ⟨ps, ⟨some ad, n, cap, rfl, hq, fun i hi => ?_⟩, by rw [hq]; unfold maxLen at hm; omega⟩
    obtain ⟨x, hx, b, off, hab, r⟩ := hp i hi
    exact ⟨b, off, x, by rw [hab], hx, r⟩
theorem PairsOf.below {w w' : World} {v : Value} {ps : List (Int × Int)} (h : PairsOf w v ps) (hb : Below w.heap.size w w') : PairsOf w' v ps := by
  obtain ⟨a, n, cap, rfl, hl, hc⟩ := h
  refine ⟨a, n, cap, rfl, hl, fun i hi => ?_⟩
  obtain ⟨b, off, x, rfl, hx, c0, c1⟩ := hc i hi
  exact ⟨b, off, x, rfl, hx, cell_later hb c0, cell_later hb c1⟩
end Go.Proofs.YteamnchoddegpaaGreatDoor
namespace Go.Proofs.YteamnchoddegpaaGreatDoor
open Go.RowKit Go.Maps
set_option maxHeartbeats 3200000
theorem wrap32 (n : Int) : IntKind.u32.wrap n = n % 4294967296 := by simp [IntKind.wrap, IntKind.signed, IntKind.bits]
theorem of32 {a : Nat} (ha : a < 4294967296) : (BitVec.ofInt 32 (a : Int)).toNat = a := by
  rw [BitVec.ofInt_natCast, BitVec.toNat_ofNat]; exact Nat.mod_eq_of_lt (by omega)
theorem and32 (a b : Nat) (ha : a < 4294967296) (hb : b < 4294967296) : bits .and .u32 (a : Int) (b : Int) = ((a &&& b : Nat) : Int) := by
  have hx : a &&& b < 2 ^ 32 := Nat.and_lt_two_pow _ (by omega)
  show IntKind.u32.wrap ((BitVec.ofInt 32 (a : Int) &&& BitVec.ofInt 32 (b : Int)).toNat : Int) = _
  rw [BitVec.toNat_and, of32 ha, of32 hb, wrap32]
  omega
theorem or32 (a b : Nat) (ha : a < 4294967296) (hb : b < 4294967296) : bits .or .u32 (a : Int) (b : Int) = ((a ||| b : Nat) : Int) := by
  have hx : a ||| b < 2 ^ 32 := Nat.or_lt_two_pow (by omega) (by omega)
  show IntKind.u32.wrap ((BitVec.ofInt 32 (a : Int) ||| BitVec.ofInt 32 (b : Int)).toNat : Int) = _
  rw [BitVec.toNat_or, of32 ha, of32 hb, wrap32]
  omega
/-- One set within another. -/
def SubB (x y : Nat) : Prop := ∀ d, x.testBit d = true → y.testBit d = true
theorem andNot32 (a b : Nat) (ha : a < 4294967296) (_hb : b < 4294967296) : (bits .andNot .u32 (a : Int) (b : Int) = 0) ↔ SubB a b := by
  have e : bits .andNot .u32 (a : Int) (b : Int) = (((BitVec.ofNat 32 a &&& ~~~ BitVec.ofNat 32 b).toNat : Nat) : Int) := by
    show IntKind.u32.wrap ((BitVec.ofInt 32 (a : Int) &&& ~~~ BitVec.ofInt 32 (b : Int)).toNat : Int) = _
    rw [BitVec.ofInt_natCast, BitVec.ofInt_natCast, wrap32]
    have := (BitVec.ofNat 32 a &&& ~~~ BitVec.ofNat 32 b).isLt
    omega
  rw [e]
  constructor
  · intro h d hd
    have h0 : (BitVec.ofNat 32 a &&& ~~~ BitVec.ofNat 32 b) = 0#32 := BitVec.eq_of_toNat_eq (by simpa using h)
    have h1 := congrArg (fun v => v.getLsbD d) h0
    have hd32 : d < 32 := by
      apply Nat.lt_of_not_le
      intro hle
      have : a < 2 ^ d := Nat.lt_of_lt_of_le ha (Nat.pow_le_pow_right (n := 2) (i := 32) (by decide) hle)
      rw [Nat.testBit_lt_two_pow this] at hd
      cases hd
    simp only [BitVec.getLsbD_and, BitVec.getLsbD_not, BitVec.getLsbD_ofNat, hd32, hd, decide_true, Bool.true_and] at h1
    simpa using h1
  · intro h
    have h0 : (BitVec.ofNat 32 a &&& ~~~ BitVec.ofNat 32 b) = 0#32 := by
      apply BitVec.eq_of_getLsbD_eq
      intro i hi
      simp only [BitVec.getLsbD_and, BitVec.getLsbD_not, BitVec.getLsbD_ofNat, hi, decide_true, Bool.true_and]
      cases ha2 : a.testBit i with
      | false => simp
      | true => rw [h i ha2]; simp
    rw [h0]; rfl
theorem clear_low (k m : Nat) : (2 ^ k * (2 * m + 1)) &&& (2 ^ k * (2 * m + 1) - 1) = 2 ^ k * (2 * m) := by
  have hp : 0 < 2 ^ k := Nat.two_pow_pos k
  have e : 2 ^ k * (2 * m + 1) - 1 = 2 ^ k * (2 * m) + (2 ^ k - 1) := by rw [Nat.mul_add, Nat.mul_one]; omega
  have h0 : ∀ a, 2 ^ k * a = 2 ^ k * a + 0 := fun a => rfl
  apply Nat.eq_of_testBit_eq
  intro j
  rw [Nat.testBit_and, e, Nat.testBit_two_pow_mul_add _ (by omega : 2 ^ k - 1 < 2 ^ k), h0 (2 * m + 1), h0 (2 * m), Nat.testBit_two_pow_mul_add _ hp, Nat.testBit_two_pow_mul_add _ hp]
  by_cases hj : j < k
  · simp [hj]
  · rw [if_neg hj, if_neg hj, if_neg hj]
    rcases Nat.eq_zero_or_pos (j - k) with h | h
    · rw [h]; simp
    · obtain ⟨i, hi⟩ : ∃ i, j - k = i + 1 := ⟨j - k - 1, by omega⟩
      rw [hi, Nat.testBit_succ, Nat.testBit_succ]
      have d1 : (2 * m + 1) / 2 = m := by omega
      have d2 : (2 * m) / 2 = m := by omega
      rw [d1, d2, Bool.and_self]
/-- The lowest bit of a number that is not 0, and the others. -/
theorem low_bit {x : Nat} (h0 : x ≠ 0) (h : x < 4294967296) : Lib.ctz 32 x < 32 ∧ x.testBit (Lib.ctz 32 x) = true ∧ (x &&& (x - 1)) < x ∧ ∀ j, (x &&& (x - 1)).testBit j = (x.testBit j && decide (j ≠ Lib.ctz 32 x)) := by
  obtain ⟨m, hm, hk⟩ := Lib.ctzFrom_spec 32 x (by omega) h
  have e : Lib.ctz 32 x = Lib.ctzFrom 32 x := by simp [Lib.ctz, h0]
  rw [e]
  obtain ⟨k, hk'⟩ : ∃ k, Lib.ctzFrom 32 x = k := ⟨_, rfl⟩
  rw [hk'] at hm hk ⊢
  have hp : 0 < 2 ^ k := Nat.two_pow_pos k
  have hz : ∀ a, 2 ^ k * a = 2 ^ k * a + 0 := fun a => rfl
  subst hm
  refine ⟨hk, ?_, ?_, fun j => ?_⟩
  · rw [hz, Nat.testBit_two_pow_mul_add _ hp]; simp
  · rw [clear_low]; exact Nat.mul_lt_mul_of_pos_left (by omega) hp
  · rw [clear_low, hz (2 * m), hz (2 * m + 1), Nat.testBit_two_pow_mul_add _ hp, Nat.testBit_two_pow_mul_add _ hp]
    by_cases hj : j < k
    · simp [hj]
    · rw [if_neg hj, if_neg hj]
      rcases Nat.eq_zero_or_pos (j - k) with h1 | h1
      · have : j = k := by omega
        rw [h1]; simp [this]
      · obtain ⟨i, hi⟩ : ∃ i, j - k = i + 1 := ⟨j - k - 1, by omega⟩
        rw [hi, Nat.testBit_succ, Nat.testBit_succ]
        have d1 : (2 * m + 1) / 2 = m := by omega
        have d2 : (2 * m) / 2 = m := by omega
        have hne : j ≠ k := by omega
        rw [d1, d2]; simp [hne]
/-- The table of math/bits, in its variable. -/
def TabOk (w : World) : Prop := ∀ j, j < 32 → w.cell? ⟨0, j, none⟩ = some (.int .u8 ((Lib.deBruijn32tab.getD j 0 : Nat) : Int))
theorem tz_key (x a : Nat) (hx : x < 4294967296) (hx0 : x ≠ 0) (hlow : x &&& (4294967296 - x) = a) :
    bits BinOp.and IntKind.u32 (x : Int) (-(x : Int) % 4294967296) * 125613361 % 4294967296 / 134217728 = ((a * 125613361 % 4294967296 / 134217728 : Nat) : Int) := by
  have e1 : -(x : Int) % 4294967296 = ((4294967296 - x : Nat) : Int) := by omega
  rw [e1, and32 x _ hx (by omega), hlow]
  omega
set_option maxRecDepth 100000 in
theorem tz_any (x : Nat) (hx0 : x ≠ 0) (hx : x < 4294967296) (w : World) (hT : TabOk w) :
    Calls Tryz.prog 78 #[.int .u32 x] w fun e w' => e = .returned (.int .i64 (Lib.ctz 32 x)) ∧ w = w' := by
  obtain ⟨hlow, hk⟩ := Lib.lowest_bit 32 x hx0 hx
  obtain ⟨hi, htab⟩ := Lib.deBruijn32_at _ hk
  have hcell := hT _ hi
  rw [htab] at hcell
  have key := tz_key x _ hx hx0 hlow
  have hx0' : ((x : Int) == 0) = false := by rw [beq_eq_false_iff_ne]; omega
  obtain ⟨idx, hidx⟩ : ∃ idx, 2 ^ Lib.ctz 32 x * 125613361 % 4294967296 / 134217728 = idx := ⟨_, rfl⟩
  obtain ⟨k, hkk⟩ : ∃ k, Lib.ctz 32 x = k := ⟨_, rfl⟩
  rw [hidx] at hi hcell key
  rw [hkk] at hk hcell ⊢
  clear hlow htab hidx hkk hT
  go_enter Tryz.func78, Tryz.ntmps78
  go_wp2_with (simp only [key])
  go_ret
  exact ⟨rfl, rfl⟩
/-- Which bound has been found. -/
def BoundIs (x : Nat) (s : Nat → Nat) (r : Int) : Prop := (∃ c : Nat, r = c ∧ c < 32 ∧ x.testBit c = true ∧ SubB x (s c)) ∨ (r = -1 ∧ ∀ c, x.testBit c = true → ¬ SubB x (s c))
set_option maxRecDepth 100000 in
theorem bound_any (wa : World) (b off : Nat) (s : Nat → Nat) (x : Nat) (hx : x < 4294967296) (hs : ∀ i, i < 32 → wa.cell? ⟨b, off + i, none⟩ = some (.int .u32 (s i))) (hs2 : ∀ i, i < 32 → s i < 4294967296) (hT : TabOk wa) :
    Calls Tryz.prog 52 #[.pointer (some ⟨b, off, none⟩), .int .u32 x] wa fun e w' => ∃ r, e = .returned (.int .i64 r) ∧ BoundIs x s r ∧ wa = w' := by
  have HS := Lib.hid (And.intro hs (And.intro hs2 hT))
  clear hs hs2 hT
  go_enter Tryz.func52, Tryz.ntmps52
  go_wp2
  go_loopw [5] (fun v wx => wa = wx ∧ ∃ rest : Nat, v = .int .u32 rest ∧ rest < 4294967296 ∧ (∀ c, rest.testBit c = true → x.testBit c = true) ∧ ∀ c, x.testBit c = true → rest.testBit c = true ∨ ¬ SubB x (s c)) (fun v _ => (intOf v).toNat)
  case atStart => exact ⟨rfl, x, rfl, hx, fun _ hc => hc, fun c hc => .inl hc⟩
  case round =>
    obtain ⟨rfl, rest, rfl, hr, hin, hrest⟩ := hrel
    have HR := Lib.hid hrest; have HIN := Lib.hid hin
    clear hrest hin
    by_cases h0 : rest = 0
    · subst h0
      go_wp2
      go_ret
      exact ⟨-1, rfl, .inr ⟨rfl, fun c hc => (HR.out c hc).elim (fun h => by simp at h) id⟩, rfl⟩
    · have h0' : ((rest : Int) != 0) = true := by rw [bne_iff_ne]; omega
      obtain ⟨l1, l2, l3, l4⟩ := low_bit h0 hr
      have htz := tz_any rest h0 hr wa HS.out.2.2
      obtain ⟨k, hk⟩ : ∃ k, Lib.ctz 32 rest = k := ⟨_, rfl⟩
      rw [hk] at l1 l2 htz
      simp only [hk] at l4
      have hc := HS.out.1 k l1
      have hsk := HS.out.2.1 k l1
      have hnot := andNot32 x (s k) hx hsk
      have hk0 : (0 : Int) ≤ (k : Int) := by omega
      have hk32 : (k : Int) < 32 := by omega
      have HL := Lib.hid (And.intro l2 (And.intro l3 l4)); have HTZ := Lib.hid htz; have HR0 := Lib.hid h0
      clear l2 l3 l4 htz hk h0
      by_cases hsub : SubB x (s k)
      · have hz : bits .andNot .u32 (x : Int) (s k : Int) = 0 := hnot.2 hsub
        have HSUB := Lib.hid hsub
        clear hnot hsub
        go_wp2_with (go_at_call 78; refine HTZ.out.mono ?_; rintro e w2 ⟨rfl, rfl⟩)
        go_ret
        exact ⟨(k : Int), rfl, .inl ⟨k, rfl, l1, HIN.out k HL.out.1, HSUB.out⟩, rfl⟩
      · have hz : (bits .andNot .u32 (x : Int) (s k : Int) == 0) = false := by rw [beq_eq_false_iff_ne]; exact fun h => hsub (hnot.1 h)
        have HSUB := Lib.hid hsub
        have hw1 : IntKind.u32.wrap ((rest : Int) - 1) = ((rest - 1 : Nat) : Int) := by have := HR0.out; rw [wrap32]; omega
        have ha1 := and32 rest (rest - 1) hr (by omega)
        clear hnot hsub
        go_wp2_with (go_at_call 78; refine HTZ.out.mono ?_; rintro e w2 ⟨rfl, rfl⟩)
        go_roundw
        case rel =>
          obtain ⟨b1, b2, b3⟩ := HL.out
          refine ⟨trivial, rest &&& (rest - 1), rfl, by omega, fun c hc => ?_, fun c hc => ?_⟩
          · rw [b3, Bool.and_eq_true] at hc
            exact HIN.out c hc.1
          · rcases HR.out c hc with h | h
            · by_cases e : c = k
              · subst e; exact .inr HSUB.out
              · left; rw [b3, h]; simp [e]
            · exact .inr h
        case measure => simp only [intOf, Int.toNat_natCast]; exact HL.out.2.1
end Go.Proofs.YteamnchoddegpaaGreatDoor
namespace Go.Proofs.YteamnchoddegpaaGreatDoor
open Go.RowKit Go.Maps
set_option maxHeartbeats 3200000
theorem TabOk.later {w w' : World} (h : TabOk w) (hb : Below w.heap.size w w') : TabOk w' := fun j hj => cell_later hb (h j hj)
/-- Sets of levels in memory. -/
structure SetsIn (w : World) (b off : Nat) (s : Nat → Nat) : Prop where
  cell : ∀ i, i < 32 → w.cell? ⟨b, off + i, none⟩ = some (.int .u32 (s i))
  lt : ∀ i, i < 32 → s i < 4294967296
theorem SetsIn.later {w w' : World} {b off : Nat} {s : Nat → Nat} (h : SetsIn w b off s) (hb : Below w.heap.size w w') : SetsIn w' b off s := ⟨fun i hi => cell_later hb (h.cell i hi), h.lt⟩
/-- All pairs have a bound. -/
def WholeB (n : Nat) (s : Nat → Nat) : Prop := ∀ i, i < n → ∀ k, k < n → ∃ c, (s i &&& s k).testBit c = true ∧ SubB (s i &&& s k) (s c)
theorem bound_neg {x : Nat} {s : Nat → Nat} {r : Int} (h : BoundIs x s r) : r < 0 ↔ ¬ ∃ c, x.testBit c = true ∧ SubB x (s c) := by
  rcases h with ⟨c, rfl, -, h1, h2⟩ | ⟨rfl, h⟩
  · exact ⟨fun h => by omega, fun h => absurd ⟨c, h1, h2⟩ h⟩
  · exact ⟨fun _ ⟨c, h1, h2⟩ => h c h1 h2, fun _ => by omega⟩
set_option maxRecDepth 100000 in
theorem whole_any (wa : World) (b off nb n : Nat) (s : Nat → Nat) (hs : SetsIn wa b off s) (hT : TabOk wa) (hn : n ≤ 32) (hc : wa.cell? ⟨nb, 0, none⟩ = some (.int .i64 n)) :
    Calls Tryz.prog 51 #[.pointer (some ⟨b, off, none⟩), .pointer (some ⟨nb, 0, none⟩)] wa fun e w' => ∃ B, e = .returned (.bool B) ∧ (B = true ↔ WholeB n s) ∧ Below wa.heap.size wa w' := by
  have HS := Lib.hid (And.intro hs hT); have HC := Lib.hid hc
  clear hs hT
  go_enter Tryz.func51, Tryz.ntmps51
  go_wp2
  clear hc
  go_loopw [7] (fun v wx => ∃ i : Nat, i ≤ n ∧ v = .int .i64 i ∧ (∀ i', i' < i → ∀ k, k < n → ∃ c, (s i' &&& s k).testBit c = true ∧ SubB (s i' &&& s k) (s c)) ∧ Below wa.heap.size wa wx) (fun v _ => n - (intOf v).toNat)
  case atStart => exact ⟨0, by omega, rfl, fun i' h => by omega, Below.refl _ _⟩
  case round =>
    obtain ⟨i, hi, rfl, hall, hb⟩ := hrel
    have HALL := Lib.hid hall; have HB := Lib.hid hb
    have hc := cell_later hb HC.out
    clear hall hb
    by_cases hlt : i < n
    · have hlt' : (i : Int) < (n : Int) := by omega
      go_wp2
      clear hc
      go_loopw [11] (fun v wx => ∃ k : Nat, k ≤ n ∧ v = .int .i64 k ∧ (∀ k', k' < k → ∃ c, (s i &&& s k').testBit c = true ∧ SubB (s i &&& s k') (s c)) ∧ Below wa.heap.size wa wx) (fun v _ => n - (intOf v).toNat)
      case atStart => exact ⟨0, by omega, rfl, fun i' h => by omega, HB.out⟩
      case round =>
        obtain ⟨k, hk, rfl, hin, hb⟩ := hrel
        have HIN := Lib.hid hin
        clear hin
        by_cases hkl : k < n
        · have hkl' : (k : Int) < (n : Int) := by omega
          have hi32 : (i : Int) < 32 := by omega
          have hk32 : (k : Int) < 32 := by omega
          have hi0 : (0 : Int) ≤ (i : Int) := by omega
          have hk0 : (0 : Int) ≤ (k : Int) := by omega
          have d0 := cell_later hb (HS.out.1.cell i (by omega))
          have d1 := cell_later hb (HS.out.1.cell k (by omega))
          have hand := and32 (s i) (s k) (HS.out.1.lt i (by omega)) (HS.out.1.lt k (by omega))
          have hx : s i &&& s k < 4294967296 := Nat.lt_of_le_of_lt Nat.and_le_left (HS.out.1.lt i (by omega))
          have hb2 : Below wa.heap.size wa wr.drew := below_drewN hb 1
          have hbd := bound_any wr.drew b off s (s i &&& s k) hx (HS.out.1.later hb2).cell HS.out.1.lt (HS.out.2.later hb2)
          have HBD := Lib.hid hbd; have HB2 := Lib.hid hb2
          clear hb hbd hb2
          go_wp2
          go_still_tail 12, (by kernel_rfl)
          simp only [World.drew_eq]
          go_wp2_with fail
          go_at_call 52
          refine HBD.out.mono ?_
          rintro e w2 ⟨r, rfl, hr, rfl⟩
          have HR := Lib.hid hr
          have hrn := bound_neg hr
          clear hr
          by_cases hneg : r < 0
          · have HN := Lib.hid (hrn.1 hneg)
            clear hrn
            go_wp2
            go_ret
            refine ⟨false, rfl, ⟨fun h => (by cases h), fun h => ?_⟩, HB2.out⟩
            exact absurd (h i hlt k hkl) HN.out
          · have HN := Lib.hid (Classical.not_not.1 (fun h => hneg (hrn.2 h)))
            clear hrn
            go_wp2
            go_roundw
            case rel =>
              refine ⟨k + 1, by omega, by go_num, fun k' hk' => ?_, HB2.out⟩
              by_cases e : k' = k
              · subst e; exact HN.out
              · exact HIN.out k' (by omega)
            case measure => simp [intOf]; omega
        · obtain rfl : k = n := by omega
          have hkl' : ¬ (k : Int) < (k : Int) := by omega
          have HB2 := Lib.hid hb
          clear hb
          go_wp2
          go_roundw
          case rel =>
            refine ⟨i + 1, by omega, by go_num, fun i' hi' k' hk' => ?_, HB2.out⟩
            by_cases e : i' = i
            · subst e; exact HIN.out k' hk'
            · exact HALL.out i' (by omega) k' hk'
          case measure => simp [intOf]; omega
    · obtain rfl : i = n := by omega
      have hlt' : ¬ (i : Int) < (i : Int) := by omega
      go_wp2
      go_ret
      exact .inr ⟨rfl, HALL.out, HB.out⟩
end Go.Proofs.YteamnchoddegpaaGreatDoor
namespace Go.Proofs.YteamnchoddegpaaGreatDoor
open Go.RowKit Go.Maps
set_option maxHeartbeats 1600000
abbrev Rel := Nat → Nat → Bool
def initR : Rel := fun i j => decide (i = j)
def addP (R : Rel) (a b : Nat) : Rel := fun i j => R i j || (decide (i = a) && decide (j = b))
def cloK (R : Rel) (k : Nat) : Rel := fun i j => R i j || (R i k && R k j)
def cloN (R : Rel) : Nat → Rel | 0 => R | k + 1 => cloK (cloN R k) k
def addAll (R : Rel) (os : List (Int × Int)) : Rel := os.foldl (fun R p => addP R p.1.toNat p.2.toNat) R
def badP (n : Nat) (p : Int × Int) : Prop := ¬ (0 ≤ p.1 ∧ p.1 < (n : Int) ∧ 0 ≤ p.2 ∧ p.2 < (n : Int))
def latR (n : Nat) (os : List (Int × Int)) : Rel := cloN (addAll initR os) n
/-- Two levels are each at most the other. -/
def Loops (n : Nat) (R : Rel) : Prop := ∃ i j, i < n ∧ j < n ∧ i ≠ j ∧ R i j = true ∧ R j i = true
/-- Each two levels have a least upper bound. -/
def Joins (n : Nat) (R : Rel) : Prop := ∀ a, a < n → ∀ b, b < n → ∃ c, c < n ∧ R a c = true ∧ R b c = true ∧ ∀ d, d < n → R a d = true → R b d = true → R c d = true
def rev (R : Rel) : Rel := fun i j => R j i
open Classical in
/-- The error of a lattice. -/
noncomputable def latE (n : Int) (os : List (Int × Int)) : Nat :=
  if n < 1 ∨ 32 < n then 3 else if 1024 < os.length then 5 else if ∃ p ∈ os, badP n.toNat p then 3 else
  if Loops n.toNat (latR n.toNat os) then 9 else if Joins n.toNat (latR n.toNat os) ∧ Joins n.toNat (rev (latR n.toNat os)) then 0 else 4
/-- A relation in rows of bits. -/
structure RowsOf (n : Nat) (R : Rel) (u : Nat → Nat) : Prop where
  lt : ∀ i, i < 32 → u i < 4294967296
  bit : ∀ i, i < n → ∀ j, (u i).testBit j = (decide (j < n) && R i j)
def upd (u : Nat → Nat) (a y : Nat) : Nat → Nat := fun i => if i = a then y else u i
theorem upd_self (u : Nat → Nat) (a y : Nat) : upd u a y a = y := if_pos rfl
theorem upd_other {u : Nat → Nat} {a y i : Nat} (h : i ≠ a) : upd u a y i = u i := if_neg h
theorem RowsOf.put {n : Nat} {R R' : Rel} {u : Nat → Nat} (h : RowsOf n R u) {a y : Nat} (hy : y < 4294967296) (hb : ∀ j, y.testBit j = (decide (j < n) && R' a j)) (hR : ∀ i j, i < n → j < n → i ≠ a → R' i j = R i j) : RowsOf n R' (upd u a y) := by
  refine ⟨fun i hi => ?_, fun i hi j => ?_⟩
  · by_cases e : i = a
    · subst e; rw [upd_self]; exact hy
    · rw [upd_other e]; exact h.lt i hi
  · by_cases e : i = a
    · subst e; rw [upd_self]; exact hb j
    · rw [upd_other e, h.bit i hi j]
      by_cases hj : j < n
      · rw [hR i j hi hj e]
      · simp [hj]
theorem RowsOf.congr {n : Nat} {R R' : Rel} {u : Nat → Nat} (h : RowsOf n R u) (hR : ∀ i j, i < n → j < n → R' i j = R i j) : RowsOf n R' u := by
  refine ⟨h.lt, fun i hi j => ?_⟩
  rw [h.bit i hi j]
  by_cases hj : j < n
  · rw [hR i j hi hj]
  · simp [hj]
theorem pow32 {i : Nat} (h : i < 32) : 2 ^ i < 4294967296 := by
  have : (2 : Nat) ^ i < 2 ^ 32 := Nat.pow_lt_pow_right (by decide) h
  omega
theorem bit_pow (i j : Nat) : (2 ^ i).testBit j = decide (j = i) := by
  rw [Nat.testBit_two_pow]; by_cases h : i = j <;> simp [h, eq_comm]
/-- The test of a bit: x>>k&1 == 1. -/
theorem bit_test {x k : Nat} (_hx : x < 4294967296) : ((x / 2 ^ k) &&& 1) = if x.testBit k = true then 1 else 0 := by
  rw [Nat.and_one_is_mod, Nat.testBit_eq_decide_div_mod_eq]
  have := Nat.mod_two_eq_zero_or_one (x / 2 ^ k)
  rcases this with h | h <;> simp [h]
theorem cloN_refl {R : Rel} (h : ∀ i, R i i = true) : ∀ k i, cloN R k i i = true
  | 0, i => h i
  | k + 1, i => by unfold cloN cloK; rw [cloN_refl h k i]; simp
theorem addAll_refl : ∀ (os : List (Int × Int)) (R : Rel), (∀ i, R i i = true) → ∀ i, addAll R os i i = true
  | [], _, h, i => h i
  | p :: os, R, h, i => by
    unfold addAll
    rw [List.foldl_cons]
    exact addAll_refl os _ (fun i => by unfold addP; rw [h i]; simp) i
theorem latR_refl (n : Nat) (os : List (Int × Int)) (i : Nat) : latR n os i i = true := cloN_refl (addAll_refl os _ (fun i => by simp [initR])) n i
theorem addAll_snoc (R : Rel) (os : List (Int × Int)) (p : Int × Int) : addAll R (os ++ [p]) = addP (addAll R os) p.1.toNat p.2.toNat := by unfold addAll; rw [List.foldl_append]; rfl
/-- The bounds in rows of bits. -/
theorem whole_rows {n : Nat} {R : Rel} {u : Nat → Nat} (h : RowsOf n R u) : WholeB n u ↔ Joins n R := by
  unfold WholeB Joins
  constructor
  · intro hw a ha b hb
    obtain ⟨c, hc, hs⟩ := hw a ha b hb
    rw [Nat.testBit_and, h.bit a ha, h.bit b hb, Bool.and_eq_true, Bool.and_eq_true, Bool.and_eq_true, decide_eq_true_eq] at hc
    obtain ⟨⟨hcn, h1⟩, -, h2⟩ := hc
    refine ⟨c, hcn, h1, h2, fun d hd h3 h4 => ?_⟩
    have := hs d (by rw [Nat.testBit_and, h.bit a ha, h.bit b hb, h3, h4]; simp [hd])
    rw [h.bit c hcn, Bool.and_eq_true] at this
    exact this.2
  · intro hj a ha b hb
    obtain ⟨c, hcn, h1, h2, h3⟩ := hj a ha b hb
    refine ⟨c, by rw [Nat.testBit_and, h.bit a ha, h.bit b hb, h1, h2]; simp [hcn], fun d hd => ?_⟩
    rw [Nat.testBit_and, h.bit a ha, h.bit b hb, Bool.and_eq_true, Bool.and_eq_true, Bool.and_eq_true, decide_eq_true_eq] at hd
    obtain ⟨⟨hdn, h4⟩, -, h5⟩ := hd
    rw [h.bit c hcn, h3 d hdn h4 h5]; simp [hdn]
/-- Whether a level and another one are at most each other, in rows. -/
theorem loop_row {n : Nat} {R : Rel} {u d : Nat → Nat} (h : RowsOf n R u) (hd : RowsOf n (rev R) d) {i : Nat} (hi : i < n) (hr : R i i = true) : (u i &&& d i = 2 ^ i) ↔ ∀ j, j < n → j ≠ i → ¬ (R i j = true ∧ R j i = true) := by
  constructor
  · intro e j hj hne h1
    have := congrArg (fun x => x.testBit j) e
    simp only [Nat.testBit_and, h.bit i hi, hd.bit i hi, bit_pow] at this
    rw [h1.1, show rev R i j = true from h1.2] at this
    simp [hj, hne] at this
  · intro hno
    apply Nat.eq_of_testBit_eq
    intro j
    rw [Nat.testBit_and, h.bit i hi, hd.bit i hi, bit_pow]
    by_cases hj : j < n
    · by_cases e : j = i
      · subst e; rw [hr, show rev R j j = true from hr]; simp [hj]
      · have := hno j hj e
        cases h1 : R i j <;> cases h2 : rev R i j <;> simp [hj, e]
        exact this ⟨h1, h2⟩
    · have : j ≠ i := by omega
      simp [hj, this]
/-- A lattice's cells. -/
def latF (n : Nat) (u d : Nat → Nat) : Nat → Value := fun k => if k = 0 then .int .i64 n else if k < 33 then .int .u32 (u (k - 1)) else .int .u32 (d (k - 33))
theorem latF_up (n : Nat) (u d : Nat → Nat) {a : Nat} (ha : a < 32) (y : Nat) (j : Nat) : (if j = 1 + a then Value.int .u32 (y : Int) else latF n u d j) = latF n (upd u a y) d j := by
  unfold latF upd
  by_cases e : j = 1 + a
  · subst e; rw [if_pos rfl, if_neg (by omega), if_pos (by omega), if_pos (by omega)]
  · rw [if_neg e]
    by_cases h0 : j = 0
    · rw [if_pos h0, if_pos h0]
    · rw [if_neg h0, if_neg h0]
      by_cases h1 : j < 33
      · rw [if_pos h1, if_pos h1, if_neg (by omega)]
      · rw [if_neg h1, if_neg h1]
theorem latF_down (n : Nat) (u d : Nat → Nat) {a : Nat} (_ha : a < 32) (y : Nat) (j : Nat) : (if j = 33 + a then Value.int .u32 (y : Int) else latF n u d j) = latF n u (upd d a y) j := by
  unfold latF upd
  by_cases e : j = 33 + a
  · subst e; rw [if_pos rfl, if_neg (by omega), if_neg (by omega), if_pos (by omega)]
  · rw [if_neg e]
    by_cases h0 : j = 0
    · rw [if_pos h0, if_pos h0]
    · rw [if_neg h0, if_neg h0]
      by_cases h1 : j < 33
      · rw [if_pos h1, if_pos h1]
      · rw [if_neg h1, if_neg h1, if_neg (by omega)]
theorem latF_at0 (n : Nat) (u d : Nat → Nat) : latF n u d 0 = .int .i64 n := rfl
theorem latF_atU (n : Nat) (u d : Nat → Nat) {i : Nat} (h : i < 32) : latF n u d (1 + i) = .int .u32 (u i) := by unfold latF; rw [if_neg (by omega), if_pos (by omega), show 1 + i - 1 = i by omega]
theorem latF_atD (n : Nat) (u d : Nat → Nat) (i : Nat) : latF n u d (33 + i) = .int .u32 (d i) := by unfold latF; rw [if_neg (by omega), if_neg (by omega), show 33 + i - 33 = i by omega]
/-- The closure, as far as row i of step k. -/
def midR (R : Rel) (k i : Nat) : Rel := fun a b => if a < i then R a b || (R a k && R k b) else R a b
theorem midR_zero (R : Rel) (k : Nat) : midR R k 0 = R := by funext a b; simp [midR]
theorem midR_end {n : Nat} {R : Rel} {k : Nat} {u : Nat → Nat} (h : RowsOf n (midR R k n) u) : RowsOf n (cloK R k) u := h.congr fun i j hi _ => by unfold midR cloK; rw [if_pos hi]
theorem midR_row {R : Rel} {k i j : Nat} : midR R k i k j = R k j := by
  unfold midR
  split
  · cases R k j <;> cases R k k <;> rfl
  · rfl
theorem midR_own {R : Rel} {k i j : Nat} : midR R k i i j = R i j := by unfold midR; rw [if_neg (by omega)]
theorem midR_other {R : Rel} {k i a b : Nat} (h : a ≠ i) : midR R k (i + 1) a b = midR R k i a b := by
  unfold midR
  by_cases h1 : a < i
  · rw [if_pos h1, if_pos (by omega)]
  · rw [if_neg h1, if_neg (by omega)]
theorem midR_next {R : Rel} {k i j : Nat} : midR R k (i + 1) i j = (R i j || (R i k && R k j)) := by unfold midR; rw [if_pos (by omega)]
theorem RowsOf.mid_put {n : Nat} {R : Rel} {k i : Nat} {u : Nat → Nat} (h : RowsOf n (midR R k i) u) (hi : i < n) (hk : k < n) (hn : n ≤ 32) (hr : R i k = true) : RowsOf n (midR R k (i + 1)) (upd u i (u i ||| u k)) := by
  refine h.put ?_ (fun j => ?_) (fun a b _ _ hne => midR_other hne)
  · have : u i ||| u k < 2 ^ 32 := Nat.or_lt_two_pow (h.lt i (by omega)) (h.lt k (by omega))
    omega
  · rw [Nat.testBit_or, h.bit i hi, h.bit k hk, midR_own, midR_row, midR_next, hr]
    cases decide (j < n) <;> simp
theorem RowsOf.mid_skip {n : Nat} {R : Rel} {k i : Nat} {u : Nat → Nat} (h : RowsOf n (midR R k i) u) (hr : R i k = false) : RowsOf n (midR R k (i + 1)) u := h.congr fun a b _ _ => by
  by_cases e : a = i
  · subst e; rw [midR_next, midR_own, hr]; simp
  · exact midR_other e
/-- The relation turned round, as far as row i and place k. -/
def dR (R : Rel) (i k : Nat) : Rel := fun a b => R b a && (decide (b < i) || (decide (b = i) && decide (a < k)))
theorem dR_zero {n : Nat} (R : Rel) {d : Nat → Nat} (hd : ∀ i, d i = 0) : RowsOf n (dR R 0 0) d := ⟨fun i _ => by rw [hd i]; decide, fun i _ j => by rw [hd i]; simp [dR]⟩
theorem dR_line {n : Nat} {R : Rel} {i : Nat} {d : Nat → Nat} (h : RowsOf n (dR R i n) d) : RowsOf n (dR R (i + 1) 0) d := h.congr fun a b ha _ => by
  unfold dR
  congr 1
  by_cases h1 : b < i
  · have : b < i + 1 := by omega
    simp [h1, this]
  · by_cases h2 : b = i
    · simp [h2, ha]
    · have : ¬ b < i + 1 := by omega
      simp [h1, h2, this]
theorem dR_end {n : Nat} {R : Rel} {d : Nat → Nat} (h : RowsOf n (dR R n 0) d) : RowsOf n (rev R) d := h.congr fun a b _ hb => by unfold dR rev; simp [hb]
theorem RowsOf.d_put {n : Nat} {R : Rel} {i k : Nat} {d : Nat → Nat} (h : RowsOf n (dR R i k) d) (hi : i < n) (hk : k < n) (hn : n ≤ 32) (hr : R i k = true) : RowsOf n (dR R i (k + 1)) (upd d k (d k ||| 2 ^ i)) := by
  refine h.put ?_ (fun j => ?_) (fun a b _ _ hne => ?_)
  · have h1 := pow32 (i := i) (by omega)
    have : d k ||| 2 ^ i < 2 ^ 32 := Nat.or_lt_two_pow (h.lt k (by omega)) (by omega)
    omega
  · rw [Nat.testBit_or, h.bit k hk, bit_pow]
    unfold dR
    by_cases e : j = i
    · subst e; rw [hr]; simp [hi]
    · simp [e]
  · unfold dR
    congr 2
    have e1 : (a < k + 1) ↔ (a < k) := by omega
    simp [e1]
theorem RowsOf.d_skip {n : Nat} {R : Rel} {i k : Nat} {d : Nat → Nat} (h : RowsOf n (dR R i k) d) (hr : R i k = false) : RowsOf n (dR R i (k + 1)) d := h.congr fun a b _ _ => by
  unfold dR
  by_cases e : a = k
  · subst e
    by_cases e2 : b = i
    · subst e2; rw [hr]; simp
    · simp [e2]
  · have e1 : (a < k + 1) ↔ (a < k) := by omega
    simp [e1]
/-- A bit put into a row. -/
theorem RowsOf.add_put {n : Nat} {R : Rel} {i j : Nat} {u : Nat → Nat} (h : RowsOf n R u) (hi : i < n) (hj : j < n) (hn : n ≤ 32) : RowsOf n (addP R i j) (upd u i (u i ||| 2 ^ j)) := by
  refine h.put ?_ (fun b => ?_) (fun a b _ _ hne => ?_)
  · have h1 := pow32 (i := j) (by omega)
    have : u i ||| 2 ^ j < 2 ^ 32 := Nat.or_lt_two_pow (h.lt i (by omega)) (by omega)
    omega
  · rw [Nat.testBit_or, h.bit i hi, bit_pow]
    unfold addP
    by_cases e : b = j
    · subst e; simp [hj]
    · simp [e]
  · unfold addP; simp [hne]
/-- A shift, and the last bit, as the walk shows them. -/
theorem shift_bit {x k : Nat} (hx : x < 4294967296) : bits .and .u32 ((x : Int) / (2 : Int) ^ k) 1 = if x.testBit k = true then 1 else 0 := by
  have e : (x : Int) / (2 : Int) ^ k = ((x / 2 ^ k : Nat) : Int) := by simp
  have hq : x / 2 ^ k < 4294967296 := Nat.lt_of_le_of_lt (Nat.div_le_self _ _) hx
  rw [e, show (1 : Int) = ((1 : Nat) : Int) from rfl, and32 _ _ hq (by decide), bit_test hx]
  split <;> rfl
theorem latE_rest {n : Nat} {os : List (Int × Int)} (h1 : 1 ≤ n) (h2 : n ≤ 32) (h3 : os.length ≤ 1024) (h4 : ∀ p ∈ os, ¬ badP n p) {R : Rel} (hR : latR n os = R) :
    (Loops n R → latE (n : Int) os = 9) ∧ (¬ Loops n R → (Joins n R ∧ Joins n (rev R)) → latE (n : Int) os = 0) ∧ (¬ Loops n R → ¬ (Joins n R ∧ Joins n (rev R)) → latE (n : Int) os = 4) := by
  have hb : ¬ ∃ p ∈ os, badP (n : Int).toNat p := by rintro ⟨p, hp, hb⟩; exact h4 p hp (by rwa [Int.toNat_natCast] at hb)
  subst hR
  refine ⟨fun hl => ?_, fun hl hj => ?_, fun hl hj => ?_⟩
  · unfold latE; rw [if_neg (by omega), if_neg (by omega), if_neg hb, Int.toNat_natCast, if_pos hl]
  · unfold latE; rw [if_neg (by omega), if_neg (by omega), if_neg hb, Int.toNat_natCast, if_neg hl, if_pos hj]
  · unfold latE; rw [if_neg (by omega), if_neg (by omega), if_neg hb, Int.toNat_natCast, if_neg hl, if_neg hj]
end Go.Proofs.YteamnchoddegpaaGreatDoor
