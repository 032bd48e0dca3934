/- PlainA, WordA, WordB, WordC: joined by wip/bundle.py. -/
import Derived.Laws.BitsAllLaws
import Derived.Test.YteamnchoddegpaaGreatDoorChecked
import Derived.Lib.Hide
import Derived.WalkKit
import Derived.WalkSpells
import Derived.WalkLawsBesides
import Derived.BigQuiet
import Derived.Deep.QuietTactic
import Derived.Deep.RegionHeld3
namespace Go.Proofs.YteamnchoddegpaaGreatDoor
/-- A word, as a signed number. -/
def sgn (W a : Nat) : Int := if a < 2 ^ (W - 1) then (a : Int) else (a : Int) - (2 ^ W : Nat)
def b01 (p : Bool) : Nat := if p then 1 else 0
/-- The result of an operator on words (less than 2^W), a word. -/
def wop (W o a b c : Nat) : Nat :=
  match o with
  | 2 => 2 ^ W - 1 - a
  | 3 => (2 ^ W - a) % 2 ^ W
  | 4 => (a + b) % 2 ^ W
  | 5 => (a + 2 ^ W - b) % 2 ^ W
  | 6 => a * b % 2 ^ W
  | 7 => if b = 0 then 2 ^ W - 1 else a / b
  | 8 => if b = 0 then a else a % b
  | 9 => a &&& b
  | 10 => a ||| b
  | 11 => a ^^^ b
  | 12 => if W ≤ b then 0 else a * 2 ^ b % 2 ^ W
  | 13 => if W ≤ b then 0 else a / 2 ^ b
  | 14 => if a < 2 ^ (W - 1) then a / 2 ^ min b 64 else 2 ^ W - 1 - (2 ^ W - 1 - a) / 2 ^ min b 64
  | 15 => b01 (a == b)
  | 16 => b01 (a != b)
  | 17 => b01 (decide (a < b))
  | 18 => b01 (decide (a ≤ b))
  | 19 => b01 (decide (sgn W a < sgn W b))
  | 20 => b01 (decide (sgn W a ≤ sgn W b))
  | 21 => if a = 0 then c else b
  | _ => 0
def aryN (o : Nat) : Nat := if o ≤ 1 then 0 else if o ≤ 3 then 1 else if o = 21 then 3 else 2
/-- The error of Apply. -/
def wE (o W : Int) (n : Nat) : Int := if W < 1 ∨ 64 < W then 3 else if o < 2 ∨ 21 < o then 3 else if aryN o.toNat = n then 0 else 2
def wA (W : Int) (xs : List Int) (i : Nat) : Nat := (xs.getD i 0).toNat % 2 ^ W.toNat
/-- The result of Apply. -/
def wI (o W : Int) (xs : List Int) : Int := if wE o W xs.length = 0 then ((wop W.toNat o.toNat (wA W xs 0) (wA W xs 1) (wA W xs 2) : Nat) : Int) else 0
theorem two_le_pow {W : Nat} (h : 1 ≤ W) : 2 ≤ 2 ^ W := Nat.pow_le_pow_right (n := 2) (by decide) h
theorem pow_pos2 (W : Nat) : 0 < 2 ^ W := Nat.pow_pos (by decide)
theorem pow_le64 {W : Nat} (h : W ≤ 64) : 2 ^ W ≤ 18446744073709551616 := by
  have := Nat.pow_le_pow_right (n := 2) (by decide) h
  simpa using this
theorem pow_half {W : Nat} (h : 1 ≤ W) : 2 ^ W = 2 * 2 ^ (W - 1) := by
  obtain ⟨k, rfl⟩ : ∃ k, W = k + 1 := ⟨W - 1, by omega⟩
  rw [Nat.pow_succ, Nat.add_sub_cancel]; omega
theorem pow_dvd64 {W : Nat} (h : W ≤ 64) : 2 ^ W ∣ 18446744073709551616 := by
  have := Nat.pow_dvd_pow 2 h
  simpa using this
theorem mod64_mod {W : Nat} (h : W ≤ 64) (n : Nat) : n % 18446744073709551616 % 2 ^ W = n % 2 ^ W := Nat.mod_mod_of_dvd n (pow_dvd64 h)
theorem b01_lt {W : Nat} (h : 1 ≤ W) (p : Bool) : b01 p < 2 ^ W := by
  have := two_le_pow h; unfold b01; split <;> omega
theorem b01_mod {W : Nat} (h : 1 ≤ W) (p : Bool) : b01 p % 2 ^ W = b01 p := Nat.mod_eq_of_lt (b01_lt h p)
theorem wop_lt (W o a b c : Nat) (hW : 1 ≤ W) (ha : a < 2 ^ W) (hb : b < 2 ^ W) (hc : c < 2 ^ W) : wop W o a b c < 2 ^ W := by
  have hp := pow_pos2 W
  unfold wop
  split
  case h_1 => omega
  case h_2 => exact Nat.mod_lt _ hp
  case h_3 => exact Nat.mod_lt _ hp
  case h_4 => exact Nat.mod_lt _ hp
  case h_5 => exact Nat.mod_lt _ hp
  case h_6 => split; · omega
              · exact Nat.lt_of_le_of_lt (Nat.div_le_self _ _) ha
  case h_7 => split; · exact ha
              · exact Nat.lt_of_le_of_lt (Nat.mod_le _ _) ha
  case h_8 => exact Nat.lt_of_le_of_lt Nat.and_le_left ha
  case h_9 => exact Nat.or_lt_two_pow ha hb
  case h_10 => exact Nat.xor_lt_two_pow ha hb
  case h_11 => split; · exact hp
               · exact Nat.mod_lt _ hp
  case h_12 => split; · exact hp
               · exact Nat.lt_of_le_of_lt (Nat.div_le_self _ _) ha
  case h_13 => split; · exact Nat.lt_of_le_of_lt (Nat.div_le_self _ _) ha
               · exact Nat.lt_of_le_of_lt (Nat.sub_le _ _) (by omega)
  case h_20 => split <;> assumption
  case h_21 => exact hp
  all_goals exact b01_lt hW _
theorem sgn_neg {W a : Nat} (h1 : 1 ≤ W) (ha : a < 2 ^ W) (h : 2 ^ (W - 1) ≤ a) : sgn W a = Int.negSucc (2 ^ W - 1 - a) := by
  have := pow_half h1
  unfold sgn; rw [if_neg (by omega), Int.negSucc_eq]
  generalize 2 ^ (W - 1) = H at *
  generalize 2 ^ W = P at *
  omega
theorem mod_minus (W q : Nat) (h2 : W ≤ 64) (hq : q < 2 ^ W) : (18446744073709551615 - q) % 2 ^ W = 2 ^ W - 1 - q := by
  obtain ⟨k, hk⟩ := pow_dvd64 h2
  have hp := pow_le64 h2
  have hk1 : 1 ≤ k := by
    rcases Nat.eq_zero_or_pos k with h0 | h0
    · subst h0; omega
    · exact h0
  have : 2 ^ W * (k - 1) + 2 ^ W = 18446744073709551616 := by rw [hk, ← Nat.mul_succ]; congr 1; omega
  rw [show 18446744073709551615 - q = (2 ^ W - 1 - q) + 2 ^ W * (k - 1) from by omega, Nat.add_mul_mod_self_left, Nat.mod_eq_of_lt (by omega)]
/-- An arithmetic shift, at 64 bits. -/
theorem sar_raw (W a m : Nat) (h1 : 1 ≤ W) (h2 : W ≤ 64) (ha : a < 2 ^ W) :
    ∃ r : Nat, (sgn W a / (2 : Int) ^ m) % 18446744073709551616 = (r : Int) ∧ r < 18446744073709551616 ∧
      r % 2 ^ W = if a < 2 ^ (W - 1) then a / 2 ^ m else 2 ^ W - 1 - (2 ^ W - 1 - a) / 2 ^ m := by
  have hp := pow_le64 h2
  have hq := pow_pos2 W
  by_cases hc : a < 2 ^ (W - 1)
  · rw [if_pos hc]
    have hl : a / 2 ^ m < 2 ^ W := Nat.lt_of_le_of_lt (Nat.div_le_self _ _) ha
    have e : sgn W a = (a : Int) := by unfold sgn; rw [if_pos hc]
    have e2 : ((a : Int) / (2 : Int) ^ m) = ((a / 2 ^ m : Nat) : Int) := by simp
    refine ⟨a / 2 ^ m, ?_, by omega, Nat.mod_eq_of_lt hl⟩
    rw [e, e2]
    generalize a / 2 ^ m = x at *
    omega
  · rw [if_neg hc, sgn_neg h1 ha (by omega)]
    have hpos : (0 : Int) < 2 ^ m := by have := pow_pos2 m; exact_mod_cast this
    have hl : (2 ^ W - 1 - a) / 2 ^ m < 2 ^ W := Nat.lt_of_le_of_lt (Nat.div_le_self _ _) (by omega)
    have e2 : (((2 ^ W - 1 - a : Nat) : Int) / (2 : Int) ^ m) = (((2 ^ W - 1 - a) / 2 ^ m : Nat) : Int) := by simp
    have e3 : Int.ediv ((2 ^ W - 1 - a : Nat) : Int) ((2 : Int) ^ m) = (((2 ^ W - 1 - a) / 2 ^ m : Nat) : Int) := e2
    refine ⟨18446744073709551615 - (2 ^ W - 1 - a) / 2 ^ m, ?_, Nat.lt_of_le_of_lt (Nat.sub_le _ _) (by decide), mod_minus W _ h2 hl⟩
    rw [Int.negSucc_ediv _ hpos, e3]
    generalize (2 ^ W - 1 - a) / 2 ^ m = q at *
    omega
theorem sgn_wrap (W a : Nat) (h1 : 1 ≤ W) (h2 : W ≤ 64) (ha : a < 2 ^ W) (h : 2 ^ (W - 1) ≤ a) :
    (((a + (18446744073709551616 - 2 ^ W) : Nat) : Int) + 9223372036854775808) % 18446744073709551616 - 9223372036854775808 = sgn W a := by
  have hh := pow_half h1
  have hp := pow_le64 h2
  unfold sgn; rw [if_neg (by omega)]
  generalize 2 ^ (W - 1) = H at *
  generalize 2 ^ W = P at *
  omega
theorem sgn_wrap' (W a : Nat) (h1 : 1 ≤ W) (h2 : W ≤ 64) (h : ¬ 2 ^ (W - 1) ≤ a) :
    ((a : Int) + 9223372036854775808) % 18446744073709551616 - 9223372036854775808 = sgn W a := by
  have hh := pow_half h1
  have hp := pow_le64 h2
  unfold sgn; rw [if_pos (by omega)]
  generalize 2 ^ (W - 1) = H at *
  generalize 2 ^ W = P at *
  omega
end Go.Proofs.YteamnchoddegpaaGreatDoor
namespace Go.Proofs.YteamnchoddegpaaGreatDoor
section
variable (W a b c : Nat)
end
theorem ones_mod' {W : Nat} (h2 : W ≤ 64) : 18446744073709551615 % 2 ^ W = 2 ^ W - 1 := by
  have h := mod_minus W 0 h2 (pow_pos2 W)
  simpa using h
/-- The result of an operator on numbers, of which the lowest bits count. -/
def wm (W o x y : Nat) : Nat := wop W o (x % 2 ^ W) (y % 2 ^ W) 0
end Go.Proofs.YteamnchoddegpaaGreatDoor
namespace Go.Proofs.YteamnchoddegpaaGreatDoor
end Go.Proofs.YteamnchoddegpaaGreatDoor
namespace Go.Proofs.YteamnchoddegpaaGreatDoor
/-- A node: operator, number, arguments. -/
abbrev PNode := Nat × Nat × List Int
def NodeOk (n : PNode) : Prop := n.1 ≤ 21 ∧ n.2.1 ≤ 18446744073709551615 ∧ n.2.2.length = aryN n.1
/-- The nodes of a graph: each once, of the right form, its arguments before it. -/
structure WFL (L : List PNode) : Prop where
  nodup : L.Nodup
  ok : ∀ n ∈ L, NodeOk n
  args : ∀ (i : Nat) (n : PNode), L[i]? = some n → ∀ a ∈ n.2.2, (0 : Int) ≤ a ∧ a < (i : Int)
/-- What becomes of a list of nodes that is asked for a node: the list, the term, the error. -/
def askP (room : Nat) (L : List PNode) (n : PNode) : List PNode × Nat × Nat :=
  match L.findIdx? (· == n) with
  | some t => (L, t, 0)
  | none => if room ≤ L.length then (L, 0, 10) else (L ++ [n], L.length, 0)
theorem WFL.nil : WFL [] := ⟨by simp, by simp, by simp⟩
theorem WFL.snoc {L : List PNode} (h : WFL L) {n : PNode} (hn : n ∉ L) (hok : NodeOk n) (ha : ∀ a ∈ n.2.2, (0 : Int) ≤ a ∧ a < (L.length : Int)) : WFL (L ++ [n]) := by
  refine ⟨?_, ?_, ?_⟩
  · rw [List.nodup_append]
    refine ⟨h.nodup, by simp, ?_⟩
    intro x hx b hb hab
    simp at hb
    subst hb; subst hab
    exact hn hx
  · intro m hm
    rcases List.mem_append.1 hm with hm | hm
    · exact h.ok m hm
    · simp at hm; subst hm; exact hok
  · intro i m hm a hma
    rcases Nat.lt_or_ge i L.length with hl | hl
    · rw [List.getElem?_append_left hl] at hm
      exact h.args i m hm a hma
    · rw [List.getElem?_append_right hl] at hm
      have : i - L.length = 0 := by
        rcases Nat.eq_zero_or_pos (i - L.length) with h0 | h0
        · exact h0
        · rw [List.getElem?_eq_none (by simp; omega)] at hm; cases hm
      rw [this] at hm
      simp at hm; subst hm
      have := ha a hma
      omega
theorem find_some {L : List PNode} {n : PNode} {t : Nat} (h : L.findIdx? (· == n) = some t) : L[t]? = some n := by
  rw [List.findIdx?_eq_some_iff_getElem] at h
  obtain ⟨ht, h1, _⟩ := h
  rw [List.getElem?_eq_getElem ht]
  simpa using h1
theorem find_none {L : List PNode} {n : PNode} (h : L.findIdx? (· == n) = none) : n ∉ L := by
  rw [List.findIdx?_eq_none_iff] at h
  intro hm
  simpa using h n hm
theorem find_of_mem {L : List PNode} {n : PNode} {t : Nat} (hn : L.Nodup) (h : L[t]? = some n) : L.findIdx? (· == n) = some t := by
  cases hf : L.findIdx? (· == n) with
  | none => exact absurd (List.mem_of_getElem? h) (find_none hf)
  | some u =>
    have hu := find_some hf
    have h1 := List.getElem?_eq_some_iff.1 h
    have h2 := List.getElem?_eq_some_iff.1 hu
    obtain ⟨l1, e1⟩ := h1
    obtain ⟨l2, e2⟩ := h2
    congr 1
    exact (List.getElem_inj hn).1 (e2.trans e1.symm)
theorem askP_wf {L : List PNode} (h : WFL L) (room : Nat) {n : PNode} (hok : NodeOk n) (ha : ∀ a ∈ n.2.2, (0 : Int) ≤ a ∧ a < (L.length : Int)) : WFL (askP room L n).1 := by
  unfold askP
  cases hf : L.findIdx? (· == n) with
  | some t => exact h
  | none =>
    dsimp only
    split
    · exact h
    · exact h.snoc (find_none hf) hok ha
theorem askP_len (room : Nat) (L : List PNode) (n : PNode) : L.length ≤ (askP room L n).1.length ∧ (askP room L n).1.length ≤ L.length + 1 := by
  unfold askP
  cases L.findIdx? (· == n) with
  | some t => simp
  | none => dsimp only; split <;> simp
end Go.Proofs.YteamnchoddegpaaGreatDoor
namespace Go.Proofs.YteamnchoddegpaaGreatDoor
theorem m_comm (W o x y : Nat) (ho : o = 4 ∨ o = 6 ∨ o = 9 ∨ o = 10 ∨ o = 11 ∨ o = 15 ∨ o = 16) : wm W o x y = wm W o y x := by
  unfold wm
  generalize x % 2 ^ W = a
  generalize y % 2 ^ W = b
  rcases ho with rfl | rfl | rfl | rfl | rfl | rfl | rfl
  · show (a + b) % 2 ^ W = (b + a) % 2 ^ W; rw [Nat.add_comm]
  · show a * b % 2 ^ W = b * a % 2 ^ W; rw [Nat.mul_comm]
  · exact Nat.and_comm a b
  · exact Nat.or_comm a b
  · exact Nat.xor_comm a b
  · show b01 (a == b) = b01 (b == a); rw [show (a == b) = (b == a) from by rw [Bool.eq_iff_iff, beq_iff_eq, beq_iff_eq]; exact eq_comm]
  · show b01 (a != b) = b01 (b != a); rw [show (a != b) = (b != a) from by rw [Bool.eq_iff_iff, bne_iff_ne, bne_iff_ne]; exact ne_comm]
end Go.Proofs.YteamnchoddegpaaGreatDoor
namespace Go.Proofs.YteamnchoddegpaaGreatDoor
open Go.RowKit
set_option maxHeartbeats 400000
theorem wrap_u64_nat (n : Nat) : IntKind.u64.wrap (n : Int) = ((n % 18446744073709551616 : Nat) : Int) := by
  rw [IntKind.wrap_u64]; omega
theorem wrap_pow (W : Nat) (h1 : 1 ≤ W) (h2 : W ≤ 64) : IntKind.u64.wrap (IntKind.u64.wrap (2 ^ ((W : Int)).toNat) - 1) = ((2 ^ W - 1 : Nat) : Int) := by
  have h := pow_le64 h2
  have h' := two_le_pow h1
  have e : ((2 : Int) ^ ((W : Int)).toNat) = ((2 ^ W : Nat) : Int) := by simp
  rw [e, IntKind.wrap_u64, IntKind.wrap_u64]
  rcases Nat.lt_or_ge (2 ^ W) 18446744073709551616 with hl | hl
  · omega
  · have : 2 ^ W = 18446744073709551616 := by omega
    rw [this]; rfl
theorem mask_any (W : Nat) (h1 : 1 ≤ W) (h2 : W ≤ 64) (w : World) :
    Calls Tryz.prog 79 #[.int .i64 W] w fun e w' => e = .returned (.int .u64 ((2 ^ W - 1 : Nat) : Int)) ∧ w = w' := by
  have hp := wrap_pow W h1 h2
  have H := Lib.hid hp
  clear hp
  go_enter Tryz.func79, Tryz.ntmps79
  go_wp2
  go_ret
  have e := H.out
  simp at e
  simp [e]
theorem bit_any (p : Bool) (w : World) :
    Calls Tryz.prog 139 #[.bool p] w fun e w' => e = .returned (.int .u64 (b01 p)) ∧ w = w' := by
  cases p <;>
  · go_enter Tryz.func139, Tryz.ntmps139
    go_wp2
    go_ret
    exact ⟨rfl, rfl⟩
/-- What a leaf returns: a number whose lowest bits are the operator's result. -/
def Raw (W o a b : Nat) (w : World) (e : Ending) (w' : World) : Prop := ∃ r : Nat, e = .returned (.int .u64 r) ∧ r < 18446744073709551616 ∧ r % 2 ^ W = wop W o a b 0 ∧ w = w'
theorem add_any (W a b : Nat) (_h1 : 1 ≤ W) (h2 : W ≤ 64) (ha : a < 2 ^ W) (hb : b < 2 ^ W) (w : World) :
    Calls Tryz.prog 104 #[.int .i64 W, .int .u64 a, .int .u64 b] w (Raw W 4 a b w) := by
  have Ha := Lib.hid ha; have Hb := Lib.hid hb; clear ha hb
  go_enter Tryz.func104, Tryz.ntmps104
  go_wp2
  go_ret
  exact ⟨(a + b) % 18446744073709551616, by rw [← wrap_u64_nat]; rfl, Nat.mod_lt _ (by decide), mod64_mod h2 _, rfl⟩
theorem sub_any (W a b : Nat) (_h1 : 1 ≤ W) (h2 : W ≤ 64) (ha : a < 2 ^ W) (hb : b < 2 ^ W) (w : World) :
    Calls Tryz.prog 105 #[.int .i64 W, .int .u64 a, .int .u64 b] w (Raw W 5 a b w) := by
  have Ha := Lib.hid ha; have Hb := Lib.hid hb; clear ha hb
  go_enter Tryz.func105, Tryz.ntmps105
  go_wp2
  go_ret
  have hp := pow_le64 h2
  refine ⟨(a + 18446744073709551616 - b) % 18446744073709551616, ?_, Nat.mod_lt _ (by decide), ?_, rfl⟩
  · have := Hb.out
    show Ending.returned (.int .u64 (IntKind.u64.wrap _)) = _
    rw [IntKind.wrap_u64]; congr 2; omega
  · rw [mod64_mod h2]
    have := Hb.out
    obtain ⟨q, hq⟩ := pow_dvd64 h2
    show _ = (a + 2 ^ W - b) % 2 ^ W
    rw [show a + 18446744073709551616 - b = (a + 2 ^ W - b) + 2 ^ W * (q - 1) from ?_, Nat.add_mul_mod_self_left]
    have hq1 : 1 ≤ q := by
      rcases Nat.eq_zero_or_pos q with h0 | h0
      · subst h0; omega
      · exact h0
    have : 2 ^ W * (q - 1) + 2 ^ W = 18446744073709551616 := by rw [hq, ← Nat.mul_succ]; congr 1; omega
    omega
theorem mul_any (W a b : Nat) (_h1 : 1 ≤ W) (h2 : W ≤ 64) (ha : a < 2 ^ W) (hb : b < 2 ^ W) (w : World) :
    Calls Tryz.prog 106 #[.int .i64 W, .int .u64 a, .int .u64 b] w (Raw W 6 a b w) := by
  have Ha := Lib.hid ha; have Hb := Lib.hid hb; clear ha hb
  go_enter Tryz.func106, Tryz.ntmps106
  go_wp2
  go_ret
  exact ⟨(a * b) % 18446744073709551616, by rw [← wrap_u64_nat, Int.natCast_mul]; rfl, Nat.mod_lt _ (by decide), mod64_mod h2 _, rfl⟩
theorem and_any (W a b : Nat) (_h1 : 1 ≤ W) (h2 : W ≤ 64) (ha : a < 2 ^ W) (hb : b < 2 ^ W) (w : World) :
    Calls Tryz.prog 109 #[.int .i64 W, .int .u64 a, .int .u64 b] w (Raw W 9 a b w) := by
  have Ha := Lib.hid ha; have Hb := Lib.hid hb; clear ha hb
  go_enter Tryz.func109, Tryz.ntmps109
  go_wp2
  go_ret
  have hp := pow_le64 h2
  have ha := Ha.out; have hb := Hb.out
  refine ⟨a &&& b, ?_, Nat.lt_of_le_of_lt Nat.and_le_left (by omega), Nat.mod_eq_of_lt (Nat.lt_of_le_of_lt Nat.and_le_left ha), rfl⟩
  show Ending.returned (.int .u64 (bits .and .u64 _ _)) = _
  rw [u64_and_nat _ _ (by omega) (by omega)]
theorem or_any (W a b : Nat) (_h1 : 1 ≤ W) (h2 : W ≤ 64) (ha : a < 2 ^ W) (hb : b < 2 ^ W) (w : World) :
    Calls Tryz.prog 110 #[.int .i64 W, .int .u64 a, .int .u64 b] w (Raw W 10 a b w) := by
  have Ha := Lib.hid ha; have Hb := Lib.hid hb; clear ha hb
  go_enter Tryz.func110, Tryz.ntmps110
  go_wp2
  go_ret
  have hp := pow_le64 h2
  have ha := Ha.out; have hb := Hb.out
  refine ⟨a ||| b, ?_, Nat.lt_of_lt_of_le (Nat.or_lt_two_pow ha hb) hp, Nat.mod_eq_of_lt (Nat.or_lt_two_pow ha hb), rfl⟩
  show Ending.returned (.int .u64 (bits .or .u64 _ _)) = _
  rw [u64_or_nat _ _ (by omega) (by omega)]
theorem xor_any (W a b : Nat) (_h1 : 1 ≤ W) (h2 : W ≤ 64) (ha : a < 2 ^ W) (hb : b < 2 ^ W) (w : World) :
    Calls Tryz.prog 111 #[.int .i64 W, .int .u64 a, .int .u64 b] w (Raw W 11 a b w) := by
  have Ha := Lib.hid ha; have Hb := Lib.hid hb; clear ha hb
  go_enter Tryz.func111, Tryz.ntmps111
  go_wp2
  go_ret
  have hp := pow_le64 h2
  have ha := Ha.out; have hb := Hb.out
  refine ⟨a ^^^ b, ?_, Nat.lt_of_lt_of_le (Nat.xor_lt_two_pow ha hb) hp, Nat.mod_eq_of_lt (Nat.xor_lt_two_pow ha hb), rfl⟩
  show Ending.returned (.int .u64 (bits .xor .u64 _ _)) = _
  rw [u64_xor_nat _ _ (by omega) (by omega)]
theorem div_any (W a b : Nat) (_h1 : 1 ≤ W) (h2 : W ≤ 64) (ha : a < 2 ^ W) (hb : b < 2 ^ W) (w : World) :
    Calls Tryz.prog 107 #[.int .i64 W, .int .u64 a, .int .u64 b] w (Raw W 7 a b w) := by
  have hp := pow_le64 h2
  have Ha := Lib.hid ha; have Hb := Lib.hid hb; have Hp := Lib.hid hp; clear ha hb hp
  by_cases h0 : b = 0
  · subst h0
    go_enter Tryz.func107, Tryz.ntmps107
    go_wp2_with (go_at_call 79; refine (mask_any _ _h1 h2 _).mono ?_; rintro e w' ⟨rfl, rfl⟩)
    go_ret
    have := two_le_pow _h1
    exact ⟨2 ^ W - 1, rfl, by have := Hp.out; omega, Nat.mod_eq_of_lt (by omega), rfl⟩
  · have hz : ((b : Int) == 0) = false := by simp; omega
    go_enter Tryz.func107, Tryz.ntmps107
    go_wp2
    go_ret
    have hl : a / b < 2 ^ W := Nat.lt_of_le_of_lt (Nat.div_le_self _ _) Ha.out
    have := Hp.out
    refine ⟨a / b, ?_, by omega, ?_, rfl⟩
    · show Ending.returned (.int .u64 (IntKind.u64.wrap ((a : Int) / (b : Int)))) = _
      rw [← Int.natCast_ediv, wrap_u64_nat, Nat.mod_eq_of_lt (by omega)]
    rw [Nat.mod_eq_of_lt hl]; simp [wop, h0]
theorem rem_any (W a b : Nat) (_h1 : 1 ≤ W) (h2 : W ≤ 64) (ha : a < 2 ^ W) (hb : b < 2 ^ W) (w : World) :
    Calls Tryz.prog 108 #[.int .i64 W, .int .u64 a, .int .u64 b] w (Raw W 8 a b w) := by
  have hp := pow_le64 h2
  have Ha := Lib.hid ha; have Hb := Lib.hid hb; have Hp := Lib.hid hp; clear ha hb hp
  by_cases h0 : b = 0
  · subst h0
    go_enter Tryz.func108, Tryz.ntmps108
    go_wp2
    go_ret
    exact ⟨a, rfl, by have := Hp.out; have := Ha.out; omega, Nat.mod_eq_of_lt Ha.out, rfl⟩
  · have hz : ((b : Int) == 0) = false := by simp; omega
    go_enter Tryz.func108, Tryz.ntmps108
    go_wp2
    go_ret
    have hl : a % b < 2 ^ W := Nat.lt_of_le_of_lt (Nat.mod_le _ _) Ha.out
    have := Hp.out
    refine ⟨a % b, by first | rfl | (simp; done), by omega, ?_, rfl⟩
    rw [Nat.mod_eq_of_lt hl]; simp [wop, h0]
theorem shl_any (W a b : Nat) (_h1 : 1 ≤ W) (h2 : W ≤ 64) (ha : a < 2 ^ W) (hb : b < 2 ^ W) (w : World) :
    Calls Tryz.prog 112 #[.int .i64 W, .int .u64 a, .int .u64 b] w (Raw W 12 a b w) := by
  have Ha := Lib.hid ha; have Hb := Lib.hid hb; clear ha hb
  by_cases h0 : W ≤ b
  · go_enter Tryz.func112, Tryz.ntmps112
    go_wp2
    go_ret
    exact ⟨0, rfl, by decide, by simp [wop, h0], rfl⟩
  · go_enter Tryz.func112, Tryz.ntmps112
    go_wp2
    go_ret
    refine ⟨(a * 2 ^ b) % 18446744073709551616, ?_, Nat.mod_lt _ (by decide), by rw [mod64_mod h2]; simp [wop, h0], rfl⟩
    rw [← wrap_u64_nat]; simp
theorem shr_any (W a b : Nat) (_h1 : 1 ≤ W) (h2 : W ≤ 64) (ha : a < 2 ^ W) (hb : b < 2 ^ W) (w : World) :
    Calls Tryz.prog 113 #[.int .i64 W, .int .u64 a, .int .u64 b] w (Raw W 13 a b w) := by
  have hp := pow_le64 h2
  have Ha := Lib.hid ha; have Hb := Lib.hid hb; have Hp := Lib.hid hp; clear ha hb hp
  by_cases h0 : W ≤ b
  · go_enter Tryz.func113, Tryz.ntmps113
    go_wp2
    go_ret
    exact ⟨0, rfl, by decide, by simp [wop, h0], rfl⟩
  · go_enter Tryz.func113, Tryz.ntmps113
    go_wp2
    go_ret
    have hl : a / 2 ^ b < 2 ^ W := Nat.lt_of_le_of_lt (Nat.div_le_self _ _) Ha.out
    have := Hp.out
    exact ⟨a / 2 ^ b, by simp, by omega, by rw [Nat.mod_eq_of_lt hl]; simp [wop, h0], rfl⟩
theorem eq_any (W a b : Nat) (_h1 : 1 ≤ W) (_h2 : W ≤ 64) (ha : a < 2 ^ W) (hb : b < 2 ^ W) (w : World) :
    Calls Tryz.prog 115 #[.int .i64 W, .int .u64 a, .int .u64 b] w (Raw W 15 a b w) := by
  have Ha := Lib.hid ha; have Hb := Lib.hid hb; clear ha hb
  go_enter Tryz.func115, Tryz.ntmps115
  go_wp2_with (go_at_call 139; refine (bit_any _ _).mono ?_; rintro e w' ⟨rfl, rfl⟩)
  go_ret
  refine ⟨b01 (a == b), ?_, by unfold b01; split <;> decide, b01_mod _h1 _, rfl⟩
  show Ending.returned (.int .u64 ((b01 ((a : Int) == (b : Int)) : Nat) : Int)) = _
  congr 4
  first | rfl | (rw [Bool.eq_iff_iff]; simp; done) | (rw [Bool.eq_iff_iff]; simp; omega)
theorem ne_any (W a b : Nat) (_h1 : 1 ≤ W) (_h2 : W ≤ 64) (ha : a < 2 ^ W) (hb : b < 2 ^ W) (w : World) :
    Calls Tryz.prog 116 #[.int .i64 W, .int .u64 a, .int .u64 b] w (Raw W 16 a b w) := by
  have Ha := Lib.hid ha; have Hb := Lib.hid hb; clear ha hb
  go_enter Tryz.func116, Tryz.ntmps116
  go_wp2_with (go_at_call 139; refine (bit_any _ _).mono ?_; rintro e w' ⟨rfl, rfl⟩)
  go_ret
  refine ⟨b01 (a != b), ?_, by unfold b01; split <;> decide, b01_mod _h1 _, rfl⟩
  show Ending.returned (.int .u64 ((b01 ((a : Int) != (b : Int)) : Nat) : Int)) = _
  congr 4
  first | rfl | (rw [Bool.eq_iff_iff]; simp; done) | (rw [Bool.eq_iff_iff]; simp; omega)
theorem lt_any (W a b : Nat) (_h1 : 1 ≤ W) (_h2 : W ≤ 64) (ha : a < 2 ^ W) (hb : b < 2 ^ W) (w : World) :
    Calls Tryz.prog 117 #[.int .i64 W, .int .u64 a, .int .u64 b] w (Raw W 17 a b w) := by
  have Ha := Lib.hid ha; have Hb := Lib.hid hb; clear ha hb
  go_enter Tryz.func117, Tryz.ntmps117
  go_wp2_with (go_at_call 139; refine (bit_any _ _).mono ?_; rintro e w' ⟨rfl, rfl⟩)
  go_ret
  refine ⟨b01 (decide (a < b)), ?_, by unfold b01; split <;> decide, b01_mod _h1 _, rfl⟩
  rfl
theorem le_any (W a b : Nat) (_h1 : 1 ≤ W) (_h2 : W ≤ 64) (ha : a < 2 ^ W) (hb : b < 2 ^ W) (w : World) :
    Calls Tryz.prog 118 #[.int .i64 W, .int .u64 a, .int .u64 b] w (Raw W 18 a b w) := by
  have Ha := Lib.hid ha; have Hb := Lib.hid hb; clear ha hb
  go_enter Tryz.func118, Tryz.ntmps118
  go_wp2_with (go_at_call 139; refine (bit_any _ _).mono ?_; rintro e w' ⟨rfl, rfl⟩)
  go_ret
  refine ⟨b01 (decide (a ≤ b)), ?_, by unfold b01; split <;> decide, b01_mod _h1 _, rfl⟩
  rfl
theorem high_bool (W a : Nat) (h1 : 1 ≤ W) (h2 : W ≤ 64) (ha : a < 2 ^ W) : (bits BinOp.and IntKind.u64 ((a : Int) / 2 ^ (W - 1)) 1 == 1) = decide (2 ^ (W - 1) ≤ a) := by
  have hp := pow_le64 h2
  have hh := pow_half h1
  have hq := pow_pos2 (W - 1)
  have e : ((a : Int) / 2 ^ (W - 1)) = ((a / 2 ^ (W - 1) : Nat) : Int) := by simp
  have e1 : (1 : Int) = ((1 : Nat) : Int) := rfl
  have hl : a / 2 ^ (W - 1) < 2 := by rw [Nat.div_lt_iff_lt_mul hq]; omega
  rw [e, e1, u64_and_nat _ _ (by omega) (by decide), Nat.and_one_is_mod, Nat.mod_eq_of_lt hl, Bool.eq_iff_iff]
  simp only [beq_iff_eq, decide_eq_true_eq]
  constructor
  · intro h
    have h' : a / 2 ^ (W - 1) = 1 := by omega
    rcases Nat.lt_or_ge a (2 ^ (W - 1)) with hc | hc
    · rw [Nat.div_eq_of_lt hc] at h'; omega
    · exact hc
  · intro h
    have : 1 ≤ a / 2 ^ (W - 1) := (Nat.le_div_iff_mul_le hq).2 (by omega)
    omega
theorem high_any (W a : Nat) (h1 : 1 ≤ W) (h2 : W ≤ 64) (ha : a < 2 ^ W) (w : World) :
    Calls Tryz.prog 149 #[.int .i64 W, .int .u64 a] w fun e w' => e = .returned (.bool (decide (2 ^ (W - 1) ≤ a))) ∧ w = w' := by
  have hb := high_bool W a h1 h2 ha
  have Hb := Lib.hid hb; have Ha := Lib.hid ha; clear ha hb
  go_enter Tryz.func149, Tryz.ntmps149
  go_wp2
  go_ret
  refine ⟨?_, rfl⟩
  rw [← Hb.out]
  simp
theorem xor_ones : ∀ W, W < 65 → 18446744073709551615 ^^^ (2 ^ W - 1) = 18446744073709551616 - 2 ^ W := by decide +kernel
theorem signed_or (W a : Nat) (h1 : 1 ≤ W) (h2 : W ≤ 64) (ha : a < 2 ^ W) :
    bits BinOp.or IntKind.u64 (a : Int) (bits BinOp.xor IntKind.u64 IntKind.u64.max ((2 ^ W - 1 : Nat) : Int)) = ((a + (18446744073709551616 - 2 ^ W) : Nat) : Int) := by
  have hp := pow_le64 h2
  have hq := pow_pos2 W
  have e : IntKind.u64.max = ((18446744073709551615 : Nat) : Int) := by decide
  obtain ⟨q, hq'⟩ := pow_dvd64 h2
  rw [e, u64_xor_nat _ _ (by decide) (by omega), xor_ones W (by omega), u64_or_nat _ _ (by omega) (by omega), Nat.or_comm,
    nat_join W _ _ (by rw [hq']; exact Nat.mod_eq_zero_of_dvd (Nat.dvd_sub (Nat.dvd_mul_right _ _) (Nat.dvd_refl _))) ha, Nat.add_comm]
theorem signed_any (W a : Nat) (h1 : 1 ≤ W) (h2 : W ≤ 64) (ha : a < 2 ^ W) (w : World) :
    Calls Tryz.prog 138 #[.int .i64 W, .int .u64 a] w fun e w' => e = .returned (.int .i64 (sgn W a)) ∧ w = w' := by
  have hs := signed_or W a h1 h2 ha
  have Hs := Lib.hid hs; clear hs
  have hp := pow_le64 h2
  have hh := pow_half h1
  have Hp := Lib.hid hp; have Hh := Lib.hid hh; clear hp hh
  have Ha := Lib.hid ha
  by_cases hc : 2 ^ (W - 1) ≤ a
  · have hd : decide (2 ^ (W - 1) ≤ a) = true := decide_eq_true hc
    have Hc := Lib.hid hc; clear hc
    go_enter Tryz.func138, Tryz.ntmps138
    go_wp2_with (first | (go_at_call 149; refine (high_any _ _ h1 h2 Ha.out _).mono ?_; rintro e w' ⟨rfl, rfl⟩) | (go_at_call 79; refine (mask_any _ h1 h2 _).mono ?_; rintro e w' ⟨rfl, rfl⟩))
    go_ret
    refine ⟨?_, rfl⟩
    have h3 := Hs.out
    have h4 := Hc.out
    have h5 := Hp.out
    have h6 := Hh.out
    have h7 := Ha.out
    show Ending.returned (.int .i64 (wrap64 (bits BinOp.or IntKind.u64 (a : Int) (bits BinOp.xor IntKind.u64 IntKind.u64.max ((2 ^ W - 1 : Nat) : Int))))) = _
    rw [h3]
    unfold wrap64
    rw [sgn_wrap W a h1 h2 h7 h4]
  · have hd : decide (2 ^ (W - 1) ≤ a) = false := decide_eq_false hc
    have Hc := Lib.hid hc; clear hc
    clear ha
    go_enter Tryz.func138, Tryz.ntmps138
    go_wp2_with (first | (go_at_call 149; refine (high_any _ _ h1 h2 Ha.out _).mono ?_; rintro e w' ⟨rfl, rfl⟩))
    go_ret
    refine ⟨?_, rfl⟩
    have h3 := Hs.out
    have h4 := Hc.out
    have h5 := Hp.out
    have h6 := Hh.out
    have h7 := Ha.out
    show Ending.returned (.int .i64 (wrap64 (a : Int))) = _
    unfold wrap64
    rw [sgn_wrap' W a h1 h2 h4]
theorem slt_any (W a b : Nat) (h1 : 1 ≤ W) (h2 : W ≤ 64) (ha : a < 2 ^ W) (hb : b < 2 ^ W) (w : World) :
    Calls Tryz.prog 119 #[.int .i64 W, .int .u64 a, .int .u64 b] w (Raw W 19 a b w) := by
  have Ha := Lib.hid ha; have Hb := Lib.hid hb; clear ha hb
  go_enter Tryz.func119, Tryz.ntmps119
  go_wp2_with fail
  refine (signed_any _ _ h1 h2 Ha.out _).mono ?_; rintro e w' ⟨rfl, rfl⟩
  go_wp2_with fail
  refine (signed_any _ _ h1 h2 Hb.out _).mono ?_; rintro e w' ⟨rfl, rfl⟩
  go_wp2_with (go_at_call 139; refine (bit_any _ _).mono ?_; rintro e w' ⟨rfl, rfl⟩)
  go_ret
  refine ⟨b01 (decide (sgn W a < sgn W b)), ?_, by unfold b01; split <;> decide, b01_mod h1 _, rfl⟩
  rfl
theorem sle_any (W a b : Nat) (h1 : 1 ≤ W) (h2 : W ≤ 64) (ha : a < 2 ^ W) (hb : b < 2 ^ W) (w : World) :
    Calls Tryz.prog 120 #[.int .i64 W, .int .u64 a, .int .u64 b] w (Raw W 20 a b w) := by
  have Ha := Lib.hid ha; have Hb := Lib.hid hb; clear ha hb
  go_enter Tryz.func120, Tryz.ntmps120
  go_wp2_with fail
  refine (signed_any _ _ h1 h2 Ha.out _).mono ?_; rintro e w' ⟨rfl, rfl⟩
  go_wp2_with fail
  refine (signed_any _ _ h1 h2 Hb.out _).mono ?_; rintro e w' ⟨rfl, rfl⟩
  go_wp2_with (go_at_call 139; refine (bit_any _ _).mono ?_; rintro e w' ⟨rfl, rfl⟩)
  go_ret
  refine ⟨b01 (decide (sgn W a ≤ sgn W b)), ?_, by unfold b01; split <;> decide, b01_mod h1 _, rfl⟩
  rfl
theorem sar_any (W a b : Nat) (h1 : 1 ≤ W) (h2 : W ≤ 64) (ha : a < 2 ^ W) (hb : b < 2 ^ W) (w : World) :
    Calls Tryz.prog 114 #[.int .i64 W, .int .u64 a, .int .u64 b] w (Raw W 14 a b w) := by
  have Ha := Lib.hid ha; have Hb := Lib.hid hb; clear ha hb
  go_enter Tryz.func114, Tryz.ntmps114
  go_wp2_with (first | (go_at_call 138; refine (signed_any _ _ h1 h2 Ha.out _).mono ?_; rintro e w' ⟨rfl, rfl⟩))
  · go_ret
    obtain ⟨r, h3, h4, h5⟩ := sar_raw W a 63 h1 h2 Ha.out
    refine ⟨r, ?_, h4, ?_, rfl⟩
    · rw [← h3, ← IntKind.wrap_u64]; rfl
    · rw [h5]
      have h6 : 63 < b := by omega
      have h7 := Ha.out
      have h8 := pow_le64 h2
      have h9 := pow_half h1
      simp only [wop]
      by_cases hc : a < 2 ^ (W - 1)
      · rw [if_pos hc, if_pos hc, Nat.div_eq_of_lt (by omega), Nat.div_eq_of_lt]
        rw [Nat.min_eq_right (by omega)]; omega
      · rw [if_neg hc, if_neg hc, Nat.div_eq_of_lt (by omega), Nat.div_eq_of_lt]
        rw [Nat.min_eq_right (by omega)]; omega
  · go_ret
    obtain ⟨r, h3, h4, h5⟩ := sar_raw W a b h1 h2 Ha.out
    refine ⟨r, ?_, h4, ?_, rfl⟩
    · rw [← h3, ← IntKind.wrap_u64]; rfl
    · rw [h5]
      simp only [wop]
      rw [Nat.min_eq_left (by omega)]
end Go.Proofs.YteamnchoddegpaaGreatDoor
namespace Go.Proofs.YteamnchoddegpaaGreatDoor
open Go.RowKit
set_option maxHeartbeats 400000
def fillA (c : Nat) : Array Value := (List.replicate c (Value.int .u8 2) ++ List.replicate (22 - c) (Value.int .u8 0)).toArray
theorem fillA_zero : fillA 0 = #[.int .u8 0, .int .u8 0, .int .u8 0, .int .u8 0, .int .u8 0, .int .u8 0, .int .u8 0, .int .u8 0, .int .u8 0, .int .u8 0, .int .u8 0, .int .u8 0, .int .u8 0, .int .u8 0, .int .u8 0, .int .u8 0, .int .u8 0, .int .u8 0, .int .u8 0, .int .u8 0, .int .u8 0, .int .u8 0] := rfl
theorem fillA_get {c : Nat} (h : c < 22) : (fillA c)[c]? = some (.int .u8 0) := by
  have : 22 - c ≠ 0 := by omega
  simp [fillA, List.getElem?_append, List.getElem?_replicate]; omega
theorem fillA_set {c : Nat} (h : c < 22) : (fillA c).setIfInBounds c (.int .u8 2) = fillA (c + 1) := by
  obtain ⟨k, hk⟩ : ∃ k, 22 - c = k + 1 := ⟨21 - c, by omega⟩
  have hk' : 22 - (c + 1) = k := by omega
  unfold fillA
  rw [hk, hk', List.replicate_succ, List.replicate_succ' (n := c)]
  simp 
def arTab : Array Value := #[.int .u8 0, .int .u8 0, .int .u8 1, .int .u8 1, .int .u8 2, .int .u8 2, .int .u8 2, .int .u8 2, .int .u8 2, .int .u8 2, .int .u8 2, .int .u8 2, .int .u8 2, .int .u8 2, .int .u8 2, .int .u8 2, .int .u8 2, .int .u8 2, .int .u8 2, .int .u8 2, .int .u8 2, .int .u8 3]
theorem fillA22 : ∀ i, i < 22 → (fillA 22)[i]? = some (.int .u8 2) := by
  intro i hi
  have e : fillA 22 = (List.replicate 22 (Value.int .u8 2)).toArray := rfl
  rw [e, List.getElem?_toArray, List.getElem?_replicate, if_pos hi]
theorem arTab_one : arTab.all (·.oneCell') = true := by decide +kernel
theorem below_setRow {B : Nat} {a w : World} (h : Below B a w) {g : Nat} (hg : B ≤ g) (cs : Array Value) : Below B a (w.setRow g cs) :=
  h.trans ⟨rfl, rfl, rfl, by simp, fun k hk => setRow_other _ _ _ _ (by omega)⟩
theorem arities_any (w : World) :
    Calls Tryz.prog 81 #[] w fun e w' => e = .returned (.agg arTab) ∧ Below w.heap.size w w' := by
  go_enter Tryz.func81, Tryz.ntmps81
  go_wp2
  go_loopw [3] (fun i wr => ∃ c : Nat, c ≤ 22 ∧ i = .int .i64 c ∧ wr = (w.alloc (.cells #[.int .u8 0, .int .u8 0, .int .u8 0, .int .u8 0, .int .u8 0, .int .u8 0, .int .u8 0, .int .u8 0, .int .u8 0, .int .u8 0, .int .u8 0, .int .u8 0, .int .u8 0, .int .u8 0, .int .u8 0, .int .u8 0, .int .u8 0, .int .u8 0, .int .u8 0, .int .u8 0, .int .u8 0, .int .u8 0] 149)).alloc (.cells (fillA c) 149)) (fun i _ => 22 - (intOf i).toNat)
  case atStart => exact ⟨0, by omega, rfl, by rw [fillA_zero]⟩
  case round =>
    obtain ⟨c, hc, rfl, rfl⟩ := hrel
    by_cases hlt : c < 22
    · have hg := fillA_get hlt
      have hs := fillA_set hlt
      go_wp2
      go_roundw
      case rel => exact ⟨c + 1, by omega, by go_num, rfl⟩
      case measure => simp [intOf]; omega
    · obtain rfl : c = 22 := by omega
      have g0 := fillA22 0 (by decide)
      have g1 := fillA22 1 (by decide)
      have g2 := fillA22 2 (by decide)
      have g3 := fillA22 3 (by decide)
      have g21 := fillA22 21 (by decide)
      go_wp2_with (first
        | (refine wpList_load_row rfl 149 _ rfl (w.heap.size + 1) rfl 149 arTab (0, 0) _ (heap_alloc2_new _ _ _) Tryz.underlying149 rfl (by kernel_rfl) ?_)
        | (refine wpList_store_row rfl 149 _ _ rfl w.heap.size arTab rfl rfl 149 _ (heap_alloc2_old _ _ _) (by kernel_rfl) rfl arTab_one ?_))
      refine bodyPost_ret (v := .agg arTab) (results_cell_row rfl _ _ w.heap.size 149 arTab (0, 0) _ rfl (setRow_heap _ _ _ _ _ _ (heap_alloc2_old _ _ _)) Tryz.underlying149 rfl (by kernel_rfl)) rfl ⟨rfl, ?_⟩
      exact below_setRow (((Below.refl _ _).alloc (Nat.le_refl _) _).alloc (by simp) _) (Nat.le_refl _) _
theorem run_index_arTab (n : Nat) (h : n ≤ 21) (w : World) : (Instr.index 149 (.agg arTab) (.int .u8 n)).run Tryz.prog w = .ok (.int .u8 (aryN n)) w := by
  have : n = 0 ∨ n = 1 ∨ n = 2 ∨ n = 3 ∨ n = 4 ∨ n = 5 ∨ n = 6 ∨ n = 7 ∨ n = 8 ∨ n = 9 ∨ n = 10 ∨ n = 11 ∨ n = 12 ∨ n = 13 ∨ n = 14 ∨ n = 15 ∨ n = 16 ∨ n = 17 ∨ n = 18 ∨ n = 19 ∨ n = 20 ∨ n = 21 := by omega
  rcases this with rfl | rfl | rfl | rfl | rfl | rfl | rfl | rfl | rfl | rfl | rfl | rfl | rfl | rfl | rfl | rfl | rfl | rfl | rfl | rfl | rfl | rfl <;> (show _ = _; kernel_rfl)
theorem aryN_le (n : Nat) : aryN n ≤ 3 := by
  unfold aryN
  (repeat' split) <;> omega
theorem arity_any (o : Int) (h0 : 0 ≤ o) (h1 : o ≤ 255) (w : World) :
    Calls Tryz.prog 60 #[.int .u8 o] w fun e w' => e = .returned (.tuple #[.int .i64 (if 21 < o then 0 else aryN o.toNat), .int .i64 (if 21 < o then 3 else 0)]) ∧ Below w.heap.size w w' := by
  obtain ⟨n, rfl⟩ := Int.eq_ofNat_of_zero_le h0
  by_cases hb : n ≤ 21
  · have hg := run_index_arTab n hb
    have ha := aryN_le n
    go_enter Tryz.func60, Tryz.ntmps60
    go_wp2_with (go_at_call 81; refine (arities_any _).mono ?_; rintro e w' ⟨rfl, hb'⟩)
    go_ret2
    have h : ¬ 21 < (n : Int) := by omega
    exact ⟨by simp, hb'⟩
  · go_enter Tryz.func60, Tryz.ntmps60
    go_wp2
    go_ret2
    have h : 21 < (n : Int) := by omega
    exact ⟨by simp , Below.refl _ _⟩
def opTab : Array Value := #[Value.nilFunc, Value.nilFunc, Value.nilFunc, Value.nilFunc, .func (.func 104) #[] #[], .func (.func 105) #[] #[], .func (.func 106) #[] #[], .func (.func 107) #[] #[], .func (.func 108) #[] #[], .func (.func 109) #[] #[], .func (.func 110) #[] #[], .func (.func 111) #[] #[], .func (.func 112) #[] #[], .func (.func 113) #[] #[], .func (.func 114) #[] #[], .func (.func 115) #[] #[], .func (.func 116) #[] #[], .func (.func 117) #[] #[], .func (.func 118) #[] #[], .func (.func 119) #[] #[], .func (.func 120) #[] #[], Value.nilFunc]
def opFn (o : Nat) : Nat :=
  match o with
  | 4 => 104
  | 5 => 105
  | 6 => 106
  | 7 => 107
  | 8 => 108
  | 9 => 109
  | 10 => 110
  | 11 => 111
  | 12 => 112
  | 13 => 113
  | 14 => 114
  | 15 => 115
  | 16 => 116
  | 17 => 117
  | 18 => 118
  | 19 => 119
  | 20 => 120
  | _ => 0
theorem opTab_one : opTab.all (·.oneCell') = true := by decide +kernel
set_option maxRecDepth 100000 in
theorem table_any (w : World) :
    Calls Tryz.prog 86 #[] w fun e w' => e = .returned (.agg opTab) ∧ Below w.heap.size w w' := by
  go_enter Tryz.func86, Tryz.ntmps86
  go_wp2_with (first
    | (refine wpList_build rfl 159 _ rfl (by kernel_rfl) ?_)
    | (refine wpList_store_row rfl 159 _ _ rfl w.heap.size opTab rfl (by kernel_rfl) 159 _ (heap_alloc_new _ _) (by kernel_rfl) rfl opTab_one ?_))
  refine bodyPost_ret (v := .agg opTab) (results_cell_row rfl _ _ w.heap.size 159 opTab (0, 0) _ (by kernel_rfl) (setRow_heap _ _ _ _ _ _ (heap_alloc_new _ _)) Tryz.underlying159 rfl (by kernel_rfl)) rfl ⟨rfl, ?_⟩
  exact below_setRow ((Below.refl _ _).alloc (Nat.le_refl _) _) (Nat.le_refl _) _
end Go.Proofs.YteamnchoddegpaaGreatDoor
namespace Go.Proofs.YteamnchoddegpaaGreatDoor
open Go.RowKit
set_option maxHeartbeats 400000
def chk (n : Int) : Int := if n < 1 ∨ 64 < n then 3 else 0
theorem check_any (n : Int) (w : World) :
    Calls Tryz.prog 55 #[.int .i64 n] w fun e w' => e = .returned (.int .i64 (chk n)) ∧ w = w' := by
  by_cases h1 : n < 1
  · go_enter Tryz.func55, Tryz.ntmps55
    go_wp2
    go_ret
    simp [h1, chk]
  · by_cases h2 : 64 < n
    · go_enter Tryz.func55, Tryz.ntmps55
      go_wp2
      go_ret
      simp [h2, chk]
    · go_enter Tryz.func55, Tryz.ntmps55
      go_wp2
      go_ret
      simp [h1, h2, chk]
theorem chk_in {n : Int} (h1 : 1 ≤ n) (h2 : n ≤ 64) : chk n = 0 := by unfold chk; rw [if_neg (by omega)]
theorem chk_out {n : Int} (h : ¬ (1 ≤ n ∧ n ≤ 64)) : chk n = 3 := by unfold chk; rw [if_pos (by omega)]
def trimI (W v : Int) : Int := if chk W = 0 then ((v.toNat % 2 ^ W.toNat : Nat) : Int) else 0
theorem and_mask (v W : Nat) (hv : v < 18446744073709551616) (_h1 : 1 ≤ W) (h2 : W ≤ 64) : bits .and .u64 (v : Int) ((2 ^ W - 1 : Nat) : Int) = ((v % 2 ^ W : Nat) : Int) := by
  have := pow_le64 h2
  have := pow_pos2 W
  rw [u64_and_nat _ _ hv (by omega), Nat.and_two_pow_sub_one_eq_mod]
theorem trim_any (W v : Int) (h0 : 0 ≤ v) (h1 : v ≤ 18446744073709551615) (w : World) :
    Calls Tryz.prog 56 #[.int .i64 W, .int .u64 v] w fun e w' => e = .returned (.tuple #[.int .u64 (trimI W v), .int .i64 (chk W)]) ∧ w = w' := by
  obtain ⟨n, rfl⟩ := Int.eq_ofNat_of_zero_le h0
  by_cases hW : 1 ≤ W ∧ W ≤ 64
  · obtain ⟨hW1, hW2⟩ := hW
    obtain ⟨m, rfl⟩ := Int.eq_ofNat_of_zero_le (show 0 ≤ W by omega)
    have hc := chk_in hW1 hW2
    have ha := and_mask n m (by omega) (by omega) (by omega)
    have hr : trimI (m : Int) (n : Int) = ((n % 2 ^ m : Nat) : Int) := by unfold trimI; rw [if_pos hc]; simp
    have Ha := Lib.hid ha; have Hr := Lib.hid hr; clear ha hr h1
    go_enter Tryz.func56, Tryz.ntmps56
    go_wp2_with (first | (go_at_call 55; refine (check_any _ _).mono ?_; rintro e w' ⟨rfl, rfl⟩) | (go_at_call 79; refine (mask_any _ (by omega) (by omega) _).mono ?_; rintro e w' ⟨rfl, rfl⟩))
    go_ret2
    have h3 := Ha.out
    have h4 := Hr.out
    refine ⟨?_, rfl⟩
    rw [h4, ← h3, hc]; rfl
  · have hc := chk_out hW
    have hr : trimI W (n : Int) = 0 := by unfold trimI; rw [if_neg (by omega)]
    go_enter Tryz.func56, Tryz.ntmps56
    go_wp2_with (first | (go_at_call 55; refine (check_any _ _).mono ?_; rintro e w' ⟨rfl, rfl⟩))
    go_ret2
    exact ⟨by simp [hr, hc], rfl⟩
/-- A slice value reads as a list of integers. -/
def SliceOf (w : World) (k : IntKind) (v : Value) (xs : List Int) : Prop :=
  ∃ a n cap, v = .slice a n cap ∧ xs.length = n ∧ ∀ i, i < n → ∃ b off, a = some ⟨b, off, none⟩ ∧ w.cell? ⟨b, off + i, none⟩ = some (.int k (xs.getD i 0))
theorem SliceOf.below {w w' : World} {k : IntKind} {v : Value} {xs : List Int} (h : SliceOf w k v xs) (hw : Below w.heap.size w w') : SliceOf w' k v xs := by
  obtain ⟨a, n, cap, rfl, hl, hc⟩ := h
  refine ⟨a, n, cap, rfl, hl, fun i hi => ?_⟩
  obtain ⟨b, off, rfl, h⟩ := hc i hi
  exact ⟨b, off, rfl, (hw.cell (World.block_lt_of_cell? _ _ h)).trans h⟩
/-- Where there is an element the slice has an address. -/
theorem SliceOf.addr {w : World} {k : IntKind} {v : Value} {xs : List Int} (h : SliceOf w k v xs) (h0 : 0 < xs.length) :
    ∃ b off cap, v = .slice (some ⟨b, off, none⟩) xs.length cap ∧ ∀ i, i < xs.length → w.cell? ⟨b, off + i, none⟩ = some (.int k (xs.getD i 0)) := by
  obtain ⟨a, n, cap, rfl, rfl, hc⟩ := h
  obtain ⟨b, off, rfl, -⟩ := hc 0 h0
  refine ⟨b, off, cap, rfl, fun i hi => ?_⟩
  obtain ⟨b', off', e, h⟩ := hc i hi
  simp only [Option.some.injEq, Addr.mk.injEq, and_true] at e
  obtain ⟨rfl, rfl⟩ := e
  exact h
theorem opTab_get (n : Nat) (h1 : 4 ≤ n) (h2 : n ≤ 20) (w : World) : (Instr.index 159 (.agg opTab) (.int .u8 n)).run Tryz.prog w = .ok (.agg #[.func (.func (opFn n)) #[] #[]]) w := by
  have : n = 4 ∨ n = 5 ∨ n = 6 ∨ n = 7 ∨ n = 8 ∨ n = 9 ∨ n = 10 ∨ n = 11 ∨ n = 12 ∨ n = 13 ∨ n = 14 ∨ n = 15 ∨ n = 16 ∨ n = 17 ∨ n = 18 ∨ n = 19 ∨ n = 20 := by omega
  rcases this with rfl | rfl | rfl | rfl | rfl | rfl | rfl | rfl | rfl | rfl | rfl | rfl | rfl | rfl | rfl | rfl | rfl <;> (show _ = _; kernel_rfl)
theorem opFn_any (o : Nat) (h1 : 4 ≤ o) (h2 : o ≤ 20) (W a b : Nat) (hW1 : 1 ≤ W) (hW2 : W ≤ 64) (ha : a < 2 ^ W) (hb : b < 2 ^ W) (w : World) :
    Calls Tryz.prog (opFn o) #[.int .i64 W, .int .u64 a, .int .u64 b] w (Raw W o a b w) := by
  have : o = 4 ∨ o = 5 ∨ o = 6 ∨ o = 7 ∨ o = 8 ∨ o = 9 ∨ o = 10 ∨ o = 11 ∨ o = 12 ∨ o = 13 ∨ o = 14 ∨ o = 15 ∨ o = 16 ∨ o = 17 ∨ o = 18 ∨ o = 19 ∨ o = 20 := by omega
  rcases this with rfl | rfl | rfl | rfl | rfl | rfl | rfl | rfl | rfl | rfl | rfl | rfl | rfl | rfl | rfl | rfl | rfl
  · exact add_any W a b hW1 hW2 ha hb w
  · exact sub_any W a b hW1 hW2 ha hb w
  · exact mul_any W a b hW1 hW2 ha hb w
  · exact div_any W a b hW1 hW2 ha hb w
  · exact rem_any W a b hW1 hW2 ha hb w
  · exact and_any W a b hW1 hW2 ha hb w
  · exact or_any W a b hW1 hW2 ha hb w
  · exact xor_any W a b hW1 hW2 ha hb w
  · exact shl_any W a b hW1 hW2 ha hb w
  · exact shr_any W a b hW1 hW2 ha hb w
  · exact sar_any W a b hW1 hW2 ha hb w
  · exact eq_any W a b hW1 hW2 ha hb w
  · exact ne_any W a b hW1 hW2 ha hb w
  · exact lt_any W a b hW1 hW2 ha hb w
  · exact le_any W a b hW1 hW2 ha hb w
  · exact slt_any W a b hW1 hW2 ha hb w
  · exact sle_any W a b hW1 hW2 ha hb w
theorem opFn_call (o : Nat) (h1 : 4 ≤ o) (h2 : o ≤ 20) (x y z : Value) (w : World) : (callFunc (opFn o) #[x, y, z]).run Tryz.prog w = .ok (.enter (opFn o) #[x, y, z]) w := by
  have : o = 4 ∨ o = 5 ∨ o = 6 ∨ o = 7 ∨ o = 8 ∨ o = 9 ∨ o = 10 ∨ o = 11 ∨ o = 12 ∨ o = 13 ∨ o = 14 ∨ o = 15 ∨ o = 16 ∨ o = 17 ∨ o = 18 ∨ o = 19 ∨ o = 20 := by omega
  rcases this with rfl | rfl | rfl | rfl | rfl | rfl | rfl | rfl | rfl | rfl | rfl | rfl | rfl | rfl | rfl | rfl | rfl <;> (show _ = _; kernel_rfl)
/-- A cell of a world is there in a later one. -/
theorem keep2 {w w' : World} {a b : Addr} {u v : Value} (hb : Below w.heap.size w w') (h : w.cell? a = some u ∧ w.cell? b = some v) : w'.cell? a = some u ∧ w'.cell? b = some v :=
  ⟨cell_later hb h.1, cell_later hb h.2⟩
set_option maxRecDepth 100000 in
theorem apply2 (o W x y : Nat) (h1 : 4 ≤ o) (h2 : o ≤ 20) (hW1 : 1 ≤ W) (hW2 : W ≤ 64) (hx : x ≤ 18446744073709551615) (hy : y ≤ 18446744073709551615)
    (b off cap : Nat) (w : World) (c0 : w.cell? ⟨b, off, none⟩ = some (.int .u64 x)) (c1 : w.cell? ⟨b, off + 1, none⟩ = some (.int .u64 y)) :
    Calls Tryz.prog 72 #[.int .u8 o, .int .i64 W, .slice (some ⟨b, off, none⟩) 2 cap] w fun e w' => e = .returned (.tuple #[.int .u64 (wop W o (x % 2 ^ W) (y % 2 ^ W) 0), .int .i64 0]) ∧ Below w.heap.size w w' := by
  have hc : chk (W : Int) = 0 := chk_in (by omega) (by omega)
  have hn : aryN o = 2 := by unfold aryN; rw [if_neg (by omega), if_neg (by omega), if_neg (by omega)]
  have ha1 := and_mask x W (by omega) hW1 hW2
  have ha2 := and_mask y W (by omega) hW1 hW2
  have hxl := Nat.mod_lt x (pow_pos2 W)
  have hyl := Nat.mod_lt y (pow_pos2 W)
  generalize x % 2 ^ W = X at *
  generalize y % 2 ^ W = Y at *
  have Hx := Lib.hid hxl; have Hy := Lib.hid hyl; clear hxl hyl
  have htab := opTab_get o h1 h2
  have hfield : ∀ w, (Instr.field 158 (.agg #[.func (.func (opFn o)) #[] #[]]) 0).run Tryz.prog w = .ok (.func (.func (opFn o)) #[] #[]) w := fun w => by kernel_rfl
  have hcall := opFn_call o h1 h2
  have d2 : ((o : Int) == 2) = false := by simp; omega
  have d3 : ((o : Int) == 3) = false := by simp; omega
  have d21 : ((o : Int) == 21) = false := by simp; omega
  go_enter Tryz.func72, Tryz.ntmps72
  go_wp2_with (first | (go_at_call 55; refine (check_any _ _).mono ?_; rintro e w' ⟨rfl, rfl⟩) | (go_at_call 60; refine (arity_any _ (by omega) (by omega) _).mono ?_; rintro e w1 ⟨rfl, hb1⟩; have k0 := cell_later hb1 c0; have k1 := cell_later hb1 c1; have hbl : b < w1.heap.size := World.block_lt_of_cell? _ _ k0; clear c0 c1))
  refine wp_loop_rounds 3 ?_
  rw [rounds_succ]
  go_wp2_with (first | (go_at_call 79; refine (mask_any _ hW1 hW2 _).mono ?_; rintro e w' ⟨rfl, rfl⟩))
  rw [rounds_succ]
  go_wp2_with (first | (go_at_call 79; refine (mask_any _ hW1 hW2 _).mono ?_; rintro e w' ⟨rfl, rfl⟩))
  rw [rounds_succ]
  go_wp2_with (first | (go_at_call 79; refine (mask_any _ hW1 hW2 _).mono ?_; rintro e w' ⟨rfl, rfl⟩))
  clear k0 k1 ha1 ha2
  go_region_held3 (fun w' => w'.cell? ⟨w1.heap.size, 0, none⟩ = some (.int .u64 X) ∧ w'.cell? ⟨w1.heap.size, 1, none⟩ = some (.int .u64 Y))
    (first | go_keep | exact keep2 (by assumption) (by assumption))
    (first | (go_at_call 86; refine (table_any _).mono ?_; rintro e w2 ⟨rfl, hb2⟩) | (refine (opFn_any o h1 h2 W X Y hW1 hW2 Hx.out Hy.out _).mono ?_; rintro e w3 ⟨r, rfl, hr1, hr2, rfl⟩))
  have hm := and_mask r W hr1 hW1 hW2
  rw [hr2] at hm
  clear hr2 htab hfield hcall
  go_wp2_with (first | (go_at_call 79; refine (mask_any _ hW1 hW2 _).mono ?_; rintro e w' ⟨rfl, rfl⟩))
  go_ret2
  exact ⟨rfl, (hb1.alloc hb1.size _).drew.trans (hb2.mono (by have := hb1.size; simp; omega))⟩
set_option maxRecDepth 100000 in
theorem apply1 (o W x : Nat) (ho : o = 2 ∨ o = 3) (hW1 : 1 ≤ W) (hW2 : W ≤ 64) (hx : x ≤ 18446744073709551615)
    (b off cap : Nat) (w : World) (c0 : w.cell? ⟨b, off, none⟩ = some (.int .u64 x)) :
    Calls Tryz.prog 72 #[.int .u8 o, .int .i64 W, .slice (some ⟨b, off, none⟩) 1 cap] w fun e w' => e = .returned (.tuple #[.int .u64 (wop W o (x % 2 ^ W) 0 0), .int .i64 0]) ∧ Below w.heap.size w w' := by
  have hc : chk (W : Int) = 0 := chk_in (by omega) (by omega)
  have ha1 := and_mask x W (by omega) hW1 hW2
  have hxl := Nat.mod_lt x (pow_pos2 W)
  generalize x % 2 ^ W = X at *
  have hp := pow_le64 hW2
  have hm1 : bits .and .u64 (bits .xor .u64 IntKind.u64.max (X : Int)) ((2 ^ W - 1 : Nat) : Int) = ((wop W 2 X 0 0 : Nat) : Int) := by
    have e : IntKind.u64.max = ((18446744073709551615 : Nat) : Int) := by decide
    have hq : 18446744073709551615 ^^^ X = 18446744073709551615 - X := by
      have := Nat.xor_comm
      apply Nat.eq_of_testBit_eq
      intro i
      rw [show 18446744073709551615 - X = 2 ^ 64 - (X + 1) from by omega, Nat.testBit_two_pow_sub_succ (by omega), Nat.testBit_xor, show (18446744073709551615 : Nat) = 2 ^ 64 - 1 from rfl, Nat.testBit_two_pow_sub_one]
      by_cases hi : i < 64
      · simp [hi]
      · have : X < 2 ^ i := Nat.lt_of_lt_of_le (by omega : X < 2 ^ 64) (Nat.pow_le_pow_right (by decide) (by omega))
        simp [hi, Nat.testBit_lt_two_pow this]
    rw [e, u64_xor_nat _ _ (by decide) (by omega), hq, and_mask _ _ (by omega) hW1 hW2, mod_minus W X hW2 hxl]; rfl
  have hm2 : bits .and .u64 (IntKind.u64.wrap (-(X : Int))) ((2 ^ W - 1 : Nat) : Int) = ((wop W 3 X 0 0 : Nat) : Int) := by
    have e : IntKind.u64.wrap (-(X : Int)) = (((18446744073709551616 - X) % 18446744073709551616 : Nat) : Int) := by rw [IntKind.wrap_u64]; omega
    rw [e, and_mask _ _ (Nat.mod_lt _ (by decide)) hW1 hW2, mod64_mod hW2]
    obtain ⟨k, hk⟩ := pow_dvd64 hW2
    have hk1 : 1 ≤ k := by
      rcases Nat.eq_zero_or_pos k with h0 | h0
      · subst h0; omega
      · exact h0
    have : 2 ^ W * (k - 1) + 2 ^ W = 18446744073709551616 := by rw [hk, ← Nat.mul_succ]; congr 1; omega
    rw [show 18446744073709551616 - X = (2 ^ W - X) + 2 ^ W * (k - 1) from by omega, Nat.add_mul_mod_self_left]; rfl
  have Hx := Lib.hid hxl; clear hxl hp
  rcases ho with rfl | rfl
  all_goals
    have hn2 : aryN 2 = 1 := rfl
    have hn3 : aryN 3 = 1 := rfl
    go_enter Tryz.func72, Tryz.ntmps72
    go_wp2_with (first | (go_at_call 55; refine (check_any _ _).mono ?_; rintro e w' ⟨rfl, rfl⟩) | (go_at_call 60; refine (arity_any _ (by omega) (by omega) _).mono ?_; rintro e w1 ⟨rfl, hb1⟩; have k0 := cell_later hb1 c0; have hbl : b < w1.heap.size := World.block_lt_of_cell? _ _ k0; clear c0))
    refine wp_loop_rounds 2 ?_
    rw [rounds_succ]
    go_wp2_with (first | (go_at_call 79; refine (mask_any _ hW1 hW2 _).mono ?_; rintro e w' ⟨rfl, rfl⟩))
    rw [rounds_succ]
    go_wp2_with (first | (go_at_call 79; refine (mask_any _ hW1 hW2 _).mono ?_; rintro e w' ⟨rfl, rfl⟩))
    go_ret2
    exact ⟨rfl, hb1.alloc hb1.size _⟩
set_option maxRecDepth 100000 in
theorem apply3 (W x y z : Nat) (hW1 : 1 ≤ W) (hW2 : W ≤ 64) (hx : x ≤ 18446744073709551615) (hy : y ≤ 18446744073709551615) (hz : z ≤ 18446744073709551615)
    (b off cap : Nat) (w : World) (c0 : w.cell? ⟨b, off, none⟩ = some (.int .u64 x)) (c1 : w.cell? ⟨b, off + 1, none⟩ = some (.int .u64 y)) (c2 : w.cell? ⟨b, off + 2, none⟩ = some (.int .u64 z)) :
    Calls Tryz.prog 72 #[.int .u8 21, .int .i64 W, .slice (some ⟨b, off, none⟩) 3 cap] w fun e w' => e = .returned (.tuple #[.int .u64 (wop W 21 (x % 2 ^ W) (y % 2 ^ W) (z % 2 ^ W)), .int .i64 0]) ∧ Below w.heap.size w w' := by
  have hc : chk (W : Int) = 0 := chk_in (by omega) (by omega)
  have hp := pow_le64 hW2
  have ha1 := and_mask x W (by omega) hW1 hW2
  have ha2 := and_mask y W (by omega) hW1 hW2
  have ha3 := and_mask z W (by omega) hW1 hW2
  have hxl := Nat.mod_lt x (pow_pos2 W)
  have hyl := Nat.mod_lt y (pow_pos2 W)
  have hzl := Nat.mod_lt z (pow_pos2 W)
  generalize x % 2 ^ W = X at *
  generalize y % 2 ^ W = Y at *
  generalize z % 2 ^ W = Z at *
  have hb2 := and_mask Y W (by omega) hW1 hW2
  have hb3 := and_mask Z W (by omega) hW1 hW2
  rw [Nat.mod_eq_of_lt hyl] at hb2
  rw [Nat.mod_eq_of_lt hzl] at hb3
  clear hxl hyl hzl hp
  have hn : aryN 21 = 3 := rfl
  by_cases h0 : X = 0
  all_goals
    have hd : ((X : Int) != 0) = !decide (X = 0) := by rw [Bool.eq_iff_iff]; simp
    simp only [h0, decide_true, decide_false, Bool.not_true, Bool.not_false] at hd
    have hr : wop W 21 X Y Z = if X = 0 then Z else Y := rfl
    first | rw [if_pos h0] at hr | rw [if_neg h0] at hr
    first | subst h0 | skip
    have Hr := Lib.hid hr; clear hr
    go_enter Tryz.func72, Tryz.ntmps72
    go_wp2_with (first | (go_at_call 55; refine (check_any _ _).mono ?_; rintro e w' ⟨rfl, rfl⟩) | (go_at_call 60; refine (arity_any _ (by omega) (by omega) _).mono ?_; rintro e w1 ⟨rfl, hb1⟩; have k0 := cell_later hb1 c0; have k1 := cell_later hb1 c1; have k2 := cell_later hb1 c2; have hbl : b < w1.heap.size := World.block_lt_of_cell? _ _ k0; clear c0 c1 c2))
    refine wp_loop_rounds 4 ?_
    rw [rounds_succ]
    go_wp2_with (first | (go_at_call 79; refine (mask_any _ hW1 hW2 _).mono ?_; rintro e w' ⟨rfl, rfl⟩))
    rw [rounds_succ]
    go_wp2_with (first | (go_at_call 79; refine (mask_any _ hW1 hW2 _).mono ?_; rintro e w' ⟨rfl, rfl⟩))
    rw [rounds_succ]
    go_wp2_with (first | (go_at_call 79; refine (mask_any _ hW1 hW2 _).mono ?_; rintro e w' ⟨rfl, rfl⟩))
    rw [rounds_succ]
    go_wp2_with (first | (go_at_call 79; refine (mask_any _ hW1 hW2 _).mono ?_; rintro e w' ⟨rfl, rfl⟩))
    go_ret2
    rw [Hr.out]
    exact ⟨rfl, hb1.alloc hb1.size _⟩
theorem applyE (o W : Int) (h0 : 0 ≤ o) (h1 : o ≤ 255) (a : Option Addr) (n cap : Nat) (_hn : n ≤ 9223372036854775807) (w : World) (he : wE o W n ≠ 0) :
    Calls Tryz.prog 72 #[.int .u8 o, .int .i64 W, .slice a n cap] w fun e w' => e = .returned (.tuple #[.int .u64 0, .int .i64 (wE o W n)]) ∧ Below w.heap.size w w' := by
  by_cases hW : 1 ≤ W ∧ W ≤ 64
  · have hc := chk_in hW.1 hW.2
    by_cases ho : 2 ≤ o ∧ o ≤ 21
    · have ha := aryN_le o.toNat
      have hw : wE o W n = 2 ∧ aryN o.toNat ≠ n := by
        unfold wE at he ⊢
        rw [if_neg (by omega), if_neg (by omega)] at he ⊢
        by_cases hh : aryN o.toNat = n
        · rw [if_pos hh] at he; exact absurd rfl he
        · rw [if_neg hh]; exact ⟨rfl, hh⟩
      rw [hw.1]
      have hne : ((aryN o.toNat : Int) != (n : Int)) = true := by simp; exact_mod_cast hw.2
      clear hw he
      go_enter Tryz.func72, Tryz.ntmps72
      go_wp2_with (first | (go_at_call 55; refine (check_any _ _).mono ?_; rintro e w' ⟨rfl, rfl⟩) | (go_at_call 60; refine (arity_any _ (by omega) (by omega) _).mono ?_; rintro e w1 ⟨rfl, hb1⟩))
      go_ret2
      exact ⟨rfl, hb1⟩
    · have hw : wE o W n = 3 := by unfold wE; rw [if_neg (by omega), if_pos (by omega)]
      rw [hw]
      clear hw he
      by_cases h2 : o < 2
      · go_enter Tryz.func72, Tryz.ntmps72
        go_wp2_with (first | (go_at_call 55; refine (check_any _ _).mono ?_; rintro e w' ⟨rfl, rfl⟩))
        go_ret2
        exact ⟨rfl, Below.refl _ _⟩
      · have h3 : 21 < o := by omega
        go_enter Tryz.func72, Tryz.ntmps72
        go_wp2_with (first | (go_at_call 55; refine (check_any _ _).mono ?_; rintro e w' ⟨rfl, rfl⟩))
        go_ret2
        exact ⟨rfl, Below.refl _ _⟩
  · have hc := chk_out hW
    have hw : wE o W n = 3 := by unfold wE; rw [if_pos (by omega)]
    rw [hw]
    clear hw he
    go_enter Tryz.func72, Tryz.ntmps72
    go_wp2_with (first | (go_at_call 55; refine (check_any _ _).mono ?_; rintro e w' ⟨rfl, rfl⟩))
    go_ret2
    exact ⟨by simp , Below.refl _ _⟩
/-- Every number of a list is a uint64. -/
def U64s (xs : List Int) : Prop := ∀ x ∈ xs, 0 ≤ x ∧ x ≤ 18446744073709551615
theorem U64s.nat {xs : List Int} (h : U64s xs) : ∃ ns : List Nat, xs = ns.map (fun (n : Nat) => (n : Int)) ∧ ∀ n ∈ ns, n ≤ 18446744073709551615 := by
  refine ⟨xs.map Int.toNat, ?_, ?_⟩
  · rw [List.map_map]
    conv => lhs; rw [← List.map_id xs]
    exact List.map_congr_left fun x hx => by have := h x hx; simp; omega
  · intro n hn
    obtain ⟨x, hx, rfl⟩ := List.mem_map.1 hn
    have := h x hx; omega
theorem apply_any (o W : Int) (h0 : 0 ≤ o) (h1 : o ≤ 255) (v : Value) (xs : List Int) (w : World) (hs : SliceOf w .u64 v xs) (hx : U64s xs) (hn : xs.length ≤ 9223372036854775807) :
    Calls Tryz.prog 72 #[.int .u8 o, .int .i64 W, v] w fun e w' => e = .returned (.tuple #[.int .u64 (wI o W xs), .int .i64 (wE o W xs.length)]) ∧ Below w.heap.size w w' := by
  by_cases he : wE o W xs.length = 0
  · have hW : 1 ≤ W ∧ W ≤ 64 := by
      unfold wE at he; by_cases h : W < 1 ∨ 64 < W
      · rw [if_pos h] at he; omega
      · omega
    have ho : 2 ≤ o ∧ o ≤ 21 := by
      unfold wE at he; rw [if_neg (by omega)] at he; by_cases h : o < 2 ∨ 21 < o
      · rw [if_pos h] at he; omega
      · omega
    have hl : aryN o.toNat = xs.length := by
      unfold wE at he; rw [if_neg (by omega), if_neg (by omega)] at he
      by_cases h : aryN o.toNat = xs.length
      · exact h
      · rw [if_neg h] at he; omega
    have hI : wI o W xs = ((wop W.toNat o.toNat (wA W xs 0) (wA W xs 1) (wA W xs 2) : Nat) : Int) := by unfold wI; rw [if_pos he]
    obtain ⟨ns, rfl, hns⟩ := hx.nat
    obtain ⟨O, rfl⟩ := Int.eq_ofNat_of_zero_le h0
    obtain ⟨m, rfl⟩ := Int.eq_ofNat_of_zero_le (show 0 ≤ W by omega)
    rw [hI, he]
    simp only [wA, Int.toNat_natCast] at hl ⊢
    clear hI he
    have hpos : 1 ≤ aryN O := by unfold aryN; rw [if_neg (by omega)]; split; · omega
                                 · split <;> omega
    obtain ⟨b, off, cap, rfl, hc⟩ := hs.addr (by omega)
    · by_cases h3 : O ≤ 3
      · have hl1 : aryN O = 1 := by unfold aryN; rw [if_neg (by omega), if_pos h3]
        obtain ⟨x, rfl⟩ : ∃ x, ns = [x] := List.length_eq_one_iff.1 (by simp at hl; omega)
        have c0 := hc 0 (by simp)
        have := apply1 O m x (by omega) (by omega) (by omega) (hns x (by simp)) b off cap w (by simpa using c0)
        simpa using this
      · by_cases h21 : O = 21
        · subst h21
          obtain ⟨x, y, z, rfl⟩ : ∃ x y z, ns = [x, y, z] := by
            match ns, hl with
            | [x, y, z], _ => exact ⟨x, y, z, rfl⟩
            | [], h => simp [aryN] at h
            | [_], h => simp [aryN] at h
            | [_, _], h => simp [aryN] at h
            | _ :: _ :: _ :: _ :: _, h => simp [aryN] at h
          have c0 := hc 0 (by simp)
          have c1 := hc 1 (by simp)
          have c2 := hc 2 (by simp)
          have := apply3 m x y z (by omega) (by omega) (hns x (by simp)) (hns y (by simp)) (hns z (by simp)) b off cap w (by simpa using c0) (by simpa using c1) (by simpa using c2)
          simpa using this
        · have hl2 : aryN O = 2 := by unfold aryN; rw [if_neg (by omega), if_neg h3, if_neg h21]
          obtain ⟨x, y, rfl⟩ : ∃ x y, ns = [x, y] := by
            rw [hl2] at hl
            match ns, hl with
            | [x, y], _ => exact ⟨x, y, rfl⟩
            | [], h => simp at h
            | [_], h => simp at h
            | _ :: _ :: _ :: _, h => simp at h
          have c0 := hc 0 (by simp)
          have c1 := hc 1 (by simp)
          have := apply2 O m x y (by omega) (by omega) (by omega) (by omega) (hns x (by simp)) (hns y (by simp)) b off cap w (by simpa using c0) (by simpa using c1)
          simpa using this
  · have hI : wI o W xs = 0 := by unfold wI; rw [if_neg he]
    rw [hI]
    obtain ⟨a, n, cap, rfl, rfl, -⟩ := hs
    exact applyE o W h0 h1 a _ cap hn w he
end Go.Proofs.YteamnchoddegpaaGreatDoor
