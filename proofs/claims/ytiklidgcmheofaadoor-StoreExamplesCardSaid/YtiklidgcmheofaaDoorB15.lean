/- FlC, FlD: joined by wip/bundle.py. -/
import Derived.Test.YtiklidgcmheofaaDoorB1
import Derived.Test.YtiklidgcmheofaaDoorB2
import Derived.Test.YtiklidgcmheofaaDoorB3
import Derived.Test.YtiklidgcmheofaaDoorB4
import Derived.Test.YtiklidgcmheofaaDoorB5
import Derived.Test.YtiklidgcmheofaaDoorB14
import Derived.Deep.DeepCutAuto
import Derived.BigQuiet
namespace Go.Proofs.YtiklidgcmheofaaDoor
open Go.RowKit Go.Maps
set_option maxHeartbeats 12800000
theorem rtrim_fl (W v : Nat) (h1 : 1 ≤ W) (h2 : W ≤ 64) (hv : v ≤ 18446744073709551615) (w : World) :
    Calls Tryd.prog 77 #[.int .i64 W, .int .u64 v] w fun e w' => e = .returned (.int .u64 ((v % 2 ^ W : Nat) : Int)) ∧ w = w' := by
  by_cases hW : W = 64
  · subst hW
    have hr : v % 2 ^ 64 = v := Nat.mod_eq_of_lt (by omega)
    rw [hr]; clear hr
    go_enter Tryd.func77, Tryd.ntmps77
    go_wp2
    go_ret
    exact ⟨rfl, rfl⟩
  · have hd : ((W : Int) == 64) = false := by simp; omega
    have hl : 2 ^ W < 18446744073709551616 := by
      have := Nat.pow_lt_pow_right (a := 2) (by decide) (show W < 64 by omega); simpa using this
    have hp := pow_pos2 W
    have hw : IntKind.u64.wrap ((2 : Int) ^ W) = ((2 ^ W : Nat) : Int) := by
      have e : (2 : Int) ^ W = ((2 ^ W : Nat) : Int) := by simp
      rw [e, wrap_u64_nat, Nat.mod_eq_of_lt hl]
    have hz : (((2 ^ W : Nat) : Int) == 0) = false := by
      rw [beq_eq_false_iff_ne]; omega
    generalize hP : 2 ^ W = P at *
    have HP := Lib.hid hP
    clear hl hP
    go_enter Tryd.func77, Tryd.ntmps77
    go_wp2
    go_ret
    exact ⟨rfl, rfl⟩
theorem rtrim_fl2 (W v r : Nat) (h1 : 1 ≤ W) (h2 : W ≤ 64) (h : v ≤ 18446744073709551615 ∧ v % 2 ^ W = r) (w : World) :
    Calls Tryd.prog 77 #[.int .i64 W, .int .u64 v] w fun e w' => e = .returned (.int .u64 r) ∧ w = w' := by
  rw [← h.2]; exact rtrim_fl W v h1 h2 h.1 w
theorem rTrim_fl (W v : Int) (h0 : 0 ≤ v) (h1 : v ≤ 18446744073709551615) (w : World) :
    Calls Tryd.prog 60 #[.int .i64 W, .int .u64 v] w fun e w' => e = .returned (.tuple #[.int .u64 (trimI W v), .int .i64 (chk W)]) ∧ w = w' := by
  obtain ⟨n, rfl⟩ := Int.eq_ofNat_of_zero_le h0
  by_cases hW : 1 ≤ W ∧ W ≤ 64
  · obtain ⟨hW1, hW2⟩ := hW
    obtain ⟨m, rfl⟩ := Int.eq_ofNat_of_zero_le (show 0 ≤ W by omega)
    have hc := chk_in hW1 hW2
    obtain ⟨R, eR⟩ : ∃ R, n % 2 ^ m = R := ⟨_, rfl⟩
    have hr : trimI (m : Int) (n : Int) = (R : Int) := by unfold trimI; rw [if_pos hc, ← eR]; simp
    rw [hr]
    have HR := Lib.hid (And.intro (show n ≤ 18446744073709551615 by omega) eR); clear eR hr h1
    go_enter Tryd.func60, Tryd.ntmps60
    go_wp2_with (first | (go_at_call 76; refine (rcheck_any _ _).mono ?_; rintro e w' ⟨rfl, rfl⟩) | (go_at_call 77; refine (rtrim_fl2 _ _ _ (by omega) (by omega) HR.out _).mono ?_; rintro e w' ⟨rfl, rfl⟩))
    go_ret2
    exact ⟨by simp [hc], rfl⟩
  · have hc := chk_out hW
    have hr : trimI W (n : Int) = 0 := by unfold trimI; rw [if_neg (by omega)]
    go_enter Tryd.func60, Tryd.ntmps60
    go_wp2_with (first | (go_at_call 76; refine (rcheck_any _ _).mono ?_; rintro e w' ⟨rfl, rfl⟩))
    go_ret2
    exact ⟨by simp [hr, hc], rfl⟩
/-- A flat instruction. -/
structure CodeD where
  k : Nat
  o : Nat
  d : Int
  n : Int
  ar : Int
  an : Nat
  br : Int
  bn : Nat
/-- A flat program. -/
structure FlatD where
  W : Int
  R : Int
  chans : List ByteArray
  sites : List ByteArray
  arrays : List Int
  codes : List CodeD
def CodeD.Ok (c : CodeD) : Prop := c.k ≤ 255 ∧ c.o ≤ 255 ∧ c.an < 18446744073709551616 ∧ c.bn < 18446744073709551616
def CodeD.val (c : CodeD) : Value := .agg #[.int .u8 c.k, .int .u8 c.o, .int .i64 c.d, .int .i64 c.n, .int .i64 c.ar, .int .u64 c.an, .int .i64 c.br, .int .u64 c.bn]
/-- A reference is one, or zero if there is none. -/
def refB (W R r : Int) (q : Nat) (has : Bool) : Bool := if has then (if r = -1 then decide (W = 64) || decide (q < 2 ^ W.toNat) else decide (0 ≤ r) && decide (r < R) && decide (q = 0)) else decide (r = 0) && decide (q = 0)
theorem fref_any (f : FlatD) (cv sv av kv : Value) (hW1 : 1 ≤ f.W) (hW2 : f.W ≤ 64) (r : Int) (q : Nat) (hq : q < 18446744073709551616) (has : Bool) (w : World) :
    Calls Tryd.prog 63 #[.agg #[.int .i64 f.W, .int .i64 f.R, cv, sv, av, kv], .agg #[.int .i64 r, .int .u64 q], .bool has] w fun e w' => e = .returned (.bool (refB f.W f.R r q has)) ∧ Below w.heap.size w w' := by
  obtain ⟨W, R, ch, st, ars, cs⟩ := f
  simp only at hW1 hW2 ⊢
  cases has with
  | false =>
    have HF := Lib.hid (show refB W R r q false = (decide (r = 0) && decide (q = 0)) from rfl)
    by_cases h0 : r = 0 ∧ q = 0
    · obtain ⟨rfl, rfl⟩ := h0
      go_enter Tryd.func63, Tryd.ntmps63
      go_wp2
      go_ret
      exact ⟨ret_bool (by rw [HF.out]; rfl), Below.alloc (Below.alloc (Below.refl _ _) (Nat.le_refl _) _) (by simp) _⟩
    · have hf : (decide (r = 0) && decide (q = 0)) = false := by simp only [Bool.and_eq_false_iff, decide_eq_false_iff_not]; omega
      rw [hf] at HF
      have H0 := Lib.hid h0
      clear hf h0
      go_enter Tryd.func63, Tryd.ntmps63
      go_wp2
      all_goals
        first
          | (exfalso; apply H0.out; constructor <;> omega)
          | (go_ret
             exact ⟨ret_bool HF.out.symm, Below.alloc (Below.alloc (Below.refl _ _) (Nat.le_refl _) _) (by simp) _⟩)
  | true =>
    by_cases hr : r = -1
    · have hF : refB W R r q true = (decide (W = 64) || decide (q < 2 ^ W.toNat)) := by unfold refB; rw [if_pos rfl, if_pos hr]
      subst hr
      have HF := Lib.hid hF
      clear hF
      by_cases h64 : W = 64
      · subst h64
        go_enter Tryd.func63, Tryd.ntmps63
        go_wp2
        go_quiet (fail)
        go_wp2
        go_ret
        exact ⟨ret_bool (by rw [HF.out]; rfl), below_drewN (Below.alloc (Below.alloc (Below.refl _ _) (Nat.le_refl _) _) (by simp) _) _⟩
      · obtain ⟨m, rfl⟩ := Int.eq_ofNat_of_zero_le (show 0 ≤ W by omega)
        have hd : ((m : Int) == 64) = false := by simp; omega
        have hl : 2 ^ m < 18446744073709551616 := by
          have := Nat.pow_lt_pow_right (a := 2) (by decide) (show m < 64 by omega); simpa using this
        have hw : IntKind.u64.wrap ((2 : Int) ^ m) = ((2 ^ m : Nat) : Int) := by
          have e : (2 : Int) ^ m = ((2 ^ m : Nat) : Int) := by simp
          rw [e, wrap_u64_nat, Nat.mod_eq_of_lt hl]
        rw [decide_eq_false h64, Bool.false_or, Int.toNat_natCast] at HF
        generalize hP : 2 ^ m = P at *
        have HP := Lib.hid hP
        clear hl hP h64
        by_cases hqP : q < P
        · have g : decide ((q : Int) < (P : Int)) = true := decide_eq_true (by omega)
          rw [decide_eq_true hqP] at HF
          go_enter Tryd.func63, Tryd.ntmps63
          go_wp2
          go_quiet (fail)
          go_wp2
          go_ret
          exact ⟨ret_bool HF.out.symm, below_drewN (Below.alloc (Below.alloc (Below.refl _ _) (Nat.le_refl _) _) (by simp) _) _⟩
        · have g : decide ((q : Int) < (P : Int)) = false := decide_eq_false (by omega)
          rw [decide_eq_false hqP] at HF
          go_enter Tryd.func63, Tryd.ntmps63
          go_wp2
          go_quiet (fail)
          go_wp2
          go_ret
          exact ⟨ret_bool HF.out.symm, below_drewN (Below.alloc (Below.alloc (Below.refl _ _) (Nat.le_refl _) _) (by simp) _) _⟩
    · have hF : refB W R r q true = (decide (0 ≤ r) && decide (r < R) && decide (q = 0)) := by unfold refB; rw [if_pos rfl, if_neg hr]
      have hne : (r == -1) = false := by rw [beq_eq_false_iff_ne]; exact hr
      have HF := Lib.hid hF
      clear hF hr
      by_cases h1 : 0 ≤ r
      · by_cases h2 : r < R
        · rw [decide_eq_true h1, decide_eq_true h2] at HF
          by_cases h3 : q = 0
          · subst h3
            go_enter Tryd.func63, Tryd.ntmps63
            go_wp2
            go_ret
            exact ⟨ret_bool (by rw [HF.out]; rfl), Below.alloc (Below.alloc (Below.refl _ _) (Nat.le_refl _) _) (by simp) _⟩
          · have g3 : ((q : Int) == 0) = false := by rw [beq_eq_false_iff_ne]; omega
            rw [decide_eq_false h3] at HF
            clear h3
            go_enter Tryd.func63, Tryd.ntmps63
            go_wp2
            go_ret
            exact ⟨ret_bool (by rw [HF.out]; rfl), Below.alloc (Below.alloc (Below.refl _ _) (Nat.le_refl _) _) (by simp) _⟩
        · have g2 : decide (r < R) = false := decide_eq_false h2
          rw [decide_eq_true h1, g2] at HF
          clear h2
          go_enter Tryd.func63, Tryd.ntmps63
          go_wp2
          go_ret
          exact ⟨ret_bool (by rw [HF.out]; rfl), Below.alloc (Below.alloc (Below.refl _ _) (Nat.le_refl _) _) (by simp) _⟩
      · have g1 : decide (0 ≤ r) = false := decide_eq_false h1
        rw [g1] at HF
        clear h1
        go_enter Tryd.func63, Tryd.ntmps63
        go_wp2
        go_ret
        exact ⟨ret_bool (by rw [HF.out]; rfl), Below.alloc (Below.alloc (Below.refl _ _) (Nat.le_refl _) _) (by simp) _⟩
theorem ref_any (f : FlatD) (cv sv av kv : Value) (hW1 : 1 ≤ f.W) (hW2 : f.W ≤ 64) (r : Int) (q : Nat) (hq : q < 18446744073709551616) (has : Bool) (w : World) :
    Calls Tryd.prog 44 #[.agg #[.int .i64 f.W, .int .i64 f.R, cv, sv, av, kv], .agg #[.int .i64 r, .int .u64 q], .bool has] w fun e w' => e = .returned (.bool (refB f.W f.R r q has)) ∧ Below w.heap.size w w' := by
  obtain ⟨W, R, ch, st, ars, cs⟩ := f
  simp only at hW1 hW2 ⊢
  cases has with
  | false =>
    have HF := Lib.hid (show refB W R r q false = (decide (r = 0) && decide (q = 0)) from rfl)
    by_cases h0 : r = 0 ∧ q = 0
    · obtain ⟨rfl, rfl⟩ := h0
      go_enter Tryd.func44, Tryd.ntmps44
      go_wp2
      go_ret
      exact ⟨ret_bool (by rw [HF.out]; rfl), Below.alloc (Below.alloc (Below.refl _ _) (Nat.le_refl _) _) (by simp) _⟩
    · have hf : (decide (r = 0) && decide (q = 0)) = false := by simp only [Bool.and_eq_false_iff, decide_eq_false_iff_not]; omega
      rw [hf] at HF
      have H0 := Lib.hid h0
      clear hf h0
      go_enter Tryd.func44, Tryd.ntmps44
      go_wp2
      all_goals
        first
          | (exfalso; apply H0.out; constructor <;> omega)
          | (go_ret
             exact ⟨ret_bool HF.out.symm, Below.alloc (Below.alloc (Below.refl _ _) (Nat.le_refl _) _) (by simp) _⟩)
  | true =>
    by_cases hr : r = -1
    · have hF : refB W R r q true = (decide (W = 64) || decide (q < 2 ^ W.toNat)) := by unfold refB; rw [if_pos rfl, if_pos hr]
      subst hr
      have hlt : q % 2 ^ W.toNat = q ↔ q < 2 ^ W.toNat := ⟨fun e => by have := Nat.mod_lt q (pow_pos2 W.toNat); omega, fun h => Nat.mod_eq_of_lt h⟩
      have h64 : W = 64 → q < 2 ^ W.toNat := fun e => by subst e; exact hq
      have ht : trimI W (q : Int) = ((q % 2 ^ W.toNat : Nat) : Int) := by unfold trimI; rw [if_pos (chk_in hW1 hW2), Int.toNat_natCast]
      have hT := rTrim_fl W (q : Int) (by omega) (by omega)
      obtain ⟨m, hm⟩ : ∃ m, q % 2 ^ W.toNat = m := ⟨_, rfl⟩
      rw [hm] at ht hlt
      simp only [ht] at hT
      have HT := Lib.hid hT
      clear hT ht
      by_cases hmq : m = q
      · have e : refB W R (-1) q true = true := by rw [hF, decide_eq_true (hlt.1 hmq)]; simp
        have HF := Lib.hid e
        clear hF e h64 hlt hm
        subst hmq
        go_enter Tryd.func44, Tryd.ntmps44
        go_wp2_with (go_at_call 60; refine (HT.out _).mono ?_; rintro e w5 ⟨rfl, rfl⟩)
        go_ret
        exact ⟨ret_bool HF.out.symm, Below.alloc (Below.alloc (Below.refl _ _) (Nat.le_refl _) _) (by simp) _⟩
      · have e : refB W R (-1) q true = false := by
          have h2 : ¬ q < 2 ^ W.toNat := fun h => hmq (hlt.2 h)
          have h3 : ¬ W = 64 := fun h => h2 (h64 h)
          rw [hF, decide_eq_false h2, decide_eq_false h3]; rfl
        have HF := Lib.hid e
        have g : ((m : Int) == (q : Int)) = false := by rw [beq_eq_false_iff_ne]; omega
        clear hF e h64 hlt hm hmq
        go_enter Tryd.func44, Tryd.ntmps44
        go_wp2_with (go_at_call 60; refine (HT.out _).mono ?_; rintro e w5 ⟨rfl, rfl⟩)
        go_ret
        exact ⟨ret_bool HF.out.symm, Below.alloc (Below.alloc (Below.refl _ _) (Nat.le_refl _) _) (by simp) _⟩
    · have hF : refB W R r q true = (decide (0 ≤ r) && decide (r < R) && decide (q = 0)) := by unfold refB; rw [if_pos rfl, if_neg hr]
      have hne : (r == -1) = false := by rw [beq_eq_false_iff_ne]; exact hr
      have HF := Lib.hid hF
      clear hF hr
      by_cases h1 : 0 ≤ r
      · by_cases h2 : r < R
        · rw [decide_eq_true h1, decide_eq_true h2] at HF
          by_cases h3 : q = 0
          · subst h3
            go_enter Tryd.func44, Tryd.ntmps44
            go_wp2
            go_ret
            exact ⟨ret_bool (by rw [HF.out]; rfl), Below.alloc (Below.alloc (Below.refl _ _) (Nat.le_refl _) _) (by simp) _⟩
          · have g3 : ((q : Int) == 0) = false := by rw [beq_eq_false_iff_ne]; omega
            rw [decide_eq_false h3] at HF
            clear h3
            go_enter Tryd.func44, Tryd.ntmps44
            go_wp2
            go_ret
            exact ⟨ret_bool (by rw [HF.out]; rfl), Below.alloc (Below.alloc (Below.refl _ _) (Nat.le_refl _) _) (by simp) _⟩
        · have g2 : decide (r < R) = false := decide_eq_false h2
          rw [decide_eq_true h1, g2] at HF
          clear h2
          go_enter Tryd.func44, Tryd.ntmps44
          go_wp2
          go_ret
          exact ⟨ret_bool (by rw [HF.out]; rfl), Below.alloc (Below.alloc (Below.refl _ _) (Nat.le_refl _) _) (by simp) _⟩
      · have g1 : decide (0 ≤ r) = false := decide_eq_false h1
        rw [g1] at HF
        clear h1
        go_enter Tryd.func44, Tryd.ntmps44
        go_wp2
        go_ret
        exact ⟨ret_bool (by rw [HF.out]; rfl), Below.alloc (Below.alloc (Below.refl _ _) (Nat.le_refl _) _) (by simp) _⟩
end Go.Proofs.YtiklidgcmheofaaDoor
namespace Go.Proofs.YtiklidgcmheofaaDoor
open Go.RowKit Go.Maps
set_option maxHeartbeats 12800000
/-- Which fields a kind has: a destination, operands; what its number says. -/
def kD (k : Nat) : Bool := k == 0 || k == 1 || k == 2 || k == 4 || k == 6
def kA (k : Nat) : Bool := k == 0 || k == 1 || k == 2 || k == 3 || k == 5 || k == 6 || k == 8
def kB (k : Nat) : Bool := k == 1 || k == 3
def kN (k : Nat) : Nat := if k = 2 ∨ k = 3 then 1 else if k = 4 ∨ k = 5 then 2 else if k = 6 then 3 else if k = 7 ∨ k = 8 then 4 else 0
def mostN (na nc ns nk n : Nat) : Int := if n = 0 then 1 else if n = 1 then (na : Int) else if n = 2 then (nc : Int) else if n = 3 then (ns : Int) else (nk : Int)
def hasB2 (k o : Nat) : Bool := if k = 1 then decide (aryN o = 2) else kB k
/-- The table of the program, in its variable. -/
def ShpOk (w : World) : Prop := ∀ k, k < 10 → w.cell? ⟨0, k * 4, none⟩ = some (.bool (kD k)) ∧ w.cell? ⟨0, k * 4 + 1, none⟩ = some (.bool (kA k)) ∧ w.cell? ⟨0, k * 4 + 2, none⟩ = some (.bool (kB k)) ∧ w.cell? ⟨0, k * 4 + 3, none⟩ = some (.int .i64 (kN k : Nat))
theorem ShpOk.later {w w' : World} (h : ShpOk w) (hb : Below w.heap.size w w') : ShpOk w' := fun k hk => by
  obtain ⟨h1, h2, h3, h4⟩ := h k hk
  exact ⟨cell_later hb h1, cell_later hb h2, cell_later hb h3, cell_later hb h4⟩
/-- An instruction is valid. -/
def InstrOk (W R : Int) (na nc ns nk : Nat) (c : CodeD) : Prop :=
  ((c.k = 1 ∧ 2 ≤ c.o ∧ c.o ≤ 20) ∨ (c.k ≠ 1 ∧ c.k < 10 ∧ c.o = 0)) ∧ (0 ≤ c.n ∧ c.n < mostN na nc ns nk (kN c.k)) ∧ ((kD c.k = true ∧ 0 ≤ c.d ∧ c.d < R) ∨ (kD c.k = false ∧ c.d = 0)) ∧ refB W R c.ar c.an (kA c.k) = true ∧ refB W R c.br c.bn (hasB2 c.k c.o) = true
/-- A test's result. -/
def BoolPost (p : Prop) (w : World) : Ending → World → Prop := fun e w' => ∃ b, e = .returned (.bool b) ∧ (b = true ↔ p) ∧ Below w.heap.size w w'
/-- What flat.instr lays in memory. -/
structure Bx (w wx : World) (p : Nat) (fa ca sh : Array Value) : Prop where
  below : Below w.heap.size w wx
  f : wx.heap[p]? = some (.cells fa 26 (0, 0))
  c : wx.heap[p + 1]? = some (.cells ca 100 (0, 0))
  s : wx.heap[p + 2]? = some (.cells sh 131 (0, 0))
theorem Bx.later {w wx wy : World} {p : Nat} {fa ca sh : Array Value} (h : Bx w wx p fa ca sh) (hb : Below wx.heap.size wx wy) : Bx w wy p fa ca sh :=
  ⟨h.below.trans (hb.mono h.below.size), (hb.block p (Array.getElem?_eq_some_iff.1 h.f).1).trans h.f, (hb.block _ (Array.getElem?_eq_some_iff.1 h.c).1).trans h.c, (hb.block _ (Array.getElem?_eq_some_iff.1 h.s).1).trans h.s⟩
theorem index5_0 (x0 x1 x2 x3 x4 : Value) (w : World) : (Instr.index 133 (.agg #[x0, x1, x2, x3, x4]) (.int .i64 0)).run Tryd.prog w = .ok x0 w := by show _ = _; kernel_rfl
theorem index5_1 (x0 x1 x2 x3 x4 : Value) (w : World) : (Instr.index 133 (.agg #[x0, x1, x2, x3, x4]) (.int .i64 1)).run Tryd.prog w = .ok x1 w := by show _ = _; kernel_rfl
theorem index5_2 (x0 x1 x2 x3 x4 : Value) (w : World) : (Instr.index 133 (.agg #[x0, x1, x2, x3, x4]) (.int .i64 2)).run Tryd.prog w = .ok x2 w := by show _ = _; kernel_rfl
theorem index5_3 (x0 x1 x2 x3 x4 : Value) (w : World) : (Instr.index 133 (.agg #[x0, x1, x2, x3, x4]) (.int .i64 3)).run Tryd.prog w = .ok x3 w := by show _ = _; kernel_rfl
theorem index5_4 (x0 x1 x2 x3 x4 : Value) (w : World) : (Instr.index 133 (.agg #[x0, x1, x2, x3, x4]) (.int .i64 4)).run Tryd.prog w = .ok x4 w := by show _ = _; kernel_rfl
theorem cell_of_cells {w : World} {b t i : Nat} {cs : Array Value} {v : Value} (h : w.heap[b]? = some (.cells cs t (0, 0))) (hv : cs[i]? = some v) : w.cell? ⟨b, i, none⟩ = some v := by
  unfold World.cell?
  simp only [h]
  exact hv
theorem Bx.setS {w wx : World} {p : Nat} {fa ca : Array Value} {x0 x1 x2 x3 : Value} (h : Bx w wx p fa ca #[x0, x1, x2, x3]) (hp : w.heap.size ≤ p) (v : Value) : Bx w (wx.setCell ⟨p + 2, 2, none⟩ v) p fa ca #[x0, x1, v, x3] := by
  refine ⟨h.below.setCell (p := ⟨p + 2, 2, none⟩) (by show w.heap.size ≤ p + 2; omega) v, ?_, ?_, ?_⟩
  · rw [Below.heap_setCell wx ⟨p + 2, 2, none⟩ v p (by simp)]; exact h.f
  · rw [Below.heap_setCell wx ⟨p + 2, 2, none⟩ v (p + 1) (by simp)]; exact h.c
  · obtain ⟨hlt, hk⟩ := Array.getElem?_eq_some_iff.1 h.s
    show (wx.heap.modify (p + 2) _)[p + 2]? = _
    rw [Array.getElem?_eq_getElem (by rw [Array.size_modify]; exact hlt), Array.getElem_modify_self, hk]
    rfl
theorem frozen_of_cells {w : World} {b t i : Nat} {cs : Array Value} (h : w.heap[b]? = some (.cells cs t (0, 0))) : w.frozen? ⟨b, i, none⟩ = false := by
  unfold World.frozen?
  simp [h]
theorem heap3 (w : World) (a b c : Obj) : ((((w.alloc a).alloc b).alloc c).heap[w.heap.size]? = some a) ∧ ((((w.alloc a).alloc b).alloc c).heap[w.heap.size + 1]? = some b) ∧ ((((w.alloc a).alloc b).alloc c).heap[w.heap.size + 2]? = some c) := by
  refine ⟨?_, ?_, ?_⟩
  · rw [heap_alloc_old _ _ (by simp; omega), heap_alloc_old _ _ (by simp), heap_alloc_new]
  · rw [heap_alloc_old _ _ (by simp)]
    have := heap_alloc_new (w.alloc a) b
    rwa [World.size_alloc] at this
  · have := heap_alloc_new ((w.alloc a).alloc b) c
    rwa [World.size_alloc, World.size_alloc] at this
theorem below3 (w : World) (a b c : Obj) : Below w.heap.size w (((w.alloc a).alloc b).alloc c) := Below.alloc (Below.alloc (Below.alloc (Below.refl _ _) (Nat.le_refl _) _) (by simp) _) (by simp; omega) _
theorem below2 (w : World) (a b : Obj) : Below w.heap.size w ((w.alloc a).alloc b) := Below.alloc (Below.alloc (Below.refl _ _) (Nat.le_refl _) _) (by simp) _
section
variable {W R : Int} {a1 a2 a3 a4 : Option Addr} {nc ns na nk c1 c2 c3 c4 o an bn : Nat} {d n ar br : Int} {w : World}
set_option maxRecDepth 100000 in
theorem finstr_0 (hA : ∃ b1, refB W R ar an true = b1 ∧ ∀ w, Calls Tryd.prog 63 #[.agg #[.int .i64 W, .int .i64 R, .slice a1 nc c1, .slice a2 ns c2, .slice a3 na c3, .slice a4 nk c4], .agg #[.int .i64 ar, .int .u64 an], .bool true] w fun e w' => e = .returned (.bool b1) ∧ Below w.heap.size w w')
    (hB : ∃ b2, refB W R br bn false = b2 ∧ ∀ w, Calls Tryd.prog 63 #[.agg #[.int .i64 W, .int .i64 R, .slice a1 nc c1, .slice a2 ns c2, .slice a3 na c3, .slice a4 nk c4], .agg #[.int .i64 br, .int .u64 bn], .bool false] w fun e w' => e = .returned (.bool b2) ∧ Below w.heap.size w w') (ho : o ≤ 255) (hT : ShpOk w) (p0 : Prop) (hp0 : p0 ↔ (o = 0 ∧ (0 ≤ n ∧ n < 1) ∧ (0 ≤ d ∧ d < R) ∧ refB W R ar an true = true ∧ refB W R br bn false = true)) (h0 : 0 < w.heap.size) :
    Calls Tryd.prog 46 #[.agg #[.int .i64 W, .int .i64 R, .slice a1 nc c1, .slice a2 ns c2, .slice a3 na c3, .slice a4 nk c4], .agg #[.int .u8 0, .int .u8 (o : Int), .int .i64 d, .int .i64 n, .int .i64 ar, .int .u64 an, .int .i64 br, .int .u64 bn]] w (BoolPost p0 w) := by
  obtain ⟨b1, e1, hA⟩ := hA
  obtain ⟨b2, e2, hB⟩ := hB
  rw [e1, e2] at hp0
  obtain ⟨s0, s1, s2, s3⟩ := hT 0 (by omega)
  replace s0 : w.cell? ⟨0, 0, none⟩ = some (.bool true) := s0
  replace s1 : w.cell? ⟨0, 1, none⟩ = some (.bool true) := s1
  replace s2 : w.cell? ⟨0, 2, none⟩ = some (.bool false) := s2
  replace s3 : w.cell? ⟨0, 3, none⟩ = some (.int .i64 0) := s3
  have HA := Lib.hid hA; have HB := Lib.hid hB; have H0 := Lib.hid hT
  have hix := fun w => index5_0 (.int .i64 1) (.int .i64 na) (.int .i64 nc) (.int .i64 ns) (.int .i64 nk) w
  have HI := Lib.hid hp0
  clear hA hB e1 e2 hT hp0
  by_cases ho0 : o = 0
  case neg =>
    have g : ((o : Int) != 0) = true := by rw [bne_iff_ne]; omega
    go_enter Tryd.func46, Tryd.ntmps46
    go_wp2
    go_ret
    exact ⟨_, rfl, ⟨(by intro h; cases h), fun h => by (have hh := HI.out.1 h; exfalso; omega)⟩, below3 w _ _ _⟩
  subst ho0
  by_cases hn0 : 0 ≤ n
  case neg =>
    have g : decide (n < 0) = true := decide_eq_true (by omega)
    have HH := Lib.hid hn0
    clear hn0
    go_enter Tryd.func46, Tryd.ntmps46
    go_wp2
    go_ret
    exact ⟨_, rfl, ⟨(by intro h; cases h), fun h => by (have hh := HI.out.1 h; have hk := HH.out; exfalso; omega)⟩, below3 w _ _ _⟩
  have g0 : decide (n < 0) = false := decide_eq_false (by omega)
  by_cases hn1 : n < 1
  case neg =>
    have g : decide (1 ≤ n) = true := decide_eq_true (by omega)
    have HH := Lib.hid hn1
    clear hn1
    go_enter Tryd.func46, Tryd.ntmps46
    go_wp2
    go_ret
    exact ⟨_, rfl, ⟨(by intro h; cases h), fun h => by (have hh := HI.out.1 h; have hk := HH.out; exfalso; omega)⟩, below3 w _ _ _⟩
  have g1 : decide (1 ≤ n) = false := decide_eq_false (by omega)
  by_cases hd0 : 0 ≤ d
  case neg =>
    have g : decide (d < 0) = true := decide_eq_true (by omega)
    have HH := Lib.hid hd0
    clear hd0
    go_enter Tryd.func46, Tryd.ntmps46
    go_wp2
    go_ret
    exact ⟨_, rfl, ⟨(by intro h; cases h), fun h => by (have hh := HI.out.1 h; have hk := HH.out; exfalso; omega)⟩, below3 w _ _ _⟩
  have g2 : decide (d < 0) = false := decide_eq_false (by omega)
  by_cases hd1 : d < R
  case neg =>
    have g : decide (R ≤ d) = true := decide_eq_true (by omega)
    have HH := Lib.hid hd1
    clear hd1
    go_enter Tryd.func46, Tryd.ntmps46
    go_wp2
    go_ret
    exact ⟨_, rfl, ⟨(by intro h; cases h), fun h => by (have hh := HI.out.1 h; have hk := HH.out; exfalso; omega)⟩, below3 w _ _ _⟩
  have g3 : decide (R ≤ d) = false := decide_eq_false (by omega)
  have HP := Lib.hid (And.intro hn0 (And.intro hn1 (And.intro hd0 hd1)))
  clear hn0 hn1 hd0 hd1
  go_enter Tryd.func46, Tryd.ntmps46
  go_upto_region 14 with fail
  refine wp_abs (fun wx => Bx w wx w.heap.size #[.int .i64 W, .int .i64 R, .slice a1 nc c1, .slice a2 ns c2, .slice a3 na c3, .slice a4 nk c4] #[.int .u8 0, .int .u8 0, .int .i64 d, .int .i64 n, .int .i64 ar, .int .u64 an, .int .i64 br, .int .u64 bn] #[.bool true, .bool true, .bool false, .int .i64 0]) ⟨below3 w _ _ _, (heap3 w _ _ _).1, (heap3 w _ _ _).2.1, (heap3 w _ _ _).2.2⟩ ?_
  intro w1 hb
  obtain ⟨p, hp⟩ : ∃ p, w.heap.size = p := ⟨_, rfl⟩
  rw [hp] at hb
  simp only [hp]
  have HBX := Lib.hid hb
  clear hb
  have qf0 := cell_of_cells HBX.out.f (i := 0) rfl
  have qf1 := cell_of_cells HBX.out.f (i := 1) rfl
  have qf2 := cell_of_cells HBX.out.f (i := 2) rfl
  have qf3 := cell_of_cells HBX.out.f (i := 3) rfl
  have qf4 := cell_of_cells HBX.out.f (i := 4) rfl
  have qf5 := cell_of_cells HBX.out.f (i := 5) rfl
  have qc0 := cell_of_cells HBX.out.c (i := 0) rfl
  have qc1 := cell_of_cells HBX.out.c (i := 1) rfl
  have qc2 := cell_of_cells HBX.out.c (i := 2) rfl
  have qc3 := cell_of_cells HBX.out.c (i := 3) rfl
  have qc4 := cell_of_cells HBX.out.c (i := 4) rfl
  have qc5 := cell_of_cells HBX.out.c (i := 5) rfl
  have qc6 := cell_of_cells HBX.out.c (i := 6) rfl
  have qc7 := cell_of_cells HBX.out.c (i := 7) rfl
  have qs0 := cell_of_cells HBX.out.s (i := 0) rfl
  have qs1 := cell_of_cells HBX.out.s (i := 1) rfl
  have qs2 := cell_of_cells HBX.out.s (i := 2) rfl
  have qs3 := cell_of_cells HBX.out.s (i := 3) rfl
  have HA1 := HA.out; have HB1 := HB.out
  go_wp2_with fail
  go_at_call 63
  refine (HA.out _).mono ?_
  rintro e w5 ⟨rfl, hb5⟩
  clear HA1 HB1 qf0 qf1 qf2 qf3 qf4 qf5 qc0 qc1 qc2 qc3 qc4 qc5 qc6 qc7 qs0 qs1 qs2 qs3
  replace HBX := Lib.hid (HBX.out.later hb5)
  clear hb5
  cases b1 with
  | false =>
    go_wp2
    go_ret
    exact ⟨_, rfl, ⟨(by intro h; cases h), fun h => by cases (HI.out.1 h).2.2.2.1⟩, HBX.out.below⟩
  | true =>
    have qf0 := cell_of_cells HBX.out.f (i := 0) rfl
    have qf1 := cell_of_cells HBX.out.f (i := 1) rfl
    have qf2 := cell_of_cells HBX.out.f (i := 2) rfl
    have qf3 := cell_of_cells HBX.out.f (i := 3) rfl
    have qf4 := cell_of_cells HBX.out.f (i := 4) rfl
    have qf5 := cell_of_cells HBX.out.f (i := 5) rfl
    have qc0 := cell_of_cells HBX.out.c (i := 0) rfl
    have qc1 := cell_of_cells HBX.out.c (i := 1) rfl
    have qc2 := cell_of_cells HBX.out.c (i := 2) rfl
    have qc3 := cell_of_cells HBX.out.c (i := 3) rfl
    have qc4 := cell_of_cells HBX.out.c (i := 4) rfl
    have qc5 := cell_of_cells HBX.out.c (i := 5) rfl
    have qc6 := cell_of_cells HBX.out.c (i := 6) rfl
    have qc7 := cell_of_cells HBX.out.c (i := 7) rfl
    have qs0 := cell_of_cells HBX.out.s (i := 0) rfl
    have qs1 := cell_of_cells HBX.out.s (i := 1) rfl
    have qs2 := cell_of_cells HBX.out.s (i := 2) rfl
    have qs3 := cell_of_cells HBX.out.s (i := 3) rfl
    go_wp2_with fail
    go_at_call 63
    refine (HB.out _).mono ?_
    rintro e w6 ⟨rfl, hb6⟩
    clear qf0 qf1 qf2 qf3 qf4 qf5 qc0 qc1 qc2 qc3 qc4 qc5 qc6 qc7 qs0 qs1 qs2 qs3
    replace HBX := Lib.hid (HBX.out.later hb6)
    clear hb6
    go_wp2
    go_ret
    cases b2 with
    | false => exact ⟨_, rfl, ⟨(by intro h; cases h), fun h => by cases (HI.out.1 h).2.2.2.2⟩, HBX.out.below⟩
    | true => exact ⟨_, rfl, ⟨fun h => HI.out.2 ⟨by simp, ⟨HP.out.1, HP.out.2.1⟩, HP.out.2.2, by simp, by simp⟩, fun _ => by simp⟩, HBX.out.below⟩
set_option maxRecDepth 100000 in
theorem finstr_1 (hA : ∃ b1, refB W R ar an true = b1 ∧ ∀ w, Calls Tryd.prog 63 #[.agg #[.int .i64 W, .int .i64 R, .slice a1 nc c1, .slice a2 ns c2, .slice a3 na c3, .slice a4 nk c4], .agg #[.int .i64 ar, .int .u64 an], .bool true] w fun e w' => e = .returned (.bool b1) ∧ Below w.heap.size w w')
    (hB : ∃ b2, refB W R br bn (decide (aryN o = 2)) = b2 ∧ ∀ w, Calls Tryd.prog 63 #[.agg #[.int .i64 W, .int .i64 R, .slice a1 nc c1, .slice a2 ns c2, .slice a3 na c3, .slice a4 nk c4], .agg #[.int .i64 br, .int .u64 bn], .bool (decide (aryN o = 2))] w fun e w' => e = .returned (.bool b2) ∧ Below w.heap.size w w') (ho : o ≤ 255) (hT : ShpOk w) (p0 : Prop) (hp0 : p0 ↔ ((2 ≤ o ∧ o ≤ 20) ∧ (0 ≤ n ∧ n < 1) ∧ (0 ≤ d ∧ d < R) ∧ refB W R ar an true = true ∧ refB W R br bn (decide (aryN o = 2)) = true)) (h0 : 0 < w.heap.size) :
    Calls Tryd.prog 46 #[.agg #[.int .i64 W, .int .i64 R, .slice a1 nc c1, .slice a2 ns c2, .slice a3 na c3, .slice a4 nk c4], .agg #[.int .u8 1, .int .u8 (o : Int), .int .i64 d, .int .i64 n, .int .i64 ar, .int .u64 an, .int .i64 br, .int .u64 bn]] w (BoolPost p0 w) := by
  obtain ⟨b1, e1, hA⟩ := hA
  obtain ⟨b2, e2, hB⟩ := hB
  rw [e1, e2] at hp0
  obtain ⟨s0, s1, s2, s3⟩ := hT 1 (by omega)
  replace s0 : w.cell? ⟨0, 4, none⟩ = some (.bool true) := s0
  replace s1 : w.cell? ⟨0, 5, none⟩ = some (.bool true) := s1
  replace s2 : w.cell? ⟨0, 6, none⟩ = some (.bool true) := s2
  replace s3 : w.cell? ⟨0, 7, none⟩ = some (.int .i64 0) := s3
  have HA := Lib.hid hA; have HB := Lib.hid hB; have H0 := Lib.hid hT
  have hix := fun w => index5_0 (.int .i64 1) (.int .i64 na) (.int .i64 nc) (.int .i64 ns) (.int .i64 nk) w
  have HI := Lib.hid hp0
  clear hA hB e1 e2 hT hp0
  by_cases ho1 : 2 ≤ o
  case neg =>
    have g : decide ((o : Int) < 2) = true := decide_eq_true (by omega)
    go_enter Tryd.func46, Tryd.ntmps46
    go_wp2
    go_ret
    exact ⟨_, rfl, ⟨(by intro h; cases h), fun h => by (have hh := HI.out.1 h; exfalso; omega)⟩, below3 w _ _ _⟩
  have g8 : decide ((o : Int) < 2) = false := decide_eq_false (by omega)
  by_cases ho2 : o ≤ 20
  case neg =>
    have g : decide ((20 : Int) < (o : Int)) = true := decide_eq_true (by omega)
    go_enter Tryd.func46, Tryd.ntmps46
    go_wp2
    go_ret
    exact ⟨_, rfl, ⟨(by intro h; cases h), fun h => by (have hh := HI.out.1 h; exfalso; omega)⟩, below3 w _ _ _⟩
  have g9 : decide ((20 : Int) < (o : Int)) = false := decide_eq_false (by omega)
  have har := fun w => arity_any (o : Int) (by omega) (by omega) w
  rw [if_neg (by omega), if_neg (by omega), Int.toNat_natCast] at har
  obtain ⟨m, hm⟩ : ∃ m, aryN o = m := ⟨_, rfl⟩
  rw [hm] at har HB
  obtain ⟨tb, htb⟩ : ∃ tb, decide (m = 2) = tb := ⟨_, rfl⟩
  rw [htb] at HB
  have gm : ((m : Int) == 2) = tb := by
    rw [← htb, Bool.eq_iff_iff]
    simp only [beq_iff_eq, decide_eq_true_eq]
    omega
  have HAR := Lib.hid har; have HO := Lib.hid (And.intro ho1 ho2)
  clear har hm htb ho1 ho2
  go_enter Tryd.func46, Tryd.ntmps46
  go_upto_region 7 with fail
  refine wp_abs (fun wx => Bx w wx w.heap.size #[.int .i64 W, .int .i64 R, .slice a1 nc c1, .slice a2 ns c2, .slice a3 na c3, .slice a4 nk c4] #[.int .u8 1, .int .u8 (o : Int), .int .i64 d, .int .i64 n, .int .i64 ar, .int .u64 an, .int .i64 br, .int .u64 bn] #[.bool true, .bool true, .bool true, .int .i64 0]) ⟨below3 w _ _ _, (heap3 w _ _ _).1, (heap3 w _ _ _).2.1, (heap3 w _ _ _).2.2⟩ ?_
  intro w1 hb
  obtain ⟨p, hp⟩ : ∃ p, w.heap.size = p := ⟨_, rfl⟩
  rw [hp] at hb
  have HPP := Lib.hid hp
  simp only [hp]
  have HBX := Lib.hid hb
  clear hb
  have qf0 := cell_of_cells HBX.out.f (i := 0) rfl
  have qf1 := cell_of_cells HBX.out.f (i := 1) rfl
  have qf2 := cell_of_cells HBX.out.f (i := 2) rfl
  have qf3 := cell_of_cells HBX.out.f (i := 3) rfl
  have qf4 := cell_of_cells HBX.out.f (i := 4) rfl
  have qf5 := cell_of_cells HBX.out.f (i := 5) rfl
  have qc0 := cell_of_cells HBX.out.c (i := 0) rfl
  have qc1 := cell_of_cells HBX.out.c (i := 1) rfl
  have qc2 := cell_of_cells HBX.out.c (i := 2) rfl
  have qc3 := cell_of_cells HBX.out.c (i := 3) rfl
  have qc4 := cell_of_cells HBX.out.c (i := 4) rfl
  have qc5 := cell_of_cells HBX.out.c (i := 5) rfl
  have qc6 := cell_of_cells HBX.out.c (i := 6) rfl
  have qc7 := cell_of_cells HBX.out.c (i := 7) rfl
  have qs0 := cell_of_cells HBX.out.s (i := 0) rfl
  have qs1 := cell_of_cells HBX.out.s (i := 1) rfl
  have qs2 := cell_of_cells HBX.out.s (i := 2) rfl
  have qs3 := cell_of_cells HBX.out.s (i := 3) rfl
  go_wp2_with fail
  go_at_call 49
  refine (HAR.out _).mono ?_
  rintro e w5 ⟨rfl, hb5⟩
  clear qf0 qf1 qf2 qf3 qf4 qf5 qc0 qc1 qc2 qc3 qc4 qc5 qc6 qc7 qs0 qs1 qs2 qs3
  replace HBX := Lib.hid (HBX.out.later hb5)
  clear hb5
  have qf0 := cell_of_cells HBX.out.f (i := 0) rfl
  have qf1 := cell_of_cells HBX.out.f (i := 1) rfl
  have qf2 := cell_of_cells HBX.out.f (i := 2) rfl
  have qf3 := cell_of_cells HBX.out.f (i := 3) rfl
  have qf4 := cell_of_cells HBX.out.f (i := 4) rfl
  have qf5 := cell_of_cells HBX.out.f (i := 5) rfl
  have qc0 := cell_of_cells HBX.out.c (i := 0) rfl
  have qc1 := cell_of_cells HBX.out.c (i := 1) rfl
  have qc2 := cell_of_cells HBX.out.c (i := 2) rfl
  have qc3 := cell_of_cells HBX.out.c (i := 3) rfl
  have qc4 := cell_of_cells HBX.out.c (i := 4) rfl
  have qc5 := cell_of_cells HBX.out.c (i := 5) rfl
  have qc6 := cell_of_cells HBX.out.c (i := 6) rfl
  have qc7 := cell_of_cells HBX.out.c (i := 7) rfl
  have qs0 := cell_of_cells HBX.out.s (i := 0) rfl
  have qs1 := cell_of_cells HBX.out.s (i := 1) rfl
  have qs2 := cell_of_cells HBX.out.s (i := 2) rfl
  have qs3 := cell_of_cells HBX.out.s (i := 3) rfl
  have fz := frozen_of_cells HBX.out.s (i := 2)
  have HS := Lib.hid (HBX.out.setS (show w.heap.size ≤ p by have := HPP.out; omega) (.bool tb))
  clear hp
  by_cases hn0 : 0 ≤ n
  case neg =>
    have g : decide (n < 0) = true := decide_eq_true (by omega)
    have HH := Lib.hid hn0
    clear hn0
    go_wp2
    go_ret
    exact ⟨_, rfl, ⟨(by intro h; cases h), fun h => by (have hh := HI.out.1 h; have hk := HH.out; exfalso; omega)⟩, HS.out.below⟩
  have g0 : decide (n < 0) = false := decide_eq_false (by omega)
  by_cases hn1 : n < 1
  case neg =>
    have g : decide (1 ≤ n) = true := decide_eq_true (by omega)
    have HH := Lib.hid hn1
    clear hn1
    go_wp2
    go_ret
    exact ⟨_, rfl, ⟨(by intro h; cases h), fun h => by (have hh := HI.out.1 h; have hk := HH.out; exfalso; omega)⟩, HS.out.below⟩
  have g1 : decide (1 ≤ n) = false := decide_eq_false (by omega)
  by_cases hd0 : 0 ≤ d
  case neg =>
    have g : decide (d < 0) = true := decide_eq_true (by omega)
    have HH := Lib.hid hd0
    clear hd0
    go_wp2
    go_ret
    exact ⟨_, rfl, ⟨(by intro h; cases h), fun h => by (have hh := HI.out.1 h; have hk := HH.out; exfalso; omega)⟩, HS.out.below⟩
  have g2 : decide (d < 0) = false := decide_eq_false (by omega)
  by_cases hd1 : d < R
  case neg =>
    have g : decide (R ≤ d) = true := decide_eq_true (by omega)
    have HH := Lib.hid hd1
    clear hd1
    go_wp2
    go_ret
    exact ⟨_, rfl, ⟨(by intro h; cases h), fun h => by (have hh := HI.out.1 h; have hk := HH.out; exfalso; omega)⟩, HS.out.below⟩
  have g3 : decide (R ≤ d) = false := decide_eq_false (by omega)
  have HP := Lib.hid (And.intro hn0 (And.intro hn1 (And.intro hd0 hd1)))
  clear hn0 hn1 hd0 hd1
  go_wp2_with fail
  go_at_call 63
  refine (HA.out _).mono ?_
  rintro e w6 ⟨rfl, hb6⟩
  clear qf0 qf1 qf2 qf3 qf4 qf5 qc0 qc1 qc2 qc3 qc4 qc5 qc6 qc7 qs0 qs1 qs2 qs3 fz
  replace HBX := Lib.hid (HS.out.later hb6)
  clear hb6 HS
  cases b1 with
  | false =>
    go_wp2
    go_ret
    exact ⟨_, rfl, ⟨(by intro h; cases h), fun h => by cases (HI.out.1 h).2.2.2.1⟩, HBX.out.below⟩
  | true =>
    have qf0 := cell_of_cells HBX.out.f (i := 0) rfl
    have qf1 := cell_of_cells HBX.out.f (i := 1) rfl
    have qf2 := cell_of_cells HBX.out.f (i := 2) rfl
    have qf3 := cell_of_cells HBX.out.f (i := 3) rfl
    have qf4 := cell_of_cells HBX.out.f (i := 4) rfl
    have qf5 := cell_of_cells HBX.out.f (i := 5) rfl
    have qc0 := cell_of_cells HBX.out.c (i := 0) rfl
    have qc1 := cell_of_cells HBX.out.c (i := 1) rfl
    have qc2 := cell_of_cells HBX.out.c (i := 2) rfl
    have qc3 := cell_of_cells HBX.out.c (i := 3) rfl
    have qc4 := cell_of_cells HBX.out.c (i := 4) rfl
    have qc5 := cell_of_cells HBX.out.c (i := 5) rfl
    have qc6 := cell_of_cells HBX.out.c (i := 6) rfl
    have qc7 := cell_of_cells HBX.out.c (i := 7) rfl
    have qs0 := cell_of_cells HBX.out.s (i := 0) rfl
    have qs1 := cell_of_cells HBX.out.s (i := 1) rfl
    have qs2 := cell_of_cells HBX.out.s (i := 2) rfl
    have qs3 := cell_of_cells HBX.out.s (i := 3) rfl
    go_wp2_with fail
    go_at_call 63
    refine (HB.out _).mono ?_
    rintro e w7 ⟨rfl, hb7⟩
    clear qf0 qf1 qf2 qf3 qf4 qf5 qc0 qc1 qc2 qc3 qc4 qc5 qc6 qc7 qs0 qs1 qs2 qs3
    replace HBX := Lib.hid (HBX.out.later hb7)
    clear hb7
    go_wp2
    go_ret
    cases b2 with
    | false => exact ⟨_, rfl, ⟨(by intro h; cases h), fun h => by cases (HI.out.1 h).2.2.2.2⟩, HBX.out.below⟩
    | true => exact ⟨_, rfl, ⟨fun h => HI.out.2 ⟨HO.out, ⟨HP.out.1, HP.out.2.1⟩, HP.out.2.2, by simp, by simp⟩, fun _ => by simp⟩, HBX.out.below⟩
set_option maxRecDepth 100000 in
theorem finstr_2 (hA : ∃ b1, refB W R ar an true = b1 ∧ ∀ w, Calls Tryd.prog 63 #[.agg #[.int .i64 W, .int .i64 R, .slice a1 nc c1, .slice a2 ns c2, .slice a3 na c3, .slice a4 nk c4], .agg #[.int .i64 ar, .int .u64 an], .bool true] w fun e w' => e = .returned (.bool b1) ∧ Below w.heap.size w w')
    (hB : ∃ b2, refB W R br bn false = b2 ∧ ∀ w, Calls Tryd.prog 63 #[.agg #[.int .i64 W, .int .i64 R, .slice a1 nc c1, .slice a2 ns c2, .slice a3 na c3, .slice a4 nk c4], .agg #[.int .i64 br, .int .u64 bn], .bool false] w fun e w' => e = .returned (.bool b2) ∧ Below w.heap.size w w') (ho : o ≤ 255) (hT : ShpOk w) (p0 : Prop) (hp0 : p0 ↔ (o = 0 ∧ (0 ≤ n ∧ n < (na : Int)) ∧ (0 ≤ d ∧ d < R) ∧ refB W R ar an true = true ∧ refB W R br bn false = true)) (h0 : 0 < w.heap.size) :
    Calls Tryd.prog 46 #[.agg #[.int .i64 W, .int .i64 R, .slice a1 nc c1, .slice a2 ns c2, .slice a3 na c3, .slice a4 nk c4], .agg #[.int .u8 2, .int .u8 (o : Int), .int .i64 d, .int .i64 n, .int .i64 ar, .int .u64 an, .int .i64 br, .int .u64 bn]] w (BoolPost p0 w) := by
  obtain ⟨b1, e1, hA⟩ := hA
  obtain ⟨b2, e2, hB⟩ := hB
  rw [e1, e2] at hp0
  obtain ⟨s0, s1, s2, s3⟩ := hT 2 (by omega)
  replace s0 : w.cell? ⟨0, 8, none⟩ = some (.bool true) := s0
  replace s1 : w.cell? ⟨0, 9, none⟩ = some (.bool true) := s1
  replace s2 : w.cell? ⟨0, 10, none⟩ = some (.bool false) := s2
  replace s3 : w.cell? ⟨0, 11, none⟩ = some (.int .i64 1) := s3
  have HA := Lib.hid hA; have HB := Lib.hid hB; have H0 := Lib.hid hT
  have hix := fun w => index5_1 (.int .i64 1) (.int .i64 na) (.int .i64 nc) (.int .i64 ns) (.int .i64 nk) w
  have HI := Lib.hid hp0
  clear hA hB e1 e2 hT hp0
  by_cases ho0 : o = 0
  case neg =>
    have g : ((o : Int) != 0) = true := by rw [bne_iff_ne]; omega
    go_enter Tryd.func46, Tryd.ntmps46
    go_wp2
    go_ret
    exact ⟨_, rfl, ⟨(by intro h; cases h), fun h => by (have hh := HI.out.1 h; exfalso; omega)⟩, below3 w _ _ _⟩
  subst ho0
  by_cases hn0 : 0 ≤ n
  case neg =>
    have g : decide (n < 0) = true := decide_eq_true (by omega)
    have HH := Lib.hid hn0
    clear hn0
    go_enter Tryd.func46, Tryd.ntmps46
    go_wp2
    go_ret
    exact ⟨_, rfl, ⟨(by intro h; cases h), fun h => by (have hh := HI.out.1 h; have hk := HH.out; exfalso; omega)⟩, below3 w _ _ _⟩
  have g0 : decide (n < 0) = false := decide_eq_false (by omega)
  by_cases hn1 : n < (na : Int)
  case neg =>
    have g : decide ((na : Int) ≤ n) = true := decide_eq_true (by omega)
    have HH := Lib.hid hn1
    clear hn1
    go_enter Tryd.func46, Tryd.ntmps46
    go_wp2
    go_ret
    exact ⟨_, rfl, ⟨(by intro h; cases h), fun h => by (have hh := HI.out.1 h; have hk := HH.out; exfalso; omega)⟩, below3 w _ _ _⟩
  have g1 : decide ((na : Int) ≤ n) = false := decide_eq_false (by omega)
  by_cases hd0 : 0 ≤ d
  case neg =>
    have g : decide (d < 0) = true := decide_eq_true (by omega)
    have HH := Lib.hid hd0
    clear hd0
    go_enter Tryd.func46, Tryd.ntmps46
    go_wp2
    go_ret
    exact ⟨_, rfl, ⟨(by intro h; cases h), fun h => by (have hh := HI.out.1 h; have hk := HH.out; exfalso; omega)⟩, below3 w _ _ _⟩
  have g2 : decide (d < 0) = false := decide_eq_false (by omega)
  by_cases hd1 : d < R
  case neg =>
    have g : decide (R ≤ d) = true := decide_eq_true (by omega)
    have HH := Lib.hid hd1
    clear hd1
    go_enter Tryd.func46, Tryd.ntmps46
    go_wp2
    go_ret
    exact ⟨_, rfl, ⟨(by intro h; cases h), fun h => by (have hh := HI.out.1 h; have hk := HH.out; exfalso; omega)⟩, below3 w _ _ _⟩
  have g3 : decide (R ≤ d) = false := decide_eq_false (by omega)
  have HP := Lib.hid (And.intro hn0 (And.intro hn1 (And.intro hd0 hd1)))
  clear hn0 hn1 hd0 hd1
  go_enter Tryd.func46, Tryd.ntmps46
  go_upto_region 14 with fail
  refine wp_abs (fun wx => Bx w wx w.heap.size #[.int .i64 W, .int .i64 R, .slice a1 nc c1, .slice a2 ns c2, .slice a3 na c3, .slice a4 nk c4] #[.int .u8 2, .int .u8 0, .int .i64 d, .int .i64 n, .int .i64 ar, .int .u64 an, .int .i64 br, .int .u64 bn] #[.bool true, .bool true, .bool false, .int .i64 1]) ⟨below3 w _ _ _, (heap3 w _ _ _).1, (heap3 w _ _ _).2.1, (heap3 w _ _ _).2.2⟩ ?_
  intro w1 hb
  obtain ⟨p, hp⟩ : ∃ p, w.heap.size = p := ⟨_, rfl⟩
  rw [hp] at hb
  simp only [hp]
  have HBX := Lib.hid hb
  clear hb
  have qf0 := cell_of_cells HBX.out.f (i := 0) rfl
  have qf1 := cell_of_cells HBX.out.f (i := 1) rfl
  have qf2 := cell_of_cells HBX.out.f (i := 2) rfl
  have qf3 := cell_of_cells HBX.out.f (i := 3) rfl
  have qf4 := cell_of_cells HBX.out.f (i := 4) rfl
  have qf5 := cell_of_cells HBX.out.f (i := 5) rfl
  have qc0 := cell_of_cells HBX.out.c (i := 0) rfl
  have qc1 := cell_of_cells HBX.out.c (i := 1) rfl
  have qc2 := cell_of_cells HBX.out.c (i := 2) rfl
  have qc3 := cell_of_cells HBX.out.c (i := 3) rfl
  have qc4 := cell_of_cells HBX.out.c (i := 4) rfl
  have qc5 := cell_of_cells HBX.out.c (i := 5) rfl
  have qc6 := cell_of_cells HBX.out.c (i := 6) rfl
  have qc7 := cell_of_cells HBX.out.c (i := 7) rfl
  have qs0 := cell_of_cells HBX.out.s (i := 0) rfl
  have qs1 := cell_of_cells HBX.out.s (i := 1) rfl
  have qs2 := cell_of_cells HBX.out.s (i := 2) rfl
  have qs3 := cell_of_cells HBX.out.s (i := 3) rfl
  have HA1 := HA.out; have HB1 := HB.out
  go_wp2_with fail
  go_at_call 63
  refine (HA.out _).mono ?_
  rintro e w5 ⟨rfl, hb5⟩
  clear HA1 HB1 qf0 qf1 qf2 qf3 qf4 qf5 qc0 qc1 qc2 qc3 qc4 qc5 qc6 qc7 qs0 qs1 qs2 qs3
  replace HBX := Lib.hid (HBX.out.later hb5)
  clear hb5
  cases b1 with
  | false =>
    go_wp2
    go_ret
    exact ⟨_, rfl, ⟨(by intro h; cases h), fun h => by cases (HI.out.1 h).2.2.2.1⟩, HBX.out.below⟩
  | true =>
    have qf0 := cell_of_cells HBX.out.f (i := 0) rfl
    have qf1 := cell_of_cells HBX.out.f (i := 1) rfl
    have qf2 := cell_of_cells HBX.out.f (i := 2) rfl
    have qf3 := cell_of_cells HBX.out.f (i := 3) rfl
    have qf4 := cell_of_cells HBX.out.f (i := 4) rfl
    have qf5 := cell_of_cells HBX.out.f (i := 5) rfl
    have qc0 := cell_of_cells HBX.out.c (i := 0) rfl
    have qc1 := cell_of_cells HBX.out.c (i := 1) rfl
    have qc2 := cell_of_cells HBX.out.c (i := 2) rfl
    have qc3 := cell_of_cells HBX.out.c (i := 3) rfl
    have qc4 := cell_of_cells HBX.out.c (i := 4) rfl
    have qc5 := cell_of_cells HBX.out.c (i := 5) rfl
    have qc6 := cell_of_cells HBX.out.c (i := 6) rfl
    have qc7 := cell_of_cells HBX.out.c (i := 7) rfl
    have qs0 := cell_of_cells HBX.out.s (i := 0) rfl
    have qs1 := cell_of_cells HBX.out.s (i := 1) rfl
    have qs2 := cell_of_cells HBX.out.s (i := 2) rfl
    have qs3 := cell_of_cells HBX.out.s (i := 3) rfl
    go_wp2_with fail
    go_at_call 63
    refine (HB.out _).mono ?_
    rintro e w6 ⟨rfl, hb6⟩
    clear qf0 qf1 qf2 qf3 qf4 qf5 qc0 qc1 qc2 qc3 qc4 qc5 qc6 qc7 qs0 qs1 qs2 qs3
    replace HBX := Lib.hid (HBX.out.later hb6)
    clear hb6
    go_wp2
    go_ret
    cases b2 with
    | false => exact ⟨_, rfl, ⟨(by intro h; cases h), fun h => by cases (HI.out.1 h).2.2.2.2⟩, HBX.out.below⟩
    | true => exact ⟨_, rfl, ⟨fun h => HI.out.2 ⟨by simp, ⟨HP.out.1, HP.out.2.1⟩, HP.out.2.2, by simp, by simp⟩, fun _ => by simp⟩, HBX.out.below⟩
set_option maxRecDepth 100000 in
theorem finstr_3 (hA : ∃ b1, refB W R ar an true = b1 ∧ ∀ w, Calls Tryd.prog 63 #[.agg #[.int .i64 W, .int .i64 R, .slice a1 nc c1, .slice a2 ns c2, .slice a3 na c3, .slice a4 nk c4], .agg #[.int .i64 ar, .int .u64 an], .bool true] w fun e w' => e = .returned (.bool b1) ∧ Below w.heap.size w w')
    (hB : ∃ b2, refB W R br bn true = b2 ∧ ∀ w, Calls Tryd.prog 63 #[.agg #[.int .i64 W, .int .i64 R, .slice a1 nc c1, .slice a2 ns c2, .slice a3 na c3, .slice a4 nk c4], .agg #[.int .i64 br, .int .u64 bn], .bool true] w fun e w' => e = .returned (.bool b2) ∧ Below w.heap.size w w') (ho : o ≤ 255) (hT : ShpOk w) (p0 : Prop) (hp0 : p0 ↔ (o = 0 ∧ (0 ≤ n ∧ n < (na : Int)) ∧ (d = 0) ∧ refB W R ar an true = true ∧ refB W R br bn true = true)) (h0 : 0 < w.heap.size) :
    Calls Tryd.prog 46 #[.agg #[.int .i64 W, .int .i64 R, .slice a1 nc c1, .slice a2 ns c2, .slice a3 na c3, .slice a4 nk c4], .agg #[.int .u8 3, .int .u8 (o : Int), .int .i64 d, .int .i64 n, .int .i64 ar, .int .u64 an, .int .i64 br, .int .u64 bn]] w (BoolPost p0 w) := by
  obtain ⟨b1, e1, hA⟩ := hA
  obtain ⟨b2, e2, hB⟩ := hB
  rw [e1, e2] at hp0
  obtain ⟨s0, s1, s2, s3⟩ := hT 3 (by omega)
  replace s0 : w.cell? ⟨0, 12, none⟩ = some (.bool false) := s0
  replace s1 : w.cell? ⟨0, 13, none⟩ = some (.bool true) := s1
  replace s2 : w.cell? ⟨0, 14, none⟩ = some (.bool true) := s2
  replace s3 : w.cell? ⟨0, 15, none⟩ = some (.int .i64 1) := s3
  have HA := Lib.hid hA; have HB := Lib.hid hB; have H0 := Lib.hid hT
  have hix := fun w => index5_1 (.int .i64 1) (.int .i64 na) (.int .i64 nc) (.int .i64 ns) (.int .i64 nk) w
  have HI := Lib.hid hp0
  clear hA hB e1 e2 hT hp0
  by_cases ho0 : o = 0
  case neg =>
    have g : ((o : Int) != 0) = true := by rw [bne_iff_ne]; omega
    go_enter Tryd.func46, Tryd.ntmps46
    go_wp2
    go_ret
    exact ⟨_, rfl, ⟨(by intro h; cases h), fun h => by (have hh := HI.out.1 h; exfalso; omega)⟩, below3 w _ _ _⟩
  subst ho0
  by_cases hn0 : 0 ≤ n
  case neg =>
    have g : decide (n < 0) = true := decide_eq_true (by omega)
    have HH := Lib.hid hn0
    clear hn0
    go_enter Tryd.func46, Tryd.ntmps46
    go_wp2
    go_ret
    exact ⟨_, rfl, ⟨(by intro h; cases h), fun h => by (have hh := HI.out.1 h; have hk := HH.out; exfalso; omega)⟩, below3 w _ _ _⟩
  have g0 : decide (n < 0) = false := decide_eq_false (by omega)
  by_cases hn1 : n < (na : Int)
  case neg =>
    have g : decide ((na : Int) ≤ n) = true := decide_eq_true (by omega)
    have HH := Lib.hid hn1
    clear hn1
    go_enter Tryd.func46, Tryd.ntmps46
    go_wp2
    go_ret
    exact ⟨_, rfl, ⟨(by intro h; cases h), fun h => by (have hh := HI.out.1 h; have hk := HH.out; exfalso; omega)⟩, below3 w _ _ _⟩
  have g1 : decide ((na : Int) ≤ n) = false := decide_eq_false (by omega)
  by_cases hd0 : d = 0
  case neg =>
    have g : (d != 0) = true := by rw [bne_iff_ne]; omega
    have HH := Lib.hid hd0
    clear hd0
    go_enter Tryd.func46, Tryd.ntmps46
    go_wp2
    go_ret
    exact ⟨_, rfl, ⟨(by intro h; cases h), fun h => by (have hh := HI.out.1 h; have hk := HH.out; exfalso; omega)⟩, below3 w _ _ _⟩
  have g2 : (d != 0) = false := by rw [bne_eq_false_iff_eq]; omega
  subst hd0
  clear g2
  have HP := Lib.hid (And.intro hn0 hn1)
  clear hn0 hn1
  go_enter Tryd.func46, Tryd.ntmps46
  go_upto_region 14 with fail
  refine wp_abs (fun wx => Bx w wx w.heap.size #[.int .i64 W, .int .i64 R, .slice a1 nc c1, .slice a2 ns c2, .slice a3 na c3, .slice a4 nk c4] #[.int .u8 3, .int .u8 0, .int .i64 0, .int .i64 n, .int .i64 ar, .int .u64 an, .int .i64 br, .int .u64 bn] #[.bool false, .bool true, .bool true, .int .i64 1]) ⟨below3 w _ _ _, (heap3 w _ _ _).1, (heap3 w _ _ _).2.1, (heap3 w _ _ _).2.2⟩ ?_
  intro w1 hb
  obtain ⟨p, hp⟩ : ∃ p, w.heap.size = p := ⟨_, rfl⟩
  rw [hp] at hb
  simp only [hp]
  have HBX := Lib.hid hb
  clear hb
  have qf0 := cell_of_cells HBX.out.f (i := 0) rfl
  have qf1 := cell_of_cells HBX.out.f (i := 1) rfl
  have qf2 := cell_of_cells HBX.out.f (i := 2) rfl
  have qf3 := cell_of_cells HBX.out.f (i := 3) rfl
  have qf4 := cell_of_cells HBX.out.f (i := 4) rfl
  have qf5 := cell_of_cells HBX.out.f (i := 5) rfl
  have qc0 := cell_of_cells HBX.out.c (i := 0) rfl
  have qc1 := cell_of_cells HBX.out.c (i := 1) rfl
  have qc2 := cell_of_cells HBX.out.c (i := 2) rfl
  have qc3 := cell_of_cells HBX.out.c (i := 3) rfl
  have qc4 := cell_of_cells HBX.out.c (i := 4) rfl
  have qc5 := cell_of_cells HBX.out.c (i := 5) rfl
  have qc6 := cell_of_cells HBX.out.c (i := 6) rfl
  have qc7 := cell_of_cells HBX.out.c (i := 7) rfl
  have qs0 := cell_of_cells HBX.out.s (i := 0) rfl
  have qs1 := cell_of_cells HBX.out.s (i := 1) rfl
  have qs2 := cell_of_cells HBX.out.s (i := 2) rfl
  have qs3 := cell_of_cells HBX.out.s (i := 3) rfl
  have HA1 := HA.out; have HB1 := HB.out
  go_wp2_with fail
  go_at_call 63
  refine (HA.out _).mono ?_
  rintro e w5 ⟨rfl, hb5⟩
  clear HA1 HB1 qf0 qf1 qf2 qf3 qf4 qf5 qc0 qc1 qc2 qc3 qc4 qc5 qc6 qc7 qs0 qs1 qs2 qs3
  replace HBX := Lib.hid (HBX.out.later hb5)
  clear hb5
  cases b1 with
  | false =>
    go_wp2
    go_ret
    exact ⟨_, rfl, ⟨(by intro h; cases h), fun h => by cases (HI.out.1 h).2.2.2.1⟩, HBX.out.below⟩
  | true =>
    have qf0 := cell_of_cells HBX.out.f (i := 0) rfl
    have qf1 := cell_of_cells HBX.out.f (i := 1) rfl
    have qf2 := cell_of_cells HBX.out.f (i := 2) rfl
    have qf3 := cell_of_cells HBX.out.f (i := 3) rfl
    have qf4 := cell_of_cells HBX.out.f (i := 4) rfl
    have qf5 := cell_of_cells HBX.out.f (i := 5) rfl
    have qc0 := cell_of_cells HBX.out.c (i := 0) rfl
    have qc1 := cell_of_cells HBX.out.c (i := 1) rfl
    have qc2 := cell_of_cells HBX.out.c (i := 2) rfl
    have qc3 := cell_of_cells HBX.out.c (i := 3) rfl
    have qc4 := cell_of_cells HBX.out.c (i := 4) rfl
    have qc5 := cell_of_cells HBX.out.c (i := 5) rfl
    have qc6 := cell_of_cells HBX.out.c (i := 6) rfl
    have qc7 := cell_of_cells HBX.out.c (i := 7) rfl
    have qs0 := cell_of_cells HBX.out.s (i := 0) rfl
    have qs1 := cell_of_cells HBX.out.s (i := 1) rfl
    have qs2 := cell_of_cells HBX.out.s (i := 2) rfl
    have qs3 := cell_of_cells HBX.out.s (i := 3) rfl
    go_wp2_with fail
    go_at_call 63
    refine (HB.out _).mono ?_
    rintro e w6 ⟨rfl, hb6⟩
    clear qf0 qf1 qf2 qf3 qf4 qf5 qc0 qc1 qc2 qc3 qc4 qc5 qc6 qc7 qs0 qs1 qs2 qs3
    replace HBX := Lib.hid (HBX.out.later hb6)
    clear hb6
    go_wp2
    go_ret
    cases b2 with
    | false => exact ⟨_, rfl, ⟨(by intro h; cases h), fun h => by cases (HI.out.1 h).2.2.2.2⟩, HBX.out.below⟩
    | true => exact ⟨_, rfl, ⟨fun h => HI.out.2 ⟨by simp, ⟨HP.out.1, HP.out.2⟩, by simp, by simp, by simp⟩, fun _ => by simp⟩, HBX.out.below⟩
set_option maxRecDepth 100000 in
theorem finstr_4 (hA : ∃ b1, refB W R ar an false = b1 ∧ ∀ w, Calls Tryd.prog 63 #[.agg #[.int .i64 W, .int .i64 R, .slice a1 nc c1, .slice a2 ns c2, .slice a3 na c3, .slice a4 nk c4], .agg #[.int .i64 ar, .int .u64 an], .bool false] w fun e w' => e = .returned (.bool b1) ∧ Below w.heap.size w w')
    (hB : ∃ b2, refB W R br bn false = b2 ∧ ∀ w, Calls Tryd.prog 63 #[.agg #[.int .i64 W, .int .i64 R, .slice a1 nc c1, .slice a2 ns c2, .slice a3 na c3, .slice a4 nk c4], .agg #[.int .i64 br, .int .u64 bn], .bool false] w fun e w' => e = .returned (.bool b2) ∧ Below w.heap.size w w') (ho : o ≤ 255) (hT : ShpOk w) (p0 : Prop) (hp0 : p0 ↔ (o = 0 ∧ (0 ≤ n ∧ n < (nc : Int)) ∧ (0 ≤ d ∧ d < R) ∧ refB W R ar an false = true ∧ refB W R br bn false = true)) (h0 : 0 < w.heap.size) :
    Calls Tryd.prog 46 #[.agg #[.int .i64 W, .int .i64 R, .slice a1 nc c1, .slice a2 ns c2, .slice a3 na c3, .slice a4 nk c4], .agg #[.int .u8 4, .int .u8 (o : Int), .int .i64 d, .int .i64 n, .int .i64 ar, .int .u64 an, .int .i64 br, .int .u64 bn]] w (BoolPost p0 w) := by
  obtain ⟨b1, e1, hA⟩ := hA
  obtain ⟨b2, e2, hB⟩ := hB
  rw [e1, e2] at hp0
  obtain ⟨s0, s1, s2, s3⟩ := hT 4 (by omega)
  replace s0 : w.cell? ⟨0, 16, none⟩ = some (.bool true) := s0
  replace s1 : w.cell? ⟨0, 17, none⟩ = some (.bool false) := s1
  replace s2 : w.cell? ⟨0, 18, none⟩ = some (.bool false) := s2
  replace s3 : w.cell? ⟨0, 19, none⟩ = some (.int .i64 2) := s3
  have HA := Lib.hid hA; have HB := Lib.hid hB; have H0 := Lib.hid hT
  have hix := fun w => index5_2 (.int .i64 1) (.int .i64 na) (.int .i64 nc) (.int .i64 ns) (.int .i64 nk) w
  have HI := Lib.hid hp0
  clear hA hB e1 e2 hT hp0
  by_cases ho0 : o = 0
  case neg =>
    have g : ((o : Int) != 0) = true := by rw [bne_iff_ne]; omega
    go_enter Tryd.func46, Tryd.ntmps46
    go_wp2
    go_ret
    exact ⟨_, rfl, ⟨(by intro h; cases h), fun h => by (have hh := HI.out.1 h; exfalso; omega)⟩, below3 w _ _ _⟩
  subst ho0
  by_cases hn0 : 0 ≤ n
  case neg =>
    have g : decide (n < 0) = true := decide_eq_true (by omega)
    have HH := Lib.hid hn0
    clear hn0
    go_enter Tryd.func46, Tryd.ntmps46
    go_wp2
    go_ret
    exact ⟨_, rfl, ⟨(by intro h; cases h), fun h => by (have hh := HI.out.1 h; have hk := HH.out; exfalso; omega)⟩, below3 w _ _ _⟩
  have g0 : decide (n < 0) = false := decide_eq_false (by omega)
  by_cases hn1 : n < (nc : Int)
  case neg =>
    have g : decide ((nc : Int) ≤ n) = true := decide_eq_true (by omega)
    have HH := Lib.hid hn1
    clear hn1
    go_enter Tryd.func46, Tryd.ntmps46
    go_wp2
    go_ret
    exact ⟨_, rfl, ⟨(by intro h; cases h), fun h => by (have hh := HI.out.1 h; have hk := HH.out; exfalso; omega)⟩, below3 w _ _ _⟩
  have g1 : decide ((nc : Int) ≤ n) = false := decide_eq_false (by omega)
  by_cases hd0 : 0 ≤ d
  case neg =>
    have g : decide (d < 0) = true := decide_eq_true (by omega)
    have HH := Lib.hid hd0
    clear hd0
    go_enter Tryd.func46, Tryd.ntmps46
    go_wp2
    go_ret
    exact ⟨_, rfl, ⟨(by intro h; cases h), fun h => by (have hh := HI.out.1 h; have hk := HH.out; exfalso; omega)⟩, below3 w _ _ _⟩
  have g2 : decide (d < 0) = false := decide_eq_false (by omega)
  by_cases hd1 : d < R
  case neg =>
    have g : decide (R ≤ d) = true := decide_eq_true (by omega)
    have HH := Lib.hid hd1
    clear hd1
    go_enter Tryd.func46, Tryd.ntmps46
    go_wp2
    go_ret
    exact ⟨_, rfl, ⟨(by intro h; cases h), fun h => by (have hh := HI.out.1 h; have hk := HH.out; exfalso; omega)⟩, below3 w _ _ _⟩
  have g3 : decide (R ≤ d) = false := decide_eq_false (by omega)
  have HP := Lib.hid (And.intro hn0 (And.intro hn1 (And.intro hd0 hd1)))
  clear hn0 hn1 hd0 hd1
  go_enter Tryd.func46, Tryd.ntmps46
  go_upto_region 14 with fail
  refine wp_abs (fun wx => Bx w wx w.heap.size #[.int .i64 W, .int .i64 R, .slice a1 nc c1, .slice a2 ns c2, .slice a3 na c3, .slice a4 nk c4] #[.int .u8 4, .int .u8 0, .int .i64 d, .int .i64 n, .int .i64 ar, .int .u64 an, .int .i64 br, .int .u64 bn] #[.bool true, .bool false, .bool false, .int .i64 2]) ⟨below3 w _ _ _, (heap3 w _ _ _).1, (heap3 w _ _ _).2.1, (heap3 w _ _ _).2.2⟩ ?_
  intro w1 hb
  obtain ⟨p, hp⟩ : ∃ p, w.heap.size = p := ⟨_, rfl⟩
  rw [hp] at hb
  simp only [hp]
  have HBX := Lib.hid hb
  clear hb
  have qf0 := cell_of_cells HBX.out.f (i := 0) rfl
  have qf1 := cell_of_cells HBX.out.f (i := 1) rfl
  have qf2 := cell_of_cells HBX.out.f (i := 2) rfl
  have qf3 := cell_of_cells HBX.out.f (i := 3) rfl
  have qf4 := cell_of_cells HBX.out.f (i := 4) rfl
  have qf5 := cell_of_cells HBX.out.f (i := 5) rfl
  have qc0 := cell_of_cells HBX.out.c (i := 0) rfl
  have qc1 := cell_of_cells HBX.out.c (i := 1) rfl
  have qc2 := cell_of_cells HBX.out.c (i := 2) rfl
  have qc3 := cell_of_cells HBX.out.c (i := 3) rfl
  have qc4 := cell_of_cells HBX.out.c (i := 4) rfl
  have qc5 := cell_of_cells HBX.out.c (i := 5) rfl
  have qc6 := cell_of_cells HBX.out.c (i := 6) rfl
  have qc7 := cell_of_cells HBX.out.c (i := 7) rfl
  have qs0 := cell_of_cells HBX.out.s (i := 0) rfl
  have qs1 := cell_of_cells HBX.out.s (i := 1) rfl
  have qs2 := cell_of_cells HBX.out.s (i := 2) rfl
  have qs3 := cell_of_cells HBX.out.s (i := 3) rfl
  have HA1 := HA.out; have HB1 := HB.out
  go_wp2_with fail
  go_at_call 63
  refine (HA.out _).mono ?_
  rintro e w5 ⟨rfl, hb5⟩
  clear HA1 HB1 qf0 qf1 qf2 qf3 qf4 qf5 qc0 qc1 qc2 qc3 qc4 qc5 qc6 qc7 qs0 qs1 qs2 qs3
  replace HBX := Lib.hid (HBX.out.later hb5)
  clear hb5
  cases b1 with
  | false =>
    go_wp2
    go_ret
    exact ⟨_, rfl, ⟨(by intro h; cases h), fun h => by cases (HI.out.1 h).2.2.2.1⟩, HBX.out.below⟩
  | true =>
    have qf0 := cell_of_cells HBX.out.f (i := 0) rfl
    have qf1 := cell_of_cells HBX.out.f (i := 1) rfl
    have qf2 := cell_of_cells HBX.out.f (i := 2) rfl
    have qf3 := cell_of_cells HBX.out.f (i := 3) rfl
    have qf4 := cell_of_cells HBX.out.f (i := 4) rfl
    have qf5 := cell_of_cells HBX.out.f (i := 5) rfl
    have qc0 := cell_of_cells HBX.out.c (i := 0) rfl
    have qc1 := cell_of_cells HBX.out.c (i := 1) rfl
    have qc2 := cell_of_cells HBX.out.c (i := 2) rfl
    have qc3 := cell_of_cells HBX.out.c (i := 3) rfl
    have qc4 := cell_of_cells HBX.out.c (i := 4) rfl
    have qc5 := cell_of_cells HBX.out.c (i := 5) rfl
    have qc6 := cell_of_cells HBX.out.c (i := 6) rfl
    have qc7 := cell_of_cells HBX.out.c (i := 7) rfl
    have qs0 := cell_of_cells HBX.out.s (i := 0) rfl
    have qs1 := cell_of_cells HBX.out.s (i := 1) rfl
    have qs2 := cell_of_cells HBX.out.s (i := 2) rfl
    have qs3 := cell_of_cells HBX.out.s (i := 3) rfl
    go_wp2_with fail
    go_at_call 63
    refine (HB.out _).mono ?_
    rintro e w6 ⟨rfl, hb6⟩
    clear qf0 qf1 qf2 qf3 qf4 qf5 qc0 qc1 qc2 qc3 qc4 qc5 qc6 qc7 qs0 qs1 qs2 qs3
    replace HBX := Lib.hid (HBX.out.later hb6)
    clear hb6
    go_wp2
    go_ret
    cases b2 with
    | false => exact ⟨_, rfl, ⟨(by intro h; cases h), fun h => by cases (HI.out.1 h).2.2.2.2⟩, HBX.out.below⟩
    | true => exact ⟨_, rfl, ⟨fun h => HI.out.2 ⟨by simp, ⟨HP.out.1, HP.out.2.1⟩, HP.out.2.2, by simp, by simp⟩, fun _ => by simp⟩, HBX.out.below⟩
end
end Go.Proofs.YtiklidgcmheofaaDoor
