/- Package lattice: Len, is, Le; package twin: may, of, Var. -/
import Derived.Test.YtmfendfpjpbhdaaDoorLatD
namespace Go.Proofs.YtmfendfpjpbhdaaDoor
open Go.RowKit Go.Maps
set_option maxHeartbeats 3200000

/-- A lattice in memory. -/
structure LatIs (w : World) (lb n : Nat) (R : Rel) : Prop where
  cells : ∃ u d, w.rowIs lb 60 65 (latF n u d) ∧ RowsOf n R u
  le : n ≤ 32
theorem LatIs.later {w w' : World} {lb n : Nat} {R : Rel} (h : LatIs w lb n R) (hb : Below w.heap.size w w') : LatIs w' lb n R := ⟨by obtain ⟨u, d, hc, hr⟩ := h.cells; exact ⟨u, d, rowIs_later hc hb, hr⟩, h.le⟩
def lvl (n : Nat) (a : Int) : Prop := 0 ≤ a ∧ a < (n : Int)
instance (n : Nat) (a : Int) : Decidable (lvl n a) := by unfold lvl; infer_instance
def leB (n : Nat) (R : Rel) (a b : Int) : Bool := decide (lvl n a) && (decide (lvl n b) && R a.toNat b.toNat)
section
variable {w : World} {lb n : Nat} {R : Rel}
theorem llen_any (h : LatIs w lb n R) : Calls Tryd.prog 34 #[.pointer (some ⟨lb, 0, none⟩)] w fun e w' => e = .returned (.int .i64 n) ∧ w = w' := by
  obtain ⟨u, d, hc, hr⟩ := h.cells
  have c0 := hc.cell (i := 0) (by omega)
  rw [latF_at0] at c0
  clear hc hr h
  go_enter Tryd.func34, Tryd.ntmps34
  go_wp2
  go_ret
  exact ⟨rfl, rfl⟩
theorem lis_any (h : LatIs w lb n R) (a : Int) : Calls Tryd.prog 21 #[.pointer (some ⟨lb, 0, none⟩), .int .i64 a] w fun e w' => e = .returned (.bool (decide (lvl n a))) ∧ w = w' := by
  obtain ⟨u, d, hc, hr⟩ := h.cells
  have c0 := hc.cell (i := 0) (by omega)
  rw [latF_at0] at c0
  clear hc hr h
  go_enter Tryd.func21, Tryd.ntmps21
  by_cases h1 : 0 ≤ a
  · by_cases h2 : a < (n : Int)
    · have e : decide (lvl n a) = true := decide_eq_true ⟨h1, h2⟩
      rw [e]
      clear e
      go_wp2
      go_ret
      exact ⟨rfl, rfl⟩
    · have e : decide (lvl n a) = false := decide_eq_false fun h => h2 h.2
      rw [e]
      clear e
      go_wp2
      go_ret
      exact ⟨rfl, rfl⟩
  · have e : decide (lvl n a) = false := decide_eq_false fun h => h1 h.1
    rw [e]
    clear e
    go_wp2
    go_ret
    exact ⟨rfl, rfl⟩
theorem lle_any (h : LatIs w lb n R) (a b : Int) : Calls Tryd.prog 10 #[.pointer (some ⟨lb, 0, none⟩), .int .i64 a, .int .i64 b] w fun e w' => e = .returned (.bool (leB n R a b)) ∧ w = w' := by
  have H1 := Lib.hid (lis_any h a); have H2 := Lib.hid (lis_any h b)
  obtain ⟨u, d, hc, hr⟩ := h.cells
  have hn := h.le
  go_enter Tryd.func10, Tryd.ntmps10
  by_cases h1 : lvl n a
  · rw [decide_eq_true h1] at H1
    by_cases h2 : lvl n b
    · rw [decide_eq_true h2] at H2
      obtain ⟨i, rfl⟩ := Int.eq_ofNat_of_zero_le h1.1
      obtain ⟨j, rfl⟩ := Int.eq_ofNat_of_zero_le h2.1
      have hi : i < n := by have := h1.2; omega
      have hj : j < n := by have := h2.2; omega
      have c1 := hc.cell (i := 1 + i) (by omega)
      rw [latF_atU n u d (by omega)] at c1
      have hb := hr.bit i hi j
      have ht := shift_bit (x := u i) (k := j) (hr.lt i (by omega))
      rw [hb] at ht
      have hB : leB n R (i : Int) (j : Int) = R i j := by unfold leB; rw [decide_eq_true h1, decide_eq_true h2]; simp
      rw [hB]
      rw [decide_eq_true hj, Bool.true_and] at ht
      have hi0 : (0 : Int) ≤ (i : Int) := by omega
      have hj0 : (0 : Int) ≤ (j : Int) := by omega
      have hi32 : (i : Int) < 32 := by omega
      have hj32 : (j : Int) < 32 := by omega
      clear hc hr hn hb hB h h1 h2 hi hj
      cases hR : R i j with
      | true =>
        rw [hR, if_pos rfl] at ht
        clear hR
        go_wp2_with fail
        go_at_call 21
        refine H1.out.mono ?_
        rintro e w1 ⟨rfl, rfl⟩
        go_wp2_with fail
        go_at_call 21
        refine H2.out.mono ?_
        rintro e w1 ⟨rfl, rfl⟩
        go_wp2
        go_ret
        exact ⟨rfl, rfl⟩
      | false =>
        rw [hR, if_neg (by decide)] at ht
        clear hR
        go_wp2_with fail
        go_at_call 21
        refine H1.out.mono ?_
        rintro e w1 ⟨rfl, rfl⟩
        go_wp2_with fail
        go_at_call 21
        refine H2.out.mono ?_
        rintro e w1 ⟨rfl, rfl⟩
        go_wp2
        go_ret
        exact ⟨rfl, rfl⟩
    · rw [decide_eq_false h2] at H2
      have hB : leB n R a b = false := by unfold leB; rw [decide_eq_false h2]; simp
      rw [hB]
      clear hB hc hr hn h h1 h2
      go_wp2_with fail
      go_at_call 21
      refine H1.out.mono ?_
      rintro e w1 ⟨rfl, rfl⟩
      go_wp2_with fail
      go_at_call 21
      refine H2.out.mono ?_
      rintro e w1 ⟨rfl, rfl⟩
      go_wp2
      go_ret
      exact ⟨rfl, rfl⟩
  · rw [decide_eq_false h1] at H1
    have hB : leB n R a b = false := by unfold leB; rw [decide_eq_false h1]; simp
    rw [hB]
    clear hB hc hr hn h h1 H2
    go_wp2_with fail
    go_at_call 21
    refine H1.out.mono ?_
    rintro e w1 ⟨rfl, rfl⟩
    go_wp2
    go_ret
    exact ⟨rfl, rfl⟩
/-- What the functions of package twin check first. -/
def mayE (n : Nat) (level : Int) (ls : List Int) : Nat := if 1 ≤ ls.length ∧ ls.length ≤ 32 ∧ lvl n level ∧ ∀ c ∈ ls, lvl n c then 0 else 3
set_option maxRecDepth 100000 in
theorem may_any (h : LatIs w lb n R) (level : Int) {v : Value} {ls : List Int} (hs : SliceOf w .i64 v ls) :
    Calls Tryd.prog 19 #[.pointer (some ⟨lb, 0, none⟩), .int .i64 level, v] w fun e w' => e = .returned (.int .i64 (mayE n level ls)) ∧ w = w' := by
  have H1 := Lib.hid (llen_any h)
  have hn := h.le
  obtain ⟨ao, no, co, rfl, hol, hoc⟩ := hs.parts
  clear h
  have HS := Lib.hid hs
  clear hoc hs
  go_enter Tryd.func19, Tryd.ntmps19
  by_cases h1 : 1 ≤ no ∧ no ≤ 32 ∧ lvl n level
  · obtain ⟨h1a, h1b, h1c, h1d⟩ := h1
    have HM := Lib.hid (show (mayE n level ls : Nat) = if ∀ c ∈ ls, lvl n c then 0 else 3 by
      unfold mayE
      by_cases hx : ∀ c ∈ ls, lvl n c
      · rw [if_pos hx, if_pos ⟨by omega, by omega, ⟨h1c, h1d⟩, hx⟩]
      · rw [if_neg hx, if_neg fun h => hx h.2.2.2])
    have q1 : ¬ (no : Int) < 1 := by omega
    have q2 : ¬ (32 : Int) < (no : Int) := by omega
    have q3 : ¬ level < 0 := by omega
    go_wp2_with fail
    go_at_call 34
    refine H1.out.mono ?_
    rintro e w1 ⟨rfl, rfl⟩
    go_wp2
    clear q1 q2 q3 h1c h1d
    go_loopw [31] (fun v wx => ∃ k : Nat, k ≤ no ∧ v = .int .i64 k ∧ (∀ i c, i < k → ls[i]? = some c → lvl n c) ∧ w = wx) (fun v _ => no - (intOf v).toNat)
    case atStart => exact ⟨0, by omega, rfl, fun i c h => by omega, rfl⟩
    case round =>
      obtain ⟨k, hk, rfl, hall, rfl⟩ := hrel
      have HALL := Lib.hid hall
      clear hall
      by_cases hlt : k < no
      · have hlt' : (k : Int) < (no : Int) := by omega
        have hk0 : (0 : Int) ≤ (k : Int) := by omega
        obtain ⟨b, off, c, rfl, d0, hck⟩ := HS.out.parts' hlt
        have HCK := Lib.hid hck
        clear hck
        by_cases hc0 : c < 0
        · have HM' := Lib.hid (show mayE n level ls = 3 by rw [HM.out, if_neg fun h => by have := (h c (List.mem_of_getElem? HCK.out)).1; omega])
          go_wp2
          go_ret
          rw [HM'.out]
          exact ⟨rfl, rfl⟩
        · by_cases hcn : (n : Int) ≤ c
          · have HM' := Lib.hid (show mayE n level ls = 3 by rw [HM.out, if_neg fun h => by have := (h c (List.mem_of_getElem? HCK.out)).2; omega])
            go_wp2_with fail
            go_at_call 34
            refine H1.out.mono ?_
            rintro e w1 ⟨rfl, rfl⟩
            go_wp2
            go_ret
            rw [HM'.out]
            exact ⟨rfl, rfl⟩
          · go_wp2_with fail
            go_at_call 34
            refine H1.out.mono ?_
            rintro e w1 ⟨rfl, rfl⟩
            go_wp2
            go_roundw
            case rel =>
              refine ⟨k + 1, by omega, by go_num, fun i c' hi hc' => ?_, ?_⟩
              rotate_left
              · trivial
              by_cases e : i = k
              · subst e; rw [HCK.out] at hc'; obtain rfl := Option.some.inj hc'; exact ⟨by omega, by omega⟩
              · exact HALL.out i c' (by omega) hc'
            case measure => simp [intOf]; omega
      · have HM' := Lib.hid (show mayE n level ls = 0 by
          rw [HM.out, if_pos fun c hc => ?_]
          obtain ⟨i, hi, rfl⟩ := List.getElem_of_mem hc
          exact HALL.out i _ (by omega) (List.getElem?_eq_getElem hi))
        go_wp2
        go_ret
        rw [HM'.out]
        exact ⟨rfl, rfl⟩
  · have HM := Lib.hid (show mayE n level ls = 3 by unfold mayE; rw [if_neg]; intro h; exact h1 ⟨by omega, by omega, h.2.2.1⟩)
    rw [HM.out]
    by_cases h2 : no < 1
    · have h2' : (no : Int) < 1 := by omega
      clear h1
      go_wp2
      go_ret
      exact ⟨rfl, rfl⟩
    · have h2' : ¬ (no : Int) < 1 := by omega
      by_cases h3 : 32 < no
      · have h3' : (32 : Int) < (no : Int) := by omega
        clear h1
        go_wp2
        go_ret
        exact ⟨rfl, rfl⟩
      · have h3' : ¬ (32 : Int) < (no : Int) := by omega
        by_cases h4 : level < 0
        · clear h1
          go_wp2
          go_ret
          exact ⟨rfl, rfl⟩
        · have h5 : (n : Int) ≤ level := by
            rcases Int.lt_or_le level (n : Int) with h | h
            · exact absurd ⟨by omega, by omega, by omega, h⟩ h1
            · exact h
          clear h1
          go_wp2_with fail
          go_at_call 34
          refine H1.out.mono ?_
          rintro e w1 ⟨rfl, rfl⟩
          go_wp2
          go_ret
          exact ⟨rfl, rfl⟩
theorem may_len {n : Nat} {level : Int} {ls : List Int} (h : mayE n level ls = 0) : 1 ≤ ls.length ∧ ls.length ≤ 32 ∧ lvl n level ∧ ∀ c ∈ ls, lvl n c := by
  unfold mayE at h
  split at h
  · assumption
  · cases h
/-- The twin of a variable. -/
def ofR (n : Nat) (R : Rel) (level : Int) (ls : List Int) (v : Int) : Int := if leB n R (ls.getD (v.toNat / 2 % ls.length) 0) level = true then v else v + 1
set_option maxRecDepth 100000 in
theorem twof_any (h : LatIs w lb n R) (level : Int) {v : Value} {ls : List Int} (hs : SliceOf w .i64 v ls) (hl : 1 ≤ ls.length) (hl2 : ls.length ≤ 32) (m : Int) (hm : 0 ≤ m) (hm2 : m < 1000000000) :
    Calls Tryd.prog 20 #[.pointer (some ⟨lb, 0, none⟩), .int .i64 level, v, .int .i64 m] w fun e w' => e = .returned (.int .i64 (ofR n R level ls m)) ∧ w = w' := by
  obtain ⟨ao, no, co, rfl, hol, hoc⟩ := hs.parts
  obtain ⟨mm, rfl⟩ := Int.eq_ofNat_of_zero_le hm
  have hi : mm / 2 % no < no := Nat.mod_lt _ (by omega)
  obtain ⟨i, hi'⟩ : ∃ i, mm / 2 % no = i := ⟨_, rfl⟩
  rw [hi'] at hi
  obtain ⟨b, off, c, rfl, d0, hck⟩ := hs.parts' hi
  have hofR : ofR n R level ls (mm : Int) = if leB n R c level = true then (mm : Int) else (mm : Int) + 1 := by
    unfold ofR
    rw [Int.toNat_natCast, show ls.length = no from by omega, hi', List.getD_eq_getElem?_getD, hck]
    rfl
  have H1 := Lib.hid (lle_any h c level)
  obtain ⟨g, hg⟩ : ∃ g, mm / 2 = g := ⟨_, rfl⟩
  rw [hg] at hi'
  have q1 : (mm : Int).tdiv 2 = (g : Int) := by rw [Int.tdiv_eq_ediv_of_nonneg (by omega)]; omega
  have q2 : (g : Int).tmod (no : Int) = (i : Int) := by rw [Int.tmod_eq_emod_of_nonneg (by omega), ← hi']; omega
  have hg4 : IntKind.i64.wrap (g : Int) = (g : Int) := by simp [IntKind.wrap, IntKind.bits, IntKind.signed]; omega
  have hi4 : IntKind.i64.wrap (i : Int) = (i : Int) := by simp [IntKind.wrap, IntKind.bits, IntKind.signed]; omega
  have hm4 : IntKind.i64.wrap ((mm : Int) + 1) = (mm : Int) + 1 := by simp [IntKind.wrap, IntKind.bits, IntKind.signed]; omega
  rw [hofR]
  clear hofR hs h hck hm hg hi' hl2 hm2
  go_enter Tryd.func20, Tryd.ntmps20
  have hno : ¬ (no : Int) = 0 := by omega
  have hi1 : (i : Int) < (no : Int) := by omega
  have hi0 : (0 : Int) ≤ (i : Int) := by omega
  cases hB : leB n R c level with
  | true =>
    rw [hB] at H1
    clear hB
    go_wp2_with fail
    go_at_call 10
    refine H1.out.mono ?_
    rintro e w1 ⟨rfl, rfl⟩
    go_wp2
    go_ret
    exact ⟨rfl, rfl⟩
  | false =>
    rw [hB] at H1
    clear hB
    go_wp2_with fail
    go_at_call 10
    refine H1.out.mono ?_
    rintro e w1 ⟨rfl, rfl⟩
    go_wp2
    go_ret
    exact ⟨rfl, rfl⟩
/-- Var: the twin of a variable, and the error. -/
def varE (n : Nat) (level : Int) (ls : List Int) (v : Int) : Nat := if mayE n level ls ≠ 0 then 3 else if v < 0 ∨ 4194302 < v then 3 else if v % 2 = 1 then 2 else 0
def varN (n : Nat) (R : Rel) (level : Int) (ls : List Int) (v : Int) : Int := if varE n level ls v = 0 then ofR n R level ls v else 0
theorem may_cases (n : Nat) (level : Int) (ls : List Int) : mayE n level ls = 0 ∨ mayE n level ls = 3 := by unfold mayE; split <;> simp
set_option maxRecDepth 100000 in
theorem tvar_any (h : LatIs w lb n R) (level : Int) {v : Value} {ls : List Int} (hs : SliceOf w .i64 v ls) (m : Int) :
    Calls Tryd.prog 9 #[.pointer (some ⟨lb, 0, none⟩), .int .i64 level, v, .int .i64 m] w fun e w' => e = .returned (.tuple #[.int .i64 (varN n R level ls m), .int .i64 (varE n level ls m)]) ∧ w = w' := by
  have H1 := Lib.hid (may_any h level hs)
  rcases may_cases n level ls with hm | hm
  · rw [hm] at H1
    by_cases h1 : m < 0 ∨ 4194302 < m
    · have hE : varE n level ls m = 3 := by unfold varE; rw [if_neg (by omega), if_pos h1]
      have hN : varN n R level ls m = 0 := by unfold varN; rw [if_neg (by omega)]
      rw [hE, hN]
      clear hE hN hm h
      by_cases h2 : m < 0
      · clear h1
        go_enter Tryd.func9, Tryd.ntmps9
        go_wp2_with fail
        go_at_call 19
        refine H1.out.mono ?_
        rintro e w1 ⟨rfl, rfl⟩
        go_wp2
        go_ret2
        exact ⟨rfl, rfl⟩
      · have h3 : 4194302 < m := by omega
        clear h1
        go_enter Tryd.func9, Tryd.ntmps9
        go_wp2_with fail
        go_at_call 19
        refine H1.out.mono ?_
        rintro e w1 ⟨rfl, rfl⟩
        go_wp2
        go_ret2
        exact ⟨rfl, rfl⟩
    · have h2 : ¬ m < 0 := by omega
      have h3 : ¬ 4194302 < m := by omega
      obtain ⟨mm, rfl⟩ := Int.eq_ofNat_of_zero_le (show 0 ≤ m by omega)
      by_cases h4 : mm % 2 = 1
      · have hE : varE n level ls (mm : Int) = 2 := by unfold varE; rw [if_neg (by omega), if_neg h1, if_pos (by omega)]
        have hN : varN n R level ls (mm : Int) = 0 := by unfold varN; rw [if_neg (by omega)]
        rw [hE, hN]
        have q : (mm : Int).tmod 2 = 1 := by rw [Int.tmod_eq_emod_of_nonneg (by omega)]; omega
        clear hE hN hm h h1 h4
        go_enter Tryd.func9, Tryd.ntmps9
        go_wp2_with fail
        go_at_call 19
        refine H1.out.mono ?_
        rintro e w1 ⟨rfl, rfl⟩
        go_wp2
        go_ret2
        exact ⟨rfl, rfl⟩
      · have hE : varE n level ls (mm : Int) = 0 := by unfold varE; rw [if_neg (by omega), if_neg h1, if_neg (by omega)]
        have hN : varN n R level ls (mm : Int) = ofR n R level ls (mm : Int) := by unfold varN; rw [if_pos hE]
        rw [hE, hN]
        have q : (mm : Int).tmod 2 = 0 := by rw [Int.tmod_eq_emod_of_nonneg (by omega)]; omega
        have H2 := Lib.hid (twof_any h level hs (may_len hm).1 (may_len hm).2.1 (mm : Int) (by omega) (by omega))
        obtain ⟨x, hx⟩ : ∃ x, ofR n R level ls (mm : Int) = x := ⟨_, rfl⟩
        rw [hx] at H2 ⊢
        clear hx hE hN hm h h1 h4
        go_enter Tryd.func9, Tryd.ntmps9
        go_wp2_with fail
        go_at_call 19
        refine H1.out.mono ?_
        rintro e w1 ⟨rfl, rfl⟩
        go_wp2_with fail
        go_at_call 20
        refine H2.out.mono ?_
        rintro e w1 ⟨rfl, rfl⟩
        go_wp2
        go_ret2
        exact ⟨rfl, rfl⟩
  · rw [hm] at H1
    have hE : varE n level ls m = 3 := by unfold varE; rw [if_pos (by omega)]
    have hN : varN n R level ls m = 0 := by unfold varN; rw [if_neg (by omega)]
    rw [hE, hN]
    clear hE hN hm h
    go_enter Tryd.func9, Tryd.ntmps9
    go_wp2_with fail
    go_at_call 19
    refine H1.out.mono ?_
    rintro e w1 ⟨rfl, rfl⟩
    go_wp2
    go_ret2
    exact ⟨rfl, rfl⟩
end
end Go.Proofs.YtmfendfpjpbhdaaDoor
