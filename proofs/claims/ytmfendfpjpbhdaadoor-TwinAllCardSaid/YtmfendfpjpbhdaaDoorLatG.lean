/- The reference's lattice: Is, Le; Known; the reference of package twin: Check, Var. -/
import Derived.Test.YtmfendfpjpbhdaaDoorLatF
import Derived.BigQuiet
namespace Go.Proofs.YtmfendfpjpbhdaaDoor
open Go.RowKit Go.Maps
set_option maxHeartbeats 3200000

section
variable {w : World} {xb n : Nat} {R : Rel}
theorem ris_any (h : MatIs w xb n R) (a : Int) : Calls Tryd.prog 36 #[.pointer (some ⟨xb, 0, none⟩), .int .i64 a] w fun e w' => e = .returned (.bool (decide (lvl n a))) ∧ w = w' := by
  obtain ⟨g, cap, bs, hM⟩ := h
  have c0 := hM.top
  clear hM
  go_enter Tryd.func36, Tryd.ntmps36
  by_cases h1 : 0 ≤ a
  · by_cases h2 : a < (n : Int)
    · have e : decide (lvl n a) = true := decide_eq_true ⟨h1, h2⟩
      rw [e]
      clear e
      go_wp2
      go_ret
      exact ⟨rfl, rfl⟩
    · have e : decide (lvl n a) = false := decide_eq_false fun h => h2 h.2
      rw [e]
      clear e
      go_wp2
      go_ret
      exact ⟨rfl, rfl⟩
  · have e : decide (lvl n a) = false := decide_eq_false fun h => h1 h.1
    rw [e]
    clear e
    go_wp2
    go_ret
    exact ⟨rfl, rfl⟩
theorem rle_any (h : MatIs w xb n R) (a b : Int) : Calls Tryd.prog 23 #[.pointer (some ⟨xb, 0, none⟩), .int .i64 a, .int .i64 b] w fun e w' => e = .returned (.bool (leB n R a b)) ∧ w = w' := by
  have H1 := Lib.hid (ris_any h a); have H2 := Lib.hid (ris_any h b)
  obtain ⟨g, cap, bs, hM⟩ := h
  go_enter Tryd.func23, Tryd.ntmps23
  by_cases h1 : lvl n a
  · rw [decide_eq_true h1] at H1
    by_cases h2 : lvl n b
    · rw [decide_eq_true h2] at H2
      obtain ⟨i, rfl⟩ := Int.eq_ofNat_of_zero_le h1.1
      obtain ⟨j, rfl⟩ := Int.eq_ofNat_of_zero_le h2.1
      have hi : i < n := by have := h1.2; omega
      have hj : j < n := by have := h2.2; omega
      have hB : leB n R (i : Int) (j : Int) = R i j := by unfold leB; rw [decide_eq_true h1, decide_eq_true h2]; simp
      rw [hB]
      have c0 := hM.top
      have c1 := hM.rows hi
      have c2 := hM.cell hi hj
      obtain ⟨B, hRB⟩ : ∃ B, R i j = B := ⟨_, rfl⟩
      rw [hRB] at c2 ⊢
      have hi0 : (0 : Int) ≤ (i : Int) := by omega
      have hj0 : (0 : Int) ≤ (j : Int) := by omega
      have hi' : (i : Int) < (n : Int) := by omega
      have hj' : (j : Int) < (n : Int) := by omega
      clear hM hRB hB h1 h2 hi hj
      go_wp2_with fail
      go_at_call 36
      refine H1.out.mono ?_
      rintro e w1 ⟨rfl, rfl⟩
      go_wp2_with fail
      go_at_call 36
      refine H2.out.mono ?_
      rintro e w1 ⟨rfl, rfl⟩
      go_wp2
      go_ret
      exact ⟨rfl, rfl⟩
    · rw [decide_eq_false h2] at H2
      have hB : leB n R a b = false := by unfold leB; rw [decide_eq_false h2]; simp
      rw [hB]
      clear hB hM h1 h2
      go_wp2_with fail
      go_at_call 36
      refine H1.out.mono ?_
      rintro e w1 ⟨rfl, rfl⟩
      go_wp2_with fail
      go_at_call 36
      refine H2.out.mono ?_
      rintro e w1 ⟨rfl, rfl⟩
      go_wp2
      go_ret
      exact ⟨rfl, rfl⟩
  · rw [decide_eq_false h1] at H1
    have hB : leB n R a b = false := by unfold leB; rw [decide_eq_false h1]; simp
    rw [hB]
    clear hB hM h1 H2
    go_wp2_with fail
    go_at_call 36
    refine H1.out.mono ?_
    rintro e w1 ⟨rfl, rfl⟩
    go_wp2
    go_ret
    exact ⟨rfl, rfl⟩
set_option maxRecDepth 100000 in
theorem known_any (h : MatIs w xb n R) (level : Int) {v : Value} {ls : List Int} (hs : SliceOf w .i64 v ls) (hn1 : ls.length ≤ 1000000) :
    Calls Tryd.prog 35 #[.pointer (some ⟨xb, 0, none⟩), .int .i64 level, v] w fun e w' => ∃ B : Bool, e = .returned (.bool B) ∧ (B = true ↔ (lvl n level ∧ ∀ c ∈ ls, lvl n c)) ∧ Below w.heap.size w w' := by
  obtain ⟨g, cap, bs, hM⟩ := h
  have c0 := hM.top
  have hn32 := hM.le
  obtain ⟨ao, no, co, rfl, hol, hoc⟩ := hs.parts
  have HC := Lib.hid c0; have HS := Lib.hid hs
  clear hM hs hoc
  go_enter Tryd.func35, Tryd.ntmps35
  go_upto_region 1 with fail
  go_cut [7] (fun v wx => (∃ B : Bool, v = .bool B ∧ (B = true ↔ lvl n level)) ∧ w = wx)
  case first =>
    by_cases h1 : 0 ≤ level
    · by_cases h2 : level < (n : Int)
      · go_wp2
        go_meet
        exact ⟨⟨true, rfl, fun _ => ⟨h1, h2⟩, fun _ => rfl⟩, rfl⟩
      · go_wp2
        go_meet
        exact ⟨⟨false, rfl, fun h => absurd h (by simp), fun h => by have := h.2; omega⟩, rfl⟩
    · go_wp2
      go_meet
      exact ⟨⟨false, rfl, fun h => absurd h (by simp), fun h => by have := h.1; omega⟩, rfl⟩
  case rest =>
    obtain ⟨⟨B, rfl, hB⟩, rfl⟩ := hcut
    have HB := Lib.hid hB
    clear hB c0
    go_wp2
    go_loopw [7, 8] (fun v i wx => ∃ (k : Nat) (B : Bool), k ≤ no ∧ v = .bool B ∧ i = .int .i64 k ∧ (B = true ↔ (lvl n level ∧ ∀ i c, i < k → ls[i]? = some c → lvl n c)) ∧ Below w.heap.size w wx) (fun _ i _ => no - (intOf i).toNat)
    case atStart => exact ⟨0, B, by omega, rfl, rfl, by rw [HB.out]; simp, Below.refl _ _⟩
    case round =>
      clear HB
      obtain ⟨k, B2, hk, rfl, rfl, hB, hb⟩ := hrel
      have HB := Lib.hid hB; have HW := Lib.hid hb
      clear hB
      have c0 : ∀ q, (wr.drewN q).cell? ⟨xb, 0, none⟩ = some (.slice (some ⟨g, 0, none⟩) n cap) := fun q => cell_later (below_drewN hb q) HC.out
      by_cases hlt : k < no
      · have hlt' : (k : Int) < (no : Int) := by omega
        have hk0 : (0 : Int) ≤ (k : Int) := by omega
        obtain ⟨b, off, c, rfl, d0, hck⟩ := HS.out.parts' hlt
        have d1 : ∀ q, (wr.drewN q).cell? ⟨b, off + k, none⟩ = some (.int .i64 c) := fun q => cell_later (below_drewN hb q) d0
        have HN := Lib.hid (show ∀ B3 : Bool, (B3 = true ↔ (B2 = true ∧ lvl n c)) → (B3 = true ↔ (lvl n level ∧ ∀ i c, i < k + 1 → ls[i]? = some c → lvl n c)) from fun B3 h3 => by
          rw [h3, HB.out]
          refine ⟨fun h => ⟨h.1.1, fun i c' hi hc' => ?_⟩, fun h => ⟨⟨h.1, fun i c' hi hc' => h.2 i c' (by omega) hc'⟩, h.2 k c (by omega) hck⟩⟩
          by_cases e : i = k
          · subst e; rw [hck] at hc'; obtain rfl := Option.some.inj hc'; exact h.2
          · exact h.1.2 i c' (by omega) hc')
        clear HB hck d0 hb
        cases B2 with
        | false =>
          go_wp2
          go_quiet (fail)
          go_wp2
          go_roundw
          case rel => exact ⟨k + 1, false, by omega, rfl, by go_num, HN.out false (by simp), below_drewN HW.out _⟩
          case measure => simp [intOf]; omega
        | true =>
          have HS := Lib.hid (fun (B3 : Bool) (h : B3 = true ↔ lvl n c) => HN.out B3 ⟨fun h' => ⟨rfl, h.1 h'⟩, fun h' => h.2 h'.2⟩)
          clear HN
          by_cases h1 : 0 ≤ c
          · have e1 : decide (0 ≤ c) = true := decide_eq_true h1
            by_cases h2 : c < (n : Int)
            · have e2 : decide (c < (n : Int)) = true := decide_eq_true h2
              have HT := Lib.hid (HS.out true ⟨fun _ => ⟨h1, h2⟩, fun _ => rfl⟩)
              clear HS h1 h2
              go_wp2
              go_quiet (fail)
              go_wp2
              go_roundw
              case rel => exact ⟨k + 1, true, by omega, rfl, by go_num, ⟨fun _ => HT.out.1 trivial, fun _ => rfl⟩, below_drewN HW.out _⟩
              case measure => simp [intOf]; omega
            · have e2 : decide (c < (n : Int)) = false := decide_eq_false h2
              have HT := Lib.hid (HS.out false ⟨fun h => absurd h (by simp), fun h => absurd h.2 h2⟩)
              clear HS h1 h2
              go_wp2
              go_quiet (fail)
              go_wp2
              go_roundw
              case rel => exact ⟨k + 1, false, by omega, rfl, by go_num, HT.out, below_drewN HW.out _⟩
              case measure => simp [intOf]; omega
          · have e1 : decide (0 ≤ c) = false := decide_eq_false h1
            have HT := Lib.hid (HS.out false ⟨fun h => absurd h (by simp), fun h => absurd h.1 h1⟩)
            clear HS h1
            go_wp2
            go_quiet (fail)
            go_wp2
            go_roundw
            case rel => exact ⟨k + 1, false, by omega, rfl, by go_num, HT.out, below_drewN HW.out _⟩
            case measure => simp [intOf]; omega
      · have HR := Lib.hid (show (B2 = true ↔ (lvl n level ∧ ∀ c ∈ ls, lvl n c)) by
          rw [HB.out]
          refine ⟨fun h => ⟨h.1, fun c hc => ?_⟩, fun h => ⟨h.1, fun i c _ hc => h.2 c (List.mem_of_getElem? hc)⟩⟩
          obtain ⟨i, hi, rfl⟩ := List.getElem_of_mem hc
          exact h.2 i _ (by omega) (List.getElem?_eq_getElem hi))
        clear HB hb
        go_wp2
        go_ret
        exact ⟨B2, rfl, HR.out, HW.out⟩
set_option maxRecDepth 100000 in
theorem check_any (h : MatIs w xb n R) (level : Int) {v : Value} {ls : List Int} (hs : SliceOf w .i64 v ls) :
    Calls Tryd.prog 22 #[.pointer (some ⟨xb, 0, none⟩), .int .i64 level, v] w fun e w' => e = .returned (.int .i64 (mayE n level ls)) ∧ Below w.heap.size w w' := by
  obtain ⟨ao, no, co, rfl, hol, hoc⟩ := hs.parts
  by_cases h1 : 1 ≤ no ∧ no ≤ 32
  · obtain ⟨h1, h2⟩ := h1
    have HK := Lib.hid (known_any h level hs (by omega))
    have HM := Lib.hid (show ∀ B : Bool, (B = true ↔ (lvl n level ∧ ∀ c ∈ ls, lvl n c)) → mayE n level ls = if B = true then 0 else 3 from fun B hB => by
      unfold mayE
      by_cases hb : B = true
      · rw [if_pos hb, if_pos ⟨by omega, by omega, (hB.1 hb).1, (hB.1 hb).2⟩]
      · rw [if_neg hb, if_neg fun hx => hb (hB.2 hx.2.2)])
    have q1 : ¬ (no : Int) < 1 := by omega
    have q2 : ¬ (32 : Int) < (no : Int) := by omega
    clear hoc hs h h1 h2
    go_enter Tryd.func22, Tryd.ntmps22
    go_wp2_with fail
    go_at_call 35
    refine HK.out.mono ?_
    rintro e w1 ⟨B, rfl, hB, hb⟩
    have HE := Lib.hid (HM.out B hB); have HW := Lib.hid hb
    clear hB hb HM
    cases B with
    | true =>
      go_wp2
      go_ret
      rw [HE.out]
      exact ⟨rfl, HW.out⟩
    | false =>
      go_wp2
      go_ret
      rw [HE.out]
      exact ⟨rfl, HW.out⟩
  · have HM := Lib.hid (show mayE n level ls = 3 by unfold mayE; rw [if_neg]; intro h; exact h1 ⟨by omega, by omega⟩)
    rw [HM.out]
    go_enter Tryd.func22, Tryd.ntmps22
    by_cases h2 : no < 1
    · have h2' : (no : Int) < 1 := by omega
      clear h1
      go_wp2
      go_ret
      exact ⟨rfl, Below.refl _ _⟩
    · have h2' : ¬ (no : Int) < 1 := by omega
      have h3' : (32 : Int) < (no : Int) := by omega
      clear h1
      go_wp2
      go_ret
      exact ⟨rfl, Below.refl _ _⟩
set_option maxRecDepth 100000 in
theorem rvar35_any (h : MatIs w xb n R) (level : Int) {v : Value} {ls : List Int} (hs : SliceOf w .i64 v ls) (m : Int) :
    Calls Tryd.prog 11 #[.pointer (some ⟨xb, 0, none⟩), .int .i64 level, v, .int .i64 m] w fun e w' => e = .returned (.tuple #[.int .i64 (varN n R level ls m), .int .i64 (varE n level ls m)]) ∧ Below w.heap.size w w' := by
  have H1 := Lib.hid (check_any h level hs)
  rcases may_cases n level ls with hm | hm
  · rw [hm] at H1
    by_cases h1 : m < 0 ∨ 4194302 < m
    · have hE : varE n level ls m = 3 := by unfold varE; rw [if_neg (by omega), if_pos h1]
      have hN : varN n R level ls m = 0 := by unfold varN; rw [if_neg (by omega)]
      rw [hE, hN]
      clear hE hN hm h
      by_cases h2 : m < 0
      · clear h1
        go_enter Tryd.func11, Tryd.ntmps11
        go_wp2_with fail
        go_at_call 22
        refine H1.out.mono ?_
        rintro e w1 ⟨rfl, hb⟩
        have HW := Lib.hid hb
        clear hb
        go_wp2
        go_ret2
        exact ⟨rfl, HW.out⟩
      · have h3 : 4194302 < m := by omega
        clear h1
        go_enter Tryd.func11, Tryd.ntmps11
        go_wp2_with fail
        go_at_call 22
        refine H1.out.mono ?_
        rintro e w1 ⟨rfl, hb⟩
        have HW := Lib.hid hb
        clear hb
        go_wp2
        go_ret2
        exact ⟨rfl, HW.out⟩
    · have h2 : ¬ m < 0 := by omega
      have h3 : ¬ 4194302 < m := by omega
      obtain ⟨mm, rfl⟩ := Int.eq_ofNat_of_zero_le (show 0 ≤ m by omega)
      by_cases h4 : mm % 2 = 1
      · have hE : varE n level ls (mm : Int) = 2 := by unfold varE; rw [if_neg (by omega), if_neg h1, if_pos (by omega)]
        have hN : varN n R level ls (mm : Int) = 0 := by unfold varN; rw [if_neg (by omega)]
        rw [hE, hN]
        have q : (mm : Int).tmod 2 = 1 := by rw [Int.tmod_eq_emod_of_nonneg (by omega)]; omega
        clear hE hN hm h h1 h4
        go_enter Tryd.func11, Tryd.ntmps11
        go_wp2_with fail
        go_at_call 22
        refine H1.out.mono ?_
        rintro e w1 ⟨rfl, hb⟩
        have HW := Lib.hid hb
        clear hb
        go_wp2
        go_ret2
        exact ⟨rfl, HW.out⟩
      · have hE : varE n level ls (mm : Int) = 0 := by unfold varE; rw [if_neg (by omega), if_neg h1, if_neg (by omega)]
        have hN : varN n R level ls (mm : Int) = ofR n R level ls (mm : Int) := by unfold varN; rw [if_pos hE]
        rw [hE, hN]
        have q : (mm : Int).tmod 2 = 0 := by rw [Int.tmod_eq_emod_of_nonneg (by omega)]; omega
        have hl := (may_len hm).1
        have hl2 := (may_len hm).2.1
        obtain ⟨ao, no, co, rfl, hol, hoc⟩ := hs.parts
        have hi : mm / 2 % no < no := Nat.mod_lt _ (by omega)
        obtain ⟨i, hi'⟩ : ∃ i, mm / 2 % no = i := ⟨_, rfl⟩
        rw [hi'] at hi
        obtain ⟨b, off, c, rfl, d0, hck⟩ := hs.parts' hi
        have hofR : ofR n R level ls (mm : Int) = if leB n R c level = true then (mm : Int) else (mm : Int) + 1 := by
          unfold ofR
          rw [Int.toNat_natCast, show ls.length = no from by omega, hi', List.getD_eq_getElem?_getD, hck]
          rfl
        obtain ⟨f, hf⟩ : ∃ f, mm / 2 = f := ⟨_, rfl⟩
        rw [hf] at hi'
        have q1 : (mm : Int).tdiv 2 = (f : Int) := by rw [Int.tdiv_eq_ediv_of_nonneg (by omega)]; omega
        have q2 : (f : Int).tmod (no : Int) = (i : Int) := by rw [Int.tmod_eq_emod_of_nonneg (by omega), ← hi']; omega
        have hg4 : IntKind.i64.wrap (f : Int) = (f : Int) := by simp [IntKind.wrap, IntKind.bits, IntKind.signed]; omega
        have hi4 : IntKind.i64.wrap (i : Int) = (i : Int) := by simp [IntKind.wrap, IntKind.bits, IntKind.signed]; omega
        have hm4 : IntKind.i64.wrap ((mm : Int) + 1) = (mm : Int) + 1 := by simp [IntKind.wrap, IntKind.bits, IntKind.signed]; omega
        have hno : ¬ (no : Int) = 0 := by omega
        have hi1 : (i : Int) < (no : Int) := by omega
        have hi0 : (0 : Int) ≤ (i : Int) := by omega
        have H2 := Lib.hid (fun w1 (hb : Below w.heap.size w w1) => rle_any (h.later hb) c level)
        have HD := Lib.hid (fun w1 (hb : Below w.heap.size w w1) => cell_later hb d0)
        rw [hofR]
        clear hofR hE hN hm h h1 h4 hs hck hoc hf hi' hl hl2 hi d0
        cases hB : leB n R c level with
        | true =>
          rw [hB] at H2
          clear hB
          go_enter Tryd.func11, Tryd.ntmps11
          go_wp2_with fail
          go_at_call 22
          refine H1.out.mono ?_
          rintro e w1 ⟨rfl, hb⟩
          have HW := Lib.hid hb
          have d1 := HD.out w1 hb
          clear hb
          go_wp2_with fail
          go_at_call 23
          refine (H2.out w1 HW.out).mono ?_
          rintro e w2 ⟨rfl, rfl⟩
          go_wp2
          go_ret2
          exact ⟨rfl, HW.out⟩
        | false =>
          rw [hB] at H2
          clear hB
          go_enter Tryd.func11, Tryd.ntmps11
          go_wp2_with fail
          go_at_call 22
          refine H1.out.mono ?_
          rintro e w1 ⟨rfl, hb⟩
          have HW := Lib.hid hb
          have d1 := HD.out w1 hb
          clear hb
          go_wp2_with fail
          go_at_call 23
          refine (H2.out w1 HW.out).mono ?_
          rintro e w2 ⟨rfl, rfl⟩
          go_wp2
          go_ret2
          exact ⟨rfl, HW.out⟩
  · rw [hm] at H1
    have hE : varE n level ls m = 3 := by unfold varE; rw [if_pos (by omega)]
    have hN : varN n R level ls m = 0 := by unfold varN; rw [if_neg (by omega)]
    rw [hE, hN]
    clear hE hN hm h
    go_enter Tryd.func11, Tryd.ntmps11
    go_wp2_with fail
    go_at_call 22
    refine H1.out.mono ?_
    rintro e w1 ⟨rfl, hb⟩
    have HW := Lib.hid hb
    clear hb
    go_wp2
    go_ret2
    exact ⟨rfl, HW.out⟩
end
end Go.Proofs.YtmfendfpjpbhdaaDoor
