/- The twin of an input that low does not see; TwinApart. -/
import Derived.Test.YtmfendfpjpbhdaaDoorLatJ
namespace Go.Proofs.YtmfendfpjpbhdaaDoor
open Go.RowKit Go.Maps
set_option maxHeartbeats 3200000

theorem cloN_trans (R : Rel) : ∀ (k i j m : Nat), m < k → cloN R k i m = true → cloN R k m j = true → cloN R k i j = true
  | 0, _, _, _, hm, _, _ => absurd hm (Nat.not_lt_zero _)
  | k + 1, i, j, m, hm, h1, h2 => by
    have T := cloN_trans R k
    simp only [cloN, cloK, Bool.or_eq_true, Bool.and_eq_true] at h1 h2 ⊢
    by_cases e : m = k
    · subst e
      have a : cloN R m i m = true := h1.elim id (·.1)
      have b : cloN R m m j = true := h2.elim id (·.2)
      exact .inr ⟨a, b⟩
    · have hk : m < k := by omega
      rcases h1 with h1 | ⟨h1, h1'⟩ <;> rcases h2 with h2 | ⟨h2, h2'⟩
      · exact .inl (T i j m hk h1 h2)
      · exact .inr ⟨T i k m hk h1 h2, h2'⟩
      · exact .inr ⟨h1, T k j m hk h1' h2⟩
      · exact .inr ⟨h1, h2'⟩
theorem leB_trans {n : Nat} {os : List (Int × Int)} {a b c : Int} (h1 : leB n (latR n os) a b = true) (h2 : leB n (latR n os) b c = true) : leB n (latR n os) a c = true := by
  unfold leB at *
  simp only [Bool.and_eq_true, decide_eq_true_eq] at *
  refine ⟨h1.1, h2.2.1, cloN_trans _ _ _ _ b.toNat ?_ h1.2.2 h2.2.2⟩
  have := h2.1.1
  have := h2.1.2
  omega
theorem SliceOf.later {w w' : World} {k : IntKind} {v : Value} {xs : List Int} (h : SliceOf w k v xs) (hw : Below w.heap.size w w') : SliceOf w' k v xs := by
  obtain ⟨a, n, cap, rfl, hl, hc⟩ := h
  refine ⟨a, n, cap, rfl, hl, fun i hi => ?_⟩
  obtain ⟨b, off, rfl, hx⟩ := hc i hi
  exact ⟨b, off, rfl, cell_later hw hx⟩
theorem two_nums {w w' : World} (h : w' = w.alloc (.cells #[.int .i64 0, .int .i64 1] 3)) : SliceOf w' .i64 (.slice (some ⟨w.heap.size, 0, none⟩) 2 2) [0, 1] := by
  subst h
  exact sliceOf_new w .i64 3 [0, 1] 2
theorem twin_two : varN 2 (latR 2 [(0, 1)]) 0 [0, 1] 2 = 3 ∧ varE 2 0 [0, 1] 2 = 0 ∧ varN 2 (latR 2 [(0, 1)]) 0 [0, 1] 4 = 4 ∧ varE 2 0 [0, 1] 4 = 0 := by decide
set_option maxRecDepth 100000 in
theorem awake35_any (w : World) (hT : TabOk w) : Calls Tryd.prog 7 #[] w fun e w' => e = .returned (.bool true) ∧ Below w.heap.size w w' := by
  have H1 := Lib.hid (two_any w hT)
  clear hT
  go_enter Tryd.func7, Tryd.ntmps7
  go_wp2_with fail
  go_at_call 16
  refine H1.out.mono ?_
  rintro e w1 ⟨lb, rfl, hl, hb⟩
  have HL := Lib.hid hl; have HB := Lib.hid hb
  clear hl hb H1
  go_wp2_with fail
  go_at_call 9
  refine (tvar_any (HL.out.later (below_new _ _)) 0 (two_nums rfl) 2).mono ?_
  rintro e w2 ⟨rfl, rfl⟩
  rw [twin_two.1, twin_two.2.1]
  have HB2 := Lib.hid (HB.out.trans ((below_new w1 (.cells #[.int .i64 0, .int .i64 1] 3)).mono HB.out.size))
  have HL2 := Lib.hid (HL.out.later (below_new w1 (.cells #[.int .i64 0, .int .i64 1] 3)))
  obtain ⟨w2, hw2⟩ : ∃ w2, w1.alloc (.cells #[.int .i64 0, .int .i64 1] 3) = w2 := ⟨_, rfl⟩
  rw [hw2] at HB2 HL2 ⊢
  clear hw2 HB HL
  go_wp2_with fail
  go_at_call 9
  refine (tvar_any (HL2.out.later (below_new _ _)) 0 (two_nums rfl) 4).mono ?_
  rintro e w3 ⟨rfl, rfl⟩
  rw [twin_two.2.2.1, twin_two.2.2.2]
  have HB3 := Lib.hid (HB2.out.trans ((below_new w2 (.cells #[.int .i64 0, .int .i64 1] 3)).mono HB2.out.size))
  obtain ⟨w3, hw3⟩ : ∃ w3, w2.alloc (.cells #[.int .i64 0, .int .i64 1] 3) = w3 := ⟨_, rfl⟩
  rw [hw3] at HB3 ⊢
  clear hw3 HB2 HL2
  go_wp2
  go_ret
  exact ⟨rfl, HB3.out⟩
theorem ofR_or (n : Nat) (R : Rel) (level : Int) (ls : List Int) (v : Int) : ofR n R level ls v = v ∨ ofR n R level ls v = v + 1 := by unfold ofR; split <;> simp
/-- What TwinApart says of the three twins. -/
theorem apart_plain {n : Nat} {os : List (Int × Int)} {lo hi : Int} {ls : List Int} {x : Nat} (h : leB n (latR n os) lo hi = true) (h1 : ofR n (latR n os) lo ls (2 * (x : Int)) = 2 * (x : Int)) : ofR n (latR n os) hi ls (2 * (x : Int)) = 2 * (x : Int) := by
  unfold ofR at h1 ⊢
  split at h1
  · rename_i h2
    rw [if_pos (leB_trans h2 h)]
  · omega
set_option maxRecDepth 100000 in
theorem twinApart_walk (nI lo hi : Int) (v1 v4 : Value) (x y : Int) (w : World) (hT : TabOk w) (os : List (Int × Int)) (hv : PairsOf w v1 os) (hn : os.length ≤ 9223372036854775807)
    (ls : List Int) (hs : SliceOf w .i64 v4 ls) (_hls : ls.length ≤ 9223372036854775807) (hx : 0 ≤ x ∧ x ≤ 65535) (hy : 0 ≤ y ∧ y ≤ 65535) :
    Calls Tryd.prog 3 #[.int .i64 nI, v1, .int .i64 lo, .int .i64 hi, v4, .int .u16 x, .int .u16 y] w fun e w' => e = .returned (.bool true) ∧ Below w.heap.size w w' := by
  have H2 := Lib.hid (lattices_any (Below.refl _ w) nI v1 os hv hn hT)
  obtain ⟨a1, n1, c1, rfl, hol, -⟩ := hv
  have HS := Lib.hid hs
  obtain ⟨a4, n4, c4, rfl, hol4, -⟩ := hs.parts
  have H1 := Lib.hid (few_any w a1 a4 n1 c1 n4 c4)
  obtain ⟨x, rfl⟩ := Int.eq_ofNat_of_zero_le hx.1
  obtain ⟨y, rfl⟩ := Int.eq_ofNat_of_zero_le hy.1
  have HX := Lib.hid (show x ≤ 65535 ∧ y ≤ 65535 by omega)
  have HT := Lib.hid hT
  clear hx hy hs hn hT
  by_cases hf : n1 ≤ 30 ∧ n4 ≤ 40
  · rw [decide_eq_true hf] at H1
    clear hf
    by_cases he : latE nI os = 0
    · replace H2 := Lib.hid (H2.out.mono fun e w' h => h.1 he)
      clear he
      have HOS := Lib.hid hol
      clear hol
      go_enter Tryd.func3, Tryd.ntmps3
      go_wp2_with fail
      go_at_call 6
      refine H1.out.mono ?_
      rintro e w1 ⟨rfl, rfl⟩
      go_wp2_with fail
      go_at_call 8
      refine H2.out.mono ?_
      rintro e w1 ⟨lb, xb, rfl, hl, -, hb⟩
      have HL := Lib.hid hl; have HB := Lib.hid hb
      have HA := Lib.hid (awake35_any w1 (HT.out.later hb))
      obtain ⟨n, hn⟩ : ∃ n, nI.toNat = n := ⟨_, rfl⟩
      rw [hn] at hl
      have hs1 := HS.out.later hb
      have hA1 : IntKind.i64.wrap (2 * (x : Int)) = 2 * (x : Int) := by have := HX.out; simp [IntKind.wrap, IntKind.bits, IntKind.signed]; omega
      have hA2 : IntKind.i64.wrap (2 * (y : Int)) = 2 * (y : Int) := by have := HX.out; simp [IntKind.wrap, IntKind.bits, IntKind.signed]; omega
      have hA3 : IntKind.i64.wrap ((x : Int)) = (x : Int) := by have := HX.out; simp [IntKind.wrap, IntKind.bits, IntKind.signed]; omega
      have hA4 : IntKind.i64.wrap ((y : Int)) = (y : Int) := by have := HX.out; simp [IntKind.wrap, IntKind.bits, IntKind.signed]; omega
      have hA5 : IntKind.i64.wrap (2 * (x : Int) + 1) = 2 * (x : Int) + 1 := by have := HX.out; simp [IntKind.wrap, IntKind.bits, IntKind.signed]; omega
      have V1 := Lib.hid (tvar_any hl lo hs1 (2 * (x : Int)))
      have V2 := Lib.hid (tvar_any hl lo hs1 (2 * (y : Int)))
      have V3 := Lib.hid (tvar_any hl hi hs1 (2 * (x : Int)))
      have HLE := Lib.hid (lle_any hl lo hi)
      have hE : ∀ (l : Int) (z : Nat), z ≤ 65535 → varE n l ls (2 * (z : Int)) = mayE n l ls := fun l z hz => by
        unfold varE
        rcases may_cases n l ls with h | h
        · rw [if_neg (by omega), if_neg (by omega), if_neg (by omega), h]
        · rw [if_pos (by omega), h]
      have hN : ∀ (l : Int) (z : Nat), z ≤ 65535 → varN n (latR n os) l ls (2 * (z : Int)) = if mayE n l ls = 0 then ofR n (latR n os) l ls (2 * (z : Int)) else 0 := fun l z hz => by
        unfold varN
        rw [hE l z hz]
      have hX := HX.out
      rw [hE lo x hX.1, hN lo x hX.1] at V1
      rw [hE lo y hX.2, hN lo y hX.2] at V2
      rw [hE hi x hX.1, hN hi x hX.1] at V3
      clear hl hb hs1 hE hN hX HX HL HS HT
      rcases may_cases n lo ls with hm | hm
      · rw [hm, if_pos rfl] at V1 V2
        rcases may_cases n hi ls with hm3 | hm3
        · rw [hm3, if_pos rfl] at V3
          clear hm hm3
          have hP := fun h => apart_plain (n := n) (os := os) (lo := lo) (hi := hi) (ls := ls) (x := x) h
          have o1 := ofR_or n (latR n os) lo ls (2 * (x : Int))
          have o2 := ofR_or n (latR n os) lo ls (2 * (y : Int))
          have hxy : x = y → ofR n (latR n os) lo ls (2 * (x : Int)) = ofR n (latR n os) lo ls (2 * (y : Int)) := fun h => by rw [h]
          obtain ⟨X, hX⟩ : ∃ X, ofR n (latR n os) lo ls (2 * (x : Int)) = X := ⟨_, rfl⟩
          obtain ⟨Y, hY⟩ : ∃ Y, ofR n (latR n os) lo ls (2 * (y : Int)) = Y := ⟨_, rfl⟩
          obtain ⟨Z, hZ⟩ : ∃ Z, ofR n (latR n os) hi ls (2 * (x : Int)) = Z := ⟨_, rfl⟩
          obtain ⟨B, hB⟩ : ∃ B, leB n (latR n os) lo hi = B := ⟨_, rfl⟩
          rw [hX] at V1 hP o1 hxy; rw [hY] at V2 o2 hxy; rw [hZ] at V3 hP; rw [hB] at HLE hP
          have HP := Lib.hid hP; have HO2 := Lib.hid o2; have HXY := Lib.hid hxy
          clear hP o2 hxy hX hY hZ hB
          go_wp2_with fail
          go_at_call 9
          refine V1.out.mono ?_
          rintro e w2 ⟨rfl, rfl⟩
          go_wp2_with fail
          go_at_call 9
          refine V2.out.mono ?_
          rintro e w2 ⟨rfl, rfl⟩
          go_wp2_with fail
          go_at_call 9
          refine V3.out.mono ?_
          rintro e w2 ⟨rfl, rfl⟩
          clear V1 V2 V3
          by_cases hxy : x = y
          · subst hxy
            obtain rfl := HXY.out rfl
            clear HXY HO2
            rcases o1 with rfl | rfl
            · cases B with
              | false =>
                go_wp2_with fail
                go_at_call 10
                refine HLE.out.mono ?_
                rintro e w2 ⟨rfl, rfl⟩
                go_wp2_with fail
                go_at_call 7
                refine HA.out.mono ?_
                rintro e w2 ⟨rfl, hb⟩
                have HB2 := Lib.hid (HB.out.trans (hb.mono HB.out.size))
                clear hb
                go_wp2
                go_ret
                exact ⟨rfl, HB2.out⟩
              | true =>
                obtain rfl : Z = 2 * (x : Int) := HP.out rfl rfl
                go_wp2_with fail
                go_at_call 10
                refine HLE.out.mono ?_
                rintro e w2 ⟨rfl, rfl⟩
                go_wp2_with fail
                go_at_call 7
                refine HA.out.mono ?_
                rintro e w2 ⟨rfl, hb⟩
                have HB2 := Lib.hid (HB.out.trans (hb.mono HB.out.size))
                clear hb
                go_wp2
                go_ret
                exact ⟨rfl, HB2.out⟩
            · have hne : ¬ 2 * (x : Int) + 1 = 2 * (x : Int) := by omega
              cases B with
              | false =>
                go_wp2_with fail
                go_at_call 10
                refine HLE.out.mono ?_
                rintro e w2 ⟨rfl, rfl⟩
                go_wp2_with fail
                go_at_call 7
                refine HA.out.mono ?_
                rintro e w2 ⟨rfl, hb⟩
                have HB2 := Lib.hid (HB.out.trans (hb.mono HB.out.size))
                clear hb
                go_wp2
                go_ret
                exact ⟨rfl, HB2.out⟩
              | true =>
                go_wp2_with fail
                go_at_call 10
                refine HLE.out.mono ?_
                rintro e w2 ⟨rfl, rfl⟩
                go_wp2_with fail
                go_at_call 7
                refine HA.out.mono ?_
                rintro e w2 ⟨rfl, hb⟩
                have HB2 := Lib.hid (HB.out.trans (hb.mono HB.out.size))
                clear hb
                go_wp2
                go_ret
                exact ⟨rfl, HB2.out⟩
          · have q1 : ¬ (x : Int) = (y : Int) := by omega
            have q2 : ¬ 2 * (x : Int) = 2 * (y : Int) := by omega
            have q3 : ¬ X = Y := by have := HO2.out; omega
            clear HXY HO2 hxy
            rcases o1 with rfl | rfl
            · have q4 := beq_eq_false_iff_ne.2 q3
              clear q3
              cases B with
              | false =>
                go_wp2_with fail
                go_at_call 10
                refine HLE.out.mono ?_
                rintro e w2 ⟨rfl, rfl⟩
                go_wp2_with fail
                go_at_call 7
                refine HA.out.mono ?_
                rintro e w2 ⟨rfl, hb⟩
                have HB2 := Lib.hid (HB.out.trans (hb.mono HB.out.size))
                clear hb
                go_wp2
                go_ret
                exact ⟨rfl, HB2.out⟩
              | true =>
                obtain rfl : Z = 2 * (x : Int) := HP.out rfl rfl
                go_wp2_with fail
                go_at_call 10
                refine HLE.out.mono ?_
                rintro e w2 ⟨rfl, rfl⟩
                go_wp2_with fail
                go_at_call 7
                refine HA.out.mono ?_
                rintro e w2 ⟨rfl, hb⟩
                have HB2 := Lib.hid (HB.out.trans (hb.mono HB.out.size))
                clear hb
                go_wp2
                go_ret
                exact ⟨rfl, HB2.out⟩
            · have q4 := beq_eq_false_iff_ne.2 q3
              clear q3
              have hne : ¬ 2 * (x : Int) + 1 = 2 * (x : Int) := by omega
              cases B with
              | false =>
                go_wp2_with fail
                go_at_call 10
                refine HLE.out.mono ?_
                rintro e w2 ⟨rfl, rfl⟩
                go_wp2_with fail
                go_at_call 7
                refine HA.out.mono ?_
                rintro e w2 ⟨rfl, hb⟩
                have HB2 := Lib.hid (HB.out.trans (hb.mono HB.out.size))
                clear hb
                go_wp2
                go_ret
                exact ⟨rfl, HB2.out⟩
              | true =>
                go_wp2_with fail
                go_at_call 10
                refine HLE.out.mono ?_
                rintro e w2 ⟨rfl, rfl⟩
                go_wp2_with fail
                go_at_call 7
                refine HA.out.mono ?_
                rintro e w2 ⟨rfl, hb⟩
                have HB2 := Lib.hid (HB.out.trans (hb.mono HB.out.size))
                clear hb
                go_wp2
                go_ret
                exact ⟨rfl, HB2.out⟩
        · rw [hm3, if_neg (by decide)] at V3
          clear hm hm3
          obtain ⟨X, hX⟩ : ∃ X, ofR n (latR n os) lo ls (2 * (x : Int)) = X := ⟨_, rfl⟩
          obtain ⟨Y, hY⟩ : ∃ Y, ofR n (latR n os) lo ls (2 * (y : Int)) = Y := ⟨_, rfl⟩
          rw [hX] at V1; rw [hY] at V2
          clear hX hY
          go_wp2_with fail
          go_at_call 9
          refine V1.out.mono ?_
          rintro e w2 ⟨rfl, rfl⟩
          go_wp2_with fail
          go_at_call 9
          refine V2.out.mono ?_
          rintro e w2 ⟨rfl, rfl⟩
          go_wp2_with fail
          go_at_call 9
          refine V3.out.mono ?_
          rintro e w2 ⟨rfl, rfl⟩
          clear V1 V2 V3
          go_wp2_with fail
          go_at_call 7
          refine HA.out.mono ?_
          rintro e w2 ⟨rfl, hb⟩
          have HB2 := Lib.hid (HB.out.trans (hb.mono HB.out.size))
          clear hb
          go_wp2
          go_ret
          exact ⟨rfl, HB2.out⟩
      · rw [hm, if_neg (by decide)] at V1 V2
        clear hm
        obtain ⟨Z, hZ⟩ : ∃ Z, (if mayE n hi ls = 0 then ofR n (latR n os) hi ls (2 * (x : Int)) else 0) = Z := ⟨_, rfl⟩
        obtain ⟨M, hM⟩ : ∃ M, mayE n hi ls = M := ⟨_, rfl⟩
        rw [hZ, hM] at V3
        clear hZ hM
        go_wp2_with fail
        go_at_call 9
        refine V1.out.mono ?_
        rintro e w2 ⟨rfl, rfl⟩
        go_wp2_with fail
        go_at_call 9
        refine V2.out.mono ?_
        rintro e w2 ⟨rfl, rfl⟩
        go_wp2_with fail
        go_at_call 9
        refine V3.out.mono ?_
        rintro e w2 ⟨rfl, rfl⟩
        clear V1 V2 V3
        go_wp2_with fail
        go_at_call 7
        refine HA.out.mono ?_
        rintro e w2 ⟨rfl, hb⟩
        have HB2 := Lib.hid (HB.out.trans (hb.mono HB.out.size))
        clear hb
        go_wp2
        go_ret
        exact ⟨rfl, HB2.out⟩
    · replace H2 := Lib.hid (H2.out.mono fun e w' h => h.2 he)
      clear he HX HS
      have HOS := Lib.hid hol
      clear hol hol4
      go_enter Tryd.func3, Tryd.ntmps3
      go_wp2_with fail
      go_at_call 6
      refine H1.out.mono ?_
      rintro e w1 ⟨rfl, rfl⟩
      go_wp2_with fail
      go_at_call 8
      refine H2.out.mono ?_
      rintro e w1 ⟨rfl, hb⟩
      have HB := Lib.hid hb
      have HA := Lib.hid (awake35_any w1 (HT.out.later hb))
      clear hb
      go_wp2_with fail
      go_at_call 7
      refine HA.out.mono ?_
      rintro e w2 ⟨rfl, hb⟩
      have HB2 := Lib.hid (HB.out.trans (hb.mono HB.out.size))
      clear hb
      go_wp2
      go_ret
      exact ⟨rfl, HB2.out⟩
  · rw [decide_eq_false hf] at H1
    clear hf H2 hol hol4
    go_enter Tryd.func3, Tryd.ntmps3
    go_wp2_with fail
    go_at_call 6
    refine H1.out.mono ?_
    rintro e w1 ⟨rfl, rfl⟩
    have HA := Lib.hid (awake35_any w HT.out)
    go_wp2_with fail
    go_at_call 7
    refine HA.out.mono ?_
    rintro e w1 ⟨rfl, hb⟩
    have HB := Lib.hid hb
    clear hb
    go_wp2
    go_ret
    exact ⟨rfl, HB.out⟩
end Go.Proofs.YtmfendfpjpbhdaaDoor
