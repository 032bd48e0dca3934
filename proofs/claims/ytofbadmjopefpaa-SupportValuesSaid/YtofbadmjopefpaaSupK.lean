/- SupportValues. -/
import Derived.Test.YtofbadmjopefpaaSupJ
import Derived.Test.YtofbadmjopefpaaSupH
import Derived.Test.YtofbadmjopefpaaEvalC
import Derived.WideKeyArr2
namespace Go.Proofs.Ytofbadmjopefpaa
open Go.RowKit Go.Maps
set_option maxHeartbeats 6400000

theorem list6 (cs : List Value) (h : cs.length = 6) : ∃ c0 c1 c2 c3 c4 c5, cs = [c0, c1, c2, c3, c4, c5] := by
  match cs, h with
  | [c0, c1, c2, c3, c4, c5], _ => exact ⟨_, _, _, _, _, _, rfl⟩
set_option maxRecDepth 100000 in
/-- What a law's frame tells of an array of six numbers. -/
theorem six_of_trod {H : Type} {enc : TypeId × Value → H} {w : World} {base : Nat} {v : Value} {d : DataW H} {p : List MemPlace}
    (h : DataW.Trod enc Try.prog w 0 (fun _ => true) true 64 v d p) (o : Value.okWide Try.prog w .any base 64 v) :
    ∃ x0 x1 x2 x3 x4 x5 : Int, v = .agg #[.int .u64 x0, .int .u64 x1, .int .u64 x2, .int .u64 x3, .int .u64 x4, .int .u64 x5] ∧ U64s [x0, x1, x2, x3, x4, x5] := by
  obtain ⟨⟨cs⟩, rfl, hsz⟩ := Go.WideMaps.okWide_arr (n := 6) (e := 42) ⟨Try.underlying64, by kernel_rfl, by kernel_rfl, by kernel_rfl⟩ o
  obtain ⟨fuel, hf0⟩ := h
  replace hf0 : DataW.trod enc Try.prog w 0 (fun _ => true) true fuel 64 cs = some (d, p) := hf0
  obtain ⟨ys, m, _, _, hl, hyl, hf⟩ := DataW.trod_array Try.underlying64 hf0
  have h6 : cs.length = 6 := by simpa using hsz
  have h1 : Try.prog.cellsOf 42 = 1 := by kernel_rfl
  obtain ⟨c0, c1, c2, c3, c4, c5, rfl⟩ := list6 cs h6
  have at_ : ∀ i c, i < 6 → (([c0, c1, c2, c3, c4, c5].drop (i * 1)).take 1) = [c] → ∃ x : Int, c = .int .u64 x ∧ 0 ≤ x ∧ x ≤ 18446744073709551615 := by
    intro i c hi e
    obtain ⟨y, ey⟩ : ∃ y, ys[i]? = some y := ⟨_, List.getElem?_eq_getElem (by rw [hyl]; exact hi)⟩
    have g := hf i hi
    rw [h1, ey, e] at g
    obtain ⟨n0, q0, _, hw⟩ := DataW.trod_int Try.underlying42 g
    simp only [List.cons.injEq, and_true] at q0
    have hw2 := u64s_of (xs := [n0]) (fun y hy => by rw [List.mem_singleton.1 hy]; exact hw) n0 (by simp)
    exact ⟨n0, q0, hw2.1, hw2.2⟩
  obtain ⟨x0, rfl, a0⟩ := at_ 0 _ (by decide) rfl
  obtain ⟨x1, rfl, a1⟩ := at_ 1 _ (by decide) rfl
  obtain ⟨x2, rfl, a2⟩ := at_ 2 _ (by decide) rfl
  obtain ⟨x3, rfl, a3⟩ := at_ 3 _ (by decide) rfl
  obtain ⟨x4, rfl, a4⟩ := at_ 4 _ (by decide) rfl
  obtain ⟨x5, rfl, a5⟩ := at_ 5 _ (by decide) rfl
  refine ⟨x0, x1, x2, x3, x4, x5, rfl, fun x hx => ?_⟩
  simp only [List.mem_cons, List.not_mem_nil, or_false] at hx
  rcases hx with rfl | rfl | rfl | rfl | rfl | rfl <;> assumption
/-- What a variable is worth. -/
def varV (W : Nat) (vals : List Int) (n : Nat) : Int := if n < vals.length then (((vals.getD n 0).toNat % 2 ^ W : Nat) : Int) else 0
/-- Values hang on the variables that occur alone. -/
theorem val_local {W : Nat} {L : List PNode} (hwf : WFL L) {vs ch : List Int} {occ : Int → Bool} (h : ∀ (j : Nat) nd, occ j = true → L[j]? = some nd → (nd.1 = 1 → varV W vs nd.2.1 = varV W ch nd.2.1) ∧ ∀ a ∈ nd.2.2, occ a = true) :
    ∀ (m j : Nat), j < m → occ j = true → val W vs L j = val W ch L j
  | 0, _, hj, _ => by omega
  | m + 1, j, hj, ho => by
    cases hi : L[j]? with
    | none => 
      unfold val
      rw [List.getD_eq_getElem?_getD, List.getD_eq_getElem?_getD, List.getElem?_eq_none (by rw [valsL_len]; exact List.getElem?_eq_none_iff.1 hi), List.getElem?_eq_none (by rw [valsL_len]; exact List.getElem?_eq_none_iff.1 hi)]
    | some nd =>
      obtain ⟨h1, h2⟩ := h j nd ho hi
      rw [val_at hwf hi, val_at hwf hi]
      unfold valN
      split
      · rfl
      · split
        · exact h1 (by assumption)
        · congr 1
          refine List.map_congr_left fun a ha => ?_
          have h3 := hwf.args j nd hi a ha
          obtain ⟨z, rfl⟩ := Int.eq_ofNat_of_zero_le h3.1
          rw [Int.toNat_natCast]
          exact val_local hwf h m z (by omega) (h2 _ ha)
theorem Lab.eval14 {w0 wr : World} {ts : List Thing} {F I : List Nat} {gb W room : Nat} {L : List PNode} (h : Lab w0 wr (Thing.graph F I gb W room L :: ts)) (t : Nat) (ht : t < L.length) (vals : List Int) (vv : Value) (hvv : SliceOf wr .u64 vv vals) (hvl : vals.length ≤ 9223372036854775807) (hvu : U64s vals) {v : Int} (hv : val W vals L t = v) :
    Calls Try.prog 28 #[.pointer (some ⟨gb, 0, none⟩), .int .i64 t, vv] wr fun e w' => e = .returned (.tuple #[.int .u64 v, .int .i64 0]) ∧ Lab w0 w' (Thing.graph F I gb W room L :: ts) := by
  have hc := eval_any h.gr (t : Int) vals vv hvv hvl hvu
  have e : evalR W vals L (t : Int) = (v, 0) := by unfold evalR; rw [if_pos ⟨by omega, by omega⟩, Int.toNat_natCast, hv]
  rw [e] at hc
  exact hc.mono fun e w' ⟨he, hb⟩ => ⟨he, h.later hb⟩
/-- Values that agree on the variables that occur. -/
theorem values_same {W : Nat} {L : List PNode} (hw : WFL L) {vs ch : List Int} {t : Nat} (hl : vs.length = ch.length) (h : ∀ x ∈ varsO L (occS L [(t : Int)]), vs.getD x.toNat 0 = ch.getD x.toNat 0) : val W vs L t = val W ch L t := by
  refine val_local hw (occ := seenF (occS L [(t : Int)])) (fun j nd hj hn => ⟨fun h1 => ?_, fun a ha => ?_⟩) (t + 1) t (by omega) ?_
  · rw [seenF_at] at hj
    have hx := h (nd.2.1 : Int) (mem_varsO.2 ⟨j, nd, hj, hn, h1, rfl⟩)
    rw [Int.toNat_natCast] at hx
    unfold varV
    rw [hl, hx]
  · rw [seenF_at] at hj
    have h1 := hw.args j nd hn a ha
    obtain ⟨z, rfl⟩ := Int.eq_ofNat_of_zero_le h1.1
    rw [seenF_at]
    have := occS_args hw hj (z : Int) (by rw [argsOf_at hn]; exact ha)
    rwa [Int.toNat_natCast] at this
  · rw [seenF_at]; exact occS_start (t := (t : Int)) (by simp)
theorem box_cell {w : World} {b T i : Nat} {xs : List Int} {x : Int} (h : w.heap[b]? = some (.cells (xs.map (Value.int .u64)).toArray T (0, 0))) (hx : xs[i]? = some x) : w.cell? ⟨b, i, none⟩ = some (.int .u64 x) := by
  rw [cell_of_row w b i _ _ _ h]
  simp [hx]
set_option maxRecDepth 100000 in
theorem supportValues_walk {w : World} (Wi ti : Int) (v : Value) (qs : List PAsk) (hv : AsksOf w v qs) (hq : qs.length ≤ 9223372036854775807) (x0 x1 x2 x3 x4 x5 : Int) (hu : U64s [x0, x1, x2, x3, x4, x5]) (y0 y1 y2 y3 y4 y5 : Int) (hu2 : U64s [y0, y1, y2, y3, y4, y5]) :
    Calls Try.prog 9 #[.int .i64 Wi, v, .int .i64 ti, .agg #[.int .u64 x0, .int .u64 x1, .int .u64 x2, .int .u64 x3, .int .u64 x4, .int .u64 x5], .agg #[.int .u64 y0, .int .u64 y1, .int .u64 y2, .int .u64 y3, .int .u64 y4, .int .u64 y5]] w fun e w' => e = .returned (.bool true) ∧ Below w.heap.size w w' := by
  obtain ⟨W, hW⟩ : ∃ W, (Wi % 64).toNat + 1 = W := ⟨_, rfl⟩
  have hW1 : 1 ≤ W := by omega
  obtain ⟨p, hp⟩ : ∃ p, w.heap.size = p := ⟨_, rfl⟩
  have hl0 := ((Lab.nil (Below.refl w.heap.size w)).alloc #[.int .u64 x0, .int .u64 x1, .int .u64 x2, .int .u64 x3, .int .u64 x4, .int .u64 x5] 64).alloc #[.int .u64 y0, .int .u64 y1, .int .u64 y2, .int .u64 y3, .int .u64 y4, .int .u64 y5] 64
  rw [show (w.alloc (.cells #[.int .u64 x0, .int .u64 x1, .int .u64 x2, .int .u64 x3, .int .u64 x4, .int .u64 x5] 64)).heap.size = w.heap.size + 1 by simp, hp] at hl0
  obtain ⟨vals, hvals⟩ : ∃ vals, [x0, x1, x2, x3, x4, x5] = vals := ⟨_, rfl⟩
  obtain ⟨os, hos⟩ : ∃ os, [y0, y1, y2, y3, y4, y5] = os := ⟨_, rfl⟩
  have hv6 : vals.length = 6 := by rw [← hvals]; rfl
  have ho6 : os.length = 6 := by rw [← hos]; rfl
  rw [hvals] at hu
  rw [hos] at hu2
  have HV := Lib.hid (And.intro hv hq); have HL1 := Lib.hid hl0.swap; have HVS := Lib.hid hvals; have HOS := Lib.hid hos; have HU := Lib.hid (And.intro hv6 hu); have HU2 := Lib.hid (And.intro ho6 hu2); have HW := Lib.hid hW
  clear hv hq hl0 hu hu2 hvals hos hv6 ho6 hW
  go_enter Try.func9, Try.ntmps9
  go_upto_region 1 with fail
  clear hp
  refine wp_abs (fun w1 => Lab w w1 [Thing.box p 64 (vals.map (Value.int .u64)).toArray, Thing.box (p + 1) 64 (os.map (Value.int .u64)).toArray]) (by rw [← HVS.out, ← HOS.out]; exact HL1.out) ?_
  clear HL1 HVS HOS
  rintro w1 hl1
  have hfill := hl1.fill Wi v qs HV.out.1 HV.out.2
  rw [HW.out] at hfill
  have HF := Lib.hid hfill
  clear hfill hl1
  go_wp2_with fail
  go_at_call 21
  refine HF.out.mono ?_
  rintro e w2 ⟨gb, F, I, a', m, c, L, hL, hG, hVL, rfl, hlab⟩
  have HG := Lib.hid hG; have HVL := Lib.hid hVL; have HL2 := Lib.hid hlab; have HWF := Lib.hid hlab.gr.wf; have HLEN := Lib.hid (len_any hlab.gr)
  have hW2 : W ≤ 64 := hlab.gr.w2
  clear hG hVL hlab HF HV
  by_cases hL0 : L.length = 0
  · have hL0' : (((L.length : Nat) : Int) == 0) = true := by rw [beq_iff_eq]; omega
    have HAW := Lib.hid HL2.out.awake14
    clear hL0
    go_wp2_with (go_at_call 25; refine HLEN.out.mono ?_; rintro e w3 ⟨rfl, rfl⟩)
    go_at_call 15
    refine HAW.out.mono ?_
    rintro e w3 ⟨rfl, hb⟩
    go_wp2
    go_ret
    exact ⟨rfl, hb⟩
  · have hL0' : (((L.length : Nat) : Int) == 0) = false := by rw [beq_eq_false_iff_ne]; omega
    have hq0 := Int.emod_nonneg ti (show (L.length : Int) ≠ 0 by omega)
    have hq1 := Int.emod_lt_of_pos ti (show (0 : Int) < (L.length : Int) by omega)
    obtain ⟨z, hz⟩ := Int.eq_ofNat_of_zero_le hq0
    have hzL : z < L.length := by omega
    obtain ⟨X, hX⟩ : ∃ X, varsO L (occS L [(z : Int)]) = X := ⟨_, rfl⟩
    have hxl := varsO_len (L := L) (S := occS L [(z : Int)])
    rw [hX] at hxl
    have hxin : ∀ x ∈ X, 0 ≤ x ∧ x < 6 := fun x hx => by
      rw [← hX] at hx
      obtain ⟨j, nd, -, hn, h1, rfl⟩ := mem_varsO.1 hx
      have := HVL.out nd (List.mem_of_getElem? hn) h1
      omega
    have hmod : ∀ wx, Calls Try.prog 27 #[.int .i64 ti, .int .i64 L.length] wx fun e w' => e = .returned (.int .i64 (z : Int)) ∧ wx = w' := fun wx => by
      rw [← hz]; exact mod_any ti (L.length : Int) (by omega) (by omega) wx
    have HMOD := Lib.hid hmod; have HX := Lib.hid hX; have HXIN := Lib.hid hxin
    clear hq0 hq1 hz hmod hX hxin
    go_wp2_with (first | (go_at_call 25; refine HLEN.out.mono ?_; rintro e w3 ⟨rfl, rfl⟩) | (go_at_call 27; refine (HMOD.out _).mono ?_; rintro e w3 ⟨rfl, rfl⟩))
    go_at_call 13
    refine (HL2.out.vars_one HG.out hzL HX.out).mono ?_
    rintro e w3 ⟨a3, c3, rfl, hl3⟩
    have HL3 := Lib.hid hl3
    clear hl3 HL2 HLEN HMOD
    go_wp2
    go_loopw [15] (fun i wx => ∃ k : Nat, k ≤ X.length ∧ i = .int .i64 k ∧ ∃ ys, ys.length = 6 ∧ U64s ys ∧ (∀ j x, j < k → X[j]? = some x → ys.getD x.toNat 0 = vals.getD x.toNat 0) ∧ Lab w wx [Thing.ints (.slice a3 X.length c3) X, Thing.graph F I gb W 1048576 L, Thing.box p 64 (vals.map (Value.int .u64)).toArray, Thing.box (p + 1) 64 (ys.map (Value.int .u64)).toArray]) (fun i _ => X.length - (intOf i).toNat)
    case atStart => exact ⟨0, by omega, rfl, os, HU2.out.1, HU2.out.2, fun j x hj => by omega, HL3.out⟩
    case round =>
      obtain ⟨k, hk, rfl, ys, hy6, hyu, hyv, hl⟩ := hrel
      clear HL3
      by_cases hlt : k < X.length
      · have hlt' : (k : Int) < (X.length : Int) := by omega
        have hown : OwnInts wr 0 3 .i64 (.slice a3 X.length c3) X := hl.ints
        obtain ⟨g, cap, e⟩ := own_some' hown (by intro e; rw [e] at hlt; simp at hlt)
        simp only [Value.slice.injEq] at e
        obtain ⟨rfl, -, rfl⟩ := e
        obtain ⟨x, hx⟩ : ∃ x, X[k]? = some x := ⟨_, List.getElem?_eq_getElem hlt⟩
        have d1 := (OwnInts.slice hown).at hx
        rw [Nat.zero_add] at d1
        obtain ⟨hx0, hx6⟩ := HXIN.out x (List.mem_of_getElem? hx)
        obtain ⟨n, rfl⟩ := Int.eq_ofNat_of_zero_le hx0
        have hx1 : ¬ (n : Int) < 0 := by omega
        have hx2 : ¬ (5 : Int) < (n : Int) := by omega
        obtain ⟨y, hy⟩ : ∃ y, vals[n]? = some y := ⟨_, List.getElem?_eq_getElem (by have := HU.out.1; omega)⟩
        have d2 : wr.cell? ⟨p, n, none⟩ = some (.int .u64 y) := box_cell hl.third hy
        obtain ⟨yo, hyo⟩ : ∃ y, ys[n]? = some y := ⟨_, List.getElem?_eq_getElem (by omega)⟩
        have d4 : wr.cell? ⟨p + 1, n, none⟩ = some (.int .u64 yo) := box_cell hl.fourth hyo
        have d3 := frozen_of_row wr (p + 1) n _ _ hl.fourth
        have hl4 := (hl.later (Below.refl _ _).drew).rot4.store n (.int .u64 y)
        have earr : (ys.map (Value.int .u64)).toArray.setIfInBounds n (.int .u64 y) = ((ys.set n y).map (Value.int .u64)).toArray := by simp
        rw [earr] at hl4
        have HL4 := Lib.hid hl4; have HX1 := Lib.hid hx; have HY1 := Lib.hid hy; have HYS := Lib.hid (And.intro hy6 (And.intro hyu hyv))
        clear hl hown hx hy hl4 hy6 hyu hyv earr
        go_upto_region 15 with fail
        go_still_tail 11, (by kernel_rfl)
        go_wp2
        go_roundw
        case rel =>
          obtain ⟨hy6, hyu, hyv⟩ := HYS.out
          have hym := (HU.out.2) y (List.mem_of_getElem? HY1.out)
          refine ⟨k + 1, by omega, by go_num, ys.set n y, by rw [List.length_set, hy6], fun u hu => ?_, fun j x hj hx => ?_, HL4.out.perm (List.perm_middle (l₁ := [_, _, _])).symm⟩
          · rcases List.mem_or_eq_of_mem_set hu with h1 | rfl
            · exact hyu u h1
            · exact hym
          · by_cases e : x.toNat = n
            · rw [e, List.getD_eq_getElem?_getD, List.getD_eq_getElem?_getD, HY1.out, List.getElem?_set_self (by omega)]
            · rw [List.getD_eq_getElem?_getD, List.getElem?_set_ne (by omega), ← List.getD_eq_getElem?_getD]
              by_cases ej : j = k
              · subst ej
                rw [HX1.out] at hx
                cases hx
                exact absurd (Int.toNat_natCast n) e
              · exact hyv j x (by omega) hx
        case measure => simp [intOf]; omega
      · obtain rfl : k = X.length := by omega
        have hlt' : ¬ (X.length : Int) < (X.length : Int) := by omega
        have hsame : val W ys L z = val W vals L z := values_same HWF.out (hy6.trans HU.out.1.symm) fun x hx => by
          rw [HX.out] at hx
          obtain ⟨j, hj, e⟩ := List.getElem_of_mem hx
          exact hyv j x hj (by rw [List.getElem?_eq_getElem hj, e])
        have hs1 := slice_of_box (k := .u64) (xs := vals) (c := 6) hl.third
        have hs2 := slice_of_box (k := .u64) (xs := ys) (c := 6) hl.fourth
        rw [HU.out.1] at hs1
        rw [hy6] at hs2
        have hev1 := hl.drop.eval14 z hzL vals _ hs1 (by have := HU.out.1; omega) HU.out.2 rfl
        obtain ⟨V, hV⟩ : ∃ V, val W vals L z = V := ⟨_, rfl⟩
        rw [hV] at hev1 hsame
        have HE1 := Lib.hid hev1; have HYS := Lib.hid (And.intro hy6 (And.intro hyu hsame))
        clear hl hy6 hyu hyv hsame hs1 hs2 hev1
        go_wp2_with fail
        go_at_call 28
        refine HE1.out.mono ?_
        rintro e w5 ⟨rfl, hl5⟩
        have hs2 := slice_of_box (k := .u64) (xs := ys) (c := 6) hl5.third
        rw [HYS.out.1] at hs2
        have hev2 := hl5.eval14 z hzL ys _ hs2 (by have := HYS.out.1; omega) HYS.out.2.1 HYS.out.2.2
        have HE2 := Lib.hid hev2
        clear hl5 hs2 hev2 HE1
        go_wp2_with fail
        go_at_call 28
        refine HE2.out.mono ?_
        rintro e w6 ⟨rfl, hl6⟩
        have HAW := Lib.hid hl6.awake14
        clear hl6 HE2
        have qV : (V == V) = true := by simp
        go_wp2_with fail
        go_at_call 15
        refine HAW.out.mono ?_
        rintro e w7 ⟨rfl, hb⟩
        go_wp2
        go_ret
        exact ⟨rfl, hb⟩
end Go.Proofs.Ytofbadmjopefpaa
