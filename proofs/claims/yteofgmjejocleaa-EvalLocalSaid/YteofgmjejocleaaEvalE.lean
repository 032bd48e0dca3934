/- The reference's All and Eval. -/
import Derived.Test.YteofgmjejocleaaEvalD
namespace Go.Proofs.Yteofgmjejocleaa
open Go.RowKit Go.Maps
set_option maxHeartbeats 800000

theorem rall_nil (w : World) (v vv : Value) (hv : ∃ a n c, vv = .slice a n c) : Calls Try.prog 24 #[.pointer none, v, vv] w fun e w' => e = .returned (.tuple #[.slice none 0 0, .int .i64 1]) ∧ w = w' := by
  obtain ⟨a, n, c, rfl⟩ := hv
  go_enter Try.func24, Try.ntmps24
  go_wp2
  go_ret2
  exact ⟨rfl, rfl⟩
theorem rall_any {w : World} {F I : List Nat} {rb W room : Nat} {L : List PNode} (h : RGr w 0 F I rb W room L) (ts vals : List Int) (v vv : Value) (hv : SliceOf w .i64 v ts) (hvv : SliceOf w .u64 vv vals) (hn : ts.length ≤ 900000000) (hvl : vals.length ≤ 9223372036854775807) (hvu : U64s vals) :
    Calls Try.prog 24 #[.pointer (some ⟨rb, 0, none⟩), v, vv] w fun e w' => ∃ a m c, e = .returned (.tuple #[.slice a m c, .int .i64 (allR W vals L ts).2]) ∧ OwnInts w' w.heap.size 25 .u64 (.slice a m c) (allR W vals L ts).1 ∧ Below w.heap.size w w' := by
  obtain ⟨av, nv, cv, rfl, -, -⟩ := hvv.parts
  obtain ⟨a, n, cap, rfl, hln, hcell⟩ := hv.parts
  have hn' : n ≤ 900000000 := by omega
  have hlen : L.length ≤ 1048576 := by have := h.len; have := h.r2; omega
  obtain ⟨R, hR⟩ : ∃ R, allR W vals L ts = R := ⟨_, rfl⟩
  rw [hR]
  have hvals := rvalues_any h vals _ hvv hvl hvu
  have HV := Lib.hid hvals; have HR := Lib.hid h; have HC := Lib.hid hcell; have HLN := Lib.hid hln; have HRR := Lib.hid hR; have HVV := Lib.hid hvv
  clear hvals h hcell hln hR hn hv hvv hvl hvu
  go_enter Try.func24, Try.ntmps24
  go_wp2
  go_loop [8] (fun i => ∃ k : Nat, k ≤ n ∧ i = .int .i64 k ∧ ∀ t ∈ ts.take k, (0 : Int) ≤ t ∧ t < (L.length : Int)) (fun i => n - (intOf i).toNat)
  case atStart => exact ⟨0, by omega, rfl, by simp⟩
  case round =>
    obtain ⟨k, hk, rfl, hall⟩ := hrel
    have HALL := Lib.hid hall
    clear hall
    by_cases hlt : k < n
    · obtain ⟨b, off, t, rfl, hc, ht⟩ := HC.out k hlt
      by_cases hin : 0 ≤ t ∧ t < (L.length : Int)
      · have his : ∀ wx, w = wx → Calls Try.prog 40 #[.pointer (some ⟨rb, 0, none⟩), .int .i64 t] wx fun e w' => e = .returned (.bool true) ∧ wx = w' := fun wx hx => by
          subst hx
          have := rIs_any HR.out t
          rw [show isT L t = true from decide_eq_true (by omega)] at this
          exact this
        have HIS := Lib.hid (his _ rfl); have HT := Lib.hid ht; have HIN := Lib.hid hin
        clear his ht hin
        go_wp2_with (go_at_call 40; refine HIS.out.mono ?_; rintro e w2 ⟨rfl, rfl⟩)
        go_round
        case rel =>
          refine ⟨k + 1, by omega, by go_num, fun u hu => ?_⟩
          rw [← take_snoc' HT.out] at hu
          rcases List.mem_append.1 hu with hu | hu
          · exact HALL.out u hu
          · simp at hu; subst hu; exact HIN.out
        case measure => simp [intOf]; omega
      · have his : ∀ wx, w = wx → Calls Try.prog 40 #[.pointer (some ⟨rb, 0, none⟩), .int .i64 t] wx fun e w' => e = .returned (.bool false) ∧ wx = w' := fun wx hx => by
          subst hx
          have := rIs_any HR.out t
          rw [show isT L t = false from decide_eq_false (by omega)] at this
          exact this
        have hr : R = ([], 3) := by rw [← HRR.out]; exact allR_out fun hA => hin (hA t (List.mem_of_getElem? ht))
        subst hr
        have HIS := Lib.hid (his _ rfl)
        clear his ht hin
        go_wp2_with (go_at_call 40; refine HIS.out.mono ?_; rintro e w2 ⟨rfl, rfl⟩)
        go_ret2
        exact ⟨none, 0, 0, rfl, OwnInts.nil _ _ _ _, Below.refl _ _⟩
    · obtain rfl : k = n := by omega
      rw [List.take_of_length_le (by rw [HLN.out]; exact Nat.le_refl _)] at HALL
      have hr : R = (allV W vals L ts, 0) := by rw [← HRR.out]; exact allR_in HALL.out
      subst hr
      go_wp2_with fail
      go_at_call 41
      refine HV.out.mono ?_
      rintro e w2 ⟨a1, m1, c1, rfl, ho, hb⟩
      have hl0 := ((Lab.nil (Below.refl w.heap.size w)).new_nums hb ho).nil_nums
      have HL0 := Lib.hid hl0
      clear hl0 ho hb
      go_wp2
      go_loopw [10, 11] (fun v i wr => ∃ j : Nat, j ≤ k ∧ i = .int .i64 j ∧ ∃ a2 m2 c2, v = .slice a2 m2 c2 ∧ Lab w wr [Thing.nums (.slice a2 m2 c2) ((allV W vals L ts).take j), Thing.nums (.slice a1 m1 c1) (valsL W vals L)]) (fun _ i _ => k - (intOf i).toNat)
      case atStart => exact ⟨0, by omega, rfl, _, _, _, rfl, HL0.out⟩
      case round =>
        obtain ⟨j, hj, rfl, a2, m2, c2, rfl, hl⟩ := hrel
        by_cases hlt3 : j < k
        · obtain ⟨b, off, u, rfl, hc, hu⟩ := HC.out j hlt3
          have hc1 := cell_later hl.below hc
          have hmem := List.mem_of_getElem? hu
          obtain ⟨g, rfl⟩ := Int.eq_ofNat_of_zero_le (HALL.out u hmem).1
          have hgk : (g : Int) < (L.length : Int) := (HALL.out _ hmem).2
          have hacc := hl.nums2
          have hlacc : (valsL W vals L).length = L.length := valsL_len _ _ _
          obtain ⟨b2, off2, q2, e2, hq2, hqv2⟩ := hacc.slice.parts' (i := g) (by obtain ⟨_, _, _, e, hl', _⟩ := hacc.slice; simp only [Value.slice.injEq] at e; omega)
          subst e2
          have hgm : (g : Int) < (m1 : Int) := by obtain ⟨_, _, _, e, hl', _⟩ := hacc.slice; simp only [Value.slice.injEq] at e; omega
          obtain ⟨X, hX⟩ : ∃ X, (allV W vals L ts).take j = X := ⟨_, rfl⟩
          have hlx : X.length ≤ 999999999 := by rw [← hX, List.length_take]; omega
          have hs : X ++ [q2] = (allV W vals L ts).take (j + 1) := by
            rw [← take_snoc' (q := q2) (by unfold allV; rw [List.getElem?_map, hu]; simp [val, hqv2]), hX]
          rw [hX] at hl
          have hx := hl.nums
          have HS := Lib.hid hs; have HL4 := Lib.hid hl
          clear hl hs hacc hlacc hmem hu hc hqv2 hX
          go_wp2_with (at_builtin; refine wpList_append1_sep (P := Try.prog) 29 25 .u64 0 wr (.slice a2 m2 c2) X q2 8 hx _ _ rfl rfl Try.underlying29 Try.infoU64 (by decide) rfl rfl hlx (Nat.zero_le _) ?_; intro a3 c3 w3 hown3 ht3 hb3)
          have hl5 := HL4.out.grown_nums hown3 ht3 hb3
          rw [HS.out] at hl5
          have HL5 := Lib.hid hl5
          clear hl5 hown3 ht3 hb3 hx
          go_wp2
          go_roundw
          case rel => exact ⟨j + 1, by omega, by go_num, _, _, _, rfl, HL5.out⟩
          case measure => simp [intOf]; omega
        · obtain rfl : j = k := by omega
          rw [show (allV W vals L ts).take j = allV W vals L ts from List.take_of_length_le (by unfold allV; rw [List.length_map, HLN.out]; exact Nat.le_refl _)] at hl
          have HL4 := Lib.hid hl
          clear hl
          go_wp2
          go_ret2
          exact ⟨_, _, _, rfl, HL4.out.nums_base, HL4.out.below⟩
theorem reval_any {w : World} {F I : List Nat} {rb W room : Nat} {L : List PNode} (h : RGr w 0 F I rb W room L) (t : Int) (vals : List Int) (vv : Value) (hvv : SliceOf w .u64 vv vals) (hvl : vals.length ≤ 9223372036854775807) (hvu : U64s vals) :
    Calls Try.prog 22 #[.pointer (some ⟨rb, 0, none⟩), .int .i64 t, vv] w fun e w' => e = .returned (.tuple #[.int .u64 (evalR W vals L t).1, .int .i64 (evalR W vals L t).2]) ∧ Below w.heap.size w w' := by
  obtain ⟨av, nv, cv, rfl, -, -⟩ := hvv.parts
  have hb1 := below_new w (.cells #[.int .i64 t] 3)
  have hall := rall_any (h.later hb1) [t] vals _ _ (sliceOf_new w .i64 3 [t] 1) (hvv.below hb1) (by simp) hvl hvu
  have HB1 := Lib.hid hb1
  by_cases hin : 0 ≤ t ∧ t < (L.length : Int)
  · have hr : evalR W vals L t = (val W vals L t.toNat, 0) := if_pos hin
    rw [allR_in (allIn_one.2 hin)] at hall
    rw [hr]
    have HALL := Lib.hid hall
    clear hall hr hb1 h hvv hin
    go_enter Try.func22, Try.ntmps22
    go_wp2_with fail
    go_at_call 24
    refine HALL.out.mono ?_
    rintro e w2 ⟨a, m, c, rfl, ho, hb2⟩
    obtain ⟨a', n', c', e', hl', hcell⟩ := ho.slice.parts
    simp only [Value.slice.injEq] at e'
    obtain ⟨rfl, rfl, rfl⟩ := e'
    obtain rfl : m = 1 := by rw [← hl']; rfl
    obtain ⟨b, off, q, rfl, hc, hq⟩ := hcell 0 (by omega)
    obtain rfl : val W vals L t.toNat = q := by simpa [allV] using hq
    rw [Nat.add_zero] at hc
    have HB2 := Lib.hid (HB1.out.trans (hb2.mono HB1.out.size))
    clear ho hb2 hcell hq hl'
    go_wp2
    go_ret2
    exact ⟨rfl, HB2.out⟩
  · have hr : evalR W vals L t = (0, 3) := if_neg hin
    rw [allR_out (fun h => hin (allIn_one.1 h))] at hall
    rw [hr]
    have HALL := Lib.hid hall
    clear hall hr hb1 h hvv hin
    go_enter Try.func22, Try.ntmps22
    go_wp2_with fail
    go_at_call 24
    refine HALL.out.mono ?_
    rintro e w2 ⟨a, m, c, rfl, ho, hb2⟩
    have HB2 := Lib.hid (HB1.out.trans (hb2.mono HB1.out.size))
    clear ho hb2
    go_wp2
    go_ret2
    exact ⟨rfl, HB2.out⟩
theorem reval_nil (w : World) (t : Int) (vv : Value) (hv : ∃ a n c, vv = .slice a n c) : Calls Try.prog 22 #[.pointer none, .int .i64 t, vv] w fun e w' => e = .returned (.tuple #[.int .u64 0, .int .i64 1]) ∧ Below w.heap.size w w' := by
  obtain ⟨a, n, c, rfl⟩ := hv
  have HB := Lib.hid (below_new w (.cells #[.int .i64 t] 3))
  go_enter Try.func22, Try.ntmps22
  go_wp2_with fail
  go_at_call 24
  refine (rall_nil _ _ _ ⟨a, n, c, rfl⟩).mono ?_
  rintro e w2 ⟨rfl, rfl⟩
  go_wp2
  go_ret2
  exact ⟨rfl, HB.out⟩
end Go.Proofs.Yteofgmjejocleaa
