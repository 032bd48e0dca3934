/- EvalMatches of law 11. -/
import Derived.Test.YteofgmjejocleaaEvalG
import Derived.StillTailTactics
namespace Go.Proofs.Yteofgmjejocleaa
open Go.RowKit Go.Maps
set_option maxHeartbeats 1600000

theorem SliceOf.take {w : World} {k : IntKind} {a : Option Addr} {n cap : Nat} {xs : List Int} (h : SliceOf w k (.slice a n cap) xs) (m cap' : Nat) (hm : m ≤ n) : SliceOf w k (.slice a m cap') (xs.take m) := by
  obtain ⟨a', n', c', e, hl, hc⟩ := h.parts
  simp only [Value.slice.injEq] at e
  obtain ⟨rfl, rfl, rfl⟩ := e
  refine ⟨a, m, cap', rfl, by rw [List.length_take]; omega, fun i hi => ?_⟩
  obtain ⟨b, off, q, rfl, hq, hx⟩ := hc i (by omega)
  refine ⟨b, off, rfl, ?_⟩
  rw [hq, List.getD_eq_getElem?_getD, List.getElem?_take, if_pos hi, hx]; rfl
theorem U64s.take {xs : List Int} (h : U64s xs) (m : Nat) : U64s (xs.take m) := fun x hx => h x (List.mem_of_mem_take hx)
theorem Lab.reval {w0 wr : World} {ts : List Thing} {s : Thing} {F I : List Nat} {rb W room : Nat} {L : List PNode} (h : Lab w0 wr (s :: Thing.rgraph F I rb W room L :: ts)) (t : Int) (vals : List Int) (vv : Value) (hvv : SliceOf wr .u64 vv vals) (hvl : vals.length ≤ 9223372036854775807) (hvu : U64s vals) {R : Int × Nat} (hR : evalR W vals L t = R) :
    Calls Try.prog 22 #[.pointer (some ⟨rb, 0, none⟩), .int .i64 t, vv] wr fun e w' => e = .returned (.tuple #[.int .u64 R.1, .int .i64 R.2]) ∧ Lab w0 w' (s :: Thing.rgraph F I rb W room L :: ts) := by
  subst hR
  exact (reval_any h.rgr2 t vals vv hvv hvl hvu).mono fun e w' ⟨he, hb⟩ => ⟨he, h.later hb⟩
theorem both_cells {w : World} {pb : Nat} {x y : Value} {T : Nat} (h : w.heap[pb]? = some (.cells #[x, y] T (0, 0))) : w.cell? ⟨pb, 0, none⟩ = some x ∧ w.cell? ⟨pb, 1, none⟩ = some y := ⟨by rw [cell_of_row w pb 0 _ _ _ h]; rfl, by rw [cell_of_row w pb 1 _ _ _ h]; rfl⟩
set_option maxRecDepth 100000 in
theorem evalMatches_bad {w : World} (Wi : Int) (v1 v2 v3 : Value) (h : ¬ newOk Wi 0) (hv1 : ∃ a n c, v1 = .slice a n c) (hv2 : ∃ a n c, v2 = .slice a n c) (hv3 : ∃ a n c, v3 = .slice a n c) :
    Calls Try.prog 5 #[.int .i64 Wi, v1, v2, v3] w fun e w' => e = .returned (.bool true) ∧ Below w.heap.size w w' := by
  obtain ⟨a, n, c, rfl⟩ := hv1
  obtain ⟨a2, n2, c2, rfl⟩ := hv2
  obtain ⟨a3, n3, c3, rfl⟩ := hv3
  have HM := Lib.hid (make_bad Wi 0 h w)
  clear h
  go_enter Try.func5, Try.ntmps5
  go_wp2_with fail
  go_at_call 21
  refine HM.out.mono ?_
  rintro e w1 ⟨rfl, hb1⟩
  have hb2 := hb1.trans ((below_new w1 (.cells #[.pointer none, .pointer none] 47)).mono hb1.size)
  have HB2 := Lib.hid hb2
  clear hb1 hb2
  go_wp2_with fail
  go_at_call 11
  refine (eval_nil _ _ _ ⟨none, 0, 0, rfl⟩).mono ?_
  rintro e w2 ⟨rfl, hb3⟩
  have HB3 := Lib.hid (HB2.out.trans (hb3.mono HB2.out.size))
  clear hb3
  go_wp2_with fail
  go_at_call 22
  refine (reval_nil _ _ _ ⟨none, 0, 0, rfl⟩).mono ?_
  rintro e w3 ⟨rfl, hb4⟩
  have HB4 := Lib.hid (HB3.out.trans (hb4.mono HB3.out.size))
  clear hb4
  go_wp2_with (go_at_call 14; refine (awake11_any _).mono ?_; rintro e w4 ⟨rfl, hb5⟩)
  go_ret
  exact ⟨rfl, HB4.out.trans (hb5.mono HB4.out.size)⟩
set_option maxRecDepth 100000 in
theorem evalMatches_ok {w : World} (Wi : Int) (v v2 v3 : Value) (h : newOk Wi 0) (qs : List PAsk) (hv : AsksOf w v qs) (hq : qs.length ≤ 9223372036854775807) (ts vals : List Int) (hv2 : SliceOf w .i64 v2 ts) (hv3 : SliceOf w .u64 v3 vals) (hvu : U64s vals) (hn2 : ts.length ≤ 9223372036854775807) (hn3 : vals.length ≤ 9223372036854775807)
    (hc2 : ∀ a n c, v2 = .slice a n c → n ≤ c) (hc3 : ∀ a n c, v3 = .slice a n c → n ≤ c) :
    Calls Try.prog 5 #[.int .i64 Wi, v, v2, v3] w fun e w' => e = .returned (.bool true) ∧ Below w.heap.size w w' := by
  obtain ⟨a, cap, rfl⟩ := hv.parts
  obtain ⟨a2, n2, cap2, rfl, hl2, -⟩ := hv2.parts
  obtain ⟨a3, n3, cap3, rfl, hl3, -⟩ := hv3.parts
  have hcap2 := hc2 _ _ _ rfl
  have hcap3 := hc3 _ _ _ rfl
  obtain ⟨n, hn⟩ : ∃ n, qs.length = n := ⟨_, rfl⟩
  rw [hn] at hv hq ⊢
  rw [hl2] at hn2
  rw [hl3] at hn3
  have HM := Lib.hid (make_any (Lab.nil (Below.refl w.heap.size w)) Wi 0 h); have HV := Lib.hid hv; have HV2 := Lib.hid hv2; have HV3 := Lib.hid hv3; have HVU := Lib.hid hvu; have HL2 := Lib.hid hl2; have HL3 := Lib.hid hl3
  clear h hv hn hv2 hv3 hvu hc2 hc3 hl2 hl3
  generalize Wi.toNat = W at *
  generalize roomOf 0 = room at *
  go_enter Try.func5, Try.ntmps5
  go_wp2_with fail
  go_at_call 21
  refine HM.out.mono ?_
  rintro e w1 ⟨gb, rb, F0, F0', rfl, hlab1⟩
  obtain ⟨pb, hpb⟩ : ∃ pb, w1.heap.size = pb := ⟨_, rfl⟩
  have hl2 := hlab1.alloc #[.pointer (some ⟨gb, 0, none⟩), .pointer (some ⟨rb, 0, none⟩)] 47
  rw [hpb] at hl2
  have HL0 := Lib.hid hl2
  clear hlab1 hl2
  go_upto_region 8 with fail
  clear hpb
  refine wp_abs (fun w2 => Lab w w2 [Thing.box pb 47 #[.pointer (some ⟨gb, 0, none⟩), .pointer (some ⟨rb, 0, none⟩)], Thing.graph F0 [] gb W room [], Thing.rgraph F0' [] rb W room []]) HL0.out ?_
  rintro w2 hl2
  clear HL0
  have HL0 := Lib.hid hl2
  clear hl2
  go_cut [3, 2] (fun v3 v2 wx => ∃ m3 m2, v3 = .slice a3 m3 cap3 ∧ v2 = .slice a2 m2 cap2 ∧ m3 ≤ n3 ∧ m3 ≤ 30 ∧ m2 ≤ n2 ∧ m2 ≤ 20 ∧ Lab w wx [Thing.box pb 47 #[.pointer (some ⟨gb, 0, none⟩), .pointer (some ⟨rb, 0, none⟩)], Thing.graph F0 [] gb W room [], Thing.rgraph F0' [] rb W room []])
  case first =>
    by_cases h30 : (30 : Int) < (n3 : Int) <;> by_cases h20 : (20 : Int) < (n2 : Int)
    all_goals (go_quiet (fail); go_wp2; go_meet)
    all_goals exact ⟨_, _, rfl, rfl, by omega, by omega, by omega, by omega, HL0.out.drewN _⟩
  case rest =>
    obtain ⟨m3, m2, rfl, rfl, h31, h32, h21, h22, hl⟩ := hcut
    have hvs := HV3.out.take m3 cap3 h31
    obtain ⟨vs, hvs0⟩ : ∃ vs, vals.take m3 = vs := ⟨_, rfl⟩
    have hvsu := HVU.out.take m3
    have hvl : vs.length = m3 := by rw [← hvs0, List.length_take, HL3.out]; omega
    rw [hvs0] at hvs hvsu
    have htr := HV2.out.take m2 cap2 h21
    obtain ⟨tr, htr0⟩ : ∃ tr, ts.take m2 = tr := ⟨_, rfl⟩
    have htl : tr.length = m2 := by rw [← htr0, List.length_take, HL2.out]; omega
    rw [htr0] at htr
    have HVS := Lib.hid hvs; have HVSU := Lib.hid hvsu; have HVL := Lib.hid hvl; have HTR := Lib.hid htr; have HTL := Lib.hid htl; have HL := Lib.hid hl
    clear hvs hvs0 hvsu hl hvl HVU HV3 HL3 HL0 htr htr0 htl HV2 HL2 hn2 hn3 hcap2 hcap3
    go_upto_block 0 with fail
    go_cut [15] (fun _ wx => ∃ F I F' I' L, Lab w wx [Thing.graph F I gb W room L, Thing.rgraph F' I' rb W room L, Thing.box pb 47 #[.pointer (some ⟨gb, 0, none⟩), .pointer (some ⟨rb, 0, none⟩)]])
    case first =>
      go_wp2
      go_loopw [15] (fun i wr => ∃ k : Nat, k ≤ n ∧ k ≤ 100 ∧ i = .int .i64 k ∧ ∃ F I F' I' L, Lab w wr [Thing.graph F I gb W room L, Thing.rgraph F' I' rb W room L, Thing.box pb 47 #[.pointer (some ⟨gb, 0, none⟩), .pointer (some ⟨rb, 0, none⟩)]]) (fun i _ => n - (intOf i).toNat)
      case atStart => exact ⟨0, by omega, by omega, rfl, _, _, _, _, _, HL.out.rot3'⟩
      case round =>
        obtain ⟨k, hk, hk2, rfl, F, I, F', I', L, hl⟩ := hrel
        by_cases hlt : k < n
        · by_cases hlt2 : k < 100
          · obtain ⟨b, off, x, va, rfl, hx, hok, hav, c0, c1, c2, c3, c4⟩ := HV.out.at hlt
            obtain ⟨avx, mvx, cvx, rfl, -, -⟩ := hav.slice.parts
            have hb0 := hl.below
            replace c0 := cell_later hb0 c0
            replace c1 := cell_later hb0 c1
            replace c2 := cell_later hb0 c2
            replace c3 := cell_later hb0 c3
            replace c4 := cell_later hb0 c4
            obtain ⟨d0, d1⟩ : wr.cell? ⟨pb, 0, none⟩ = some (.pointer (some ⟨gb, 0, none⟩)) ∧ wr.cell? ⟨pb, 1, none⟩ = some (.pointer (some ⟨rb, 0, none⟩)) := ⟨by rw [cell_of_row wr pb 0 _ _ _ hl.box3]; rfl, by rw [cell_of_row wr pb 1 _ _ _ hl.box3]; rfl⟩
            have hld := hl.later (Below.refl _ _).drew
            have hdo := do_any hld x _ (hld.stays hav.slice) hok
            have HD := Lib.hid hdo
            clear hl hld hdo hx hok hav hb0
            go_wp2
            go_still_tail 5, (by kernel_rfl)
            simp only [World.drew_eq]
            go_wp2_with fail
            go_at_call 23
            refine HD.out.mono ?_
            rintro e w3 ⟨rfl, F2, I2, F2', I2', hl3⟩
            generalize (doR W room L x).1 = L2 at hl3
            obtain ⟨d0, d1⟩ := both_cells hl3.box3
            obtain ⟨R, hR⟩ : ∃ R, evalR W vs L2 ((k : Int) / 2) = R := ⟨_, rfl⟩
            have e1 : (R.1 != R.1) = false := by simp
            have e2 : ((R.2 : Int) != (R.2 : Int)) = false := by simp
            have HE1 := Lib.hid (hl3.eval ((k : Int) / 2) vs _ (HVS.out.below hl3.below) (by have := HVL.out; omega) HVSU.out hR)
            have HL3 := Lib.hid hl3; have HRR := Lib.hid hR
            clear hl3 c0 c1 c2 c3 c4 hR
            by_cases hm : k % 20 = 19
            · have hq2 : (k : Int) % 20 = 19 := by omega
              clear hm
              go_wp2_with fail
              go_at_call 11
              refine HE1.out.mono ?_
              rintro e w4 ⟨rfl, hl4⟩
              obtain ⟨f0, f1⟩ := both_cells hl4.box3
              have HE2 := Lib.hid (hl4.reval ((k : Int) / 2) vs _ (HVS.out.below hl4.below) (by have := HVL.out; omega) HVSU.out HRR.out)
              clear hl4
              go_wp2_with fail
              go_at_call 22
              refine HE2.out.mono ?_
              rintro e w5 ⟨rfl, hl5⟩
              have HL5 := Lib.hid hl5
              clear hl5
              go_wp2
              go_roundw
              case rel => exact ⟨k + 1, by omega, by omega, by go_num, _, _, _, _, _, HL5.out⟩
              case measure => simp [intOf]; omega
            · have hq2 : ¬ (k : Int) % 20 = 19 := by omega
              go_wp2
              go_roundw
              case rel => exact ⟨k + 1, by omega, by omega, by go_num, _, _, _, _, _, HL3.out⟩
              case measure => simp [intOf]; omega
          · obtain rfl : k = 100 := by omega
            have HLx := Lib.hid hl
            clear hl
            go_wp2
            go_meet
            exact ⟨_, _, _, _, _, HLx.out⟩
        · obtain rfl : k = n := by omega
          have HLx := Lib.hid hl
          clear hl
          go_wp2
          go_meet
          exact ⟨_, _, _, _, _, HLx.out⟩
    case rest =>
      obtain ⟨F, I, F', I', L, hl⟩ := hcut
      have HLc := Lib.hid hl
      obtain ⟨d0, d1⟩ := both_cells hl.box3
      obtain ⟨R, hR⟩ : ∃ R, allR W vs L tr = R := ⟨_, rfl⟩
      have HA1 := Lib.hid (hl.all tr vs _ _ (HTR.out.below hl.below) (HVS.out.below hl.below) (by have := HTL.out; omega) (by have := HVL.out; omega) HVSU.out hR)
      have hRl : R.1.length ≤ 20 := by
        rw [← hR]; unfold allR; split
        · unfold allV; rw [List.length_map, HTL.out]; exact h22
        · simp
      have e2 : ((R.2 : Int) != (R.2 : Int)) = false := by simp
      have HRR := Lib.hid hR; have HRL := Lib.hid hRl
      clear hl hR hRl
      go_wp2_with fail
      go_at_call 12
      refine HA1.out.mono ?_
      rintro e w4 ⟨aA, mA, cA, rfl, hl4⟩
      obtain ⟨f0, f1⟩ := both_cells hl4.fourth
      have hra := rall_any hl4.third tr vs _ _ (HTR.out.below hl4.below) (HVS.out.below hl4.below) (by have := HTL.out; omega) (by have := HVL.out; omega) HVSU.out
      rw [HRR.out] at hra
      have HRA := Lib.hid hra; have HL4 := Lib.hid hl4
      clear hl4 hra
      go_wp2_with fail
      go_at_call 24
      refine HRA.out.mono ?_
      rintro e w5 ⟨aB, mB, cB, rfl, ho5, hb5⟩
      have hl5 := HL4.out.later hb5
      have hen := equalNums_any (.slice aA mA cA) (.slice aB mB cB) R.1 R.1 (nums_slice hl5.second) ho5.slice (by have := HRL.out; omega) (by have := HRL.out; omega)
      rw [decide_eq_true rfl] at hen
      have HEN := Lib.hid hen; have HL5 := Lib.hid hl5.swap.drop
      clear ho5 hb5 hl5 hen
      go_wp2_with (go_at_call 13; refine HEN.out.mono ?_; rintro e w6 ⟨rfl, hb6⟩; have hl6 := HL5.out.later hb6; have HL6 := Lib.hid hl6; clear hl6 hb6)
      have hlen : L.length ≤ 1048576 := by have := HL6.out.gr.len; have := HL6.out.gr.r2; omega
      go_loopw [24] (fun i wr => ∃ k : Nat, k ≤ L.length + 2 ∧ i = .int .i64 ((k : Int) - 1) ∧ Lab w wr [Thing.graph F I gb W room L, Thing.rgraph F' I' rb W room L, Thing.box pb 47 #[.pointer (some ⟨gb, 0, none⟩), .pointer (some ⟨rb, 0, none⟩)]]) (fun i _ => (L.length + 2) - (intOf i + 1).toNat)
      case atStart => exact ⟨0, by omega, rfl, HL6.out⟩
      case round =>
        obtain ⟨k, hk, rfl, hl⟩ := hrel
        obtain ⟨d0, d1⟩ := both_cells hl.box3
        obtain ⟨a0, cap0, c0, c1, c2, -⟩ := hl.rgr2.parts
        by_cases hlt : k < L.length + 2
        · have hle : decide ((k : Int) - 1 ≤ (L.length : Int)) = true := decide_eq_true (by omega)
          obtain ⟨R3, hR3⟩ : ∃ R3, evalR W vs L ((k : Int) - 1) = R3 := ⟨_, rfl⟩
          have e1 : (R3.1 != R3.1) = false := by simp
          have e4 : ((R3.2 : Int) != (R3.2 : Int)) = false := by simp
          have HE1 := Lib.hid (hl.eval ((k : Int) - 1) vs _ (HVS.out.below hl.below) (by have := HVL.out; omega) HVSU.out hR3)
          have HR3 := Lib.hid hR3
          clear hl hR3
          go_wp2_with fail
          go_at_call 11
          refine HE1.out.mono ?_
          rintro e w7 ⟨rfl, hl7⟩
          obtain ⟨g0, g1⟩ := both_cells hl7.box3
          have HE2 := Lib.hid (hl7.reval ((k : Int) - 1) vs _ (HVS.out.below hl7.below) (by have := HVL.out; omega) HVSU.out HR3.out)
          clear hl7
          go_wp2_with fail
          go_at_call 22
          refine HE2.out.mono ?_
          rintro e w8 ⟨rfl, hl8⟩
          have HL8 := Lib.hid hl8
          clear hl8
          go_wp2
          go_roundw
          case rel => exact ⟨k + 1, by omega, by congr 1; omega, HL8.out⟩
          case measure => simp [intOf]; omega
        · obtain rfl : k = L.length + 2 := by omega
          have hle : decide (((L.length + 2 : Nat) : Int) - 1 ≤ (L.length : Int)) = false := decide_eq_false (by omega)
          have HLx := Lib.hid hl
          clear hl
          go_wp2_with (go_at_call 14; refine HLx.out.awake11.mono ?_; rintro e w9 ⟨rfl, hb9⟩)
          go_ret
          exact ⟨rfl, hb9⟩
end Go.Proofs.Yteofgmjejocleaa
