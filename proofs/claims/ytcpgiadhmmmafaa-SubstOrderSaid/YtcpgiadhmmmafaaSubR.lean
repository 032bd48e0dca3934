/- SubstOrder: the walk. -/
import Derived.Test.YtcpgiadhmmmafaaSubQB
namespace Go.Proofs.Ytcpgiadhmmmafaa
open Go.RowKit Go.Maps
set_option maxHeartbeats 3200000

set_option maxRecDepth 100000 in
theorem substOrder_walk {w : World} (Wi ti oi : Int) (v v3 : Value) (qs : List PAsk) (hv : AsksOf w v qs) (hq : qs.length ≤ 9223372036854775807) (hcq : ∀ a n c, v = .slice a n c → n ≤ c) (ps : List (Int × Int)) (hv3 : PairsOf w v3 ps) (hn3 : ps.length ≤ 9223372036854775807) :
    Calls Try.prog 10 #[.int .i64 Wi, v, .int .i64 ti, v3, .int .i64 oi] w fun e w' => e = .returned (.bool true) ∧ Below w.heap.size w w' := by
  obtain ⟨a3, m3, c3, rfl, hl3, hcell3⟩ := hv3
  obtain ⟨a, cap, rfl⟩ := hv.parts
  have hcap := hcq _ _ _ rfl
  obtain ⟨n, hn⟩ : ∃ n, qs.length = n := ⟨_, rfl⟩
  rw [hn] at hv hq hcap ⊢
  have hfill := fill_some Wi a n cap qs hv hq
  obtain ⟨W, hW⟩ : ∃ W, (Wi % 64).toNat + 1 = W := ⟨_, rfl⟩
  rw [hW] at hfill
  have hW2 : W ≤ 64 := by omega
  have HF := Lib.hid hfill; have HP := Lib.hid (show PairsOf w (.slice a3 m3 c3) ps from ⟨_, _, _, rfl, hl3, hcell3⟩); have HN3 := Lib.hid hn3
  clear hv hcq hfill hW hn hcell3 hl3 hn3
  go_enter Try.func10, Try.ntmps10
  go_upto_region 1 with fail
  go_cut [11, 12] (fun g t wx => ∃ gb F I a' m c L, L.length ≤ 60 ∧ GoodL W L ∧ g = .pointer (some ⟨gb, 0, none⟩) ∧ t = .slice a' m c ∧ Lab w wx [Thing.graph F I gb W 1048576 L])
  case first =>
    by_cases h100 : (60 : Int) < (n : Int)
    · have HF1 := Lib.hid (HF.out 60 (by omega))
      go_wp2_with fail
      go_at_call 23
      refine HF1.out.mono ?_
      rintro e w1 ⟨gb, F, I, a', m, c, L, -, hL, hG, -, rfl, hlab⟩
      go_wp2
      go_meet
      exact ⟨gb, F, I, a', m, c, L, hL, hG, rfl, rfl, hlab⟩
    · have HF1 := Lib.hid (HF.out n (by omega))
      go_wp2_with fail
      go_at_call 23
      refine HF1.out.mono ?_
      rintro e w1 ⟨gb, F, I, a', m, c, L, -, hL, hG, -, rfl, hlab⟩
      go_wp2
      go_meet
      exact ⟨gb, F, I, a', m, c, L, by omega, hG, rfl, rfl, hlab⟩
  case rest =>
    obtain ⟨gb, F, I, a', m, c, L, hL, hG, rfl, rfl, hlab⟩ := hcut
    have HAW := Lib.hid hlab.awake13
    have HLEN := Lib.hid (len_any hlab.gr)
    have hwf := hlab.gr.wf
    have HL0 := Lib.hid hlab; have HG := Lib.hid hG; have HWF := Lib.hid hwf
    clear hlab hG hwf HF
    by_cases hL0 : L.length = 0
    · have q0 : ((L.length : Int) == 0) = true := by rw [beq_iff_eq]; omega
      go_wp2_with (first | (go_at_call 24; refine HLEN.out.mono ?_; rintro e w2 ⟨rfl, rfl⟩) | (go_at_call 41; refine HAW.out.mono ?_; rintro e w2 ⟨rfl, hb⟩))
      go_ret
      exact ⟨rfl, hb⟩
    · have q0 : ((L.length : Int) == 0) = false := by rw [beq_eq_false_iff_ne]; omega
      have hmod := fun wx => mod_any ti (L.length : Int) (by omega) (by omega) wx
      have ht0 := Int.emod_nonneg ti (show (L.length : Int) ≠ 0 by omega)
      have ht1 := Int.emod_lt_of_pos ti (show (0 : Int) < (L.length : Int) by omega)
      obtain ⟨t, ht⟩ := Int.eq_ofNat_of_zero_le ht0
      rw [ht] at ht1 hmod
      have htl : t < L.length := by omega
      have HMOD := Lib.hid hmod
      clear ht ht0 ht1 hmod HAW
      go_upto_region 7 with (first | (go_at_call 24; refine HLEN.out.mono ?_; rintro e w2 ⟨rfl, rfl⟩) | (go_at_call 18; refine (HMOD.out _).mono ?_; rintro e w2 ⟨rfl, rfl⟩))
      go_wp2_with fail
      go_at_call 44
      refine (HL0.out.pairs (by omega) _ ps HP.out HN3.out).mono ?_
      rintro e w3 ⟨a1, a2, c1, c2, vs, us, rfl, hok, hl⟩
      obtain ⟨hso, L', s, hR1, hR2, hw', hg', hpre, hlen', hsx⟩ := subst_pairs (room := 1048576) hW2 HWF.out HG.out hok htl (by omega)
      have hsm := hok.small
      have hcall := hl.rot3.subst (t : Int) _ _ vs us (OwnInts.slice hl.ints) (OwnInts.slice hl.swap.ints) HG.out hok.wf (by omega) (by have := hok.len; omega) hR2
      obtain ⟨n1, hn1⟩ : ∃ n1, vs.length = n1 := ⟨_, rfl⟩
      have hn2 : us.length = n1 := by rw [← hn1]; exact hok.len.symm
      have hfin : ∀ (vs' us' : List Int), (vs'.zip us').Perm (vs.zip us) → vs'.length = us'.length → PairsOk L' vs' us' ∧ subst2R W 1048576 L' t vs' us' = (L', s, 0) := fun vs' us' hp hl => order_plain hW2 HWF.out HG.out hok hp hl htl hso hR1 hw' hpre
      rw [hn1, hn2] at hcall ⊢
      have HC := Lib.hid hcall; have HFIN := Lib.hid (And.intro hfin hg'); have HVS := Lib.hid (And.intro hn1 hn2)
      have hn6 : n1 ≤ 6 := by omega
      clear hl hok HMOD HLEN HL0 hso hR1 hR2 hw' hg' hpre hlen' hcall hfin hsm hn1 hn2
      go_upto_region 8 with fail
      go_wp2_with fail
      go_at_call 39
      refine HC.out.mono ?_
      rintro e w4 ⟨F4, I4, rfl, hl4⟩
      have HL4 := Lib.hid hl4.rot3'
      clear hl4 HC
      go_upto_if 58 with fail
      go_cut [13, 14] (fun v1 v2 wx => ∃ a1 c1 a2 c2 vs' us', v1 = .slice a1 n1 c1 ∧ v2 = .slice a2 n1 c2 ∧ vs'.length = n1 ∧ us'.length = n1 ∧ (vs'.zip us').Perm (vs.zip us) ∧ Lab w wx [Thing.ints (.slice a1 n1 c1) vs', Thing.ints (.slice a2 n1 c2) us', Thing.graph F4 I4 gb W 1048576 L'])
      case first =>
        by_cases h0 : (0 : Int) < (n1 : Int)
        · have hmod := fun wx => mod_any oi (n1 : Int) (by omega) (by omega) wx
          have hk0 := Int.emod_nonneg oi (show (n1 : Int) ≠ 0 by omega)
          have hk1 := Int.emod_lt_of_pos oi h0
          obtain ⟨k, hk⟩ := Int.eq_ofNat_of_zero_le hk0
          rw [hk] at hk1 hmod
          have hkn : k < n1 := by omega
          have HMOD := Lib.hid hmod
          have hne1 : vs ≠ [] := by intro e; have := HVS.out.1; rw [e] at this; simp at this; omega
          have hne2 : us ≠ [] := by intro e; have := HVS.out.2; rw [e] at this; simp at this; omega
          obtain ⟨b1, cc1, e1⟩ := own_some HL4.out.ints hne1
          obtain ⟨b2, cc2, e2⟩ := own_some HL4.out.swap.ints hne2
          simp only [Value.slice.injEq] at e1 e2
          obtain ⟨rfl, -, rfl⟩ := e1
          obtain ⟨rfl, -, rfl⟩ := e2
          clear hk hk0 hk1 hmod hne1 hne2
          go_upto_region 11 with (go_at_call 18; refine (HMOD.out _).mono ?_; rintro e w5 ⟨rfl, rfl⟩)
          refine order_region11 HL4.out (by omega) hkn ?_
          intro _ _ _ _ _ _ _ _ a5 c5 w5 hl5
          have HL5 := Lib.hid hl5.swap
          clear hl5
          go_upto_region 12 with fail
          refine order_region12 HL5.out (by omega) hkn ?_
          intro _ _ _ _ _ _ _ _ a6 c6 w6 hl6
          have HL6 := Lib.hid hl6.swap
          clear hl6
          go_wp2
          go_meet
          have h1 := HVS.out.1; have h2 := HVS.out.2
          exact ⟨_, _, _, _, _, _, rfl, rfl, by rw [List.length_append, List.length_drop, List.length_take]; omega, by rw [List.length_append, List.length_drop, List.length_take]; omega, rot_perm (by omega) k, HL6.out⟩
        · go_wp2
          go_meet
          exact ⟨_, _, _, _, vs, us, rfl, rfl, HVS.out.1, HVS.out.2, List.Perm.refl _, HL4.out⟩
      case rest =>
        obtain ⟨a1, c1, a2, c2, vs', us', rfl, rfl, hv1, hu1, hp, hl⟩ := hcut
        have HL5 := Lib.hid hl; have HP5 := Lib.hid (And.intro hv1 (And.intro hu1 hp))
        clear hl hv1 hu1 hp HL4
        go_wp2
        go_loopw [18, 19] (fun i j wx => ∃ (k : Nat) (jj : Int), i = .int .i64 k ∧ j = .int .i64 jj ∧ jj = (n1 : Int) - 1 - (k : Int) ∧ k ≤ n1 ∧ ∃ vs' us', vs'.length = n1 ∧ us'.length = n1 ∧ (vs'.zip us').Perm (vs.zip us) ∧ Lab w wx [Thing.ints (.slice a1 n1 c1) vs', Thing.ints (.slice a2 n1 c2) us', Thing.graph F4 I4 gb W 1048576 L']) (fun i _ _ => n1 - (intOf i).toNat)
        case atStart => exact ⟨0, _, rfl, rfl, by omega, by omega, _, _, HP5.out.1, HP5.out.2.1, HP5.out.2.2, HL5.out⟩
        case round =>
          clear HL5 HP5
          obtain ⟨k, jj, rfl, rfl, hjj, hk, vs', us', hv1, hu1, hp, hl⟩ := hrel
          by_cases hlt : (k : Int) < jj ∧ oi.tmod 2 = 0
          · have hlt1 := hlt.1
            have hlt2 : (oi.tmod 2 == 0) = true := by rw [beq_iff_eq]; exact hlt.2
            obtain ⟨j, rfl⟩ := Int.eq_ofNat_of_zero_le (show 0 ≤ jj by omega)
            have hne1 : vs' ≠ [] := by intro e; rw [e] at hv1; simp at hv1; omega
            have hne2 : us' ≠ [] := by intro e; rw [e] at hu1; simp at hu1; omega
            have hi1 : OwnInts wr 0 3 .i64 (.slice a1 n1 c1) vs' := hl.ints
            have hi2 : OwnInts wr 0 3 .i64 (.slice a2 n1 c2) us' := hl.swap.ints
            obtain ⟨b1, cc1, e1⟩ := own_some hi1 hne1
            obtain ⟨b2, cc2, e2⟩ := own_some hi2 hne2
            simp only [Value.slice.injEq] at e1 e2
            obtain ⟨rfl, -, rfl⟩ := e1
            obtain ⟨rfl, -, rfl⟩ := e2
            have hjn : j < n1 := by omega
            have hkj : k < j := by omega
            have HL := Lib.hid hl; have HP5 := Lib.hid (And.intro hv1 (And.intro hu1 hp)); have HJ := Lib.hid hjj
            clear hl hv1 hu1 hp hne1 hne2 hi1 hi2 hlt hjj
            go_upto_region 16 with fail
            refine order_region16 HL.out (by omega) hkj hjn ?_
            intro _ _ _ _ _ _ _ _ _ _ _ _ _ _ _ _ _ _ _ _ _ _ _ _ _ _ _ _ w6 hl6
            have HL6 := Lib.hid hl6
            clear hl6
            go_wp2
            go_roundw
            case rel =>
              have h1 := HP5.out.1; have h2 := HP5.out.2.1
              have hjj := HJ.out
              exact ⟨k + 1, (j : Int) - 1, by go_num, by go_num, by omega, by omega, _, _, by rw [swapL_len]; exact h1, by rw [swapL_len]; exact h2, (swap_perm (by omega) (by omega) (by omega)).trans HP5.out.2.2, HL6.out⟩
            case measure => simp [intOf]; omega
          · have hq1 : ¬ (k : Int) < jj ∨ ((k : Int) < jj ∧ (oi.tmod 2 == 0) = false) := by
              by_cases h1 : (k : Int) < jj
              · exact .inr ⟨h1, by rw [beq_eq_false_iff_ne]; exact fun e => hlt ⟨h1, e⟩⟩
              · exact .inl h1
            have hcall := hl.rot3.subst (t : Int) _ _ vs' us' (OwnInts.slice hl.ints) (OwnInts.slice hl.swap.ints) HFIN.out.2 (HFIN.out.1 vs' us' hp (by omega)).1.wf (by omega) (by omega) (HFIN.out.1 vs' us' hp (by omega)).2
            have HC := Lib.hid hcall
            clear hl hp hcall hv1 hu1 hlt
            rcases hq1 with q | ⟨q, q'⟩
            · go_wp2_with fail
              go_at_call 39
              refine HC.out.mono ?_
              rintro e w7 ⟨F7, I7, rfl, hl7⟩
              have HAW := Lib.hid hl7.awake13
              clear hl7 HC
              have qs : ((s : Int) == (s : Int)) = true := by simp
              go_wp2_with (go_at_call 41; refine HAW.out.mono ?_; rintro e w8 ⟨rfl, hb⟩)
              go_ret
              exact ⟨rfl, hb⟩
            · go_wp2_with fail
              go_at_call 39
              refine HC.out.mono ?_
              rintro e w7 ⟨F7, I7, rfl, hl7⟩
              have HAW := Lib.hid hl7.awake13
              clear hl7 HC
              have qs : ((s : Int) == (s : Int)) = true := by simp
              go_wp2_with (go_at_call 41; refine HAW.out.mono ?_; rintro e w8 ⟨rfl, hb⟩)
              go_ret
              exact ⟨rfl, hb⟩
end Go.Proofs.Ytcpgiadhmmmafaa
