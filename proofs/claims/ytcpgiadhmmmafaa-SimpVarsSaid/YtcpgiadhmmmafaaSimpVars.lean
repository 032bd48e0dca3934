/- SimpVars. -/
import Derived.Test.YtcpgiadhmmmafaaSimpY
import Derived.Test.YtcpgiadhmmmafaaSimpT
namespace Go.Proofs.Ytcpgiadhmmmafaa
open Go.RowKit Go.Maps
set_option maxHeartbeats 3200000

set_option maxRecDepth 100000 in
theorem simpVars_walk {w : World} (Wi : Int) (v : Value) (qs : List PAsk) (hv : AsksOf w v qs) (hq : qs.length ≤ 9223372036854775807) (hcq : ∀ a n c, v = .slice a n c → n ≤ c) :
    Calls Try.prog 13 #[.int .i64 Wi, v] w fun e w' => e = .returned (.bool true) ∧ Below w.heap.size w w' := by
  obtain ⟨a, cap, rfl⟩ := hv.parts
  have hcap := hcq _ _ _ rfl
  obtain ⟨n, hn⟩ : ∃ n, qs.length = n := ⟨_, rfl⟩
  rw [hn] at hv hq hcap ⊢
  have hfill := fill_some Wi a n cap qs hv hq
  obtain ⟨W, hW⟩ : ∃ W, (Wi % 64).toNat + 1 = W := ⟨_, rfl⟩
  rw [hW] at hfill
  have hW1 : 1 ≤ W := by omega
  have hW2 : W ≤ 64 := by omega
  have HF := Lib.hid hfill
  clear hv hcq hfill hW hn
  go_enter Try.func13, Try.ntmps13
  go_upto_region 1 with fail
  go_cut [5, 6] (fun g t wx => ∃ gb F I a' m c L, L.length ≤ 80 ∧ GoodL W L ∧ g = .pointer (some ⟨gb, 0, none⟩) ∧ t = .slice a' m c ∧ Lab w wx [Thing.graph F I gb W 1048576 L])
  case first =>
    by_cases h100 : (80 : Int) < (n : Int)
    · have HF1 := Lib.hid (HF.out 80 (by omega))
      go_wp2_with fail
      go_at_call 23
      refine HF1.out.mono ?_
      rintro e w1 ⟨gb, F, I, a', m, c, L, -, hL, hG, -, rfl, hlab⟩
      go_wp2
      go_meet
      exact ⟨gb, F, I, a', m, c, L, hL, hG, rfl, rfl, hlab⟩
    · have HF1 := Lib.hid (HF.out n (by omega))
      go_wp2_with fail
      go_at_call 23
      refine HF1.out.mono ?_
      rintro e w1 ⟨gb, F, I, a', m, c, L, -, hL, hG, -, rfl, hlab⟩
      go_wp2
      go_meet
      exact ⟨gb, F, I, a', m, c, L, by omega, hG, rfl, rfl, hlab⟩
  case rest =>
    obtain ⟨gb, F, I, a', m, c, L, hL, hG, rfl, rfl, hlab⟩ := hcut
    have HL0 := Lib.hid hlab; have HG0 := Lib.hid hG; have HLEN := Lib.hid (len_any hlab.gr)
    clear hlab hG
    go_wp2_with (go_at_call 24; refine HLEN.out.mono ?_; rintro e w2 ⟨rfl, rfl⟩)
    go_loopw [8] (fun i wx => ∃ k : Nat, k ≤ L.length ∧ i = .int .i64 k ∧ ∃ F I L', L.length ≤ L'.length ∧ L'.length ≤ 80 + 81 * k ∧ GoodL W L' ∧ Lab w wx [Thing.graph F I gb W 1048576 L']) (fun i _ => L.length - (intOf i).toNat)
    case atStart => exact ⟨0, by omega, rfl, F, I, L, by omega, by omega, HG0.out, HL0.out⟩
    case round =>
      obtain ⟨k, hk, rfl, F3, I3, L3, hl1, hl2, hG3, hlab⟩ := hrel
      have HL1 := Lib.hid hlab
      by_cases hlt : k < L.length
      · obtain ⟨L4, s4, hR, hw4, hg4, hp4, hl4, hs4, hvv, hnn⟩ := simpleR_vars (room := 1048576) (vals := []) (t := k) hW1 hW2 hlab.gr.wf hG3 (by omega) (by omega)
        have hl34 := hp4.length_le
        have HR := Lib.hid hR; have HG4 := Lib.hid hg4; have HVV := Lib.hid hvv; have HNN := Lib.hid hnn; have HP4 := Lib.hid hp4
        have HOC := Lib.hid (hlab.occurring k (by omega))
        clear hR hg4 hlab hG3 hw4 hp4 hvv hnn
        go_wp2_with fail
        go_at_call 47
        refine HOC.out.mono ?_
        rintro e w2 ⟨vb, V, cv, rfl, hV, hl⟩
        have HV := Lib.hid hV; have HL2 := Lib.hid hl.swap
        clear hV hl HOC
        go_wp2_with fail
        go_at_call 30
        refine (HL2.out.simple (k : Int) HR.out).mono ?_
        rintro e w3 ⟨F4, I4, rfl, h4⟩
        have H4 := Lib.hid h4; have HOC2 := Lib.hid (h4.occurring s4 hs4)
        clear h4
        go_wp2_with fail
        go_at_call 47
        refine HOC2.out.mono ?_
        rintro e w4 ⟨sb, V2, cs, rfl, hV2, hl⟩
        have HV2 := Lib.hid hV2; have HL4 := Lib.hid hl
        obtain ⟨mm, hm1, hm2, hm3, hm4⟩ := hl.mapf
        have HM1 := Lib.hid hm1; have HM3 := Lib.hid hm3
        clear hV2 hl hm1 hm2 hm3 hm4 HOC2
        go_wp2_with (at_range; refine wpList_range_map rfl _ 92 4 rfl Try.underlying92 rfl HM1.out ?_; intro w5 hrg hb5 hs5)
        go_frame
        have hl5 := HL4.out.rng_start hrg hb5
        obtain ⟨r, hr⟩ : ∃ r, w4.heap.size = r := ⟨_, rfl⟩
        rw [hr] at hl5 ⊢
        have HL5 := Lib.hid hl5
        clear hl5 hrg hb5 hs5 hr HM1
        go_loopw [12] (fun _ wx => ∃ d, Lab w wx [Thing.rng sb r mm d, Thing.graph F4 I4 gb W 1048576 L4, Thing.mapf 22 .u64 vb (setF V) cv]) (fun _ wx => rngLeft wx sb r)
        case atStart => exact ⟨[], HL5.out⟩
        case round =>
          obtain ⟨d, hlab⟩ := hrel
          have HLR := Lib.hid hlab
          have hrg := hlab.rng
          have HRG := Lib.hid hrg
          clear hlab hrg
          go_wp2_with (at_next; refine wpList_next_map rfl _ rfl rfl HRG.out ?_ ?_)
          · intro hperm
            clear hperm
            have hnum := number_any HLR.out.second (s4 : Int)
            have HNUM := Lib.hid hnum
            clear hnum HRG
            by_cases hc : cv = 0
            · subst hc
              have hno : ∀ v, ¬ hasVar L3 k v := fun v hh => by
                have h1 := (HV.out (v : Int)).2 ⟨v, rfl, hh⟩
                rw [setF_empty HLR.out.third] at h1
                cases h1
              obtain ⟨hnu, hvp⟩ := HNN.out hno
              obtain ⟨vv, hvv⟩ := Int.eq_ofNat_of_zero_le hvp
              rw [hvv, Int.toNat_natCast] at hnu
              have e1 : numD L4 (s4 : Int) = vv := by unfold numD; rw [hnu]; rfl
              have e2 : isNum L4 (s4 : Int) = true := by unfold isNum; rw [hnu]; rfl
              rw [e1, e2] at HNUM
              have e3 : val W [] L4 k = (vv : Int) := (val_prefix HP4.out (by omega)).trans hvv
              have E3 := Lib.hid e3
              have q1 : ((vv : Int) != (vv : Int)) = false := by simp
              clear hno hnu hvp hvv e1 e2 e3
              go_wp2_with fail
              go_at_call 31
              refine HNUM.out.mono ?_
              rintro e w7 ⟨rfl, hb7⟩
              have H7 := Lib.hid (HLR.out.later hb7).swap
              clear hb7
              go_wp2_with fail
              go_at_call 46
              refine (H7.out.eval12 k (by omega) [] _ (sliceOf_nil w7 .u64) (by simp) (by intro x hx; cases hx) E3.out).mono ?_
              rintro e w8 ⟨rfl, h8⟩
              have hlen := MapF.len (T := 92) h8.third Try.underlying92 3
              have H8 := Lib.hid h8
              clear h8
              go_wp2
              go_roundw
              case rel => exact ⟨k + 1, by omega, by go_num, F4, I4, L4, by omega, by omega, HG4.out, H8.out.sub (.cons_cons _ (.cons _ (.cons _ (List.Sublist.refl _))))⟩
              case measure => simp [intOf]; omega
            · have hc' : ((cv : Int) == 0) = false := by rw [beq_eq_false_iff_ne]; omega
              obtain ⟨vv, hvv⟩ : ∃ vv, val W [] L4 k = vv := ⟨_, rfl⟩
              have E3 := Lib.hid hvv
              generalize numD L4 (s4 : Int) = qn at *
              generalize isNum L4 (s4 : Int) = qb at *
              clear hvv hc
              go_wp2_with fail
              go_at_call 31
              refine HNUM.out.mono ?_
              rintro e w7 ⟨rfl, hb7⟩
              have H7 := Lib.hid (HLR.out.later hb7).swap
              clear hb7
              go_wp2_with fail
              go_at_call 46
              refine (H7.out.eval12 k (by omega) [] _ (sliceOf_nil w7 .u64) (by simp) (by intro x hx; cases hx) E3.out).mono ?_
              rintro e w8 ⟨rfl, h8⟩
              have hlen := MapF.len (T := 92) h8.third Try.underlying92 3
              have H8 := Lib.hid h8
              clear h8
              go_wp2
              go_roundw
              case rel => exact ⟨k + 1, by omega, by go_num, F4, I4, L4, by omega, by omega, HG4.out, H8.out.sub (.cons_cons _ (.cons _ (.cons _ (List.Sublist.refl _))))⟩
              case measure => simp [intOf]; omega
          · intro kk vv w6 l0 hmem hrg6 hlt6 hbut6 hen6
            obtain ⟨j, rfl, hj⟩ := rng_key HM3.out ⟨l0, hmem⟩
            have hj' : V2 j = true := by
              cases hs : V2 j with
              | true => rfl
              | false => unfold setF at hj; rw [if_neg (by rw [hs]; decide)] at hj; cases hj
            obtain ⟨v, rfl, hv⟩ := (HV2.out j).1 hj'
            have hb : V (v : Int) = true := (HV.out _).2 ⟨v, rfl, HVV.out v hv⟩
            have hv64 : v ≤ 18446744073709551615 := by
              obtain ⟨i, nd, -, hn, -, rfl⟩ := hv
              have : WFL L4 := Gr.wf (HLR.out.second)
              exact (this.ok nd (List.mem_of_getElem? hn)).2.1
            have hl6 := HLR.out.rng_next hrg6 hbut6
            have hask := MapF.ask (T := 92) (E := 4) hl6.third Try.underlying22 Try.underlying92 (zeroBool _) (k := (v : Int)) (wf_u64 (by omega) (by omega))
            rw [hb] at hask
            have HL6 := Lib.hid hl6
            clear hl6 hb hv hj' hj hmem hrg6 hbut6 HRG
            go_wp2
            go_roundw
            case rel => exact ⟨_, HL6.out⟩
            case measure => exact hlt6
      · obtain rfl : k = L.length := by omega
        have HAW := Lib.hid hlab.awake12
        clear hlab hG3
        go_wp2_with (go_at_call 22; refine HAW.out.mono ?_; rintro e w2 ⟨rfl, hb⟩)
        go_ret
        exact ⟨rfl, hb⟩
end Go.Proofs.Ytcpgiadhmmmafaa
