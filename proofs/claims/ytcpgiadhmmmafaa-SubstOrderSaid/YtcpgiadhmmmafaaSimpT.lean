/- SimpSound. -/
import Derived.Test.YtcpgiadhmmmafaaSimpS
import Derived.Test.YtcpgiadhmmmafaaSimpP
import Derived.Test.YtcpgiadhmmmafaaLab
import Derived.Test.YtcpgiadhmmmafaaEvalC
import Derived.Test.YtcpgiadhmmmafaaPlainS
import Derived.Test.YtcpgiadhmmmafaaGraphH
namespace Go.Proofs.Ytcpgiadhmmmafaa
open Go.RowKit Go.Maps
set_option maxHeartbeats 3200000

theorem Lab.eval12 {w0 wr : World} {ts : List Thing} {F I : List Nat} {gb W room : Nat} {L : List PNode} (h : Lab w0 wr (Thing.graph F I gb W room L :: ts)) (t : Nat) (ht : t < L.length) (vals : List Int) (vv : Value) (hvv : SliceOf wr .u64 vv vals) (hvl : vals.length ≤ 9223372036854775807) (hvu : U64s vals) {v : Int} (hv : val W vals L t = v) :
    Calls Try.prog 46 #[.pointer (some ⟨gb, 0, none⟩), .int .i64 t, vv] wr fun e w' => e = .returned (.tuple #[.int .u64 v, .int .i64 0]) ∧ Lab w0 w' (Thing.graph F I gb W room L :: ts) := by
  have hc := eval_any h.gr (t : Int) vals vv hvv hvl hvu
  have e : evalR W vals L (t : Int) = (v, 0) := by unfold evalR; rw [if_pos ⟨by omega, by omega⟩, Int.toNat_natCast, hv]
  rw [e] at hc
  exact hc.mono fun e w' ⟨he, hb⟩ => ⟨he, h.later hb⟩
theorem arity12_any (a1 : Nat) (w : World) : Calls Try.prog 20 #[.int .u8 (2 + (a1 : Int) % 20)] w fun e w' => e = .returned (.int .i64 (aryN (2 + a1 % 20))) ∧ Below w.heap.size w w' := by
  have har := arity_code a1
  have HA := Lib.hid har
  generalize aryN (2 + a1 % 20) = p at *
  clear har
  go_enter Try.func20, Try.ntmps20
  go_wp2_with (go_at_call 51; refine (HA.out _).mono ?_; rintro e w2 ⟨rfl, hb⟩)
  go_ret
  exact ⟨rfl, hb⟩
/-- A simple term and the term itself have one value. -/
theorem app_sound {W room : Nat} {L : List PNode} {o : Nat} {xs : List Int} {vals : List Int} (h1 : 1 ≤ W) (hW : W ≤ 64) (hw : WFL L) (hg : GoodL W L) (ho1 : 2 ≤ o) (ho2 : o ≤ 21) (hl : aryN o = xs.length) (hin : ∀ a ∈ xs, (0 : Int) ≤ a ∧ a < (L.length : Int)) (hr : L.length + 2 ≤ room) :
    ∃ L1 s L2 t v, simpR W room L o xs = (L1, s, 0) ∧ appR room L1 o xs = (L2, t, 0) ∧ GoodL W L2 ∧ L2.length ≤ L.length + 2 ∧ s < L2.length ∧ t < L2.length ∧ val W vals L2 s = v ∧ val W vals L2 t = v := by
  have hok := simpA_ok (W := W) hw ho1 ho2 hl hin
  have he := ans_room (W := W) (room := room) (by omega) _ hok
  have hp := ans_prefix (W := W) (room := room) (L := L) (simpA W L o xs)
  have hlen := ans_len (W := W) (room := room) (L := L) (simpA W L o xs)
  have hwf := ans_wf (room := room) hw hW _ hok
  have hgd := ans_good (room := room) hg (simpA W L o xs)
  have htm := ans_term _ hok he
  have hv := ans_val (vals := vals) hw hW _ hok he
  rw [simpA_val hw hg h1 hW ho1 ho2 hl] at hv
  have hR := simpR_in (W := W) (room := room) ho1 ho2 hl hin
  obtain ⟨R, hRR⟩ : ∃ R, Ans.res W room L (simpA W L o xs) = R := ⟨_, rfl⟩
  rw [hRR] at he hp hlen hwf hgd htm hv hR
  have hpl := hp.length_le
  have hok2 : AnsOk R.1 (.app o xs) := ⟨ho1, ho2, hl, fun a ha => by have := hin a ha; omega⟩
  have he2 := ans_room (W := W) (room := room) (by omega) _ hok2
  have hp2 := ans_prefix (W := W) (room := room) (L := R.1) (.app o xs)
  have hlen2 := ans_len (W := W) (room := room) (L := R.1) (.app o xs)
  have hgd2 := ans_good (room := room) hgd (.app o xs)
  have htm2 := ans_term _ hok2 he2
  have hv2 := ans_val (vals := vals) hwf hW _ hok2 he2
  have hpl2 := hp2.length_le
  refine ⟨R.1, R.2.1, _, _, _, hR.trans (triple0 he).symm, (triple0 he2).symm, hgd2, by omega, by omega, htm2, ?_, rfl⟩
  rw [hv2, val_prefix hp2 htm, hv]
  show wI o W (xs.map fun a => val W vals L a.toNat) = wI o W (xs.map fun a => val W vals R.1 a.toNat)
  congr 1
  exact List.map_congr_left fun a ha => (val_prefix hp (by have := hin a ha; omega)).symm
set_option maxRecDepth 100000 in
theorem simpSound_walk {w : World} (Wi : Int) (v v2 v3 : Value) (qs : List PAsk) (hv : AsksOf w v qs) (hq : qs.length ≤ 9223372036854775807) (hcq : ∀ a n c, v = .slice a n c → n ≤ c) (rs : List PAsk) (hv2 : AsksOf w v2 rs) (hn2 : rs.length ≤ 9223372036854775807) (vals : List Int) (hv3 : SliceOf w .u64 v3 vals) (hvu : U64s vals) (hn3 : vals.length ≤ 9223372036854775807) (hc3 : ∀ a n c, v3 = .slice a n c → n ≤ c) :
    Calls Try.prog 12 #[.int .i64 Wi, v, v2, v3] w fun e w' => e = .returned (.bool true) ∧ Below w.heap.size w w' := by
  obtain ⟨a3, n3, cap3, rfl, hl3, -⟩ := hv3.parts
  have hcap3 := hc3 _ _ _ rfl
  rw [hl3] at hn3
  obtain ⟨a2, cap2, rfl⟩ := hv2.parts
  obtain ⟨n2, hn2'⟩ : ∃ n2, rs.length = n2 := ⟨_, rfl⟩
  rw [hn2'] at hv2 hn2 ⊢
  obtain ⟨a, cap, rfl⟩ := hv.parts
  have hcap := hcq _ _ _ rfl
  obtain ⟨n, hn⟩ : ∃ n, qs.length = n := ⟨_, rfl⟩
  rw [hn] at hv hq hcap ⊢
  have hfill := fill_some Wi a n cap qs hv hq
  obtain ⟨W, hW⟩ : ∃ W, (Wi % 64).toNat + 1 = W := ⟨_, rfl⟩
  rw [hW] at hfill
  have hW1 : 1 ≤ W := by omega
  have hW2 : W ≤ 64 := by omega
  have HF := Lib.hid hfill; have HV2 := Lib.hid hv2; have HV3 := Lib.hid hv3; have HVU := Lib.hid hvu; have HL3 := Lib.hid hl3
  clear hv hcq hfill hW hn hv2 hv3 hvu hc3 hl3 hn2'
  go_enter Try.func12, Try.ntmps12
  go_upto_region 1 with fail
  go_cut [9, 10] (fun g t wx => ∃ gb F I a' m c L, L.length ≤ 60 ∧ GoodL W L ∧ g = .pointer (some ⟨gb, 0, none⟩) ∧ t = .slice a' m c ∧ Lab w wx [Thing.graph F I gb W 1048576 L])
  case first =>
    by_cases h100 : (60 : Int) < (n : Int)
    · have HF1 := Lib.hid (HF.out 60 (by omega))
      go_wp2_with fail
      go_at_call 23
      refine HF1.out.mono ?_
      rintro e w1 ⟨gb, F, I, a', m, c, L, -, hL, hG, -, rfl, hlab⟩
      go_wp2
      go_meet
      exact ⟨gb, F, I, a', m, c, L, hL, hG, rfl, rfl, hlab⟩
    · have HF1 := Lib.hid (HF.out n (by omega))
      go_wp2_with fail
      go_at_call 23
      refine HF1.out.mono ?_
      rintro e w1 ⟨gb, F, I, a', m, c, L, -, hL, hG, -, rfl, hlab⟩
      go_wp2
      go_meet
      exact ⟨gb, F, I, a', m, c, L, by omega, hG, rfl, rfl, hlab⟩
  case rest =>
    obtain ⟨gb, F, I, a', m, c, L, hL, hG, rfl, rfl, hlab⟩ := hcut
    have HL0 := Lib.hid hlab; have HG0 := Lib.hid hG
    clear hlab hG
    go_upto_region 4 with fail
    go_cut [3] (fun v3 wx => ∃ m3, v3 = .slice a3 m3 cap3 ∧ m3 ≤ n3 ∧ m3 ≤ 6 ∧ Lab w wx [Thing.graph F I gb W 1048576 L])
    case first =>
      by_cases h30 : (6 : Int) < (n3 : Int)
      · go_wp2
        go_meet
        exact ⟨_, rfl, by omega, by omega, HL0.out⟩
      · go_wp2
        go_meet
        exact ⟨_, rfl, by omega, by omega, HL0.out⟩
    case rest =>
      obtain ⟨m3, rfl, h31, h32, hl⟩ := hcut
      have hvs := HV3.out.take m3 cap3 h31
      obtain ⟨vs, hvs0⟩ : ∃ vs, vals.take m3 = vs := ⟨_, rfl⟩
      have hvsu := HVU.out.take m3
      have hvl : vs.length ≤ 9223372036854775807 := by rw [← hvs0, List.length_take, HL3.out]; omega
      rw [hvs0] at hvs hvsu
      have HVS := Lib.hid hvs; have HVSU := Lib.hid hvsu; have HVL := Lib.hid hvl; have HL := Lib.hid hl
      clear hvs hvs0 hvsu hl hvl HVU HV3 HL3 HL0
      rename_i K hK
      refine hK _ _ ?_
      refine wp_seq_k ?_
      intro K2 hK2
      go_cut [11] (fun i wx => ∃ F I L, L.length ≤ 4000 ∧ GoodL W L ∧ Lab w wx [Thing.graph F I gb W 1048576 L])
      case first =>
        go_wp2
        go_loopw [11] (fun i wx => ∃ k : Nat, k ≤ 60 ∧ i = .int .i64 k ∧ ∃ F I L, L.length ≤ 60 + 60 * k ∧ GoodL W L ∧ Lab w wx [Thing.graph F I gb W 1048576 L]) (fun i _ => 60 - (intOf i).toNat)
        case atStart => exact ⟨0, by omega, rfl, F, I, L, by omega, HG0.out, HL.out⟩
        case round =>
          obtain ⟨k, hk, rfl, F3, I3, L3, hL3, hG3, hlab⟩ := hrel
          have HL1 := Lib.hid hlab
          have hwf := hlab.gr.wf
          by_cases g1 : k < L3.length
          · by_cases g2 : k < 60
            · obtain ⟨L4, s4, hR, hw4, hg4, hp4, hl4, hs4, hval⟩ := simpleR_sound (room := 1048576) (vals := vs) hW1 hW2 hwf hG3 g1 (by omega)
              have hlp := hp4.length_le
              have HR := Lib.hid hR; have HG4 := Lib.hid hg4; have HVAL := Lib.hid hval; have HP := Lib.hid hp4
              have hlen := Lib.hid (len_any hlab.gr)
              clear hR hg4 hval hlab hG3 hwf hw4 hp4
              go_wp2_with fail
              go_at_call 24
              refine hlen.out.mono ?_
              rintro e w2 ⟨rfl, rfl⟩
              go_wp2_with fail
              go_at_call 30
              refine (HL1.out.simple (k : Int) HR.out).mono ?_
              rintro e w3 ⟨F4, I4, rfl, h4⟩
              have H4 := Lib.hid h4; clear h4
              obtain ⟨vv, hvv⟩ : ∃ vv, val W vs L3 k = vv := ⟨_, rfl⟩
              have e1 : val W vs L4 k = vv := (val_prefix HP.out g1).trans hvv
              have e2 : val W vs L4 s4 = vv := HVAL.out.trans hvv
              have E1 := Lib.hid e1; have E2 := Lib.hid e2
              clear e1 e2 hvv
              go_wp2_with fail
              go_at_call 46
              refine (H4.out.eval12 k (by omega) vs _ (HVS.out.below H4.out.below) HVL.out HVSU.out E1.out).mono ?_
              rintro e w4 ⟨rfl, h5⟩
              have H5 := Lib.hid h5; clear h5
              go_wp2_with fail
              go_at_call 46
              refine (H5.out.eval12 s4 hs4 vs _ (HVS.out.below H5.out.below) HVL.out HVSU.out E2.out).mono ?_
              rintro e w5 ⟨rfl, h6⟩
              have H6 := Lib.hid h6; clear h6
              have q1 : (vv != vv) = false := by simp
              go_wp2
              go_roundw
              case rel => exact ⟨k + 1, by omega, by go_num, F4, I4, L4, by omega, HG4.out, H6.out⟩
              case measure => simp [intOf]; omega
            · have hlen := Lib.hid (len_any hlab.gr); have HG3 := Lib.hid hG3
              clear hlab hG3 hwf
              go_wp2_with (go_at_call 24; refine hlen.out.mono ?_; rintro e w2 ⟨rfl, rfl⟩)
              go_meet
              exact ⟨F3, I3, L3, by omega, HG3.out, HL1.out⟩
          · have hlen := Lib.hid (len_any hlab.gr); have HG3 := Lib.hid hG3
            clear hlab hG3 hwf
            go_wp2_with (go_at_call 24; refine hlen.out.mono ?_; rintro e w2 ⟨rfl, rfl⟩)
            go_meet
            exact ⟨F3, I3, L3, by omega, HG3.out, HL1.out⟩
      case rest =>
        obtain ⟨F4, I4, L4, hL4, hG4, hlab⟩ := hcut
        refine hK2 _ _ ?_
        have HLQ := Lib.hid hlab; have HGQ := Lib.hid hG4
        clear hlab hG4 HL HG0
        go_wp2
        go_loopw [18] (fun i wx => ∃ k : Nat, k ≤ n2 ∧ k ≤ 40 ∧ i = .int .i64 k ∧ ∃ F I L, L.length ≤ 4000 + 2 * k ∧ GoodL W L ∧ Lab w wx [Thing.graph F I gb W 1048576 L]) (fun i _ => 40 - (intOf i).toNat)
        case atStart => exact ⟨0, by omega, by omega, rfl, F4, I4, L4, by omega, HGQ.out, HLQ.out⟩
        case round =>
          obtain ⟨k, hk1, hk2, rfl, F3, I3, L3, hL3, hG3, hlab⟩ := hrel
          have HL1 := Lib.hid hlab; have HG3 := Lib.hid hG3; have HLEN := Lib.hid (len_any hlab.gr)
          have HAW := Lib.hid hlab.awake12
          have hwf := hlab.gr.wf
          have HWF := Lib.hid hwf
          clear hlab hG3 hwf
          by_cases g1 : k < n2
          · by_cases g2 : k < 40
            · by_cases g3 : 0 < L3.length
              · obtain ⟨b, off, x, va, rfl, hx, hok, hav, c0, c1, c2, c3, c4⟩ := HV2.out.at g1
                have hys := hav.slice
                have htake := fun k => addArgs_take x L3.length k
                have hlen := addArgs_len x L3.length
                have hain := addArgs_in x L3.length (by omega)
                obtain ⟨args, hargs⟩ : ∃ args, addArgs x L3.length = args := ⟨_, rfl⟩
                rw [hargs] at htake hlen hain
                have hcb := code_bounds x
                obtain ⟨x0, x1, qn, xn, ys⟩ := x
                simp only [PAsk.code] at htake hlen hys c1 c4 hcb hain
                have d1 := cell_later HL1.out.below c1
                have d4 := cell_later HL1.out.below c4
                obtain ⟨va, m, cap, rfl, hna, hcell⟩ := hys.parts
                have hm9 : m ≤ 9223372036854775807 := by rw [← hna]; exact hok.2.2.2.2.2
                obtain ⟨p, hp⟩ : ∃ p, aryN (2 + x1 % 20) = p := ⟨_, rfl⟩
                have hp3 : p ≤ 3 := by rw [← hp]; exact aryN_le _
                have har := arity12_any x1
                rw [hp] at htake hlen har
                have hcode : ((2 + x1 % 20 : Nat) : Int) = 2 + (x1 : Int) % 20 := by omega
                have HAR := Lib.hid har; have HT := Lib.hid htake; have HAL := Lib.hid hlen; have HNA := Lib.hid hna; have HC := Lib.hid (fun i hi => hcell i hi); have HIN := Lib.hid hain; have HCO := Lib.hid hcode; have HCB := Lib.hid (And.intro hcb hp)
                have g3' : (0 : Int) < (L3.length : Int) := by omega
                have k0 : (0 : Int) ≤ (k : Int) := by omega
                have kn : (k : Int) < (n2 : Int) := by omega
                obtain ⟨wo, rfl⟩ : ∃ wo : World, wo = wr := ⟨_, rfl⟩
                clear hx hok hav hys htake hlen hain hargs hcb c0 c1 c2 c3 c4 hna hcell hp har hcode
                go_wp2_with (go_at_call 24; refine HLEN.out.mono ?_; rintro e w2 ⟨rfl, rfl⟩)
                go_loopw [20, 21] (fun v i wx => ∃ j : Nat, j ≤ p ∧ i = .int .i64 j ∧ OwnInts wx wo.heap.size 3 .i64 v (args.take j) ∧ Below wo.heap.size wo wx) (fun _ i _ => p - (intOf i).toNat)
                case atStart => exact ⟨0, by omega, rfl, OwnInts.nil _ _ _ _, Below.refl _ _⟩
                case round =>
                  obtain ⟨j, hj, rfl, hown, hbr⟩ := hrel
                  have HOWN := Lib.hid hown; have HBR := Lib.hid hbr
                  clear hown hbr
                  go_wp2_with fail
                  go_at_call 20
                  refine (HAR.out _).mono ?_
                  rintro e w3 ⟨rfl, hb3⟩
                  have hbr := HBR.out.trans (hb3.mono HBR.out.size)
                  have hown := HOWN.out.below hb3
                  have e1 := cell_later hbr d1
                  have e4 := cell_later hbr d4
                  have HG := Lib.hid (HL1.out.gr.later hbr); have HBR3 := Lib.hid hbr
                  have hbs := hbr.size
                  clear hb3 hbr
                  by_cases hlt : j < p
                  · have Htk := Lib.hid (HT.out j hlt)
                    have hcl : (args.take j).length ≤ 1000000000 := by have := List.length_take_le j args; have := HAL.out; omega
                    rcases Nat.eq_zero_or_pos m with hm | hm
                    · subst hm
                      have harg : argOf ys j % (L3.length : Int) = 0 := by unfold argOf; rw [if_pos HNA.out]; simp
                      have Harg := Lib.hid harg
                      clear harg
                      go_wp2_with (first | (go_at_call 24; refine (len_any HG.out).mono ?_; rintro e w6 ⟨rfl, rfl⟩) | (go_at_call 18; refine (mod_any 0 L3.length (by omega) (by omega) _).mono ?_; rintro e w6 ⟨rfl, rfl⟩) | (at_builtin; refine wpList_append1_int 33 3 .i64 wo.heap.size w3 _ (args.take j) 0 8 hown _ _ rfl rfl Try.underlying33 Try.infoI64 (by decide) rfl rfl hcl hbs ?_; intro v' w' hown' hb' hv'))
                      go_roundw
                      case rel => exact ⟨j + 1, by omega, by go_num, by rw [← Htk.out, Harg.out]; exact hown', HBR3.out.trans hb'⟩
                      case measure => simp [intOf]; omega
                    · obtain ⟨b5, off5, y, rfl, hc, hy⟩ := HC.out (j % m) (Nat.mod_lt _ hm)
                      have hc' := cell_later HBR3.out (cell_later HL1.out.below hc)
                      have hm0 : decide ((0 : Int) < (m : Int)) = true := by simp; omega
                      have harg : argOf ys j = y := by
                        unfold argOf
                        rw [HNA.out, if_neg (by omega), List.getD_eq_getElem?_getD, hy]; rfl
                      have Harg := Lib.hid harg
                      have hmz : ((m : Int) == 0) = false := by simp; omega
                      have hkm : ((j : Int).tmod (m : Int)) = ((j % m : Nat) : Int) := by rw [Int.tmod_eq_emod_of_nonneg (by omega)]; simp
                      have hkm2 : ((j : Int) % (m : Int)) = ((j % m : Nat) : Int) := by simp
                      have hkl := Nat.mod_lt j hm
                      obtain ⟨jj, hjj⟩ : ∃ jj, j % m = jj := ⟨_, rfl⟩
                      rw [hjj] at hc hy hc' hkm hkm2 hkl
                      clear harg hc hy hjj
                      go_wp2
                      go_quiet (fail)
                      refine wp_exit_abs (fun w5 => Below w3.heap.size w3 w5) (below_drewN (Below.refl _ _) _) ?_
                      rintro w5 hb5
                      have HG5 := Lib.hid (HG.out.later hb5)
                      have hown5 := hown.below hb5
                      have hbs5 := Nat.le_trans hbs hb5.size
                      clear hown
                      go_wp2_with (first | (go_at_call 24; refine (len_any HG5.out).mono ?_; rintro e w6 ⟨rfl, rfl⟩) | (go_at_call 18; refine (mod_any y L3.length (by omega) (by omega) _).mono ?_; rintro e w6 ⟨rfl, rfl⟩) | (at_builtin; refine wpList_append1_int 33 3 .i64 wo.heap.size w5 _ (args.take j) (y % (L3.length : Int)) 8 hown5 _ _ rfl rfl Try.underlying33 Try.infoI64 (by decide) rfl rfl hcl hbs5 ?_; intro v' w' hown' hb' hv'))
                      go_roundw
                      case rel => exact ⟨j + 1, by omega, by go_num, by rw [← Htk.out, Harg.out]; exact hown', (HBR3.out.trans (hb5.mono hbs)).trans hb'⟩
                      case measure => simp [intOf]; omega
                  · obtain rfl : j = p := by omega
                    rw [List.take_of_length_le (by rw [HAL.out]; exact Nat.le_refl _)] at hown
                    have hl5 := (HL1.out.new_ints HBR3.out hown)
                    obtain ⟨L5, s5, L6, t6, vv, hR, hA, hG6, hL6, hs5, ht6, hv1, hv2⟩ := app_sound (room := 1048576) (vals := vs) (xs := args) hW1 hW2 HWF.out HG3.out HCB.out.1.1 HCB.out.1.2.1 (HCB.out.2.trans HAL.out.symm) HIN.out (by omega)
                    have HL5 := Lib.hid hl5.swap; have HR := Lib.hid hR; have HA := Lib.hid hA; have HG6 := Lib.hid hG6; have HV1 := Lib.hid hv1; have HV2' := Lib.hid hv2
                    have HSL := Lib.hid hl5.ints.slice
                    have hap := sapp_any hl5.swap.gr (2 + x1 % 20) (by omega) args _ hl5.ints.slice
                    rw [HCO.out, hR] at hap
                    have HAP := Lib.hid hap
                    clear hown hl5 hR hA hG6 hv1 hv2 hap e1 e4 hbs
                    go_wp2_with fail
                    go_at_call 26
                    refine HAP.out.mono ?_
                    intro e w6 hp
                    obtain ⟨F5, I5, rfl, h6⟩ := HL5.out.gpost hp
                    have hap2 := app_any h6.gr (2 + x1 % 20) (by omega) args _ h6.swap.ints.slice
                    rw [HCO.out, HA.out] at hap2
                    have H6 := Lib.hid h6; have HAP2 := Lib.hid hap2
                    clear hp h6 hap2
                    go_wp2_with fail
                    go_at_call 29
                    refine HAP2.out.mono ?_
                    intro e w7 hp
                    obtain ⟨F6, I6, rfl, h7⟩ := H6.out.gpost hp
                    have H7 := Lib.hid h7.swap.drop
                    clear hp h7
                    go_wp2_with fail
                    go_at_call 46
                    refine (H7.out.eval12 s5 hs5 vs _ (HVS.out.below H7.out.below) HVL.out HVSU.out HV1.out).mono ?_
                    rintro e w8 ⟨rfl, h8⟩
                    have H8 := Lib.hid h8; clear h8
                    go_wp2_with fail
                    go_at_call 46
                    refine (H8.out.eval12 t6 ht6 vs _ (HVS.out.below H8.out.below) HVL.out HVSU.out HV2'.out).mono ?_
                    rintro e w9 ⟨rfl, h9⟩
                    have H9 := Lib.hid h9; clear h9
                    have q1 : (vv != vv) = false := by simp
                    go_wp2
                    go_roundw
                    case rel => exact ⟨k + 1, by omega, by omega, by go_num, F6, I6, L6, by omega, HG6.out, H9.out⟩
                    case measure => simp [intOf]; omega
              · go_wp2_with (first | (go_at_call 24; refine HLEN.out.mono ?_; rintro e w2 ⟨rfl, rfl⟩) | (go_at_call 22; refine HAW.out.mono ?_; rintro e w2 ⟨rfl, hb⟩))
                go_ret
                exact ⟨rfl, hb⟩
            · go_wp2_with (first | (go_at_call 24; refine HLEN.out.mono ?_; rintro e w2 ⟨rfl, rfl⟩) | (go_at_call 22; refine HAW.out.mono ?_; rintro e w2 ⟨rfl, hb⟩))
              go_ret
              exact ⟨rfl, hb⟩
          · go_wp2_with (first | (go_at_call 24; refine HLEN.out.mono ?_; rintro e w2 ⟨rfl, rfl⟩) | (go_at_call 22; refine HAW.out.mono ?_; rintro e w2 ⟨rfl, hb⟩))
            go_ret
            exact ⟨rfl, hb⟩
end Go.Proofs.Ytcpgiadhmmmafaa
