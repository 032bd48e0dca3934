/- SimpOnce. -/
import Derived.Test.YtcpgiadhmmmafaaSimpV
namespace Go.Proofs.Ytcpgiadhmmmafaa
open Go.RowKit Go.Maps
set_option maxHeartbeats 3200000

set_option maxRecDepth 100000 in
theorem simpOnce_walk {w : World} (Wi : Int) (v v2 : Value) (qs : List PAsk) (hv : AsksOf w v qs) (hq : qs.length ≤ 9223372036854775807) (hcq : ∀ a n c, v = .slice a n c → n ≤ c) (rs : List PAsk) (hv2 : AsksOf w v2 rs) (hn2 : rs.length ≤ 9223372036854775807) :
    Calls Try.prog 7 #[.int .i64 Wi, v, v2] w fun e w' => e = .returned (.bool true) ∧ Below w.heap.size w w' := by
  obtain ⟨a2, cap2, rfl⟩ := hv2.parts
  obtain ⟨n2, hn2'⟩ : ∃ n2, rs.length = n2 := ⟨_, rfl⟩
  obtain ⟨a, cap, rfl⟩ := hv.parts
  have hcap := hcq _ _ _ rfl
  obtain ⟨n, hn⟩ : ∃ n, qs.length = n := ⟨_, rfl⟩
  have HN2 := Lib.hid hn2
  rw [hn2'] at hv2 ⊢
  have HV2 := Lib.hid hv2
  rw [hn] at hv hq hcap ⊢
  have hfill := fill_some Wi a n cap qs hv hq
  obtain ⟨W, hW⟩ : ∃ W, (Wi % 64).toNat + 1 = W := ⟨_, rfl⟩
  rw [hW] at hfill
  have hW1 : 1 ≤ W := by omega
  have hW2 : W ≤ 64 := by omega
  have HF := Lib.hid hfill
  clear hv hcq hfill hW hn hv2 hn2 hn2'
  go_enter Try.func7, Try.ntmps7
  go_upto_region 1 with fail
  go_cut [7, 8] (fun g t wx => ∃ gb F I a' m c L, L.length ≤ 60 ∧ GoodL W L ∧ g = .pointer (some ⟨gb, 0, none⟩) ∧ t = .slice a' m c ∧ Lab w wx [Thing.graph F I gb W 1048576 L])
  case first =>
    by_cases h100 : (60 : Int) < (n : Int)
    · have HF1 := Lib.hid (HF.out 60 (by omega))
      go_wp2_with fail
      go_at_call 23
      refine HF1.out.mono ?_
      rintro e w1 ⟨gb, F, I, a', m, c, L, -, hL, hG, -, rfl, hlab⟩
      go_wp2
      go_meet
      exact ⟨gb, F, I, a', m, c, L, hL, hG, rfl, rfl, hlab⟩
    · have HF1 := Lib.hid (HF.out n (by omega))
      go_wp2_with fail
      go_at_call 23
      refine HF1.out.mono ?_
      rintro e w1 ⟨gb, F, I, a', m, c, L, -, hL, hG, -, rfl, hlab⟩
      go_wp2
      go_meet
      exact ⟨gb, F, I, a', m, c, L, by omega, hG, rfl, rfl, hlab⟩
  case rest =>
    obtain ⟨gb, F, I, a', m, c, L, hL, hG, rfl, rfl, hlab⟩ := hcut
    have HL0 := Lib.hid hlab; have HG0 := Lib.hid hG; have HLEN := Lib.hid (len_any hlab.gr)
    clear hlab hG
    go_wp2_with (go_at_call 24; refine HLEN.out.mono ?_; rintro e w2 ⟨rfl, rfl⟩)
    go_loopw [10] (fun i wx => ∃ k : Nat, k ≤ L.length ∧ i = .int .i64 k ∧ ∃ F I L', L.length ≤ L'.length ∧ L'.length ≤ 60 + 61 * k ∧ GoodL W L' ∧ Lab w wx [Thing.graph F I gb W 1048576 L']) (fun i _ => L.length - (intOf i).toNat)
    case atStart => exact ⟨0, by omega, rfl, F, I, L, by omega, by omega, HG0.out, HL0.out⟩
    case round =>
      obtain ⟨k, hk, rfl, F3, I3, L3, hl1, hl2, hG3, hlab⟩ := hrel
      have HL1 := Lib.hid hlab; have HG3 := Lib.hid hG3
      have hwf := hlab.gr.wf
      by_cases hlt : k < L.length
      · obtain ⟨L4, s4, hr1, hr2, hg4, hl4, hl5⟩ := simpleR_twice (room := 1048576) (t := k) hW2 hwf hG3 (by omega) (by omega)
        have HR := Lib.hid (And.intro hr1 hr2); have HG4 := Lib.hid hg4
        clear hr1 hr2 hg4 hlab hG3 hwf
        go_wp2_with fail
        go_at_call 30
        refine (HL1.out.simple (k : Int) HR.out.1).mono ?_
        rintro e w3 ⟨F4, I4, rfl, h4⟩
        have H4 := Lib.hid h4; clear h4
        go_wp2_with fail
        go_at_call 30
        refine (H4.out.simple (s4 : Int) HR.out.2).mono ?_
        rintro e w4 ⟨F5, I5, rfl, h5⟩
        have H5 := Lib.hid h5; clear h5
        have q1 : ((s4 : Int) != (s4 : Int)) = false := by simp
        go_wp2
        go_roundw
        case rel => exact ⟨k + 1, by omega, by go_num, F5, I5, L4, by omega, by omega, HG4.out, H5.out⟩
        case measure => simp [intOf]; omega
      · obtain rfl : k = L.length := by omega
        have HW := Lib.hid (width_any hlab.gr)
        have hnew := HL1.out.new_graph (W : Int) 0 ⟨by omega, by omega, by omega, by omega⟩
        have HNEW := Lib.hid hnew
        clear hwf hG3 hlab hnew
        go_wp2_with fail
        go_at_call 35
        refine HW.out.mono ?_
        rintro e w3 ⟨rfl, rfl⟩
        go_wp2_with fail
        go_at_call 34
        refine HNEW.out.mono ?_
        rintro e w4 ⟨hb, F4, rfl, h4⟩
        rw [Int.toNat_natCast] at h4
        have h5 : Lab w w4 [Thing.graph F4 [] hb W 1048576 []] := h4.sub (.cons_cons _ (.cons _ .slnil))
        have H5 := Lib.hid h5; clear h4 h5
        go_wp2
        go_loopw [17] (fun i wx => ∃ k : Nat, k ≤ 3 ∧ i = .int .i64 k ∧ ∃ F I L', L'.length ≤ k ∧ GoodL W L' ∧ AllFixed W L' ∧ Lab w wx [Thing.graph F I hb W 1048576 L']) (fun i _ => 3 - (intOf i).toNat)
        case atStart => exact ⟨0, by omega, rfl, F4, [], [], by simp, GoodL.nil W, AllFixed.nil W, H5.out⟩
        case round =>
          obtain ⟨k, hk, rfl, F5, I5, L5, hl5, hG5, hX5, hlab⟩ := hrel
          have HL5 := Lib.hid hlab; have HG5 := Lib.hid hG5; have HX5 := Lib.hid hX5; have HWF := Lib.hid hlab.gr.wf
          clear hlab hG5 hX5
          by_cases hlt : k < 3
          · have hvar : varR 1048576 L5 (k : Int) = askP 1048576 L5 (1, k, []) := by unfold varR; rw [if_pos ⟨by omega, by omega⟩, Int.toNat_natCast]
            have hg6 := HG5.out.var 1048576 (k : Int)
            have hx6 := HX5.out.ask (room := 1048576) (n := (1, k, [])) HWF.out rfl
            have hl6 := (askP_len 1048576 L5 (1, k, [])).2
            rw [← hvar] at hx6 hl6
            have hc := var_any HL5.out.gr (k : Int)
            have HC := Lib.hid hc; have HG6 := Lib.hid hg6; have HX6 := Lib.hid hx6
            clear hvar hg6 hx6 hc
            generalize varR 1048576 L5 (k : Int) = R at *
            obtain ⟨L6, t6, e6⟩ := R
            simp only at hl6
            go_wp2_with fail
            go_at_call 36
            refine HC.out.mono ?_
            intro e w6 hp
            obtain ⟨F6, I6, rfl, h6⟩ := HL5.out.gpost hp
            have H6 := Lib.hid h6; clear h6 hp
            go_wp2
            go_roundw
            case rel => exact ⟨k + 1, by omega, by go_num, F6, I6, L6, by omega, HG6.out, HX6.out, H6.out⟩
            case measure => simp [intOf]; omega
          · have hgr := grow_any HL5.out HG5.out HX5.out (by omega) _ rs HV2.out HN2.out
            have HGR := Lib.hid hgr
            clear hgr
            go_wp2_with fail
            go_at_call 37
            refine HGR.out.mono ?_
            rintro e w6 ⟨F6, I6, L6, a6, m6, c6, out, rfl, hG6, hX6, hl6, ho6, hout, h6⟩
            have hsl := h6.second
            have hml : m6 = out.length := by
              obtain ⟨a', n', c', e', hl', -⟩ := (OwnInts.slice h6.ints2)
              simp only [Value.slice.injEq] at e'
              rw [hl']; exact e'.2.1
            subst hml
            have H6 := Lib.hid h6; have HG6 := Lib.hid hG6; have HX6 := Lib.hid hX6; have HOUT := Lib.hid hout; have HLEN6 := Lib.hid (len_any h6.gr)
            clear h6 hG6 hX6 hout hsl
            go_wp2_with (go_at_call 24; refine HLEN6.out.mono ?_; rintro e w7 ⟨rfl, rfl⟩)
            go_loopw [20] (fun i wx => ∃ j : Nat, j ≤ out.length ∧ i = .int .i64 j ∧ ∃ F I, Lab w wx [Thing.graph F I hb W 1048576 L6, Thing.ints (.slice a6 out.length c6) out]) (fun i _ => out.length - (intOf i).toNat)
            case atStart => exact ⟨0, by omega, rfl, F6, I6, H6.out⟩
            case round =>
              obtain ⟨j, hj, rfl, F7, I7, hlab⟩ := hrel
              have HL7 := Lib.hid hlab
              by_cases hlt3 : j < out.length
              · obtain ⟨b, off, u, rfl, hc, hu⟩ := (OwnInts.slice hlab.ints2).parts' hlt3
                have hin := HOUT.out u (List.mem_of_getElem? hu)
                obtain ⟨t, rfl⟩ := Int.eq_ofNat_of_zero_le hin.1
                have hR := simpleR_fixed (room := 1048576) hW2 hlab.gr.wf HG6.out (HX6.out t (by omega))
                have HR := Lib.hid hR; have HU := Lib.hid hu
                clear hlab hu hR
                go_wp2_with fail
                go_at_call 30
                refine (HL7.out.simple (t : Int) HR.out).mono ?_
                rintro e w8 ⟨F8, I8, rfl, h8⟩
                obtain ⟨b2, off2, u2, e2, hc2, hu2⟩ := (OwnInts.slice h8.ints2).parts' hlt3
                simp only [Option.some.injEq, Addr.mk.injEq, and_true] at e2
                obtain ⟨rfl, rfl⟩ := e2
                have hut : (t : Int) = u2 := by have := HU.out; rw [hu2] at this; simpa using this.symm
                subst hut
                have H8 := Lib.hid h8; clear h8 hc hu2
                have q1 : ((t : Int) != (t : Int)) = false := by simp
                go_wp2
                go_roundw
                case rel => exact ⟨j + 1, by omega, by go_num, F8, I8, H8.out⟩
                case measure => simp [intOf]; omega
              · obtain rfl : j = out.length := by omega
                have HLE := Lib.hid (len_any hlab.gr); have HAW := Lib.hid hlab.awake12
                clear hlab
                go_wp2_with (first | (go_at_call 24; refine HLE.out.mono ?_; rintro e w2 ⟨rfl, rfl⟩) | (go_at_call 22; refine HAW.out.mono ?_; rintro e w2 ⟨rfl, hb⟩))
                go_ret
                exact ⟨rfl, hb⟩
end Go.Proofs.Ytcpgiadhmmmafaa
