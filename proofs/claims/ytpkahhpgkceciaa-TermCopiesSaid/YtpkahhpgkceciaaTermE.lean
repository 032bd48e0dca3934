/- TermCopies of law 10. -/
import Derived.Test.YtpkahhpgkceciaaLabP
import Derived.Test.YtpkahhpgkceciaaGraphG
namespace Go.Proofs.Ytpkahhpgkceciaa
open Go.RowKit Go.Maps
set_option maxHeartbeats 800000

theorem Lab.awakeE {w0 wr : World} {ts : List Thing} (h : Lab w0 wr ts) : Calls Try.prog 22 #[] wr fun e w' => e = .returned (.bool true) ∧ Below w0.heap.size w0 w' :=
  (awake_any wr).mono fun _ _ ⟨he, hb⟩ => ⟨he, h.below.trans (hb.mono h.size)⟩
set_option maxRecDepth 100000 in
theorem termCopies_walk {w : World} (Wi : Int) (v v2 : Value) (qs qs2 : List PAsk) (hv : AsksOf w v qs) (hq : qs.length ≤ 9223372036854775807) (hv2 : AsksOf w v2 qs2) (hq2 : qs2.length ≤ 9223372036854775807) (hc : ∀ a n c, v = .slice a n c → n ≤ c) :
    Calls Try.prog 11 #[.int .i64 Wi, v, v2] w fun e w' => e = .returned (.bool true) ∧ Below w.heap.size w w' := by
  obtain ⟨a, cap, rfl⟩ := hv.parts
  obtain ⟨a2, cap2, rfl⟩ := hv2.parts
  have hcap := hc _ _ _ rfl
  obtain ⟨n, hn⟩ : ∃ n, qs.length = n := ⟨_, rfl⟩
  obtain ⟨n2, hn2⟩ : ∃ n, qs2.length = n := ⟨_, rfl⟩
  rw [hn] at hv hq hcap ⊢
  rw [hn2] at hv2 hq2 ⊢
  obtain ⟨W, hW⟩ : ∃ W, (Wi % 64).toNat + 1 = W := ⟨_, rfl⟩
  have hfa : 60 ≤ n → Calls Try.prog 19 #[.int .i64 Wi, .slice a 60 cap] w fun e w' => ∃ gb F I a' m c L, L.length ≤ 120 ∧ VarsLt 6 L ∧ e = .returned (.tuple #[.pointer (some ⟨gb, 0, none⟩), .slice a' m c]) ∧ Lab w w' [Thing.graph F I gb W 1048576 L] := fun h60 => by
    refine (fill_lab Wi _ _ (hv.take 60 cap h60) (by have := List.length_take_le 60 qs; omega)).mono ?_
    rintro e w' ⟨gb, F, I, a', m, c, rfl, hl⟩
    rw [hW] at hl
    exact ⟨gb, F, I, a', m, c, _, by have := (fillS_len W ((qs.take 60).take 120)).1; have := List.length_take_le 120 (qs.take 60); omega, fillS_vars _ _, rfl, hl.swap.drop⟩
  have hfb : Calls Try.prog 19 #[.int .i64 Wi, .slice a n cap] w fun e w' => ∃ gb F I a' m c L, L.length ≤ 120 ∧ VarsLt 6 L ∧ e = .returned (.tuple #[.pointer (some ⟨gb, 0, none⟩), .slice a' m c]) ∧ Lab w w' [Thing.graph F I gb W 1048576 L] := by
    refine (fill_lab Wi _ _ hv (by omega)).mono ?_
    rintro e w' ⟨gb, F, I, a', m, c, rfl, hl⟩
    rw [hW] at hl
    exact ⟨gb, F, I, a', m, c, _, by have := (fillS_len W (qs.take 120)).1; have := List.length_take_le 120 qs; omega, fillS_vars _ _, rfl, hl.swap.drop⟩
  have HFA := Lib.hid hfa; have HFB := Lib.hid hfb; have HV2 := Lib.hid hv2
  clear hc hn hn2 hv hv2 hfa hfb hW
  go_enter Try.func11, Try.ntmps11
  go_upto_region 1 with fail
  go_cut [7, 8] (fun g t wx => ∃ gb F I a' m c L, L.length ≤ 120 ∧ VarsLt 6 L ∧ g = .pointer (some ⟨gb, 0, none⟩) ∧ t = .slice a' m c ∧ Lab w wx [Thing.graph F I gb W 1048576 L])
  case first =>
    go_wp2_with fail
    case inl =>
      have h60 : 60 ≤ n := by omega
      go_at_call 19
      refine (HFA.out h60).mono ?_
      rintro e w1 ⟨gb, F, I, a', m, c, L, hL, hvs, rfl, hlab⟩
      go_wp2
      go_meet
      exact ⟨gb, F, I, a', m, c, L, hL, hvs, rfl, rfl, hlab⟩
    case inr =>
      go_at_call 19
      refine HFB.out.mono ?_
      rintro e w1 ⟨gb, F, I, a', m, c, L, hL, hvs, rfl, hlab⟩
      go_wp2
      go_meet
      exact ⟨gb, F, I, a', m, c, L, hL, hvs, rfl, rfl, hlab⟩
  case rest =>
    obtain ⟨gb, F, I, a', m, c, L, hL, hvs, rfl, rfl, hlab⟩ := hcut
    have HL0 := Lib.hid hlab; have HVS := Lib.hid hvs
    clear hlab hvs
    go_wp2_with fail
    go_at_call 35
    refine HL0.out.copy.mono ?_
    rintro e w2 ⟨gc, Fc, J, rfl, hlab2⟩
    have HL2 := Lib.hid hlab2
    have hlen0 := len_any hlab2.gr
    have hlen1 := len_any hlab2.swap.gr
    have hwid0 := width_any hlab2.gr
    have hwid1 := width_any hlab2.swap.gr
    have HN0 := Lib.hid hlen0; have HN1 := Lib.hid hlen1; have HW0 := Lib.hid hwid0; have HW1 := Lib.hid hwid1
    clear hlab2 hlen0 hlen1 hwid0 hwid1
    go_upto_block 0 with (first | (go_at_call_of 20 (Value.pointer (some ⟨gc, 0, none⟩)); refine HN0.out.mono ?_; rintro e w6 ⟨rfl, rfl⟩) | (go_at_call_of 20 (Value.pointer (some ⟨gb, 0, none⟩)); refine HN1.out.mono ?_; rintro e w6 ⟨rfl, rfl⟩) | (go_at_call_of 34 (Value.pointer (some ⟨gc, 0, none⟩)); refine HW0.out.mono ?_; rintro e w6 ⟨rfl, rfl⟩) | (go_at_call_of 34 (Value.pointer (some ⟨gb, 0, none⟩)); refine HW1.out.mono ?_; rintro e w6 ⟨rfl, rfl⟩))
    clear HN0 HN1 HW0 HW1
    go_cut [11] (fun _ wx => ∃ Fc Ic L', L <+: L' ∧ Lab w wx [Thing.graph Fc Ic gc W 1048576 L', Thing.graph F J gb W 1048576 L])
    case first =>
      go_wp2
      go_loopw [11] (fun i wr => ∃ j : Nat, j ≤ n2 ∧ j ≤ 60 ∧ i = .int .i64 j ∧ ∃ Fc Ic L', L <+: L' ∧ Lab w wr [Thing.graph Fc Ic gc W 1048576 L', Thing.graph F J gb W 1048576 L]) (fun i _ => n2 - (intOf i).toNat)
      case atStart => exact ⟨0, by omega, by omega, rfl, Fc, J, L, List.prefix_refl _, HL2.out⟩
      case round =>
        obtain ⟨j, hj, hj2, rfl, F', I', L', hpre, hlab⟩ := hrel
        have HLj := Lib.hid hlab; have HP := Lib.hid hpre
        clear hlab hpre
        by_cases hjn : j < n2
        · by_cases hj60 : j < 60
          · obtain ⟨b, off, x, va, rfl, hx, hok, hav, c0, c1', c2, c3, c4⟩ := (HV2.out.below HLj.out.below).at hjn
            have hadd := ladd_any HLj.out.gr x _ hav hok
            have hp1 := HP.out.trans (isPrefix_add W 1048576 L' x)
            have HAdd := Lib.hid hadd; have HP1 := Lib.hid hp1
            clear hadd hp1 hx hok hav
            go_wp2_with (go_at_call 21; refine HAdd.out.mono ?_; intro e w4 hp; obtain ⟨F'', I'', rfl, hl5⟩ := HLj.out.gpost hp; have HL5 := Lib.hid hl5; clear hl5 hp)
            go_roundw
            case rel => exact ⟨j + 1, by omega, by omega, by go_num, F'', I'', _, HP1.out, HL5.out⟩
            case measure => simp [intOf]; omega
          · obtain rfl : j = 60 := by omega
            go_wp2
            go_meet
            exact ⟨F', I', L', HP.out, HLj.out⟩
        · obtain rfl : j = n2 := by omega
          go_wp2
          go_meet
          exact ⟨F', I', L', HP.out, HLj.out⟩
    case rest =>
      obtain ⟨F1, I1, L', hpre, hlab⟩ := hcut
      have hll : L.length ≤ L'.length := hpre.length_le
      have hlen0 := len_any hlab.gr
      have hlen1 := len_any hlab.swap.gr
      have HLA := Lib.hid hlab; have HP := Lib.hid hpre; have HN0 := Lib.hid hlen0; have HN1 := Lib.hid hlen1
      clear hlab hpre hlen0 hlen1 HL2 HL0
      go_upto_block 2 with (first | (go_at_call_of 20 (Value.pointer (some ⟨gc, 0, none⟩)); refine HN0.out.mono ?_; rintro e w6 ⟨rfl, rfl⟩) | (go_at_call_of 20 (Value.pointer (some ⟨gb, 0, none⟩)); refine HN1.out.mono ?_; rintro e w6 ⟨rfl, rfl⟩))
      go_cut [13] (fun _ wx => ∃ Fg Ig Lg, Lg.length = L.length + 5 ∧ L <+: Lg ∧ Lab w wx [Thing.graph Fg Ig gb W 1048576 Lg, Thing.graph F1 I1 gc W 1048576 L'])
      case first =>
        go_wp2
        go_loopw [13] (fun i wr => ∃ j : Nat, j ≤ 5 ∧ i = .int .i64 j ∧ ∃ Fg Ig Lg, Lg.length = L.length + j ∧ L <+: Lg ∧ VarsLt (100 + j) Lg ∧ Lab w wr [Thing.graph Fg Ig gb W 1048576 Lg, Thing.graph F1 I1 gc W 1048576 L']) (fun i _ => 5 - (intOf i).toNat)
        case atStart => exact ⟨0, by omega, rfl, F, J, L, rfl, List.prefix_refl _, HVS.out.mono (by omega), HLA.out.swap⟩
        case round =>
          obtain ⟨j, hj, rfl, Fg, Ig, Lg, hlg, hpre, hvs, hlab⟩ := hrel
          have hnew := varR_new (room := 1048576) hvs (Nat.le_refl _) (by omega) (by omega)
          have hva := var_any hlab.gr ((100 + j : Nat) : Int)
          rw [hnew.1] at hva
          rw [show ((100 + j : Nat) : Int) = 100 + (j : Int) from by omega] at hva
          have hlg2 : (Lg ++ [((1, 100 + j, []) : PNode)]).length = L.length + (j + 1) := by simp; omega
          have HLj := Lib.hid hlab; have HPj := Lib.hid hpre; have HVA := Lib.hid hva; have HNEW := Lib.hid hnew.2; have HLG := Lib.hid (And.intro hlg hlg2)
          clear hlab hpre hva hnew hvs hlg hlg2
          by_cases hj5 : j < 5
          · go_wp2_with (go_at_call 25; refine HVA.out.mono ?_; intro e w4 hp; obtain ⟨F'', I'', rfl, hl5⟩ := HLj.out.gpost hp; have HL5 := Lib.hid hl5; clear hl5 hp)
            go_roundw
            case rel => exact ⟨j + 1, by omega, by go_num, F'', I'', _, HLG.out.2, HPj.out.trans (List.prefix_append _ _), HNEW.out, HL5.out⟩
            case measure => simp [intOf]; omega
          · obtain rfl : j = 5 := by omega
            go_wp2
            go_meet
            exact ⟨Fg, Ig, Lg, HLG.out.1, HPj.out, HLj.out⟩
      case rest =>
        obtain ⟨Fg, Ig, Lg, hlg, hpre2, hlab⟩ := hcut
        have hlen0 := len_any hlab.swap.gr
        have hlen1 := len_any hlab.gr
        have hlgi : ((Lg.length : Nat) : Int) = (L.length : Int) + 5 := by omega
        rw [hlgi] at hlen1
        have HLB := Lib.hid hlab; have HP2 := Lib.hid hpre2; have HM0 := Lib.hid hlen0; have HM1 := Lib.hid hlen1
        clear hlab hpre2 hlen0 hlen1 HLA HN0 HN1 hlg hlgi
        go_upto_block 4 with (first | (go_at_call_of 20 (Value.pointer (some ⟨gc, 0, none⟩)); refine HM0.out.mono ?_; rintro e w6 ⟨rfl, rfl⟩) | (go_at_call_of 20 (Value.pointer (some ⟨gb, 0, none⟩)); refine HM1.out.mono ?_; rintro e w6 ⟨rfl, rfl⟩))
        clear HM0 HM1
        go_wp2
        go_loopw [14] (fun i wr => ∃ j : Nat, j ≤ L.length ∧ i = .int .i64 j ∧ Lab w wr [Thing.graph Fg Ig gb W 1048576 Lg, Thing.graph F1 I1 gc W 1048576 L']) (fun i _ => L.length - (intOf i).toNat)
        case atStart => exact ⟨0, by omega, rfl, HLB.out⟩
        case round =>
          obtain ⟨j, hj, rfl, hlab⟩ := hrel
          have HLj := Lib.hid hlab
          clear hlab
          by_cases hjl : j < L.length
          · obtain ⟨x, hx⟩ : ∃ x, L[j]? = some x := ⟨_, List.getElem?_eq_getElem hjl⟩
            have hx1 := prefix_at HP2.out hx
            have hx2 := prefix_at HP.out hx
            obtain ⟨op, num, xs⟩ := x
            have HX := Lib.hid (And.intro hx1 hx2)
            clear hx hx1 hx2
            go_wp2_with fail
            go_at_call 23
            refine (HLj.out.node_at j _ HX.out.1).mono ?_
            rintro e w5 ⟨a3, m3, c3, rfl, hlab5⟩
            have hl6 := hlab5.alloc #[.int .u8 op, .int .u64 num, .slice a3 m3 c3] 37
            obtain ⟨p, hp⟩ : ∃ p, w5.heap.size = p := ⟨_, rfl⟩
            rw [hp] at hl6
            have HL6 := Lib.hid hl6
            clear hl6 hlab5
            go_upto_region 23 with fail
            clear hp
            refine wp_abs (fun w6 => Lab w w6 [Thing.box p 37 #[.int .u8 op, .int .u64 num, .slice a3 m3 c3], Thing.graph Fg Ig gb W 1048576 Lg, Thing.ints (.slice a3 m3 c3) xs, Thing.graph F1 I1 gc W 1048576 L']) HL6.out ?_
            rintro w6 hl6
            have HL7 := Lib.hid hl6.rot4
            clear hl6 HL6
            go_wp2_with fail
            go_at_call 23
            refine (HL7.out.node_at j _ HX.out.2).mono ?_
            rintro e w7 ⟨a4, m4, c4, rfl, hlab7⟩
            have hl8 := hlab7.alloc #[.int .u8 op, .int .u64 num, .slice a4 m4 c4] 37
            obtain ⟨p2, hp2⟩ : ∃ p2, w7.heap.size = p2 := ⟨_, rfl⟩
            rw [hp2] at hl8
            have HL8 := Lib.hid hl8
            clear hl8 hlab7
            go_upto_region 24 with fail
            clear hp2
            refine wp_abs (fun w8 => Lab w w8 [Thing.box p2 37 #[.int .u8 op, .int .u64 num, .slice a4 m4 c4], Thing.graph F1 I1 gc W 1048576 L', Thing.ints (.slice a4 m4 c4) xs, Thing.box p 37 #[.int .u8 op, .int .u64 num, .slice a3 m3 c3], Thing.graph Fg Ig gb W 1048576 Lg, Thing.ints (.slice a3 m3 c3) xs]) HL8.out ?_
            rintro w8 hl8
            obtain ⟨f0, f1, f2⟩ := cells3 hl8.box1
            obtain ⟨e0, e1, e2⟩ := cells3 hl8.drop.box3
            have hx3 : xs.length ≤ 3 := by have h1 := (HLj.out.gr.wf.ok _ (List.mem_of_getElem? HX.out.1)).2.2; have := aryN_le op; simp only at h1; omega
            have hv1 : NodeV w8 (.agg #[.int .u8 op, .int .u64 num, .slice a3 m3 c3]) (op, num, xs) := ⟨_, rfl, hl8.drop.drop.ints4.slice, by show xs.length ≤ _; omega⟩
            have hv2 : NodeV w8 (.agg #[.int .u8 op, .int .u64 num, .slice a4 m4 c4]) (op, num, xs) := ⟨_, rfl, hl8.ints3.slice, by show xs.length ≤ _; omega⟩
            have hcall := equalNode_any _ _ _ _ hv1 hv2
            rw [decide_eq_true rfl] at hcall
            have HCALL := Lib.hid hcall; have HL9 := Lib.hid hl8
            clear hl8 HL8 hv1 hv2 hcall HL7
            go_wp2_with (go_at_call 27; refine HCALL.out.mono ?_; rintro e w9 ⟨rfl, hb9⟩)
            go_roundw
            case rel => exact ⟨j + 1, by omega, by go_num, (HL9.out.later hb9).drop.swap.drop.swap.drop.rot3.drop.swap⟩
            case measure => simp [intOf]; omega
          · obtain rfl : j = L.length := by omega
            go_wp2_with (go_at_call 22; refine (HLj.out.awakeE).mono ?_; rintro e w3 ⟨rfl, hb3⟩)
            go_ret
            exact ⟨rfl, hb3⟩
end Go.Proofs.Ytpkahhpgkceciaa
