/- SimpOrder. -/
import Derived.Test.YtcpgiadhmmmafaaSimpP
import Derived.Test.YtcpgiadhmmmafaaLab
import Derived.Test.YtcpgiadhmmmafaaPairs
import Derived.Test.YtcpgiadhmmmafaaGraphF
namespace Go.Proofs.Ytcpgiadhmmmafaa
open Go.RowKit Go.Maps
set_option maxHeartbeats 1600000

/-- Both orders, one after the other. -/
theorem order_twice {W room : Nat} {L : List PNode} {o : Nat} {x y : Int} (hw : WFL L) (hg : GoodL W L) (h1 : 1 ≤ W) (h2 : W ≤ 64) (hr : L.length < room) (hc : commN o = true) (hx : 0 ≤ x ∧ x < (L.length : Int)) (hy : 0 ≤ y ∧ y < (L.length : Int)) :
    ∃ L1 t, simpR W room L o [x, y] = (L1, t, 0) ∧ simpR W room L1 o [y, x] = (L1, t, 0) ∧ GoodL W L1 ∧ L1.length ≤ L.length + 1 ∧ L <+: L1 := by
  have ho : o = 4 ∨ o = 6 ∨ o = 9 ∨ o = 10 ∨ o = 11 ∨ o = 15 ∨ o = 16 := by simpa [commN] using hc
  have ha : aryN o = 2 := by rcases ho with rfl | rfl | rfl | rfl | rfl | rfl | rfl <;> rfl
  have hin : ∀ a ∈ [x, y], (0 : Int) ≤ a ∧ a < (L.length : Int) := by
    intro a ha
    rcases List.mem_cons.1 ha with rfl | ha
    · exact hx
    · obtain rfl := List.mem_singleton.1 ha; exact hy
  have hin2 : ∀ a ∈ [y, x], (0 : Int) ≤ a ∧ a < (L.length : Int) := fun a ha => hin a (by simpa [or_comm] using ha)
  have hok := simpA_ok (W := W) hw (by omega) (by omega) (xs := [x, y]) ha hin
  have he := ans_room (W := W) hr _ hok
  have hpre := ans_prefix (W := W) (room := room) (L := L) (simpA W L o [x, y])
  have hag := ans_again hw h2 _ hok he
  have hlen := hpre.length_le
  have e1 := simpR_in (W := W) (room := room) (by omega) (by omega) (xs := [x, y]) ha hin
  have e2 : simpR W room ((simpA W L o [x, y]).res W room L).1 o [y, x] = (simpA W L o [x, y]).res W room L := by
    rw [simpR_in (by omega) (by omega) (xs := [y, x]) ha (fun a ha => by have := hin2 a ha; omega), simpA_prefix hpre hin2, simpA_comm hw hg h1 h2 hc, ← simpA_comm (x := x) hw hg h1 h2 hc]
    exact hag
  refine ⟨_, _, e1.trans (triple0 he).symm, e2.trans (triple0 he).symm, ans_good hg _, ans_len _, hpre⟩
set_option maxRecDepth 100000 in
theorem simpOrder_walk {w : World} (Wi : Int) (v v2 : Value) (qs : List PAsk) (hv : AsksOf w v qs) (hq : qs.length ≤ 9223372036854775807) (hcq : ∀ a n c, v = .slice a n c → n ≤ c) (ps : List (Int × Int)) (hv2 : PairsOf w v2 ps) (hn2 : ps.length ≤ 9223372036854775807) :
    Calls Try.prog 4 #[.int .i64 Wi, v, v2] w fun e w' => e = .returned (.bool true) ∧ Below w.heap.size w w' := by
  obtain ⟨a2, n2, cap2, rfl, hl2, hcell2⟩ := hv2
  rw [hl2] at hn2
  obtain ⟨a, cap, rfl⟩ := hv.parts
  have hcap := hcq _ _ _ rfl
  obtain ⟨n, hn⟩ : ∃ n, qs.length = n := ⟨_, rfl⟩
  rw [hn] at hv hq hcap ⊢
  have hfill := fill_some Wi a n cap qs hv hq
  obtain ⟨W, hW⟩ : ∃ W, (Wi % 64).toNat + 1 = W := ⟨_, rfl⟩
  rw [hW] at hfill
  have hW1 : 1 ≤ W := by omega
  have hW2 : W ≤ 64 := by omega
  have HF := Lib.hid hfill; have HC2 := Lib.hid hcell2
  clear hv hcq hfill hW hn hcell2 hl2
  go_enter Try.func4, Try.ntmps4
  go_upto_region 1 with fail
  go_cut [7, 8] (fun g t wx => ∃ gb F I a' m c L, L.length ≤ 120 ∧ GoodL W L ∧ g = .pointer (some ⟨gb, 0, none⟩) ∧ t = .slice a' m c ∧ Lab w wx [Thing.graph F I gb W 1048576 L])
  case first =>
    by_cases h100 : (100 : Int) < (n : Int)
    · have HF1 := Lib.hid (HF.out 100 (by omega))
      go_wp2_with fail
      go_at_call 23
      refine HF1.out.mono ?_
      rintro e w1 ⟨gb, F, I, a', m, c, L, hL, -, hG, -, rfl, hlab⟩
      go_wp2
      go_meet
      exact ⟨gb, F, I, a', m, c, L, hL, hG, rfl, rfl, hlab⟩
    · have HF1 := Lib.hid (HF.out n (by omega))
      go_wp2_with fail
      go_at_call 23
      refine HF1.out.mono ?_
      rintro e w1 ⟨gb, F, I, a', m, c, L, hL, -, hG, -, rfl, hlab⟩
      go_wp2
      go_meet
      exact ⟨gb, F, I, a', m, c, L, hL, hG, rfl, rfl, hlab⟩
  case rest =>
    obtain ⟨gb, F, I, a', m, c, L, hL, hG, rfl, rfl, hlab⟩ := hcut
    have HL0 := Lib.hid hlab; have HG0 := Lib.hid hG
    clear hlab hG
    go_wp2
    go_loopw [9] (fun i wx => ∃ k : Nat, k ≤ n2 ∧ k ≤ 60 ∧ i = .int .i64 k ∧ ∃ F I L, L.length ≤ 120 + 40 * k ∧ GoodL W L ∧ Lab w wx [Thing.graph F I gb W 1048576 L]) (fun i _ => 60 - (intOf i).toNat)
    case atStart => exact ⟨0, by omega, by omega, rfl, F, I, L, by omega, HG0.out, HL0.out⟩
    case round =>
      obtain ⟨k, hk1, hk2, rfl, F3, I3, L3, hL3, hG3, hlab⟩ := hrel
      have HL1 := Lib.hid hlab; have HG3 := Lib.hid hG3
      clear hlab hG3
      have hlen := len_any HL1.out.gr
      have HLEN := Lib.hid hlen
      have HAW := Lib.hid (HL1.out.awake12)
      clear hlen
      by_cases g1 : k < n2
      · by_cases g2 : k < 60
        · by_cases g3 : 0 < L3.length
          · obtain ⟨b, off, x, rfl, hx, cx, cy⟩ := HC2.out k g1
            have dx := cell_later HL1.out.below cx
            have dy := cell_later HL1.out.below cy
            have hmod := fun v wx => mod_any v (L3.length : Int) (by omega) (by omega) wx
            have HMOD := Lib.hid hmod
            have g3' : (0 : Int) < (L3.length : Int) := by omega
            have hx0 := Int.emod_nonneg x.1 (show (L3.length : Int) ≠ 0 by omega)
            have hx1 := Int.emod_lt_of_pos x.1 g3'
            have hy0 := Int.emod_nonneg x.2 (show (L3.length : Int) ≠ 0 by omega)
            have hy1 := Int.emod_lt_of_pos x.2 g3'
            have HXY := Lib.hid (And.intro (And.intro hx0 hx1) (And.intro hy0 hy1))
            have k0 : (0 : Int) ≤ (k : Int) := by omega
            have kn : (k : Int) < (n2 : Int) := by omega
            clear hmod hx cx cy hx0 hx1 hy0 hy1
            go_upto_region 7 with (go_at_call 24; refine HLEN.out.mono ?_; rintro e w2 ⟨rfl, rfl⟩)
            go_cut [10, 11] (fun a b wx => a = .int .i64 (x.1 % (L3.length : Int)) ∧ b = .int .i64 (x.2 % (L3.length : Int)) ∧ ∃ nq, wx = wr.drewN nq)
            case first =>
              go_quiet ((first | (go_at_call 24; exact len_quiet HL1.out.gr _) | (go_at_call 18; exact Calls.quiet_of_same ((HMOD.out _ _).mono fun _ _ h => ⟨h.1, h.2.symm⟩))))
              go_wp2
              go_meet
              exact ⟨rfl, rfl, _, rfl⟩
            case rest =>
              obtain ⟨rfl, rfl, nq, rfl⟩ := hcut
              have hl2 := HL1.out.drewN nq
              generalize x.1 % (L3.length : Int) = xx at *
              generalize x.2 % (L3.length : Int) = yy at *
              have HL2 := Lib.hid hl2
              clear hl2 dx dy k0 kn g3'
              go_wp2
              go_loopw [12] (fun i wx => ∃ c : Nat, 2 ≤ c ∧ c ≤ 22 ∧ i = .int .u8 c ∧ ∃ F I L', L'.length ≤ L3.length + 2 * (c - 2) ∧ L3 <+: L' ∧ GoodL W L' ∧ Lab w wx [Thing.graph F I gb W 1048576 L']) (fun i _ => 22 - (intOf i).toNat)
              case atStart => exact ⟨2, by omega, by omega, rfl, F3, I3, L3, by omega, List.prefix_refl _, HG3.out, HL2.out⟩
              case round =>
                obtain ⟨o, ho1, ho2, rfl, F4, I4, L4, hL4, hpre, hG4, hlab⟩ := hrel
                by_cases hlt : o ≤ 21
                · have hcm := fun w' => commutes_any o hlt w'
                  have HL4 := Lib.hid hlab
                  by_cases hc : commN o = true
                  · have hcf : decide (o = 4 ∨ o = 6 ∨ o = 9 ∨ o = 10 ∨ o = 11 ∨ o = 15 ∨ o = 16) = true := hc
                    rw [hcf] at hcm
                    have hlen4 := hpre.length_le
                    obtain ⟨L5, t, r1, r2, hG5, hL5, hpre5⟩ := order_twice (room := 1048576) (x := xx) (y := yy) hlab.gr.wf hG4 hW1 hW2 (by omega) hc (by have := HXY.out.1; omega) (by have := HXY.out.2; omega)
                    have HCM := Lib.hid hcm; have HR := Lib.hid (And.intro r1 r2); have HG5 := Lib.hid hG5; have HP5 := Lib.hid (hpre.trans hpre5)
                    clear hcm hcf hc r1 r2 hG5 hpre hpre5 hlab hG4
                    go_wp2_with fail
                    go_at_call 25
                    refine (HCM.out _).mono ?_
                    rintro e w5 ⟨rfl, rfl⟩
                    go_wp2_with fail
                    go_at_call 26
                    refine (sapp_any (HL4.out.later (below_new _ _)).gr o (by omega) [xx, yy] _ (sliceOf_new _ .i64 3 [xx, yy] 2)).mono ?_
                    intro e w6 hp
                    obtain ⟨F5, I5, rfl, h5⟩ := (HL4.out.later (below_new _ _)).gpost hp
                    rw [HR.out.1] at h5 ⊢
                    have H5 := Lib.hid h5; clear h5 hp
                    go_wp2_with fail
                    go_at_call 24
                    refine (len_any H5.out.gr).mono ?_
                    rintro e w7 ⟨rfl, rfl⟩
                    go_wp2_with fail
                    go_at_call 26
                    refine (sapp_any (H5.out.later (below_new _ _)).gr o (by omega) [yy, xx] _ (sliceOf_new _ .i64 3 [yy, xx] 2)).mono ?_
                    intro e w8 hp
                    obtain ⟨F6, I6, rfl, h6⟩ := (H5.out.later (below_new _ _)).gpost hp
                    rw [HR.out.2] at h6 ⊢
                    have H6 := Lib.hid h6; clear h6 hp
                    have t1 : ((t : Int) != (t : Int)) = false := by simp
                    have t2 : ((L5.length : Int) != (L5.length : Int)) = false := by simp
                    go_wp2_with (go_at_call 24; refine (len_any H6.out.gr).mono ?_; rintro e w9 ⟨rfl, rfl⟩)
                    go_roundw
                    case rel => exact ⟨o + 1, by omega, by omega, by go_num, F6, I6, L5, by omega, HP5.out, HG5.out, H6.out⟩
                    case measure => simp [intOf]; omega
                  · have hcf : decide (o = 4 ∨ o = 6 ∨ o = 9 ∨ o = 10 ∨ o = 11 ∨ o = 15 ∨ o = 16) = false := by unfold commN at hc; simpa using hc
                    rw [hcf] at hcm
                    have HCM := Lib.hid hcm; have HG4 := Lib.hid hG4; have HP := Lib.hid hpre
                    clear hcm hcf hc hG4 hlab hpre
                    go_wp2_with (go_at_call 25; refine (HCM.out _).mono ?_; rintro e w5 ⟨rfl, rfl⟩)
                    go_roundw
                    case rel => exact ⟨o + 1, by omega, by omega, by go_num, F4, I4, L4, by omega, HP.out, HG4.out, HL4.out⟩
                    case measure => simp [intOf]; omega
                · obtain rfl : o = 22 := by omega
                  have HL4 := Lib.hid hlab; have HG4 := Lib.hid hG4
                  clear hlab hG4 hpre
                  go_wp2
                  go_roundw
                  case rel => exact ⟨k + 1, by omega, by omega, by go_num, F4, I4, L4, by omega, HG4.out, HL4.out⟩
                  case measure => simp [intOf]; omega
          · have g3' : decide ((L3.length : Int) > 0) = false := decide_eq_false (by omega)
            go_wp2_with (first | (go_at_call 24; refine HLEN.out.mono ?_; rintro e w2 ⟨rfl, rfl⟩) | (go_at_call 22; refine HAW.out.mono ?_; rintro e w2 ⟨rfl, hb⟩))
            go_ret
            exact ⟨rfl, hb⟩
        · go_wp2_with (first | (go_at_call 24; refine HLEN.out.mono ?_; rintro e w2 ⟨rfl, rfl⟩) | (go_at_call 22; refine HAW.out.mono ?_; rintro e w2 ⟨rfl, hb⟩))
          go_ret
          exact ⟨rfl, hb⟩
      · go_wp2_with (first | (go_at_call 24; refine HLEN.out.mono ?_; rintro e w2 ⟨rfl, rfl⟩) | (go_at_call 22; refine HAW.out.mono ?_; rintro e w2 ⟨rfl, hb⟩))
        go_ret
        exact ⟨rfl, hb⟩
end Go.Proofs.Ytcpgiadhmmmafaa
