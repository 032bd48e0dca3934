/- EvalNodes of law 11. -/
import Derived.Test.YteofgmjejocleaaEvalH
namespace Go.Proofs.Yteofgmjejocleaa
open Go.RowKit Go.Maps
set_option maxHeartbeats 1600000

theorem evalR_in {W : Nat} {vals : List Int} {L : List PNode} {k : Nat} (h : k < L.length) : evalR W vals L (k : Int) = (val W vals L k, 0) := by
  unfold evalR; rw [if_pos (by omega), Int.toNat_natCast]
theorem dl_mask {W : Nat} (h2 : W ≤ 64) {x : Int} (h : x < ((2 ^ W : Nat) : Int)) : decide (((2 ^ W - 1 : Nat) : Int) < x) = false := by
  have := pow_pos2 W
  rw [decide_eq_false_iff_not]; omega
set_option maxRecDepth 100000 in
theorem evalNodes_walk {w : World} (Wi : Int) (v v3 : Value) (qs : List PAsk) (hv : AsksOf w v qs) (hq : qs.length ≤ 9223372036854775807) (vals : List Int) (hv3 : SliceOf w .u64 v3 vals) (hvu : U64s vals) (hn3 : vals.length ≤ 9223372036854775807) (hc3 : ∀ a n c, v3 = .slice a n c → n ≤ c) :
    Calls Try.prog 6 #[.int .i64 Wi, v, v3] w fun e w' => e = .returned (.bool true) ∧ Below w.heap.size w w' := by
  obtain ⟨a3, n3, cap3, rfl, hl3, -⟩ := hv3.parts
  have hcap3 := hc3 _ _ _ rfl
  rw [hl3] at hn3
  have hfill := fill_lab Wi v qs hv hq
  obtain ⟨a, cap, rfl⟩ := hv.parts
  obtain ⟨W, hW⟩ : ∃ W, (Wi % 64).toNat + 1 = W := ⟨_, rfl⟩
  rw [hW] at hfill
  have hW1 : 1 ≤ W := by omega
  have hW2 : W ≤ 64 := by omega
  have hgood := fillS_good W (qs.take 120)
  have hlen : (fillS W (qs.take 120)).1.length ≤ 120 := by have := (fillS_len W (qs.take 120)).1; have := List.length_take_le 120 qs; omega
  obtain ⟨S, hS⟩ : ∃ S, fillS W (qs.take 120) = S := ⟨_, rfl⟩
  rw [hS] at hfill hgood hlen
  obtain ⟨L, ts0⟩ := S
  simp only at hfill hgood hlen
  have HF := Lib.hid hfill; have HV3 := Lib.hid hv3; have HVU := Lib.hid hvu; have HL3 := Lib.hid hl3; have HGOOD := Lib.hid hgood
  clear hv hv3 hvu hc3 hl3 hfill hgood hW hS
  go_enter Try.func6, Try.ntmps6
  go_wp2_with fail
  go_at_call 25
  refine HF.out.mono ?_
  rintro e w1 ⟨gb, F, I, ax, mx, cx, rfl, hl1⟩
  have HL1 := Lib.hid hl1.swap.drop
  clear hl1
  go_upto_region 4 with fail
  go_cut [2] (fun v3 wx => ∃ m3, v3 = .slice a3 m3 cap3 ∧ m3 ≤ n3 ∧ m3 ≤ 30 ∧ Lab w wx [Thing.graph F I gb W 1048576 L])
  case first =>
    by_cases h30 : (30 : Int) < (n3 : Int)
    · go_wp2
      go_meet
      exact ⟨_, rfl, by omega, by omega, HL1.out⟩
    · go_wp2
      go_meet
      exact ⟨_, rfl, by omega, by omega, HL1.out⟩
  case rest =>
    obtain ⟨m3, rfl, h31, h32, hl⟩ := hcut
    have hvs := HV3.out.take m3 cap3 h31
    obtain ⟨vs, hvs0⟩ : ∃ vs, vals.take m3 = vs := ⟨_, rfl⟩
    have hvsu := HVU.out.take m3
    have hvl : vs.length = m3 := by rw [← hvs0, List.length_take, HL3.out]; omega
    rw [hvs0] at hvs hvsu
    have HVS := Lib.hid hvs; have HVSU := Lib.hid hvsu; have HVL := Lib.hid hvl; have HL := Lib.hid hl
    clear hvs hvs0 hvsu hl hvl HVU HV3 HL3 HL1
    go_wp2
    go_loopw [9] (fun i wr => ∃ k : Nat, k ≤ L.length ∧ i = .int .i64 k ∧ Lab w wr [Thing.graph F I gb W 1048576 L]) (fun i _ => L.length - (intOf i).toNat)
    case atStart => exact ⟨0, by omega, rfl, HL.out⟩
    case round =>
      obtain ⟨k, hk, rfl, hl⟩ := hrel
      have HLk := Lib.hid hl
      clear hl
      by_cases hlt : k < L.length
      · obtain ⟨nd, hi⟩ : ∃ nd, L[k]? = some nd := ⟨_, List.getElem?_eq_getElem hlt⟩
        have HI := Lib.hid hi
        clear hi
        go_wp2_with (go_at_call 26; refine (len_any HLk.out.gr).mono ?_; rintro e w2 ⟨rfl, rfl⟩)
        go_at_call 27
        refine (HLk.out.node_at k nd HI.out).mono ?_
        rintro e w3 ⟨an, mn, cn, rfl, hl3⟩
        obtain ⟨p, hp⟩ : ∃ p, w3.heap.size = p := ⟨_, rfl⟩
        have hl4 := (hl3.alloc #[.int .u8 nd.1, .int .u64 nd.2.1, .slice an mn cn] 62).swap
        rw [hp] at hl4
        have HL4 := Lib.hid hl4
        clear hl3 hl4
        go_upto_region 9 with fail
        clear hp
        refine wp_abs (fun w4 => Lab w w4 [Thing.graph F I gb W 1048576 L, Thing.box p 62 #[.int .u8 nd.1, .int .u64 nd.2.1, .slice an mn cn], Thing.ints (.slice an mn cn) nd.2.2]) HL4.out ?_
        rintro w4 hl4
        clear HL4
        have HL4 := Lib.hid hl4
        clear hl4
        go_wp2_with fail
        go_at_call 11
        refine (HL4.out.eval k vs _ (HVS.out.below HL4.out.below) (by have := HVL.out; omega) HVSU.out (evalR_in hlt)).mono ?_
        rintro e w5 ⟨rfl, hl5⟩
        have HL5 := Lib.hid hl5
        obtain ⟨d0, d1, d2⟩ := cells3 hl5.box2
        have hok := HL5.out.gr.wf.ok nd (List.mem_of_getElem? HI.out)
        have hop : nd.1 ≤ 21 := hok.1
        have hnum : nd.2.1 ≤ 18446744073709551615 := hok.2.1
        have hval := val_at (W := W) (vals := vs) HL5.out.gr.wf HI.out
        have hword := val_word hW1 hW2 vs HL5.out.gr.wf HGOOD.out k
        obtain ⟨R, hR⟩ : ∃ R, val W vs L k = R := ⟨_, rfl⟩
        rw [hR] at hval hword ⊢
        have HVAL := Lib.hid hval; have HW := Lib.hid (dl_mask hW2 hword.2)
        clear hl5 hok hval hword hR
        have HALLin := Lib.hid (show AllIn L nd.2.2 from fun a ha => by have := HL5.out.gr.wf.args k nd HI.out a ha; omega)
        go_upto_block 2 with fail
        go_cut [14] (fun r wx => r = .int .u64 R ∧ Lab w wx [Thing.graph F I gb W 1048576 L])
        case first =>
          obtain ⟨op, num, xs⟩ := nd
          simp only at hop hnum d0 d1
          by_cases e0 : op = 0
          · have ht : ((op : Int) == 0) = true := by rw [beq_iff_eq]; omega
            have hr : R = num := by rw [HVAL.out]; exact valN_const e0
            subst hr
            clear e0
            go_wp2
            go_meet
            exact ⟨rfl, HL5.out.swap.drop.swap.drop⟩
          have ht : ((op : Int) == 0) = false := by rw [beq_eq_false_iff_ne]; omega
          by_cases e1 : op = 1
          · have ht1 : ((op : Int) == 1) = true := by rw [beq_iff_eq]; omega
            by_cases hlt2 : num < m3
            · have hle : ((num : Int) < (m3 : Int)) := by omega
              obtain ⟨vb', off, q, rfl, hq0, hqv⟩ := HVS.out.parts' hlt2
              have hqu : 0 ≤ q ∧ q ≤ 18446744073709551615 := HVSU.out q (List.mem_of_getElem? hqv)
              have hr : R = ((q.toNat % 2 ^ W : Nat) : Int) := by rw [HVAL.out, valN_var (n := (op, num, xs)) e1 (by rw [HVL.out]; exact hlt2)]; rw [List.getD_eq_getElem?_getD, hqv]; rfl
              have e3 : trimI W q = R := by rw [hr]; unfold trimI; rw [if_pos (chk_in (by omega) (by omega)), Int.toNat_natCast]
              have htr : ∀ wx, Calls Try.prog 28 #[.int .i64 W, .int .u64 q] wx fun e w' => e = .returned (.tuple #[.int .u64 R, .int .i64 0]) ∧ w' = wx := fun wx => by
                refine (trim_any W q hqu.1 hqu.2 wx).mono ?_
                rintro e w' ⟨rfl, rfl⟩
                rw [e3, chk_in (by omega) (by omega)]
                exact ⟨rfl, rfl⟩
              have k4 := cell_later HL5.out.below hq0
              have HTR := Lib.hid htr
              clear hq0 hqv hqu hr htr e1 e0 e3
              go_wp2
              go_quiet ((first | (go_at_call 20; exact width_quiet HL5.out.gr _) | (go_at_call 28; refine Calls.quiet_of_same (HTR.out _))))
              go_wp2
              go_meet
              exact ⟨rfl, HL5.out.swap.drop.swap.drop.drewN _⟩
            · have hle : ¬ ((num : Int) < (m3 : Int)) := by omega
              have hr : R = 0 := by rw [HVAL.out]; exact valN_no e1 (by rw [HVL.out]; exact hlt2)
              subst hr
              clear e1 e0 hlt2
              go_wp2
              go_meet
              exact ⟨rfl, HL5.out.swap.drop.swap.drop⟩
          · have ht1 : ((op : Int) == 1) = false := by rw [beq_eq_false_iff_ne]; omega
            have hs := (show OwnInts w5 0 3 .i64 (.slice an mn cn) xs from HL5.out.third).slice
            have hxl : xs.length ≤ 3 := by have := (HL5.out.gr.wf.ok _ (List.mem_of_getElem? HI.out)).2.2; have := aryN_le op; simp only at *; omega
            have hal := (HL5.out.all xs vs _ _ hs (HVS.out.below HL5.out.below) (by omega) (by have := HVL.out; omega) HVSU.out (allR_in HALLin.out))
            have HAL := Lib.hid hal
            clear hs hal
            go_wp2_with fail
            go_at_call 12
            refine HAL.out.mono ?_
            rintro e w6 ⟨aA, mA, cA, rfl, hl6⟩
            obtain ⟨f0, f1, f2⟩ := cells3 (show w6.heap[p]? = _ from hl6.third)
            have hs6 := nums_slice hl6.second
            have hap : ∀ wx, Below w6.heap.size w6 wx → Calls Try.prog 29 #[.int .u8 op, .int .i64 W, .slice aA mA cA] wx fun e w' => e = .returned (.tuple #[.int .u64 R, .int .i64 0]) ∧ Below wx.heap.size wx w' := fun wx hb => by
              have hu : U64s (allV W vs L xs) := by
                intro y hy
                obtain ⟨a, ha, rfl⟩ := List.mem_map.1 hy
                exact val_u64 hW1 hW2 vs HL5.out.gr.wf a.toNat
              have h := apply_any op W (by omega) (by omega) _ _ wx (hs6.below hb) hu (by unfold allV; rw [List.length_map]; omega)
              have hr : wI op W (allV W vs L xs) = R := by rw [HVAL.out]; exact (valN_app (n := (op, num, xs)) e0 e1).symm
              have he : wE op W (allV W vs L xs).length = 0 := by
                unfold allV
                rw [List.length_map]
                exact wE_zero hW1 hW2 (by omega) hop (HL5.out.gr.wf.ok _ (List.mem_of_getElem? HI.out)).2.2.symm
              rw [hr, he] at h
              exact h
            have HAP := Lib.hid hap; have HL6 := Lib.hid hl6
            clear hap hs6 hl6 hxl
            go_wp2
            go_region_held3 (fun w' => w'.cell? ⟨p, 0, none⟩ = some (.int .u8 op)) (first | exact f0 | assumption | go_keep)
              ((first | (go_at_call 20; refine (width_any (HL6.out.gr.later (Below.refl _ _).drew)).mono ?_; rintro e w7 ⟨rfl, rfl⟩) | (go_at_call 29; refine (HAP.out _ (Below.refl _ _).drew).mono ?_; rintro e w8 ⟨rfl, hb8⟩; have g0 := cell_later hb8 f0)))
            have HL8 := Lib.hid ((HL6.out.later (Below.refl _ _).drew).later hb8)
            clear hb8 g0 f0 f1 f2
            go_wp2
            go_meet
            exact ⟨rfl, HL8.out.swap.drop.swap.drop.swap.drop⟩
        case rest =>
          obtain ⟨rfl, hl⟩ := hcut
          have HLx := Lib.hid hl
          have HMK := Lib.hid (fun wx => rmask_any W hW1 hW2 wx)
          have e9 : (R != R) = false := by simp
          have hw := HW.out
          obtain ⟨MM, hMM⟩ : ∃ MM : Nat, 2 ^ W - 1 = MM := ⟨_, rfl⟩
          rw [hMM] at HMK hw
          clear hl hMM
          go_wp2_with (first | (go_at_call 20; refine (width_any HLx.out.gr).mono ?_; rintro e w7 ⟨rfl, rfl⟩) | (go_at_call 19; refine (HMK.out _).mono ?_; rintro e w8 ⟨rfl, rfl⟩))
          go_roundw
          case rel => exact ⟨k + 1, by omega, by go_num, HLx.out⟩
          case measure => simp [intOf]; omega
      · obtain rfl : k = L.length := by omega
        go_wp2_with (first | (go_at_call 26; refine (len_any HLk.out.gr).mono ?_; rintro e w2 ⟨rfl, rfl⟩) | (go_at_call 14; refine HLk.out.awake11.mono ?_; rintro e w3 ⟨rfl, hb3⟩))
        go_ret
        exact ⟨rfl, hb3⟩
end Go.Proofs.Yteofgmjejocleaa
