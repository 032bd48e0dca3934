/- TermRoom of law 10. -/
import Derived.Test.YtpkahhpgkceciaaLabO
import Derived.Test.YtpkahhpgkceciaaGraphG
import Derived.Deep.DeepCutAuto
import Derived.Deep.CutBlock
namespace Go.Proofs.Ytpkahhpgkceciaa
open Go.RowKit Go.Maps
set_option maxHeartbeats 800000

theorem Lab.awakeD {w0 wr : World} {ts : List Thing} (h : Lab w0 wr ts) : Calls Try.prog 22 #[] wr fun e w' => e = .returned (.bool true) ∧ Below w0.heap.size w0 w' :=
  (awake_any wr).mono fun _ _ ⟨he, hb⟩ => ⟨he, h.below.trans (hb.mono h.size)⟩
set_option maxRecDepth 100000 in
theorem termRoom_walk {w : World} (Mi : Int) (v : Value) (qs : List PAsk) (hv : AsksOf w v qs) (hq : qs.length ≤ 9223372036854775807) :
    Calls Try.prog 6 #[.int .i64 Mi, v] w fun e w' => e = .returned (.bool true) ∧ Below w.heap.size w w' := by
  obtain ⟨a, cap, rfl⟩ := hv.parts
  obtain ⟨n, hn⟩ : ∃ n, qs.length = n := ⟨_, rfl⟩
  rw [hn] at hv hq ⊢
  have hm0 := Int.emod_nonneg Mi (show (30 : Int) ≠ 0 by decide)
  have hm1 := Int.emod_lt_of_pos Mi (show (0 : Int) < 30 by decide)
  obtain ⟨R, hR⟩ : ∃ R : Nat, Mi % 30 + 1 = (R : Int) := ⟨(Mi % 30 + 1).toNat, by omega⟩
  have hR1 : 1 ≤ R := by omega
  have hR2 : R ≤ 30 := by omega
  have hro : roomOf (R : Int) = R := by unfold roomOf; rw [if_neg (by omega)]; simp
  have HV := Lib.hid hv; have HRO := Lib.hid hro
  clear hv hn hro
  go_enter Try.func6, Try.ntmps6
  go_wp2_with (go_at_call 28; refine (mod_any Mi 30 (by decide) (by decide) _).mono ?_; rintro e w1 ⟨rfl, rfl⟩)
  go_at_call 29
  refine ((Lab.nil (Below.refl _ _)).new_graph 8 (R : Int) ⟨by decide, by decide, by omega, by omega⟩).mono ?_
  rintro e w1 ⟨gb, F0, rfl, hlab⟩
  rw [HRO.out] at hlab
  replace hlab : Lab w w1 [Thing.graph F0 [] gb 8 R []] := hlab
  have HL0 := Lib.hid hlab
  clear hlab hR hm0 hm1
  go_upto_block 0 with fail
  go_cut [7] (fun i wx => ∃ F I L, GoodL 8 L ∧ VarsLt 6 L ∧ Lab w wx [Thing.graph F I gb 8 R L])
  case first =>
    go_wp2
    go_loopw [7] (fun i wr => ∃ k : Nat, k ≤ n ∧ k ≤ 120 ∧ i = .int .i64 k ∧ ∃ F I L, GoodL 8 L ∧ VarsLt 6 L ∧ Lab w wr [Thing.graph F I gb 8 R L]) (fun i _ => n - (intOf i).toNat)
    case atStart => exact ⟨0, by omega, by omega, rfl, F0, _, _, GoodL.nil 8, by simp [VarsLt], HL0.out⟩
    case round =>
      obtain ⟨k, hk, hk2, rfl, F, I, L, hgood, hvars, hlab⟩ := hrel
      have HL := Lib.hid hlab; have HG := Lib.hid hgood; have HVars := Lib.hid hvars
      clear hlab hgood hvars
      by_cases hlt : k < n
      · by_cases hlt2 : k < 120
        · obtain ⟨b, off, x, va, rfl, hx, hok, hav, c0, c1, c2, c3, c4⟩ := (HV.out.below HL.out.below).at hlt
          have HAdd := Lib.hid (ladd_any HL.out.gr x _ hav hok)
          have hcase := askP_cases R L (addN 8 L x) HL.out.gr.len
          rw [← addR_ask 8 R L x] at hcase
          have hg2 := HG.out.add R x
          have hv2 := HVars.out.add (W := 8) (Nat.le_refl 6) R x
          have hlen := HL.out.gr.len
          generalize addR 8 R L x = S at *
          have HG2 := Lib.hid hg2; have HV2 := Lib.hid hv2
          clear hx hav hok hg2 hv2
          obtain ⟨L', t, f⟩ := S
          go_wp2_with fail
          go_at_call 20
          refine (len_any HL.out.gr).mono ?_
          rintro e w2 ⟨rfl, rfl⟩
          go_wp2_with fail
          go_at_call 21
          refine HAdd.out.mono ?_
          intro e w2 hp
          obtain ⟨F', I', rfl, hl2⟩ := HL.out.gpost hp
          have hlen2 := hl2.gr.len
          simp only at hlen2
          have HL2 := Lib.hid hl2
          clear hl2 hp c0 c1 c2 c3 c4
          have h9 : ¬ ((R : Int) < (L'.length : Int)) := by omega
          rcases hcase with ⟨t', he, ht⟩ | ⟨-, hlr, he⟩ | ⟨-, hlr, he⟩
          · simp only [Prod.mk.injEq] at he
            obtain ⟨rfl, rfl, rfl⟩ := he
            have h3 := (List.getElem?_eq_some_iff.1 ht).1
            have h4 : ((t : Int) == (L'.length : Int)) = false := by rw [beq_eq_false_iff_ne]; omega
            clear ht
            go_wp2_with (go_at_call 20; refine (len_any HL2.out.gr).mono ?_; rintro e w6 ⟨rfl, rfl⟩)
            go_roundw
            case rel => exact ⟨k + 1, by omega, by omega, by go_num, F', I', _, HG2.out, HV2.out, HL2.out⟩
            case measure => simp [intOf]; omega
          · simp only [Prod.mk.injEq] at he
            obtain ⟨hL', rfl, rfl⟩ := he
            have h4 : ((L.length : Int) == (R : Int)) = false := by rw [beq_eq_false_iff_ne]; omega
            clear hL'
            go_wp2_with (go_at_call 20; refine (len_any HL2.out.gr).mono ?_; rintro e w6 ⟨rfl, rfl⟩)
            go_roundw
            case rel => exact ⟨k + 1, by omega, by omega, by go_num, F', I', _, HG2.out, HV2.out, HL2.out⟩
            case measure => simp [intOf]; omega
          · simp only [Prod.mk.injEq] at he
            obtain ⟨rfl, rfl, rfl⟩ := he
            have h4 : ((L'.length : Int) != (R : Int)) = false := by rw [bne_eq_false_iff_eq]; omega
            clear hlr
            go_wp2_with (go_at_call 20; refine (len_any HL2.out.gr).mono ?_; rintro e w6 ⟨rfl, rfl⟩)
            go_roundw
            case rel => exact ⟨k + 1, by omega, by omega, by go_num, F', I', _, HG2.out, HV2.out, HL2.out⟩
            case measure => simp [intOf]; omega
        · obtain rfl : k = 120 := by omega
          go_wp2
          go_meet
          exact ⟨F, I, L, HG.out, HVars.out, HL.out⟩
      · obtain rfl : k = n := by omega
        go_wp2
        go_meet
        exact ⟨F, I, L, HG.out, HVars.out, HL.out⟩
  case rest =>
    obtain ⟨F, I, L, hgood, hvars, hlab⟩ := hcut
    have HL1 := Lib.hid hlab; have HG1 := Lib.hid hgood; have HV1 := Lib.hid hvars
    clear hlab hgood hvars HL0
    go_upto_block 2 with fail
    go_cut [11] (fun i wx => ∃ F I L, L.length = R ∧ GoodL 8 L ∧ VarsLt 40 L ∧ Lab w wx [Thing.graph F I gb 8 R L])
    case first =>
      go_wp2
      go_loopw [11] (fun i wr => ∃ m : Nat, i = .int .i64 m ∧ ∃ F I L, m ≤ L.length + 6 ∧ GoodL 8 L ∧ VarsLt (max 6 m) L ∧ Lab w wr [Thing.graph F I gb 8 R L]) (fun i _ => 40 - (intOf i).toNat)
      case atStart => exact ⟨0, rfl, F, I, L, by omega, HG1.out, HV1.out, HL1.out⟩
      case round =>
        obtain ⟨m, rfl, F', I', L', hm, hgood, hvars, hlab⟩ := hrel
        have hlen := hlab.gr.len
        have HL := Lib.hid hlab; have HG := Lib.hid hgood; have HVars := Lib.hid hvars
        clear hlab hgood hvars
        by_cases hlt : L'.length < R
        · have hr : varR R L' (m : Int) = askP R L' (1, m, []) := by unfold varR; rw [if_pos (by omega)]; simp
          have hgr := askP_grown hlt ((1, m, []) : PNode)
          have hc := var_any HL.out.gr (m : Int)
          have hg2 := HG.out.var R (m : Int)
          have hv2 : VarsLt (max 6 (m + 1)) (askP R L' (1, m, [])).1 := (HVars.out.mono (by omega)).ask R (fun _ => by show m < _; omega)
          have hnew : L'.length < (askP R L' (1, m, [])).1.length ∨ m < 6 := by
            rcases hgr.2 with ⟨_, h2⟩ | ⟨_, h2, _⟩
            · right
              have h3 := HVars.out _ (List.mem_of_getElem? h2) rfl
              simp only at h3
              omega
            · left; rw [h2]; simp
          have he := hgr.1
          have hge := (askP_len R L' (1, m, [])).1
          rw [hr] at hc hg2
          clear hgr hr
          generalize askP R L' (1, m, []) = S at *
          obtain ⟨L2, t, f⟩ := S
          simp only at he hnew hge hv2
          subst he
          have hm2 : m + 1 ≤ L2.length + 6 := by omega
          have HC := Lib.hid hc; have HG2 := Lib.hid hg2; have HV2 := Lib.hid hv2
          clear hc hg2 hv2 hnew hge
          go_wp2_with (first | (go_at_call 20; refine (len_any HL.out.gr).mono ?_; rintro e w6 ⟨rfl, rfl⟩) | (go_at_call 25; refine HC.out.mono ?_; intro e w2 hp; obtain ⟨F2, I2, rfl, hl2⟩ := HL.out.gpost hp; have HL2 := Lib.hid hl2; clear hl2 hp))
          go_roundw
          case rel => exact ⟨m + 1, by go_num, F2, I2, L2, hm2, HG2.out, HV2.out, HL2.out⟩
          case measure => simp [intOf]; omega
        · have hlr : L'.length = R := by omega
          have HLR := Lib.hid hlr
          clear hlr
          go_wp2_with (go_at_call 20; refine (len_any HL.out.gr).mono ?_; rintro e w6 ⟨rfl, rfl⟩)
          go_meet
          exact ⟨F', I', L', HLR.out, HG.out, HVars.out.mono (by omega), HL.out⟩
    case rest =>
      obtain ⟨F', I', L', hlr, hgood, hvars, hlab⟩ := hcut
      have hc := var_any hlab.gr 4194303
      have hr : varR R L' 4194303 = (L', 0, 10) := by
        unfold varR
        rw [if_pos (by omega)]
        show askP R L' (1, 4194303, []) = _
        rcases askP_cases R L' (1, 4194303, []) (by omega) with ⟨t, _, ht⟩ | ⟨_, h, _⟩ | ⟨_, _, h⟩
        · exact absurd (List.mem_of_getElem? ht) (hvars.not_mem (by decide) [])
        · omega
        · exact h
      rw [hr] at hc
      have HC := Lib.hid hc; have HL2 := Lib.hid hlab; have HG2 := Lib.hid hgood; have HLR := Lib.hid hlr
      clear hc hr hlab hgood hvars hlr HL1 HG1 HV1
      go_wp2_with (go_at_call 25; refine HC.out.mono ?_; intro e w2 hp; obtain ⟨F3, I3, rfl, hl2⟩ := HL2.out.gpost hp; have HL3 := Lib.hid hl2; clear hl2 hp)
      go_loopw [14] (fun i wr => ∃ j : Nat, j ≤ R ∧ i = .int .i64 j ∧ ∃ F I, Lab w wr [Thing.graph F I gb 8 R L']) (fun i _ => R - (intOf i).toNat)
      case atStart => exact ⟨0, by omega, rfl, F3, I3, HL3.out⟩
      case round =>
        obtain ⟨j, hj, rfl, F4, I4, hlab⟩ := hrel
        have HL := Lib.hid hlab
        clear hlab
        by_cases hjr : j < R
        · obtain ⟨x, hx⟩ : ∃ x, L'[j]? = some x := ⟨_, List.getElem?_eq_getElem (by have := HLR.out; omega)⟩
          have hwf := HL.out.gr.wf
          have hagain := const_again hwf HG2.out hx
          have hnum : x.2.1 ≤ 18446744073709551615 := (hwf.ok _ (List.mem_of_getElem? hx)).2.1
          obtain ⟨op, num, xs⟩ := x
          simp only at hnum
          have HX := Lib.hid hx; have HA := Lib.hid hagain
          clear hx hwf hagain
          go_wp2_with fail
          go_at_call 23
          refine (HL.out.node_at j _ HX.out).mono ?_
          rintro e w5 ⟨a2, m2, c2, rfl, hlab5⟩
          have hl6 := hlab5.alloc #[.int .u8 op, .int .u64 num, .slice a2 m2 c2] 37
          obtain ⟨p, hp⟩ : ∃ p, w5.heap.size = p := ⟨_, rfl⟩
          rw [hp] at hl6
          have HL6 := Lib.hid hl6
          clear hl6 hlab5
          go_upto_region 23 with fail
          clear hp
          refine wp_abs (fun w6 => Lab w w6 [Thing.box p 37 #[.int .u8 op, .int .u64 num, .slice a2 m2 c2], Thing.graph F4 I4 gb 8 R L', Thing.ints (.slice a2 m2 c2) xs]) HL6.out ?_
          rintro w6 hl6
          obtain ⟨f0, f1, f2⟩ := cells3 hl6.box1
          have HL7 := Lib.hid (hl6.drop.swap.drop)
          clear hl6 HL6
          by_cases h0 : op = 0
          · have ht : ((op : Int) == 0) = true := by rw [beq_iff_eq]; omega
            have hc := const_any HL7.out.gr num (by omega)
            rw [HA.out h0 R] at hc
            have HC2 := Lib.hid hc
            clear hc h0
            go_wp2_with (go_at_call 24; refine HC2.out.mono ?_; intro e w4 hp; obtain ⟨F', I', rfl, hl5⟩ := HL7.out.gpost hp; have HL8 := Lib.hid hl5; clear hl5 hp)
            go_roundw
            case rel => exact ⟨j + 1, by omega, by go_num, F', I', HL8.out⟩
            case measure => simp [intOf]; omega
          · have ht : ((op : Int) == 0) = false := by rw [beq_eq_false_iff_ne]; omega
            clear h0
            go_wp2
            go_roundw
            case rel => exact ⟨j + 1, by omega, by go_num, F4, I4, HL7.out⟩
            case measure => simp [intOf]; omega
        · obtain rfl : j = R := by omega
          go_wp2_with (first | (go_at_call 20; refine (len_any HL.out.gr).mono ?_; rw [HLR.out]; rintro e w6 ⟨rfl, rfl⟩) | (go_at_call 22; refine (HL.out.awakeD).mono ?_; rintro e w3 ⟨rfl, hb3⟩))
          go_ret
          exact ⟨rfl, hb3⟩
end Go.Proofs.Ytpkahhpgkceciaa
