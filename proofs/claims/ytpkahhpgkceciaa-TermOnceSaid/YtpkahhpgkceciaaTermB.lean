/- TermOnce of law 10. -/
import Derived.Test.YtpkahhpgkceciaaLab
import Derived.Test.YtpkahhpgkceciaaGraphG
import Derived.Deep.DeepCutAuto
import Derived.Deep.CutBlock
import Derived.Outline
namespace Go.Proofs.Ytpkahhpgkceciaa
open Go.RowKit Go.Maps
set_option maxHeartbeats 800000

theorem Lab.awake {w0 wr : World} {ts : List Thing} (h : Lab w0 wr ts) : Calls Try.prog 22 #[] wr fun e w' => e = .returned (.bool true) ∧ Below w0.heap.size w0 w' :=
  (awake_any wr).mono fun _ _ ⟨he, hb⟩ => ⟨he, h.below.trans (hb.mono h.size)⟩
theorem wrap_small (q : Nat) (h : q ≤ 4194303) : IntKind.i64.wrap (q : Int) = (q : Int) := IntWalk.i64_in _ (by omega)
set_option maxRecDepth 100000 in
theorem termOnce_walk {w : World} (Wi : Int) (v : Value) (qs : List PAsk) (hv : AsksOf w v qs) (hq : qs.length ≤ 9223372036854775807) :
    Calls Try.prog 4 #[.int .i64 Wi, v] w fun e w' => e = .returned (.bool true) ∧ Below w.heap.size w w' := by
  obtain ⟨a, cap, rfl⟩ := hv.parts
  have hfill := fill_lab Wi _ qs hv hq
  obtain ⟨W, hW⟩ : ∃ W, (Wi % 64).toNat + 1 = W := ⟨_, rfl⟩
  rw [hW] at hfill
  have hgood := fillS_good W (qs.take 120)
  have hterms := fillS_terms W (qs.take 120) (by have := List.length_take_le 120 qs; omega)
  have hlen : (fillS W (qs.take 120)).1.length ≤ 120 ∧ (fillS W (qs.take 120)).2.length ≤ 120 := by have := fillS_len W (qs.take 120); have := List.length_take_le 120 qs; omega
  obtain ⟨S, hS⟩ : ∃ S, fillS W (qs.take 120) = S := ⟨_, rfl⟩
  rw [hS] at hfill hgood hterms hlen
  obtain ⟨L, ts⟩ := S
  simp only at hfill hgood hterms hlen
  obtain ⟨hl1, hl2⟩ := hlen
  have HF := Lib.hid hfill; have HGood := Lib.hid hgood; have HT := Lib.hid hterms
  clear hfill hgood hterms hS hW hv
  go_enter Try.func4, Try.ntmps4
  go_wp2_with fail
  go_at_call 19
  refine HF.out.mono ?_
  rintro e w1 ⟨gb, F0, I0, ao, mo, co, rfl, hlab0⟩
  have HL0 := Lib.hid hlab0
  clear hlab0
  go_wp2
  go_loopw [7] (fun i wr => ∃ k : Nat, k ≤ L.length ∧ i = .int .i64 k ∧ ∃ F I, Lab w wr [Thing.graph F I gb W 1048576 L, Thing.ints (.slice ao mo co) ts]) (fun i _ => L.length - (intOf i).toNat)
  case atStart => exact ⟨0, by omega, rfl, F0, I0, HL0.out⟩
  case round =>
    obtain ⟨k, hk, rfl, F, I, hlab⟩ := hrel
    have HL := Lib.hid hlab
    clear hlab
    by_cases hlt : k < L.length
    · obtain ⟨n, hn⟩ : ∃ n, L[k]? = some n := ⟨_, List.getElem?_eq_getElem hlt⟩
      obtain ⟨op, num, xs⟩ := n
      have HN := Lib.hid hn
      clear hn
      go_wp2_with fail
      go_at_call 20
      refine (len_any HL.out.gr).mono ?_
      rintro e w2 ⟨rfl, rfl⟩
      go_wp2_with fail
      go_at_call 23
      refine (HL.out.node_at k _ HN.out).mono ?_
      rintro e w2 ⟨a1, m1, c1, rfl, hlab2⟩
      have HL2 := Lib.hid hlab2
      clear hlab2
      obtain ⟨p, hp⟩ : ∃ p, w2.heap.size = p := ⟨_, rfl⟩
      have hl3 := HL2.out.alloc #[.int .u8 op, .int .u64 num, .slice a1 m1 c1] 37
      rw [hp] at hl3
      have HL3 := Lib.hid hl3
      clear hl3
      go_upto_block 2 with fail
      clear hp
      refine wp_abs (fun w3 => Lab w w3 [Thing.box p 37 #[.int .u8 op, .int .u64 num, .slice a1 m1 c1], Thing.graph F I gb W 1048576 L, Thing.ints (.slice a1 m1 c1) xs, Thing.ints (.slice ao mo co) ts]) HL3.out ?_
      rintro w3 hl3
      have HL4 := Lib.hid hl3.swap
      obtain ⟨d0, d1, d2⟩ := cells3 hl3.head
      clear hl3 HL3 HL2
      go_cut [10, 11] (fun t f wx => t = .int .i64 k ∧ f = .int .i64 0 ∧ ∃ F I, Lab w wx [Thing.graph F I gb W 1048576 L, Thing.box p 37 #[.int .u8 op, .int .u64 num, .slice a1 m1 c1], Thing.ints (.slice a1 m1 c1) xs, Thing.ints (.slice ao mo co) ts])
      case first =>
        have hw := HL4.out.gr.wf
        have hok := hw.ok _ (List.mem_of_getElem? HN.out)
        have ho21 : op ≤ 21 := hok.1
        have hnum : num ≤ 18446744073709551615 := hok.2.1
        have HW := Lib.hid hw
        clear hw hok
        by_cases h0 : op = 0
        · have ht : ((op : Int) == 0) = true := by rw [beq_iff_eq]; omega
          have hc := const_any HL4.out.gr num (by omega)
          rw [const_again HW.out HGood.out HN.out h0 1048576] at hc
          have HC := Lib.hid hc
          clear hc h0
          go_wp2_with (go_at_call 24; refine HC.out.mono ?_; intro e w4 hp; obtain ⟨F', I', rfl, hl5⟩ := HL4.out.gpost hp)
          go_meet
          exact ⟨rfl, rfl, F', I', hl5⟩
        · have ht : ((op : Int) == 0) = false := by rw [beq_eq_false_iff_ne]; omega
          by_cases h1 : op = 1
          · have ht1 : ((op : Int) == 1) = true := by rw [beq_iff_eq]; omega
            have hb : num ≤ 4194303 := by
              rcases HGood.out _ (List.mem_of_getElem? HN.out) with h | h | h
              · exact absurd h.1 h0
              · exact h.2.1
              · have := h.1; simp only at this; omega
            have hwr := wrap_small num hb
            have hc := var_any HL4.out.gr (num : Int)
            rw [var_again HW.out HGood.out HN.out h1 1048576] at hc
            have HC := Lib.hid hc
            clear hc h0 h1
            go_wp2_with (go_at_call 25; refine HC.out.mono ?_; intro e w4 hp; obtain ⟨F', I', rfl, hl5⟩ := HL4.out.gpost hp)
            go_meet
            exact ⟨rfl, rfl, F', I', hl5⟩
          · have ht1 : ((op : Int) == 1) = false := by rw [beq_eq_false_iff_ne]; omega
            have hc := app_any HL4.out.gr op (by omega) xs _ HL4.out.ints3.slice
            rw [app_again HW.out HGood.out HN.out (by show 2 ≤ op; omega) 1048576] at hc
            have HC := Lib.hid hc
            clear hc h0 h1
            go_wp2_with (go_at_call 26; refine HC.out.mono ?_; intro e w4 hp; obtain ⟨F', I', rfl, hl5⟩ := HL4.out.gpost hp)
            go_meet
            exact ⟨rfl, rfl, F', I', hl5⟩
      case rest =>
        obtain ⟨rfl, rfl, F', I', hl5⟩ := hcut
        obtain ⟨e0, e1, e2⟩ := cells3 hl5.box2
        have hsl := hl5.ints3.slice
        obtain ⟨av, mv, cv, heq, hxl, hcell⟩ := hsl.parts
        simp only [Value.slice.injEq] at heq
        obtain ⟨rfl, rfl, rfl⟩ := heq
        have hargs := hl5.gr.wf.args k _ HN.out
        have hx3 : m1 ≤ 3 := by have h1 := (hl5.gr.wf.ok _ (List.mem_of_getElem? HN.out)).2.2; have := aryN_le op; simp only at h1; omega
        have HL5 := Lib.hid hl5; have HX := Lib.hid hxl; have HC := Lib.hid hcell; have HA := Lib.hid hargs
        clear hl5 hxl hcell hsl hargs d0 d1 d2 HL4
        go_wp2
        go_loop [12] (fun i => ∃ j : Nat, j ≤ m1 ∧ i = .int .i64 j) (fun i => m1 - (intOf i).toNat)
        case atStart => exact ⟨0, by omega, rfl⟩
        case round =>
          obtain ⟨j, hj, rfl⟩ := hrel
          by_cases hjm : j < m1
          · obtain ⟨g, off, q, rfl, hc, hq⟩ := HC.out j hjm
            have hqb := HA.out q (List.mem_of_getElem? hq)
            have hq1 : ¬ q < 0 := by omega
            have hq2 : ¬ (k : Int) ≤ q := by omega
            clear hq hqb
            go_wp2
            go_round
            case rel => exact ⟨j + 1, by omega, by go_num⟩
            case measure => simp [intOf]; omega
          · obtain rfl : j = m1 := by omega
            go_wp2
            clear e0 e1 e2
            go_loopw [13] (fun i wr => ∃ u : Nat, u ≤ k ∧ i = .int .i64 u ∧ Lab w wr [Thing.graph F' I' gb W 1048576 L, Thing.box p 37 #[.int .u8 op, .int .u64 num, .slice a1 j c1], Thing.ints (.slice a1 j c1) xs, Thing.ints (.slice ao mo co) ts]) (fun i _ => k - (intOf i).toNat)
            case atStart => exact ⟨0, by omega, rfl, HL5.out⟩
            case round =>
              obtain ⟨u, hu, rfl, hlab⟩ := hrel
              have HL := Lib.hid hlab
              clear hlab
              by_cases huk : u < k
              · obtain ⟨m, hm⟩ : ∃ m, L[u]? = some m := ⟨_, List.getElem?_eq_getElem (by omega)⟩
                have hne : decide (m = (op, num, xs)) = false := by
                  refine decide_eq_false ?_
                  rintro rfl
                  have h1 := List.getElem?_eq_some_iff.1 hm
                  have h2 := List.getElem?_eq_some_iff.1 HN.out
                  obtain ⟨l1, q1⟩ := h1
                  obtain ⟨l2, q2⟩ := h2
                  have := (List.getElem_inj HL.out.gr.wf.nodup).1 (q1.trans q2.symm)
                  omega
                have hm3 : m.2.2.length ≤ 3 := by have h1 := (HL.out.gr.wf.ok _ (List.mem_of_getElem? hm)).2.2; have := aryN_le m.1; omega
                obtain ⟨op', num', ys⟩ := m
                have HM := Lib.hid (And.intro hm hne)
                simp only at hm3
                clear hm hne
                go_wp2_with fail
                go_at_call 23
                refine (HL.out.node_at u _ HM.out.1).mono ?_
                rintro e w5 ⟨a2, m2, c2, rfl, hlab5⟩
                have hl6 := hlab5.alloc #[.int .u8 op', .int .u64 num', .slice a2 m2 c2] 37
                obtain ⟨p', hp'⟩ : ∃ p', w5.heap.size = p' := ⟨_, rfl⟩
                rw [hp'] at hl6
                have HL6 := Lib.hid hl6
                clear hl6 hlab5
                go_upto_region 28 with fail
                clear hp'
                refine wp_abs (fun w6 => Lab w w6 [Thing.box p' 37 #[.int .u8 op', .int .u64 num', .slice a2 m2 c2], Thing.graph F' I' gb W 1048576 L, Thing.ints (.slice a2 m2 c2) ys, Thing.box p 37 #[.int .u8 op, .int .u64 num, .slice a1 j c1], Thing.ints (.slice a1 j c1) xs, Thing.ints (.slice ao mo co) ts]) HL6.out ?_
                rintro w6 hl6
                obtain ⟨f0, f1, f2⟩ := cells3 hl6.box1
                obtain ⟨e0, e1, e2⟩ := cells3 hl6.drop.box3
                have hv1 : NodeV w6 (.agg #[.int .u8 op', .int .u64 num', .slice a2 m2 c2]) (op', num', ys) := ⟨_, rfl, hl6.ints3.slice, by show ys.length ≤ _; omega⟩
                have hv2 : NodeV w6 (.agg #[.int .u8 op, .int .u64 num, .slice a1 j c1]) (op, num, xs) := ⟨_, rfl, hl6.drop.ints4.slice, by show xs.length ≤ _; have := HX.out; omega⟩
                have hcall := equalNode_any _ _ _ _ hv1 hv2
                rw [HM.out.2] at hcall
                have HCALL := Lib.hid hcall
                have HL7 := Lib.hid hl6
                clear hl6 hv1 hv2 hcall HL6
                go_wp2_with (go_at_call 27; refine HCALL.out.mono ?_; rintro e w7 ⟨rfl, hb7⟩)
                go_roundw
                case rel => exact ⟨u + 1, by omega, by go_num, (HL7.out.later hb7).drop.swap.drop⟩
                case measure => simp [intOf]; omega
              · obtain rfl : u = k := by omega
                go_wp2
                go_roundw
                case rel => exact ⟨u + 1, by omega, by go_num, F', I', HL.out.swap.drop.swap.drop⟩
                case measure => simp [intOf]; omega
    · obtain rfl : k = L.length := by omega
      have hsl := HL.out.ints2.slice
      obtain ⟨av, mv, cv, heq, hxl, hcell⟩ := hsl.parts
      simp only [Value.slice.injEq] at heq
      obtain ⟨rfl, rfl, rfl⟩ := heq
      have HX := Lib.hid hxl; have HC := Lib.hid hcell
      have hm120 : mo ≤ 120 := by omega
      clear hxl hcell hsl
      go_wp2_with (go_at_call 20; refine (len_any HL.out.gr).mono ?_; rintro e w2 ⟨rfl, rfl⟩)
      go_loopw [16] (fun i wr => ∃ j : Nat, j ≤ mo ∧ i = .int .i64 j ∧ Lab w wr [Thing.graph F I gb W 1048576 L, Thing.ints (.slice ao mo co) ts]) (fun i _ => mo - (intOf i).toNat)
      case atStart => exact ⟨0, by omega, rfl, HL.out⟩
      case round =>
        obtain ⟨j, hj, rfl, hlab⟩ := hrel
        have HL' := Lib.hid hlab
        clear hlab
        by_cases hjm : j < mo
        · obtain ⟨g, off, q, rfl, -, hq⟩ := HC.out j hjm
          have hc := SliceOf.at HL'.out.ints2.slice hq
          have hb := HT.out q (List.mem_of_getElem? hq)
          have hq1 : decide (q < 0) = false := decide_eq_false (by omega)
          have hq2 : decide ((L.length : Int) ≤ q) = false := decide_eq_false (by omega)
          clear hb hq
          go_wp2
          go_quiet ((go_at_call 20; exact len_quiet HL'.out.gr _))
          go_wp2
          go_roundw
          case rel => exact ⟨j + 1, by omega, by go_num, HL'.out.drewN _⟩
          case measure => simp [intOf]; omega
        · obtain rfl : j = mo := by omega
          go_wp2_with (go_at_call 22; refine (HL'.out.awake).mono ?_; rintro e w3 ⟨rfl, hb3⟩)
          go_ret
          exact ⟨rfl, hb3⟩
end Go.Proofs.Ytpkahhpgkceciaa
