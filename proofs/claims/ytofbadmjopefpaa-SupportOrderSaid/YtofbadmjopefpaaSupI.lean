/- SupportOrder. -/
import Derived.Test.YtofbadmjopefpaaSupF
namespace Go.Proofs.Ytofbadmjopefpaa
open Go.RowKit Go.Maps
set_option maxHeartbeats 6400000

section
variable {w0 wr : World} {ts : List Thing}
/-- A list is appended to an own list, at a step of a region that draws its order. -/
theorem step_append_labs {ops : Array Oper} {o : Oper} {a : Act} {K : Act → World → Prop} {Q : Exit → Act → World → Prop} {E0 : Prop} {ao : Option Addr} {c n : Nat} {xv : Value} {xs ys : List Int} (s x : Operand) (h : Lab w0 wr (Thing.ints (.slice ao n c) xs :: ts)) (hl : xs.length = n) (hsrc : SliceOf wr .i64 xv ys) (hy : ys ≠ []) (hgd : o.guard = none)
    (ho : o.op = .call { callee := .builtin .append, args := #[s, x], argTypes := #[26, 26] }) (hs : a.eval s = .slice ao n c) (hx : a.eval x = xv) (hn : xs.length + ys.length ≤ 1000000000)
    (hK : ∀ a' c' w', Lab w0 w' (Thing.ints (.slice a' (n + ys.length) c') (xs ++ ys) :: ts) → K (a.put o.dst (.slice a' (n + ys.length) c')) w') :
    if Region.wanted o (yielded ops a.tmps) = true then Oper.wp Try.prog o a wr K Q else E0 := by
  subst hl
  have hw : Region.wanted o (yielded ops a.tmps) = true := by simp [Region.wanted, hgd]
  rw [if_pos hw]
  have hown : wr.ownsRow 0 3 1 (.slice ao xs.length c) xs.length (xs.map (Value.int .i64)) := h.ints
  have h1 : ∀ u ∈ ys.map (Value.int .i64), u.oneCell' = true := fun u hu => by
    obtain ⟨y, _, rfl⟩ := List.mem_map.1 hu
    rfl
  obtain ⟨v', w', hr, h2, h3⟩ := run_append_src (P := Try.prog) wr 0 26 o.type 3 1 8 (.int .i64 0) Try.underlying26 Try.infoI64 rfl (by decide) (by decide) _ xv xs.length ys.length _ _ hown hsrc.src h1 hn (Nat.zero_le _)
  have hpos : 0 < ys.length := List.length_pos_iff.2 hy
  have blk := append_block (P := Try.prog) (T := 26) (ty := o.type) (bytes := 8) (z := .int .i64 0) Try.underlying26 Try.infoI64 (by decide) hown hsrc.src h1 hpos hn hr
  obtain ⟨a', c', rfl⟩ : ∃ a' c', v' = .slice a' (xs.length + ys.length) c' := by
    rcases h2.2 with ⟨_, h0⟩ | ⟨g, cap, cur, rfl, _⟩
    · omega
    · exact ⟨_, _, rfl⟩
  unfold Oper.wp execOp
  simp only [ho, resolve, invoke, builtin, Sem.run_bind, Sem.run_pure, Result.andThen_ok, List.map_toArray, List.map_cons, List.map_nil, hs, hx, hr]
  refine hK a' c' w' ?_
  have hown2 : OwnInts w' 0 3 .i64 (.slice a' (xs.length + ys.length) c') (xs ++ ys) := by
    unfold OwnInts
    rw [List.length_append, List.map_append]
    exact h2
  refine h.turn (s' := Thing.ints (.slice a' (xs.length + ys.length) c') (xs ++ ys)) ⟨h3.os, h3.tape, h3.output, h3.size, fun b hb hn => h3.block b hb (fun e => hn (by simp [Thing.ints, Thing.row, ← e]))⟩ hown2 (fun k hk => ?_) (fun k hk => by simp [Thing.ints, Thing.row] at hk) (fun k hk => ?_)
  · have hk' : (Value.slice a' (xs.length + ys.length) c').ownBlock = some k := by simpa [Thing.ints, Thing.row] using hk
    exact (blk k hk').imp (fun e => by simp [Thing.ints, Thing.row, e]) id
  · rcases hk with hk | hk
    · exact (World.ownsRow.lt hown2 k (by simpa [Thing.ints, Thing.row] using hk)).2
    · simp [Thing.ints, Thing.row] at hk
end
theorem later_same {L L2 : List PNode} {us tl : List Int} (hw : WFL L) (hw2 : WFL L2) (hp : L <+: L2) (hi : InL L us) (hm : ∀ t, t ∈ tl ↔ t ∈ us) : InL L2 tl ∧ varsO L2 (occS L2 tl) = varsO L (occS L us) ∧ cntS L2 (occS L2 tl) = cntS L (occS L us) := by
  have e : occS L2 tl = occS L us := by
    rw [occS_congr hm]
    exact funext fun i => occS_prefix hw hw2 hp hi i
  have hlo : ∀ i, occS L us i = true → i < L.length := fun i hx => occS_lt hw hi hx
  refine ⟨fun t ht => ?_, ?_, ?_⟩
  · have h1 := hi t ((hm t).1 ht)
    have h2 := hp.length_le
    omega
  · rw [e]; exact varsO_prefix hw hw2 hp hlo
  · rw [e]; exact cntS_prefix hp hlo
set_option maxRecDepth 100000 in
theorem supportOrder_walk {w : World} (Wi : Int) (v v2 v3 : Value) (qs : List PAsk) (hv : AsksOf w v qs) (hq : qs.length ≤ 9223372036854775807) (hcq : ∀ a n c, v = .slice a n c → n ≤ c) (ls : List PAsk) (hv2 : AsksOf w v2 ls) (hn2 : ls.length ≤ 9223372036854775807) (rs : List Int) (hv3 : SliceOf w .i64 v3 rs) (hn3 : rs.length ≤ 9223372036854775807) :
    Calls Try.prog 8 #[.int .i64 Wi, v, v2, v3] w fun e w' => e = .returned (.bool true) ∧ Below w.heap.size w w' := by
  obtain ⟨a, cap, rfl⟩ := hv.parts
  have hcap := hcq _ _ _ rfl
  obtain ⟨n, hn⟩ : ∃ n, qs.length = n := ⟨_, rfl⟩
  rw [hn] at hv hq hcap ⊢
  obtain ⟨a2, cap2, rfl⟩ := hv2.parts
  obtain ⟨n2, hn2'⟩ : ∃ n2, ls.length = n2 := ⟨_, rfl⟩
  rw [hn2'] at hv2 hn2 ⊢
  have hfill := fill_some Wi a n cap qs hv hq
  obtain ⟨W, hW⟩ : ∃ W, (Wi % 64).toNat + 1 = W := ⟨_, rfl⟩
  rw [hW] at hfill
  have HF := Lib.hid hfill; have HA := Lib.hid (And.intro hv3 hn3); have HV2 := Lib.hid hv2
  clear hv hcq hfill hn hW hv2 hn2' hv3 hn3
  go_enter Try.func8, Try.ntmps8
  go_upto_region 1 with fail
  go_cut [9, 10] (fun g t wx => ∃ gb F I a' m c L, L.length ≤ 60 ∧ GoodL W L ∧ g = .pointer (some ⟨gb, 0, none⟩) ∧ t = .slice a' m c ∧ Lab w wx [Thing.graph F I gb W 1048576 L])
  case first =>
    by_cases h100 : (60 : Int) < (n : Int)
    · have HF1 := Lib.hid (HF.out 60 (by omega))
      have hmin : min (n : Int) 60 = 60 := by omega
      go_wp2_with fail
      go_at_call 21
      refine HF1.out.mono ?_
      rintro e w1 ⟨gb, F, I, a', m, c, L, -, hL, hG, -, rfl, hlab⟩
      go_wp2
      go_meet
      exact ⟨gb, F, I, a', m, c, L, hL, hG, rfl, rfl, hlab⟩
    · have HF1 := Lib.hid (HF.out n (by omega))
      have hmin : min (n : Int) 60 = (n : Int) := by omega
      go_wp2_with fail
      go_at_call 21
      refine HF1.out.mono ?_
      rintro e w1 ⟨gb, F, I, a', m, c, L, -, hL, hG, -, rfl, hlab⟩
      go_wp2
      go_meet
      exact ⟨gb, F, I, a', m, c, L, by omega, hG, rfl, rfl, hlab⟩
  case rest =>
    obtain ⟨gb, F, I, a', m, c, L, hL, hG, rfl, rfl, hlab⟩ := hcut
    have HG := Lib.hid hG
    have hwf := hlab.gr.wf
    have HWF := Lib.hid hwf
    have hi1 := someL_in L rs
    have hl1 := someL_len L rs
    have hs1 := hlab.some14 v3 rs HA.out.1 HA.out.2
    obtain ⟨us, hxs⟩ : ∃ us, someL L rs = us := ⟨_, rfl⟩
    rw [hxs] at hi1 hl1 hs1
    have hxl := varsO_len (L := L) (S := occS L us)
    have hcl := cntS_le (L := L) (S := occS L us)
    obtain ⟨X, hX⟩ : ∃ X, varsO L (occS L us) = X := ⟨_, rfl⟩
    obtain ⟨q, hq1⟩ : ∃ q, cntS L (occS L us) = q := ⟨_, rfl⟩
    rw [hX] at hxl; rw [hq1] at hcl
    have HI1 := Lib.hid hi1; have HS1 := Lib.hid hs1; have HX := Lib.hid hX; have HQ := Lib.hid hq1
    clear hG hlab HF hwf hi1 hs1 hxs HA hX hq1
    go_wp2_with fail
    go_at_call 22
    refine HS1.out.mono ?_
    rintro e w2 ⟨a3, c3, rfl, hl⟩
    have HL2 := Lib.hid hl.swap
    clear hl HS1
    go_wp2_with fail
    go_at_call 13
    refine (HL2.out.vars_ok HG.out _ us (OwnInts.slice HL2.out.second) (by omega) HI1.out HX.out).mono ?_
    rintro e w3 ⟨a4, c4, rfl, hl3⟩
    have HL3 := Lib.hid hl3.swap
    clear hl3 HL2
    go_wp2_with fail
    go_at_call 14
    refine (HL3.out.size_ok _ us (OwnInts.slice HL3.out.third) (by omega) HI1.out HQ.out).mono ?_
    rintro e w4 ⟨rfl, hl4⟩
    have HL4 := Lib.hid hl4.nil_ints
    clear hl4 HL3
    have hw1 : IntKind.i64.wrap ((us.length : Int) - 1) = (us.length : Int) - 1 := by simp [IntKind.wrap, IntKind.bits, IntKind.signed]; omega
    go_wp2
    clear hw1
    go_loopw [15, 16] (fun v i wx => ∃ (j : Int), -1 ≤ j ∧ j < (us.length : Int) ∧ i = .int .i64 j ∧ ∃ ao k co tl, v = .slice ao k co ∧ tl.length = k ∧ (k : Int) + 2 * (j + 1) = 2 * (us.length : Int) ∧ (∀ t ∈ tl, t ∈ us) ∧ (∀ (p : Nat) t, j < (p : Int) → us[p]? = some t → t ∈ tl) ∧ Lab w wx [Thing.ints (.slice ao k co) tl, Thing.graph F I gb W 1048576 L, Thing.ints (.slice a4 X.length c4) X, Thing.ints (.slice a3 us.length c3) us]) (fun _ i _ => (intOf i + 1).toNat)
    case atStart =>
      refine ⟨(us.length : Int) - 1, by omega, by omega, rfl, none, 0, 0, [], rfl, rfl, by omega, by simp, fun p t hp ht => ?_, HL4.out⟩
      have := (List.getElem?_eq_some_iff.1 ht).1
      omega
    case round =>
      obtain ⟨j, hj1, hj2, rfl, ao, k, co, tl, rfl, htl, hk, hin, hall, hl⟩ := hrel
      clear HL4
      by_cases hj0 : 0 ≤ j
      · obtain ⟨p, rfl⟩ := Int.eq_ofNat_of_zero_le hj0
        have hown : OwnInts wr 0 3 .i64 (.slice a3 us.length c3) us := hl.fourth
        obtain ⟨g, cap', e⟩ := own_some' hown (by intro e; rw [e] at hj2; simp at hj2; omega)
        simp only [Value.slice.injEq] at e
        obtain ⟨rfl, -, rfl⟩ := e
        obtain ⟨x, hx⟩ : ∃ x, us[p]? = some x := ⟨_, List.getElem?_eq_getElem (by omega)⟩
        obtain ⟨h, hh⟩ : ∃ h, p / 2 = h := ⟨_, rfl⟩
        have hquo : (p : Int).tdiv 2 = (h : Int) := by rw [Int.tdiv_eq_ediv_of_nonneg (by omega)]; omega
        have hh1 : h < us.length := by omega
        have hh2 : (0 : Int) ≤ (h : Int) := by omega
        have hh3 : (h : Int) < (us.length : Int) := by omega
        have hh4 : IntKind.i64.wrap (h : Int) = (h : Int) := by simp [IntKind.wrap, IntKind.bits, IntKind.signed]; omega
        obtain ⟨y, hy⟩ : ∃ y, us[h]? = some y := ⟨_, List.getElem?_eq_getElem hh1⟩
        have d0 := (OwnInts.slice hown).at hx
        have d1 := (OwnInts.slice hown).at hy
        rw [Nat.zero_add] at d0 d1
        have hld := hl.later (Below.refl _ _).drew
        have hlb := (hld.alloc #[.int .i64 x, .int .i64 y] 3).swap
        have hbx := slice_of_box (xs := [x, y]) (c := 2) hlb.box2
        have hkx : tl.length + [x, y].length ≤ 1000000000 := by simp only [List.length_cons, List.length_nil]; omega
        have HLB := Lib.hid hlb; have HBX := Lib.hid hbx
        have HIN := Lib.hid hin; have HALL := Lib.hid hall; have HX1 := Lib.hid hx; have HY1 := Lib.hid hy; have HK := Lib.hid hk; have HTL := Lib.hid htl
        clear hl hin hall hown hx hy hk htl hld hlb hbx hh
        go_upto_region 13 with fail
        go_region_held3 (fun w' => w'.cell? ⟨g, p, none⟩ = some (.int .i64 x) ∧ w'.cell? ⟨g, h, none⟩ = some (.int .i64 y)) (first | exact ⟨d0, d1⟩ | exact ⟨s0, s1⟩ | assumption | go_keep)
          ((refine step_append_labs (.tmp 60) (.tmp 70) HLB.out HTL.out HBX.out (by simp) rfl rfl rfl rfl hkx ?_; intro a5 c5 w5 hl5; have o5 : OwnInts w5 0 3 .i64 (.slice (some ⟨g, 0, none⟩) us.length c3) us := hl5.fifth; have s0 := (OwnInts.slice o5).at HX1.out; have s1 := (OwnInts.slice o5).at HY1.out; rw [Nat.zero_add] at s0 s1))
        have HL6 := Lib.hid (hl5.subl (ts' := [Thing.ints (.slice a5 (k + 2) c5) (tl ++ [x, y]), Thing.graph F I gb W 1048576 L, Thing.ints (.slice a4 X.length c4) X, Thing.ints (.slice (some ⟨g, 0, none⟩) us.length c3) us]) (.cons_cons _ (.cons _ (List.Sublist.refl _))))
        have hwp : IntKind.i64.wrap ((p : Int) - 1) = (p : Int) - 1 := by simp [IntKind.wrap, IntKind.bits, IntKind.signed]; omega
        clear hl5 HLB HBX hquo d0 d1
        go_wp2
        go_roundw
        case rel =>
          have hkk := HK.out
          refine ⟨(p : Int) - 1, by omega, by omega, by go_num, a5, k + 2, c5, tl ++ [x, y], rfl, by rw [List.length_append, HTL.out]; rfl, by omega, fun t ht => ?_, fun i t hi ht => ?_, HL6.out⟩
          · rcases List.mem_append.1 ht with h1 | h1
            · exact HIN.out t h1
            · rcases List.mem_cons.1 h1 with rfl | h1
              · exact List.mem_of_getElem? HX1.out
              · rw [List.mem_singleton.1 h1]; exact List.mem_of_getElem? HY1.out
          · by_cases e : i = p
            · subst e
              rw [HX1.out] at ht
              cases ht
              simp
            · exact List.mem_append_left _ (HALL.out i t (by omega) ht)
        case measure => simp [intOf]
      · have hm : ∀ t, t ∈ tl ↔ t ∈ us := fun t => ⟨hin t, fun ht => by
          obtain ⟨i, hi, e⟩ := List.getElem_of_mem ht
          exact hall i t (by omega) (by rw [List.getElem?_eq_getElem hi, e])⟩
        have htl40 : k ≤ 40 := by omega
        have hj3 : ¬ (0 : Int) ≤ j := hj0
        have HM := Lib.hid hm; have HL5 := Lib.hid hl.swap; have HTL := Lib.hid htl
        clear hl hin hall hk hm htl
        go_upto_block 2 with fail
        go_cut [17] (fun _ wx => ∃ F I L2, L <+: L2 ∧ L2.length ≤ 120 ∧ GoodL W L2 ∧ Lab w wx [Thing.graph F I gb W 1048576 L2, Thing.ints (.slice ao k co) tl, Thing.ints (.slice a4 X.length c4) X, Thing.ints (.slice a3 us.length c3) us])
        case first =>
          go_wp2
          go_loopw [17] (fun i wx => ∃ k2 : Nat, k2 ≤ n2 ∧ k2 ≤ 60 ∧ i = .int .i64 k2 ∧ ∃ F I L2, L <+: L2 ∧ L2.length ≤ L.length + k2 ∧ GoodL W L2 ∧ Lab w wx [Thing.graph F I gb W 1048576 L2, Thing.ints (.slice ao k co) tl, Thing.ints (.slice a4 X.length c4) X, Thing.ints (.slice a3 us.length c3) us]) (fun i _ => n2 - (intOf i).toNat)
          case atStart => exact ⟨0, by omega, by omega, rfl, F, I, L, List.prefix_refl L, by omega, HG.out, HL5.out⟩
          case round =>
            obtain ⟨k2, hk, hk2, rfl, F2, I2, L2, hp, hll, hg2, hl⟩ := hrel
            have HP := Lib.hid hp; have HL10 := Lib.hid hl; have HG2 := Lib.hid hg2
            clear hp hl hg2 HL5
            by_cases hlt : k2 < n2
            · have hlt' : (k2 : Int) < (n2 : Int) := by omega
              by_cases hlt2 : k2 < 60
              · have hlt2' : (k2 : Int) < 60 := by omega
                obtain ⟨b, off, xa, va, rfl, hx, hok, hav, c0, c1, c2, c3', c4'⟩ := (HV2.out.below HL10.out.below).at hlt
                have HAdd := Lib.hid (ladd_any HL10.out.gr xa _ hav hok)
                have hpre := HP.out.trans (isPrefix_add W 1048576 L2 xa)
                have hgd := HG2.out.add 1048576 xa
                have hle : (addR W 1048576 L2 xa).1.length ≤ L2.length + 1 := by rw [addR_ask]; exact (askP_len _ _ _).2
                generalize addR W 1048576 L2 xa = R at *
                have HPRE := Lib.hid hpre; have HGD := Lib.hid hgd
                clear hx hav hok hpre hgd
                go_wp2_with fail
                go_at_call 26
                refine HAdd.out.mono ?_
                intro e w2 hp
                obtain ⟨F', I', rfl, hl2⟩ := HL10.out.gpost hp
                have HL11 := Lib.hid hl2
                clear hl2 hp c0 c1 c2 c3' c4'
                go_wp2
                go_roundw
                case rel => exact ⟨k2 + 1, by omega, by omega, by go_num, F', I', _, HPRE.out, by omega, HGD.out, HL11.out⟩
                case measure => simp [intOf]; omega
              · obtain rfl : k2 = 60 := by omega
                go_wp2
                go_meet
                exact ⟨F2, I2, L2, HP.out, by omega, HG2.out, HL10.out⟩
            · obtain rfl : k2 = n2 := by omega
              go_wp2
              go_meet
              exact ⟨F2, I2, L2, HP.out, by omega, HG2.out, HL10.out⟩
        case rest =>
          obtain ⟨F2, I2, L2, hp, hll, hg2, hl⟩ := hcut
          obtain ⟨hi2, hv2, hc2⟩ := later_same HWF.out hl.gr.wf hp HI1.out HM.out
          rw [HX.out] at hv2
          rw [HQ.out] at hc2
          have HL6 := Lib.hid hl; have HI2 := Lib.hid hi2; have HV3 := Lib.hid hv2; have HC2 := Lib.hid hc2; have HG2 := Lib.hid hg2
          clear hl hi2 hv2 hc2 hg2 hp HL5
          go_wp2_with fail
          go_at_call 13
          refine (HL6.out.vars_ok HG2.out _ tl (OwnInts.slice HL6.out.second) (by have := HTL.out; omega) HI2.out HV3.out).mono ?_
          rintro e w3 ⟨a6, c6, rfl, hl7⟩
          have HL7 := Lib.hid hl7.swap
          clear hl7 HL6
          go_wp2_with fail
          go_at_call 14
          refine (HL7.out.size_ok _ tl (OwnInts.slice HL7.out.third) (by have := HTL.out; omega) HI2.out HC2.out).mono ?_
          rintro e w4 ⟨rfl, hl8⟩
          have heq := equalInts_any (w := w4) (.slice a4 X.length c4) (.slice a6 X.length c6) X X (OwnInts.slice hl8.fourth) (OwnInts.slice hl8.second) (by omega) (by omega)
          rw [decide_eq_true rfl] at heq
          have HEQ := Lib.hid heq; have HL8 := Lib.hid hl8
          clear hl8 heq HL7
          have hqq : ((q : Int) == (q : Int)) = true := by simp
          go_wp2_with fail
          go_at_call 20
          refine HEQ.out.mono ?_
          rintro e w5 ⟨rfl, hb5⟩
          have HAW := Lib.hid (HL8.out.later hb5).awake14
          clear hb5
          go_wp2_with fail
          go_at_call 15
          refine HAW.out.mono ?_
          rintro e w6 ⟨rfl, hb⟩
          go_wp2
          go_ret
          exact ⟨rfl, hb⟩
end Go.Proofs.Ytofbadmjopefpaa
