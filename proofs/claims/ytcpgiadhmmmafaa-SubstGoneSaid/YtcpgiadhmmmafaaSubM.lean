/- SubstGone. -/
import Derived.Test.YtcpgiadhmmmafaaSubL
import Derived.Test.YtcpgiadhmmmafaaSubJ
namespace Go.Proofs.Ytcpgiadhmmmafaa
open Go.RowKit Go.Maps
set_option maxHeartbeats 3200000

/-- What does not occur in a term, nor in what is put into it, does not occur in the result. -/
theorem substR_noVar {W room : Nat} {L L' : List PNode} {vs us : List Int} {t s v : Nat} (hW : W ≤ 64) (hw : WFL L) (hg : GoodL W L) (hok : PairsOk L vs us) (ht : t < L.length) (hR : substR W room L t (vs.zip us) = (L', s, 0))
    (h1 : hasVar L t v → (v : Int) ∈ vs) (h2 : ∀ (i : Nat) (x u : Nat), vs[i]? = some (x : Int) → us[i]? = some (u : Int) → hasVar L t x → ¬ hasVar L u v) : ¬ hasVar L' s v := by
  have hso : SubOk L (vs.zip us) := by
    refine ⟨?_, fun p hp => hok.terms p.2 (List.of_mem_zip hp).2⟩
    rw [List.map_fst_zip (by rw [hok.len]; exact Nat.le_refl _)]
    exact hok.nodup
  have := substR_gen (Q := fun M t => NoVar M v t.toNat) (fun M M' t _ hp _ _ hq => hq.prefixT hp) (fun M o xs hw _ h1 h2 hl hin hq he => by rw [Int.toNat_natCast]; exact res_noVar hw h1 h2 hl hin hq he) hW hw hg ht hso hR (fun i n hn ho ha => ?_)
  · rw [Int.toNat_natCast] at this
    exact this.not_has
  · unfold subLf
    by_cases e1 : n.1 = 1
    · rw [if_pos e1]
      cases hs : subOf (vs.zip us) n.2.1 with
      | some u =>
        obtain ⟨k, hk⟩ := List.mem_iff_getElem?.1 (subOf_mem hs)
        obtain ⟨k1, k2⟩ := List.getElem?_zip_eq_some.1 hk
        have hu := hok.terms u (List.mem_of_getElem? k2)
        obtain ⟨m, rfl⟩ := Int.eq_ofNat_of_zero_le hu.1
        show NoVar L v ((m : Int)).toNat
        rw [Int.toNat_natCast]
        exact noVar_of hw (by omega) (h2 k n.2.1 m k1 k2 ⟨i, n, ho, hn, e1, rfl⟩)
      | none =>
        show NoVar L v ((i : Int)).toNat
        rw [Int.toNat_natCast]
        refine NoVar.leaf hn ha (fun _ e => ?_)
        have hv := h1 ⟨i, n, ho, hn, e1, e⟩
        obtain ⟨k, hk⟩ := List.mem_iff_getElem?.1 hv
        have hlt := (List.getElem?_eq_some_iff.1 hk).1
        obtain ⟨u, hu⟩ : ∃ u, us[k]? = some u := ⟨_, List.getElem?_eq_getElem (by rw [← hok.len]; exact hlt)⟩
        exact subOf_none.1 hs u (List.mem_of_getElem? (List.getElem?_zip_eq_some.2 ⟨by rw [e]; exact hk, hu⟩))
    · rw [if_neg e1, Int.toNat_natCast]
      exact NoVar.leaf hn ha (fun h => absurd h e1)
/-- A Bool says whether something is so. -/
structure BIs (B : Bool) (P : Prop) : Prop where
  iff : B = true ↔ P
theorem BIs.yes {P : Prop} (h : P) : BIs true P := ⟨⟨fun _ => h, fun _ => rfl⟩⟩
theorem BIs.no {P : Prop} (h : ¬ P) : BIs false P := ⟨⟨(fun e => by cases e), (fun e => absurd e h)⟩⟩
theorem BIs.t {P : Prop} (h : BIs true P) : P := h.iff.1 rfl
theorem BIs.f {P : Prop} (h : BIs false P) : ¬ P := fun p => by have := h.iff.2 p; cases this
theorem hasVar_prefix {L L' : List PNode} (hp : L <+: L') {t v : Nat} (hw : WFL L) (ht : t < L.length) : hasVar L' t v ↔ hasVar L t v := by
  unfold hasVar
  rw [occ_prefix hp ht]
  constructor
  · rintro ⟨j, n, h1, h2, h3, h4⟩
    have := occ_le hw h1
    obtain ⟨m, hm⟩ : ∃ m, L[j]? = some m := ⟨_, List.getElem?_eq_getElem (by omega)⟩
    have e := prefix_at hp hm
    rw [h2] at e
    obtain rfl := Option.some.inj e
    exact ⟨j, n, h1, hm, h3, h4⟩
  · rintro ⟨j, n, h1, h2, h3, h4⟩
    exact ⟨j, n, h1, prefix_at hp h2, h3, h4⟩
set_option maxRecDepth 100000 in
theorem substGone_walk {w : World} (Wi ti : Int) (v v3 : Value) (qs : List PAsk) (hv : AsksOf w v qs) (hq : qs.length ≤ 9223372036854775807) (hcq : ∀ a n c, v = .slice a n c → n ≤ c) (ps : List (Int × Int)) (hv3 : PairsOf w v3 ps) (hn3 : ps.length ≤ 9223372036854775807) :
    Calls Try.prog 11 #[.int .i64 Wi, v, .int .i64 ti, v3] w fun e w' => e = .returned (.bool true) ∧ Below w.heap.size w w' := by
  obtain ⟨a3, m3, c3, rfl, hl3, hcell3⟩ := hv3
  obtain ⟨a, cap, rfl⟩ := hv.parts
  have hcap := hcq _ _ _ rfl
  obtain ⟨n, hn⟩ : ∃ n, qs.length = n := ⟨_, rfl⟩
  rw [hn] at hv hq hcap ⊢
  have hfill := fill_some Wi a n cap qs hv hq
  obtain ⟨W, hW⟩ : ∃ W, (Wi % 64).toNat + 1 = W := ⟨_, rfl⟩
  rw [hW] at hfill
  have hW1 : 1 ≤ W := by omega
  have hW2 : W ≤ 64 := by omega
  have HF := Lib.hid hfill; have HP := Lib.hid (show PairsOf w (.slice a3 m3 c3) ps from ⟨_, _, _, rfl, hl3, hcell3⟩); have HN3 := Lib.hid hn3
  clear hv hcq hfill hW hn hcell3 hl3 hn3
  go_enter Try.func11, Try.ntmps11
  go_upto_region 1 with fail
  go_cut [9, 10] (fun g t wx => ∃ gb F I a' m c L, L.length ≤ 60 ∧ GoodL W L ∧ g = .pointer (some ⟨gb, 0, none⟩) ∧ t = .slice a' m c ∧ Lab w wx [Thing.graph F I gb W 1048576 L])
  case first =>
    by_cases h100 : (60 : Int) < (n : Int)
    · have HF1 := Lib.hid (HF.out 60 (by omega))
      go_wp2_with fail
      go_at_call 23
      refine HF1.out.mono ?_
      rintro e w1 ⟨gb, F, I, a', m, c, L, -, hL, hG, -, rfl, hlab⟩
      go_wp2
      go_meet
      exact ⟨gb, F, I, a', m, c, L, hL, hG, rfl, rfl, hlab⟩
    · have HF1 := Lib.hid (HF.out n (by omega))
      go_wp2_with fail
      go_at_call 23
      refine HF1.out.mono ?_
      rintro e w1 ⟨gb, F, I, a', m, c, L, -, hL, hG, -, rfl, hlab⟩
      go_wp2
      go_meet
      exact ⟨gb, F, I, a', m, c, L, by omega, hG, rfl, rfl, hlab⟩
  case rest =>
    obtain ⟨gb, F, I, a', m, c, L, hL, hG, rfl, rfl, hlab⟩ := hcut
    have HAW := Lib.hid hlab.awake13
    have HLEN := Lib.hid (len_any hlab.gr)
    have hwf := hlab.gr.wf
    have HL0 := Lib.hid hlab; have HG := Lib.hid hG; have HWF := Lib.hid hwf
    clear hlab hG hwf HF
    by_cases hL0 : L.length = 0
    · have q0 : ((L.length : Int) == 0) = true := by rw [beq_iff_eq]; omega
      go_wp2_with (first | (go_at_call 24; refine HLEN.out.mono ?_; rintro e w2 ⟨rfl, rfl⟩) | (go_at_call 41; refine HAW.out.mono ?_; rintro e w2 ⟨rfl, hb⟩))
      go_ret
      exact ⟨rfl, hb⟩
    · have q0 : ((L.length : Int) == 0) = false := by rw [beq_eq_false_iff_ne]; omega
      have hmod := fun wx => mod_any ti (L.length : Int) (by omega) (by omega) wx
      have ht0 := Int.emod_nonneg ti (show (L.length : Int) ≠ 0 by omega)
      have ht1 := Int.emod_lt_of_pos ti (show (0 : Int) < (L.length : Int) by omega)
      obtain ⟨t, ht⟩ := Int.eq_ofNat_of_zero_le ht0
      rw [ht] at ht1 hmod
      have htl : t < L.length := by omega
      have HMOD := Lib.hid hmod
      clear ht ht0 ht1 hmod HAW
      go_upto_region 7 with (first | (go_at_call 24; refine HLEN.out.mono ?_; rintro e w2 ⟨rfl, rfl⟩) | (go_at_call 18; refine (HMOD.out _).mono ?_; rintro e w2 ⟨rfl, rfl⟩))
      go_wp2_with fail
      go_at_call 44
      refine (HL0.out.pairs (by omega) _ ps HP.out HN3.out).mono ?_
      rintro e w3 ⟨a1, a2, c1, c2, vs, us, rfl, hok, hl⟩
      have HL3 := Lib.hid hl; have HOK := Lib.hid hok
      clear hl hok HMOD HLEN HL0
      obtain ⟨hso, L', sx, hR1, hR2, hw', hg', hpre, hlen', hsx⟩ := subst_pairs (room := 1048576) hW2 HWF.out HG.out HOK.out htl (by omega)
      have hgone := fun v => substR_noVar (v := v) hW2 HWF.out HG.out HOK.out htl hR1
      have hpx := fun (z v : Nat) (hz : z < L.length) => hasVar_prefix (v := v) hpre HWF.out hz
      have hcall := (HL3.out.rot3).subst (t : Int) _ _ vs us (OwnInts.slice HL3.out.head) (OwnInts.slice HL3.out.second) HG.out HOK.out.wf (by have := HOK.out.small; omega) (by have := HOK.out.small; have := HOK.out.len; omega) hR2
      have HC := Lib.hid hcall; have HGONE := Lib.hid hgone; have HPX := Lib.hid hpx; have HLE := Lib.hid hpre.length_le
      have hvs6 := HOK.out.small
      have hus6 : us.length ≤ 6 := by have := HOK.out.len; omega
      clear hcall hgone hpx hso hR1 hR2 hw' hg' hpre
      go_wp2_with fail
      go_at_call 39
      refine HC.out.mono ?_
      rintro e w8 ⟨F8, I8, rfl, hl8⟩
      have HL8 := Lib.hid hl8
      clear hl8 HC HL3
      go_wp2
      go_loopw [15] (fun i wx => ∃ vn : Nat, vn ≤ 6 ∧ i = .int .i64 vn ∧ Lab w wx (Thing.graph F8 I8 gb W 1048576 L' :: [Thing.ints (.slice a1 vs.length c1) vs, Thing.ints (.slice a2 us.length c2) us])) (fun i _ => 6 - (intOf i).toNat)
      case atStart => exact ⟨0, by omega, rfl, HL8.out⟩
      case round =>
        obtain ⟨vn, hvn, rfl, hl⟩ := hrel
        clear HL8
        by_cases hv6 : vn < 6
        · have hv6' : (vn : Int) < 6 := by omega
          have HL9 := Lib.hid hl
          clear hl
          go_wp2_with fail
          go_at_call 45
          refine (HL9.out.has t (by have := HLE.out; omega) vn (by omega)).mono ?_
          rintro e w9 ⟨⟨B0, rfl, hB0'⟩, hl9⟩
          have hB0 : BIs B0 _ := ⟨hB0'⟩
          clear hB0'
          have HL10 := Lib.hid hl9; have HB0 := Lib.hid hB0
          clear hl9 hB0 HL9
          go_wp2
          go_loopw [17, 16] (fun i m wx => ∃ k : Nat, k ≤ vs.length ∧ i = .int .i64 k ∧ ∃ M : Bool, m = .bool M ∧ BIs M (B0 = true ∧ (vn : Int) ∉ vs.take k) ∧ Lab w wx (Thing.graph F8 I8 gb W 1048576 L' :: [Thing.ints (.slice a1 vs.length c1) vs, Thing.ints (.slice a2 us.length c2) us])) (fun i _ _ => vs.length - (intOf i).toNat)
          case atStart => exact ⟨0, by omega, rfl, B0, rfl, ⟨by simp⟩, HL10.out⟩
          case round =>
            obtain ⟨k, hk, rfl, M, rfl, hM, hl⟩ := hrel
            clear HL10
            by_cases hlt : k < vs.length
            · have hlt' : (k : Int) < (vs.length : Int) := by omega
              obtain ⟨b1, o1, x, rfl, hc1, hxk⟩ := (OwnInts.slice hl.second).parts' hlt
              have hnext : vs.take (k + 1) = vs.take k ++ [x] := (take_snoc' hxk).symm
              have HN := Lib.hid hnext; have HM := Lib.hid hM; have HL11 := Lib.hid hl
              clear hnext hM hl hxk
              cases M with
              | false =>
                go_wp2
                go_roundw
                case rel => exact ⟨k + 1, by omega, by go_num, false, rfl, .no (fun h => HM.out.f ⟨h.1, fun h2 => h.2 (by rw [HN.out]; simp [h2])⟩), HL11.out⟩
                case measure => simp [intOf]; omega
              | true =>
                by_cases hx : x = (vn : Int)
                · have q3 : (x != (vn : Int)) = false := by simp [hx]
                  have HX := Lib.hid hx
                  clear hx
                  go_wp2
                  go_roundw
                  case rel => exact ⟨k + 1, by omega, by go_num, false, rfl, .no (fun h => absurd (show (vn : Int) ∈ vs.take (k + 1) by rw [HN.out, ← HX.out]; simp) h.2), HL11.out⟩
                  case measure => simp [intOf]; omega
                · have q3 : (x != (vn : Int)) = true := by simp [hx]
                  have HX := Lib.hid hx
                  clear hx
                  go_wp2
                  go_roundw
                  case rel => exact ⟨k + 1, by omega, by go_num, true, rfl, .yes ⟨HM.out.t.1, by rw [HN.out]; intro h; rcases List.mem_append.1 h with h | h; exact HM.out.t.2 h; exact HX.out (List.mem_singleton.1 h).symm⟩, HL11.out⟩
                  case measure => simp [intOf]; omega
            · obtain rfl : k = vs.length := by omega
              rw [List.take_length] at hM
              have HM := Lib.hid hM; have HL11 := Lib.hid hl
              clear hM hl
              go_wp2
              go_loopw [18, 16] (fun i m wx => ∃ k : Nat, k ≤ us.length ∧ i = .int .i64 k ∧ ∃ M2 : Bool, m = .bool M2 ∧ BIs M2 (M = true ∨ ∃ (j : Nat) (x u : Nat), j < k ∧ vs[j]? = some (x : Int) ∧ us[j]? = some (u : Int) ∧ hasVar L' u vn ∧ hasVar L' t x) ∧ Lab w wx (Thing.graph F8 I8 gb W 1048576 L' :: [Thing.ints (.slice a1 vs.length c1) vs, Thing.ints (.slice a2 us.length c2) us])) (fun i _ _ => us.length - (intOf i).toNat)
              case atStart => exact ⟨0, by omega, rfl, M, rfl, ⟨⟨.inl, fun h => h.elim id (fun ⟨j, x, u, h, _⟩ => by omega)⟩⟩, HL11.out⟩
              case round =>
                obtain ⟨k, hk, rfl, M2, rfl, hM2, hl⟩ := hrel
                clear HL11
                by_cases hlt : k < us.length
                · have hlt' : (k : Int) < (us.length : Int) := by omega
                  have hltv : k < vs.length := by have := HOK.out.len; omega
                  have hltv' : (k : Int) < (vs.length : Int) := by omega
                  obtain ⟨b1, o1, x, rfl, hc1, hxk⟩ := (OwnInts.slice hl.second).parts' hltv
                  obtain ⟨b2, o2, u, rfl, hc2, huk⟩ := (OwnInts.slice hl.third).parts' hlt
                  have hx6 := HOK.out.vars x (List.mem_of_getElem? hxk)
                  have huL := HOK.out.terms u (List.mem_of_getElem? huk)
                  obtain ⟨xn, rfl⟩ := Int.eq_ofNat_of_zero_le hx6.1
                  obtain ⟨un, rfl⟩ := Int.eq_ofNat_of_zero_le huL.1
                  have hstep : (∃ (j : Nat) (x u : Nat), j < k + 1 ∧ vs[j]? = some (x : Int) ∧ us[j]? = some (u : Int) ∧ hasVar L' u vn ∧ hasVar L' t x) ↔ (∃ (j : Nat) (x u : Nat), j < k ∧ vs[j]? = some (x : Int) ∧ us[j]? = some (u : Int) ∧ hasVar L' u vn ∧ hasVar L' t x) ∨ (hasVar L' un vn ∧ hasVar L' t xn) := by
                    constructor
                    · rintro ⟨j, x, u, h1, h2, h3, h4⟩
                      by_cases e : j = k
                      · subst e
                        rw [hxk] at h2; rw [huk] at h3
                        obtain rfl : xn = x := by have := Option.some.inj h2; omega
                        obtain rfl : un = u := by have := Option.some.inj h3; omega
                        exact .inr h4
                      · exact .inl ⟨j, x, u, by omega, h2, h3, h4⟩
                    · rintro (⟨j, x, u, h1, h2⟩ | h)
                      · exact ⟨j, x, u, by omega, h2⟩
                      · exact ⟨k, xn, un, by omega, hxk, huk, h⟩
                  have HST := Lib.hid hstep; have HM2 := Lib.hid hM2; have HL12 := Lib.hid hl; have HXK := Lib.hid hxk
                  have hun : un < L'.length := by have := HLE.out; omega
                  have hxn : xn ≤ 9223372036854775807 := by omega
                  clear hstep hM2 hl hxk huk hx6 huL
                  cases M2 with
                  | true =>
                    go_wp2
                    go_roundw
                    case rel => exact ⟨k + 1, by omega, by go_num, true, rfl, .yes (by rw [HST.out]; exact HM2.out.t.elim .inl (fun h => .inr (.inl h))), HL12.out⟩
                    case measure => simp [intOf]; omega
                  | false =>
                    go_wp2_with fail
                    go_at_call 45
                    refine (HL12.out.has un hun vn (by omega)).mono ?_
                    rintro e w13 ⟨⟨B1, rfl, hB1'⟩, hl13⟩
                    have hB1 : BIs B1 _ := ⟨hB1'⟩
                    clear hB1'
                    have HB1 := Lib.hid hB1; have HL13 := Lib.hid hl13
                    have e1 := (OwnInts.slice hl13.second)
                    have e2 := (OwnInts.slice hl13.third)
                    clear hB1 hl13 hc2
                    cases B1 with
                    | false =>
                      clear hc1 e1 e2
                      go_wp2
                      go_roundw
                      case rel =>
                        refine ⟨k + 1, by omega, by go_num, false, rfl, .no (fun h => ?_), HL13.out⟩
                        rw [HST.out] at h
                        rcases h with h | h | h
                        · exact HM2.out.f (.inl h)
                        · exact HM2.out.f (.inr h)
                        · exact HB1.out.f h.1
                      case measure => simp [intOf]; omega
                    | true =>
                      have hc1' := e1.at HXK.out
                      clear hc1 e1 e2
                      go_wp2_with fail
                      go_at_call 45
                      refine (HL13.out.has t (by have := HLE.out; omega) xn hxn).mono ?_
                      rintro e w14 ⟨⟨B2, rfl, hB2'⟩, hl14⟩
                      have hB2 : BIs B2 _ := ⟨hB2'⟩
                      clear hB2'
                      have HB2 := Lib.hid hB2; have HL14 := Lib.hid hl14
                      clear hB2 hl14 hc1'
                      cases B2 with
                      | false =>
                        go_wp2
                        go_roundw
                        case rel =>
                          refine ⟨k + 1, by omega, by go_num, false, rfl, .no (fun h => ?_), HL14.out⟩
                          rw [HST.out] at h
                          rcases h with h | h | h
                          · exact HM2.out.f (.inl h)
                          · exact HM2.out.f (.inr h)
                          · exact HB2.out.f h.2
                        case measure => simp [intOf]; omega
                      | true =>
                        go_wp2
                        go_roundw
                        case rel => exact ⟨k + 1, by omega, by go_num, true, rfl, .yes (by rw [HST.out]; exact .inr (.inr ⟨HB1.out.t, HB2.out.t⟩)), HL14.out⟩
                        case measure => simp [intOf]; omega
                · obtain rfl : k = us.length := by omega
                  have HM2 := Lib.hid hM2; have HL12 := Lib.hid hl
                  clear hM2 hl
                  go_wp2_with fail
                  go_at_call 45
                  refine (HL12.out.has sx hsx vn (by omega)).mono ?_
                  rintro e w13 ⟨⟨B3, rfl, hB3'⟩, hl13⟩
                  have hB3 : BIs B3 _ := ⟨hB3'⟩
                  clear hB3'
                  have HB3 := Lib.hid hB3; have HL13 := Lib.hid hl13
                  clear hB3 hl13
                  cases B3 with
                  | false =>
                    go_wp2
                    go_roundw
                    case rel => exact ⟨vn + 1, by omega, by go_num, HL13.out⟩
                    case measure => simp [intOf]; omega
                  | true =>
                    have hM2 : M2 = true := by
                      cases M2 with
                      | true => rfl
                      | false =>
                        refine absurd HB3.out.t (HGONE.out vn (fun h => ?_) (fun i x u h3 h4 h5 h6 => ?_))
                        · rw [← HPX.out t vn htl] at h
                          refine Classical.byContradiction fun hne => ?_
                          exact HM2.out.f (.inl (HM.out.iff.2 ⟨HB0.out.iff.2 h, hne⟩))
                        · have hul := HOK.out.terms _ (List.mem_of_getElem? h4)
                          have hil := (List.getElem?_eq_some_iff.1 h4).1
                          rw [← HPX.out t x htl] at h5
                          rw [← HPX.out u vn (by omega)] at h6
                          exact HM2.out.f (.inr ⟨i, x, u, hil, h3, h4, h6, h5⟩)
                    subst hM2
                    go_wp2
                    go_roundw
                    case rel => exact ⟨vn + 1, by omega, by go_num, HL13.out⟩
                    case measure => simp [intOf]; omega
        · obtain rfl : vn = 6 := by omega
          have HAW := Lib.hid hl.awake13
          clear hl
          go_wp2_with (go_at_call 41; refine HAW.out.mono ?_; rintro e w11 ⟨rfl, hb⟩)
          go_ret
          exact ⟨rfl, hb⟩
end Go.Proofs.Ytcpgiadhmmmafaa
