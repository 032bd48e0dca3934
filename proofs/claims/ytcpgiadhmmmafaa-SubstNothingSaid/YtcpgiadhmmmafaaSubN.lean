/- SubstNothing. -/
import Derived.Test.YtcpgiadhmmmafaaSubI
import Derived.Test.YtcpgiadhmmmafaaSubJ
namespace Go.Proofs.Ytcpgiadhmmmafaa
open Go.RowKit Go.Maps
set_option maxHeartbeats 3200000

noncomputable def nothingRegion (id : Nat) : Code := (Try.f14.body.bind (regionIn id)).getD .skip
section
variable {w0 wr w' : World} {ts : List Thing} {F I : List Nat} {gb W room : Nat} {L : List PNode}
set_option maxRecDepth 100000 in
theorem nothing_region14 {u0 u1 u3 u4 u5 u6 u7 u8 u10 u11 u12 u13 u14 u18 u19 u20 u21 u22 u23 u24 u25 u26 u27 u28 u29 u30 u31 u32 u33 u34 u35 u36 u37 u38 u39 u40 u41 u42 u43 u44 u45 u46 u47 u48 u49 u50 u51 u52 u53 u54 u55 u56 u57 u58 u59 u60 u61 u62 u63 u64 u65 u66 u67 u68 u69 u70 u71 u72 u73 u74 u75 u76 u77 u78 u79 u80 u81 u82 u83 u84 u85 u86 u87 u88 u89 u90 u91 u92 u93 u94 u95 u96 u97 u98 u99 u100 u101 u102 u103 : Value} {Q : Exit → Act → World → Prop} {v1 v2 : Value} {vs us : List Int} {y : Int} {b off n cap k N : Nat} (h : Lab w0 wr (Thing.ints v1 vs :: Thing.ints v2 us :: Thing.graph F I gb W room L :: ts)) (hN : 0 < N) (hN2 : N ≤ 1000000000) (hk8 : k < 8) (hn1 : vs.length ≤ 999999999) (hn2 : us.length ≤ 999999999) (hk : k < n) (hc : w0.cell? ⟨b, off + k, none⟩ = some (.int .i64 y))
    (hQ : ∀ v61 v62 v63 v64 v65 v66 v67 v68 v69 v70 v71 v72 v73 v74 (a1 a2 : Option Addr) (c1 c2 : Nat) w3, Lab w0 w3 (Thing.ints (.slice a1 (vs.length + 1) c1) (vs ++ [100 + (k : Int)]) :: Thing.ints (.slice a2 (us.length + 1) c2) (us ++ [y % (N : Int)]) :: Thing.graph F I gb W room L :: ts) →
      Q .normal ⟨(List.toArray (u0 :: u1 :: .slice (some ⟨b, off, none⟩) n cap :: u3 :: u4 :: u5 :: u6 :: u7 :: u8 :: .int .i64 N :: u10 :: u11 :: u12 :: u13 :: u14 :: .slice a1 (vs.length + 1) c1 :: .slice a2 (us.length + 1) c2 :: .int .i64 k :: u18 :: u19 :: u20 :: u21 :: u22 :: u23 :: u24 :: u25 :: u26 :: u27 :: u28 :: u29 :: u30 :: u31 :: u32 :: u33 :: u34 :: u35 :: u36 :: u37 :: u38 :: u39 :: u40 :: u41 :: u42 :: u43 :: u44 :: u45 :: u46 :: u47 :: u48 :: u49 :: u50 :: u51 :: u52 :: u53 :: u54 :: u55 :: u56 :: u57 :: u58 :: u59 :: u60 :: v61 :: v62 :: v63 :: v64 :: v65 :: v66 :: v67 :: v68 :: v69 :: v70 :: v71 :: v72 :: v73 :: v74 :: u75 :: u76 :: u77 :: u78 :: u79 :: u80 :: u81 :: u82 :: u83 :: u84 :: u85 :: u86 :: u87 :: u88 :: u89 :: u90 :: u91 :: u92 :: u93 :: u94 :: u95 :: u96 :: u97 :: u98 :: u99 :: u100 :: u101 :: u102 :: u103 :: [])), []⟩ w3) :
    Code.wp Try.prog (nothingRegion 14) Q ⟨(List.toArray (u0 :: u1 :: .slice (some ⟨b, off, none⟩) n cap :: u3 :: u4 :: u5 :: u6 :: u7 :: u8 :: .int .i64 N :: u10 :: u11 :: u12 :: u13 :: u14 :: v1 :: v2 :: .int .i64 k :: u18 :: u19 :: u20 :: u21 :: u22 :: u23 :: u24 :: u25 :: u26 :: u27 :: u28 :: u29 :: u30 :: u31 :: u32 :: u33 :: u34 :: u35 :: u36 :: u37 :: u38 :: u39 :: u40 :: u41 :: u42 :: u43 :: u44 :: u45 :: u46 :: u47 :: u48 :: u49 :: u50 :: u51 :: u52 :: u53 :: u54 :: u55 :: u56 :: u57 :: u58 :: u59 :: u60 :: u61 :: u62 :: u63 :: u64 :: u65 :: u66 :: u67 :: u68 :: u69 :: u70 :: u71 :: u72 :: u73 :: u74 :: u75 :: u76 :: u77 :: u78 :: u79 :: u80 :: u81 :: u82 :: u83 :: u84 :: u85 :: u86 :: u87 :: u88 :: u89 :: u90 :: u91 :: u92 :: u93 :: u94 :: u95 :: u96 :: u97 :: u98 :: u99 :: u100 :: u101 :: u102 :: u103 :: [])), []⟩ wr := by
  have k0 : (0 : Int) ≤ (k : Int) := by omega
  have hwr : IntKind.i64.wrap (100 + (k : Int)) = 100 + (k : Int) := by simp [IntKind.wrap, IntKind.bits, IntKind.signed]; omega
  have kn : (k : Int) < (n : Int) := by omega
  have hmod := fun wx => mod_any y (N : Int) (by omega) (by omega) wx
  have HL := Lib.hid h; have HC := Lib.hid hc; have HN1 := Lib.hid hn1; have HN2 := Lib.hid hn2; have HQ := Lib.hid hQ; have HMOD := Lib.hid hmod
  clear h hc hn1 hn2 hQ hmod
  conv => arg 2; whnf
  go_region_held3 (fun w' => w'.cell? ⟨b, off + k, none⟩ = some (.int .i64 y)) (first | exact cell_later HL.out.drew1.below HC.out | exact cell_later (HL.out.alloc _ _).drew1.below HC.out | exact cell_later ((HL.out.alloc _ _).alloc _ _).drew1.below HC.out | assumption | exact cell_later hp1.below HC.out | exact cell_later hp2.below HC.out | exact cell_later (hp1.alloc _ _).below HC.out | exact cell_later (hp2.alloc _ _).below HC.out | go_keep)
    (first
      | (go_at_call 18; refine (HMOD.out _).mono ?_; rintro e w ⟨rfl, rfl⟩)
      | (refine step_append_lab (.tmp 61) (.tmp 64) (HL.out.alloc #[.int .i64 (100 + (k : Int))] 3).drew1.swap rfl rfl rfl rfl HN1.out ?_; intro a1 c1 w1 hp1)
      | (refine step_append_lab (.tmp 61) (.tmp 64) (((HL.out.alloc #[.int .i64 (100 + (k : Int))] 3).alloc #[.int .i64 (y % (N : Int))] 3).drew1.rot3.perm (.cons _ (.swap _ _ _))) rfl rfl rfl rfl HN1.out ?_; intro a1 c1 w1 hp1)
      | (refine step_append_lab (.tmp 61) (.tmp 64) ((HL.out.alloc #[.int .i64 (y % (N : Int))] 3).alloc #[.int .i64 (100 + (k : Int))] 3).drew1.rot3 rfl rfl rfl rfl HN1.out ?_; intro a1 c1 w1 hp1)
      | (refine step_append_lab (.tmp 61) (.tmp 64) (hp2.alloc #[.int .i64 (100 + (k : Int))] 3).rot3 rfl rfl rfl rfl HN1.out ?_; intro a1 c1 w1 hp1)
      | (refine step_append_lab (.tmp 61) (.tmp 64) (hp2.rot3.perm (.cons _ (.swap _ _ _))) rfl rfl rfl rfl HN1.out ?_; intro a1 c1 w1 hp1)
      | (refine step_append_lab (.tmp 66) (.tmp 73) (hp1.alloc #[.int .i64 (y % (N : Int))] 3).rot3 rfl rfl rfl rfl HN2.out ?_; intro a2 c2 w2 hp2)
      | (refine step_append_lab (.tmp 66) (.tmp 73) ((HL.out.alloc #[.int .i64 (100 + (k : Int))] 3).alloc #[.int .i64 (y % (N : Int))] 3).drew1.rot4 rfl rfl rfl rfl HN2.out ?_; intro a2 c2 w2 hp2)
      | (refine step_append_lab (.tmp 66) (.tmp 73) (((HL.out.alloc #[.int .i64 (y % (N : Int))] 3).alloc #[.int .i64 (100 + (k : Int))] 3).drew1.rot4.perm (.cons _ (.swap _ _ _))) rfl rfl rfl rfl HN2.out ?_; intro a2 c2 w2 hp2)
      | (refine step_append_lab (.tmp 66) (.tmp 73) (HL.out.alloc #[.int .i64 (y % (N : Int))] 3).drew1.rot3 rfl rfl rfl rfl HN2.out ?_; intro a2 c2 w2 hp2)
      | (refine step_append_lab (.tmp 66) (.tmp 73) (hp1.rot3.perm (.cons _ (.swap _ _ _))) rfl rfl rfl rfl HN2.out ?_; intro a2 c2 w2 hp2))
  all_goals first | exact HQ.out _ _ _ _ _ _ _ _ _ _ _ _ _ _ _ _ _ _ _ hp1 | exact HQ.out _ _ _ _ _ _ _ _ _ _ _ _ _ _ _ _ _ _ _ hp2.swap
end
theorem ans_vars {K W room : Nat} {L : List PNode} (h : VarsLt K L) (a : Ans) : VarsLt K (a.res W room L).1 := by
  cases a with
  | term t => exact h
  | num v => exact h.ask room (fun e => by cases e)
  | app o xs =>
    show VarsLt K (appR room L o xs).1
    unfold appR
    split
    · rename_i hc
      split
      · refine h.ask room (fun e => ?_)
        have e' : o = 1 := e
        subst e'
        exact absurd rfl hc.2.1
      · exact h
    · exact h
theorem simpR_vars {K W room : Nat} {L : List PNode} (h : VarsLt K L) (o : Nat) (xs : List Int) : VarsLt K (simpR W room L o xs).1 := by
  unfold simpR
  split
  · split
    · exact ans_vars h _
    · exact h
  · exact h
theorem madeStep_vars {K W room : Nat} {L0 : List PNode} {O : Nat → Bool} {lf : Nat → PNode → Int} {i : Nat} {s : List PNode × List Int × Nat} (h : VarsLt K s.1) : VarsLt K (madeStep W room L0 O lf i s).1 := by
  unfold madeStep
  split
  · exact h
  · split
    · exact h
    · split
      · exact h
      · split
        · exact simpR_vars h _ _
        · exact simpR_vars h _ _
theorem madeRun_vars {K W room : Nat} {L0 : List PNode} {O : Nat → Bool} {lf : Nat → PNode → Int} (h : VarsLt K L0) : ∀ k, VarsLt K (madeRun W room L0 O lf k).1
  | 0 => h
  | k + 1 => by
    rw [show madeRun W room L0 O lf (k + 1) = if (madeRun W room L0 O lf k).2.2 = 0 then madeStep W room L0 O lf k (madeRun W room L0 O lf k) else madeRun W room L0 O lf k from rfl]
    split
    · exact madeStep_vars (madeRun_vars h k)
    · exact madeRun_vars h k
theorem simpleR_varsLt {K W room : Nat} {L : List PNode} (h : VarsLt K L) (t : Int) : VarsLt K (simpleR W room L t).1 := by
  unfold simpleR
  split
  · unfold madeEnd
    split
    · exact madeRun_vars h _
    · exact madeRun_vars h _
  · exact h
def noVs (k : Nat) : List Int := (List.range k).map fun (i : Nat) => 100 + (i : Int)
theorem noVs_next (k : Nat) : noVs (k + 1) = noVs k ++ [100 + (k : Int)] := by unfold noVs; rw [List.range_succ, List.map_append]; rfl
theorem noVs_len (k : Nat) : (noVs k).length = k := by unfold noVs; rw [List.length_map, List.length_range]
/-- Simple, and twice Subst of variables that do not occur. -/
theorem nothing_all {W room : Nat} {L : List PNode} {t : Nat} (h1 : 1 ≤ W) (hW : W ≤ 64) (hw : WFL L) (hg : GoodL W L) (hv : VarsLt 6 L) (ht : t < L.length) (hr : L.length + (t + 1) ≤ room) :
    ∃ L' s, simpleR W room L t = (L', s, 0) ∧ GoodL W L' ∧ VarsLt 6 L' ∧ L <+: L' ∧ L'.length ≤ L.length + (t + 1) ∧ ∀ k us, us.length = k → (∀ u ∈ us, (0 : Int) ≤ u ∧ u < (L.length : Int)) → subst2R W room L' t (noVs k) us = (L', s, 0) := by
  obtain ⟨L', s, hR, hw', hg', hp, hlen, hs, -⟩ := simpleR_sound (vals := []) h1 hW hw hg ht hr
  have hv' : VarsLt 6 L' := by have := simpleR_varsLt (W := W) (room := room) hv (t : Int); rw [hR] at this; exact this
  have hok0 : SubOk L [] := ⟨by simp, by simp⟩
  have hR0 : substR W room L t [] = (L', s, 0) := by rw [substR_none ht hok0 (fun n _ _ => rfl), hR]
  have hR1 := substR_again hW hw hg ht hok0 hR0 hw' (List.prefix_refl _)
  have ht' : t < L'.length := Nat.lt_of_lt_of_le ht hp.length_le
  have hR2 : simpleR W room L' t = (L', s, 0) := by rw [← substR_none ht' (ps := []) ⟨by simp, by simp⟩ (fun n _ _ => rfl), hR1]
  refine ⟨L', s, hR, hg', hv', hp, hlen, fun k us hul hus => ?_⟩
  have hle : (noVs k).length ≤ us.length := by rw [noVs_len, hul]; exact Nat.le_refl _
  unfold subst2R
  rw [if_pos (by omega), if_pos (by rw [noVs_len, hul])]
  rw [substR_none ht' ⟨?_, ?_⟩ ?_, hR2]
  · rw [List.map_fst_zip hle]
    unfold noVs
    exact List.Pairwise.map _ (fun a b (hab : a ≠ b) h => hab (by omega)) List.nodup_range
  · intro p hp2
    have := hus p.2 (List.of_mem_zip hp2).2
    have := hp.length_le
    omega
  · intro n hn h1
    refine subOf_none.2 fun s hs => ?_
    have hm := (List.of_mem_zip hs).1
    unfold noVs at hm
    obtain ⟨i, -, hi⟩ := List.mem_map.1 hm
    have := hv' n hn h1
    omega
set_option maxRecDepth 100000 in
theorem substNothing_walk {w : World} (Wi : Int) (v v2 : Value) (qs : List PAsk) (hv : AsksOf w v qs) (hq : qs.length ≤ 9223372036854775807) (hcq : ∀ a n c, v = .slice a n c → n ≤ c) (tms : List Int) (hv2 : SliceOf w .i64 v2 tms) (hn2 : tms.length ≤ 9223372036854775807) :
    Calls Try.prog 14 #[.int .i64 Wi, v, v2] w fun e w' => e = .returned (.bool true) ∧ Below w.heap.size w w' := by
  obtain ⟨a2, n2, c2, rfl, hl2, hcell2⟩ := hv2.parts
  obtain ⟨a, cap, rfl⟩ := hv.parts
  have hcap := hcq _ _ _ rfl
  obtain ⟨n, hn⟩ : ∃ n, qs.length = n := ⟨_, rfl⟩
  rw [hn] at hv hq hcap ⊢
  have hfill := fill_some Wi a n cap qs hv hq
  obtain ⟨W, hW⟩ : ∃ W, (Wi % 64).toNat + 1 = W := ⟨_, rfl⟩
  rw [hW] at hfill
  have hW1 : 1 ≤ W := by omega
  have hW2 : W ≤ 64 := by omega
  have hn2' : n2 ≤ 9223372036854775807 := by omega
  have HF := Lib.hid hfill; have HV2 := Lib.hid hv2
  clear hv hcq hfill hW hn hcell2 hl2 hn2 hv2
  go_enter Try.func14, Try.ntmps14
  go_upto_region 1 with fail
  go_cut [7, 8] (fun g t wx => ∃ gb F I a' m c L, L.length ≤ 60 ∧ GoodL W L ∧ VarsLt 6 L ∧ g = .pointer (some ⟨gb, 0, none⟩) ∧ t = .slice a' m c ∧ Lab w wx [Thing.graph F I gb W 1048576 L])
  case first =>
    by_cases h100 : (60 : Int) < (n : Int)
    · have HF1 := Lib.hid (HF.out 60 (by omega))
      go_wp2_with fail
      go_at_call 23
      refine HF1.out.mono ?_
      rintro e w1 ⟨gb, F, I, a', m, c, L, -, hL, hG, hV, rfl, hlab⟩
      go_wp2
      go_meet
      exact ⟨gb, F, I, a', m, c, L, hL, hG, hV, rfl, rfl, hlab⟩
    · have HF1 := Lib.hid (HF.out n (by omega))
      go_wp2_with fail
      go_at_call 23
      refine HF1.out.mono ?_
      rintro e w1 ⟨gb, F, I, a', m, c, L, -, hL, hG, hV, rfl, hlab⟩
      go_wp2
      go_meet
      exact ⟨gb, F, I, a', m, c, L, by omega, hG, hV, rfl, rfl, hlab⟩
  case rest =>
    obtain ⟨gb, F, I, a', m, c, L, hL, hG, hV, rfl, rfl, hlab⟩ := hcut
    have HLEN := Lib.hid (len_any hlab.gr)
    have HL0 := Lib.hid hlab; have HG := Lib.hid (And.intro hG hV)
    clear hlab hG hV HF
    go_wp2_with (go_at_call 24; refine HLEN.out.mono ?_; rintro e w2 ⟨rfl, rfl⟩)
    clear HLEN
    obtain ⟨N, hN⟩ : ∃ N, L.length = N := ⟨_, rfl⟩
    rw [hN] at hL ⊢
    have HN := Lib.hid hN
    clear hN
    go_loopw [10] (fun i wx => ∃ (k : Nat) (F I : List Nat) (M : List PNode), k ≤ N ∧ i = .int .i64 k ∧ N ≤ M.length ∧ M.length ≤ 60 + 61 * k ∧ GoodL W M ∧ VarsLt 6 M ∧ Lab w wx [Thing.graph F I gb W 1048576 M]) (fun i _ => N - (intOf i).toNat)
    case atStart => exact ⟨0, F, I, L, by omega, rfl, by rw [HN.out]; omega, by rw [HN.out]; omega, HG.out.1, HG.out.2, HL0.out⟩
    case round =>
      clear HG HL0
      obtain ⟨k, F1, I1, M, hk, rfl, hM1, hM2, hG, hV, hl⟩ := hrel
      by_cases hlt : k < N
      · have hlt' : (k : Int) < (N : Int) := by omega
        obtain ⟨M', s, hR, hG', hV', hpre, hlen', hall⟩ := nothing_all (room := 1048576) hW1 hW2 hl.gr.wf hG hV (t := k) (by omega) (by omega)
        have HC := Lib.hid (hl.simple (k : Int) hR); have HALL := Lib.hid hall; have HGV := Lib.hid (And.intro hG' hV')
        have hple := hpre.length_le
        clear hl hR hG' hV' hpre hall hG hV
        go_wp2_with fail
        go_at_call 30
        refine HC.out.mono ?_
        rintro e w3 ⟨F2, I2, rfl, hl2⟩
        have HL2 := Lib.hid hl2
        clear hl2 HC
        go_wp2_with fail
        go_at_call 39
        refine (HL2.out.subst (k : Int) _ _ (noVs 0) [] (sliceOf_nil _ .i64) (sliceOf_nil _ .i64) HGV.out.1 (by simp [noVs]) (by simp [noVs]) (by simp) (HALL.out 0 [] rfl (by simp))).mono ?_
        rintro e w4 ⟨F3, I3, rfl, hl3⟩
        have HL3 := Lib.hid hl3.nil_ints.nil_ints
        clear hl3 HL2
        go_wp2
        go_loopw [17, 15, 16] (fun i v1 v2 wx => ∃ (j : Nat) (b1 b2 : Option Addr) (d1 d2 : Nat) (us : List Int), j ≤ 8 ∧ j ≤ n2 ∧ i = .int .i64 j ∧ us.length = j ∧ v1 = .slice b1 (noVs j).length d1 ∧ v2 = .slice b2 us.length d2 ∧ (∀ u ∈ us, (0 : Int) ≤ u ∧ u < (N : Int)) ∧ Lab w wx (Thing.ints (.slice b1 (noVs j).length d1) (noVs j) :: Thing.ints (.slice b2 us.length d2) us :: Thing.graph F3 I3 gb W 1048576 M' :: [])) (fun i _ _ _ => 8 - (intOf i).toNat)
        case atStart => exact ⟨0, none, none, 0, 0, [], by omega, by omega, rfl, rfl, rfl, rfl, by simp, HL3.out⟩
        case round =>
          obtain ⟨j, b1, b2, d1, d2, us, hj8, hjn, rfl, hul, rfl, rfl, hus, hl⟩ := hrel
          clear HL3
          have HUS := Lib.hid (And.intro hul hus); have HL4 := Lib.hid hl
          clear hus hl hul
          have hgo : j < n2 ∧ j < 8 ∨ ¬ (j < n2 ∧ j < 8) := Classical.em _
          rcases hgo with ⟨g1, g2⟩ | g
          · obtain ⟨b, off, y, rfl, hc, hy⟩ := HV2.out.parts' g1
            have g1' : (j : Int) < (n2 : Int) := by omega
            have g2' : (j : Int) < 8 := by omega
            clear hy
            go_upto_region 14 with fail
            refine nothing_region14 HL4.out (by omega) (by omega) g2 (by rw [noVs_len]; omega) (by have := HUS.out.1; omega) g1 hc ?_
            intro _ _ _ _ _ _ _ _ _ _ _ _ _ _ b1' b2' d1' d2' w5 hl5
            have HL5 := Lib.hid hl5
            clear hl5 HL4 hc
            go_wp2
            go_roundw
            case rel =>
              refine ⟨j + 1, b1', b2', d1', d2', us ++ [y % (N : Int)], by omega, by omega, by go_num, by rw [List.length_append, HUS.out.1]; rfl, by rw [noVs_next, List.length_append]; rfl, by rw [List.length_append]; rfl, fun u hu => ?_, ?_⟩
              · rcases List.mem_append.1 hu with h1 | h1
                · exact HUS.out.2 u h1
                · rw [List.mem_singleton.1 h1]
                  exact ⟨Int.emod_nonneg y (by omega), Int.emod_lt_of_pos y (by omega)⟩
              · rw [noVs_next, List.length_append, List.length_append]
                exact HL5.out
            case measure => simp [intOf]; omega
          · have hsub := HL4.out.rot3.subst (k : Int) _ _ (noVs j) us (OwnInts.slice HL4.out.head) (OwnInts.slice HL4.out.second) HGV.out.1 (fun v hv => by
              unfold noVs at hv
              obtain ⟨i, hi, rfl⟩ := List.mem_map.1 hv
              have := List.mem_range.1 hi
              exact wf_i64 (by omega) (by omega)) (by rw [noVs_len]; omega) (by have := HUS.out.1; omega) (HALL.out j us HUS.out.1 (fun u hu => by have := HUS.out.2 u hu; omega))
            have HSUB := Lib.hid hsub
            clear hsub
            clear HL4
            by_cases g1 : j < n2
            · have g2 : ¬ (j : Int) < 8 := by omega
              have g1' : (j : Int) < (n2 : Int) := by omega
              have t1 : ((s : Int) != (s : Int)) = false := by simp
              go_wp2_with fail
              go_at_call 39
              refine HSUB.out.mono ?_
              rintro e w5 ⟨F5, I5, rfl, hl5⟩
              have HL5 := Lib.hid (hl5.sub (ts' := [Thing.graph F5 I5 gb W 1048576 M']) (.cons_cons _ (.cons _ (.cons _ (List.Sublist.refl _)))))
              clear hl5
              go_wp2
              go_roundw
              case rel => exact ⟨k + 1, F5, I5, M', by omega, by go_num, by omega, by omega, HGV.out.1, HGV.out.2, HL5.out⟩
              case measure => simp [intOf]; omega
            · have g1' : ¬ (j : Int) < (n2 : Int) := by omega
              have t1 : ((s : Int) != (s : Int)) = false := by simp
              go_wp2_with fail
              go_at_call 39
              refine HSUB.out.mono ?_
              rintro e w5 ⟨F5, I5, rfl, hl5⟩
              have HL5 := Lib.hid (hl5.sub (ts' := [Thing.graph F5 I5 gb W 1048576 M']) (.cons_cons _ (.cons _ (.cons _ (List.Sublist.refl _)))))
              clear hl5
              go_wp2
              go_roundw
              case rel => exact ⟨k + 1, F5, I5, M', by omega, by go_num, by omega, by omega, HGV.out.1, HGV.out.2, HL5.out⟩
              case measure => simp [intOf]; omega
      · obtain rfl : k = N := by omega
        have HAW := Lib.hid hl.awake13
        clear hl
        go_wp2_with (go_at_call 41; refine HAW.out.mono ?_; rintro e w11 ⟨rfl, hb⟩)
        go_ret
        exact ⟨rfl, hb⟩
end Go.Proofs.Ytcpgiadhmmmafaa
