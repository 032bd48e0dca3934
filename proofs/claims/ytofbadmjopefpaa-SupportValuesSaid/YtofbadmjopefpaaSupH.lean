/- SupportWalk, what it looks through: plain facts and the walk. -/
import Derived.Test.YtofbadmjopefpaaSupF
import Derived.BigQuiet
namespace Go.Proofs.Ytofbadmjopefpaa
open Go.RowKit Go.Maps
set_option maxHeartbeats 6400000

/-- A set in memory has as many entries as there are elements. -/
theorem mapf_count {w : World} {K : TypeId} {kd : IntKind} {mb c : Nat} {S : Int → Bool} {l : List Int} (h : MapF Try.prog K kd w mb (setF S) c) (hl : ∀ v, S v = true ↔ v ∈ l) (hn : l.Nodup) : c = l.length := by
  obtain ⟨m, ⟨_, _, _, _, _, h4, _⟩, hc, h5, h6⟩ := h
  have e1 : m.length = (m.map (·.1)).length := by simp
  have e2 : l.length = (l.map (Value.int kd)).length := by simp
  rw [← hc, e1, e2]
  refine ((List.perm_ext_iff_of_nodup h4 ?_).2 fun a => ⟨fun ha => ?_, fun ha => ?_⟩).length_eq
  · refine List.Pairwise.map _ ?_ hn
    intro x y hne e
    simp only [Value.int.injEq, true_and] at e
    exact hne e
  · obtain ⟨p, hp, rfl⟩ := List.mem_map.1 ha
    obtain ⟨k, v, rfl, hk⟩ := h5 p hp
    refine List.mem_map.2 ⟨k, (hl k).1 ?_, rfl⟩
    cases hs : S k with
    | true => rfl
    | false => unfold setF at hk; rw [if_neg (by rw [hs]; decide)] at hk; cases hk
  · obtain ⟨k, hk, rfl⟩ := List.mem_map.1 ha
    exact List.mem_map.2 ⟨_, h6 k (.bool true) (by unfold setF; rw [if_pos ((hl k).2 hk)]), rfl⟩
/-- The nodes that were seen, as a set of integers. -/
def seenF (S : Nat → Bool) : Int → Bool := fun k => decide (0 ≤ k) && S k.toNat
theorem seenF_at (S : Nat → Bool) (t : Nat) : seenF S (t : Int) = S t := by unfold seenF; simp
theorem seenF_mark (S : Nat → Bool) (t : Nat) (k : Int) : (if k = (t : Int) then true else seenF S k) = seenF (mark S t) k := by
  unfold seenF mark
  by_cases h0 : 0 ≤ k
  · obtain ⟨j, rfl⟩ := Int.eq_ofNat_of_zero_le h0
    by_cases e : j = t
    · subst e; simp
    · rw [if_neg (by omega)]; simp [e]
  · rw [if_neg (by omega)]; simp [h0]
theorem seenF_count {w : World} {L : List PNode} {S : Nat → Bool} {mb c : Nat} (h : MapF Try.prog 3 .i64 w mb (setF (seenF S)) c) (hS : ∀ j, S j = true → j < L.length) : c = cntS L S := by
  have h1 : ∀ v, seenF S v = true ↔ v ∈ ((List.range L.length).filter S).map fun j => ((j : Nat) : Int) := fun v => by
    unfold seenF
    constructor
    · intro hv
      rw [Bool.and_eq_true, decide_eq_true_eq] at hv
      obtain ⟨j, rfl⟩ := Int.eq_ofNat_of_zero_le hv.1
      have hj : S j = true := hv.2
      exact List.mem_map.2 ⟨j, mem_range_filter.2 ⟨hS j hj, hj⟩, rfl⟩
    · intro hv
      obtain ⟨j, hj, rfl⟩ := List.mem_map.1 hv
      simp [(mem_range_filter.1 hj).2]
  have h2 : (((List.range L.length).filter S).map fun j => ((j : Nat) : Int)).Nodup := by
    refine List.Pairwise.map _ ?_ (List.nodup_range.sublist List.filter_sublist)
    intro x y hne e
    omega
  rw [mapf_count h h1 h2, List.length_map]; rfl
/-- The variables that were found. -/
def FoundOk (L : List PNode) (S : Nat → Bool) (Fd : Int → Bool) : Prop := ∀ v, Fd v = true ↔ v ∈ varsO L S
theorem FoundOk.start (L : List PNode) : FoundOk L (fun _ => false) (fun _ => false) := fun v => by
  rw [mem_varsO]
  constructor
  · intro h; cases h
  · rintro ⟨j, n, h, -⟩; cases h
theorem FoundOk.put {L : List PNode} {S : Nat → Bool} {Fd : Int → Bool} (h : FoundOk L S Fd) {t : Nat} {n : PNode} (hn : L[t]? = some n) (h1 : n.1 = 1) : FoundOk L (mark S t) (fun k => if k = (n.2.1 : Int) then true else Fd k) := fun v => by
  show (if v = (n.2.1 : Int) then true else Fd v) = true ↔ _
  rw [mem_varsO]
  by_cases e : v = (n.2.1 : Int)
  · subst e
    rw [if_pos rfl]
    refine ⟨fun _ => ?_, fun _ => rfl⟩
    exact ⟨t, n, mark_self, hn, h1, rfl⟩
  · rw [if_neg e, h v, mem_varsO]
    constructor
    · rintro ⟨j, m, hj, hr⟩; exact ⟨j, m, mark_old hj, hr⟩
    · rintro ⟨j, m, hj, hm, h2, rfl⟩
      unfold mark at hj
      split at hj
      · rename_i e2; subst e2; rw [hn] at hm; cases hm; exact absurd rfl e
      · exact ⟨j, m, hj, hm, h2, rfl⟩
theorem FoundOk.skip {L : List PNode} {S : Nat → Bool} {Fd : Int → Bool} (h : FoundOk L S Fd) {t : Nat} {n : PNode} (hn : L[t]? = some n) (h1 : n.1 ≠ 1) : FoundOk L (mark S t) Fd := fun v => by
  rw [h v, mem_varsO, mem_varsO]
  constructor
  · rintro ⟨j, m, hj, hr⟩; exact ⟨j, m, mark_old hj, hr⟩
  · rintro ⟨j, m, hj, hm, h2, rfl⟩
    unfold mark at hj
    split at hj
    · rename_i e2; subst e2; rw [hn] at hm; cases hm; exact absurd h2 h1
    · exact ⟨j, m, hj, hm, h2, rfl⟩
theorem SupInv.low {L : List PNode} {ts st : List Int} {S : Nat → Bool} (h : SupInv L ts S st) (hw : WFL L) (hi : InL L ts) : ∀ j, S j = true → j < L.length := fun j hj => occS_lt hw hi (h.sub j hj)
set_option maxRecDepth 100000 in
theorem supportWalk_walk {w : World} (Wi : Int) (v v2 : Value) (qs : List PAsk) (hv : AsksOf w v qs) (hq : qs.length ≤ 9223372036854775807) (rs : List Int) (hv2 : SliceOf w .i64 v2 rs) (hn2 : rs.length ≤ 9223372036854775807) :
    Calls Try.prog 5 #[.int .i64 Wi, v, v2] w fun e w' => e = .returned (.bool true) ∧ Below w.heap.size w w' := by
  obtain ⟨a, cap, rfl⟩ := hv.parts
  obtain ⟨n, hn⟩ : ∃ n, qs.length = n := ⟨_, rfl⟩
  rw [hn] at hv hq ⊢
  have hfill := fill_some Wi a n cap qs hv hq n (Nat.le_refl _)
  obtain ⟨W, hW⟩ : ∃ W, (Wi % 64).toNat + 1 = W := ⟨_, rfl⟩
  rw [hW] at hfill
  have HF := Lib.hid hfill; have HA := Lib.hid (And.intro hv2 hn2)
  clear hv hfill hn hW hv2 hn2
  go_enter Try.func5, Try.ntmps5
  go_wp2_with fail
  go_at_call 21
  refine HF.out.mono ?_
  rintro e w1 ⟨gb, F, I, a', m, c, L, hL, -, hG, -, rfl, hlab⟩
  have HG := Lib.hid hG
  have hwf := hlab.gr.wf
  have HWF := Lib.hid hwf
  have hi1 := someL_in L rs
  have hl1 := someL_len L rs
  have hs1 := hlab.some14 v2 rs HA.out.1 HA.out.2
  obtain ⟨us, hxs⟩ : ∃ us, someL L rs = us := ⟨_, rfl⟩
  rw [hxs] at hi1 hl1 hs1
  have HI1 := Lib.hid hi1; have HS1 := Lib.hid hs1
  clear hG hlab HF hwf hi1 hs1 hxs HA
  go_wp2_with fail
  go_at_call 22
  refine HS1.out.mono ?_
  rintro e w2 ⟨a2, c2, rfl, hl⟩
  obtain ⟨sb, hsb⟩ : ∃ sb, w2.heap.size = sb := ⟨_, rfl⟩
  have hl2 := ((hl.swap.new_map 3 .i64).mapf_congr (g := setF (seenF fun _ => false)) (fun k => by unfold setF seenF; simp))
  rw [hsb] at hl2
  have HL2 := Lib.hid hl2
  have hmm := @run_makeMap Try.prog
  clear hl HS1 hl2
  go_upto_region 6 with fail
  clear hsb hmm
  refine wp_abs (fun w3 => Lab w w3 [Thing.mapf 3 .i64 sb (setF (seenF fun _ => false)) 0, Thing.graph F I gb W 1048576 L, Thing.ints (.slice a2 us.length c2) us]) HL2.out ?_
  clear HL2
  rintro w3 hl3
  have HL3 := Lib.hid hl3
  have hsl := OwnInts.slice hl3.third
  have hx9 : us.length ≤ 1000000000 := by omega
  clear hl3
  go_upto_region 7 with (at_builtin; refine wpList_append_copy 26 3 .i64 8 _ _ _ us hsl _ _ rfl rfl Try.underlying26 Try.infoI64 (by decide) rfl rfl hx9 (Nat.le_refl _) ?_; intro v4 w4 hown4 hb4; obtain ⟨a4, m4, c4, rfl⟩ := hown4.val; have hl5 := HL3.out.new_ints hb4 hown4; obtain rfl : m4 = us.length := hl5.ints_cap.2; have HL5 := Lib.hid hl5; clear hl5 hown4 hb4 hsl)
  obtain ⟨fb, hfb⟩ : ∃ fb, w4.heap.size = fb := ⟨_, rfl⟩
  have hl6 := (HL5.out.new_map 3 .i64).mapf_congr (g := setF fun _ => false) (fun k => by unfold setF; simp)
  rw [hfb] at hl6
  have HL6 := Lib.hid (hl6.perm (ts' := [Thing.mapf 3 .i64 sb (setF (seenF fun _ => false)) 0, Thing.ints (.slice a4 us.length c4) us, Thing.mapf 3 .i64 fb (setF fun _ => false) 0, Thing.graph F I gb W 1048576 L, Thing.ints (.slice a2 us.length c2) us]) ((List.perm_middle (l₁ := [_, _])).trans (.cons _ (.swap _ _ _))))
  have hmm := @run_makeMap Try.prog
  clear hl6 HL5 HL3
  go_wp2
  clear hfb hmm
  go_loopw [10] (fun v wx => ∃ st a c S Fd c1 c2', v = .slice a st.length c ∧ SupInv L us S st ∧ FoundOk L S Fd ∧ st.length ≤ us.length + 3 * cntS L S ∧ Lab w wx [Thing.mapf 3 .i64 sb (setF (seenF S)) c1, Thing.ints (.slice a st.length c) st, Thing.mapf 3 .i64 fb (setF Fd) c2', Thing.graph F I gb W 1048576 L, Thing.ints (.slice a2 us.length c2) us]) (fun v wx => supMeas L.length sb v wx)
  case atStart => exact ⟨us, a4, c4, fun _ => false, fun _ => false, 0, 0, rfl, SupInv.start HI1.out, FoundOk.start L, by omega, HL6.out⟩
  case round =>
    obtain ⟨st, a5, c5, S, Fd, n1, n2, rfl, hinv, hfd, hst, hl⟩ := hrel
    clear HL6
    have hmf := hl.mapf
    have hcnt := seenF_count hmf (hinv.low HWF.out HI1.out)
    rcases List.eq_nil_or_concat st with rfl | ⟨xs, t, rfl⟩
    · have hS := hinv.end_
      subst hS
      have hxl := varsO_len (L := L) (S := occS L us)
      have hn2 := mapf_count hl.third hfd (varsO_nodup HWF.out)
      have hcl := cntS_le (L := L) (S := occS L us)
      have hlt : ∀ (i : Nat) (a b : Int), (varsO L (occS L us))[i]? = some a → (varsO L (occS L us))[i + 1]? = some b → a < b := fun i a b h1 h2 => varsO_lt HWF.out h1 h2
      unfold FoundOk at hfd
      obtain ⟨X, hX⟩ : ∃ X, varsO L (occS L us) = X := ⟨_, rfl⟩
      obtain ⟨q, hq⟩ : ∃ q, cntS L (occS L us) = q := ⟨_, rfl⟩
      rw [hX] at hxl hn2
      simp only [hX] at hfd hlt
      rw [hq] at hcnt hcl
      subst hcnt hn2
      have HL4 := Lib.hid (hl.rot4.subl (.cons_cons _ (.cons_cons _ (.cons _ (.cons_cons _ (.cons_cons _ (List.Sublist.refl _)))))))
      have HX := Lib.hid hX; have HQ := Lib.hid hq; have HFD := Lib.hid hfd; have HLT := Lib.hid hlt
      clear hfd hl hinv hmf hX hq hst hlt
      go_wp2_with fail
      go_at_call 13
      refine (HL4.out.vars_ok HG.out _ us (OwnInts.slice HL4.out.fourth) (by omega) HI1.out HX.out).mono ?_
      rintro e w7 ⟨a7, c7, rfl, hl8⟩
      have HL8 := Lib.hid hl8.swap
      clear hl8 HL4
      go_wp2_with fail
      go_at_call 14
      refine (HL8.out.size_ok _ us (OwnInts.slice HL8.out.fifth) (by omega) HI1.out HQ.out).mono ?_
      rintro e w8 ⟨rfl, hl9⟩
      have hlen1 := MapF.len (T := 52) hl9.third Try.underlying52 3
      have hlen2 := MapF.len (T := 52) hl9.fourth Try.underlying52 3
      have HL9 := Lib.hid (hl9.subl (ts' := [Thing.ints (.slice a7 X.length c7) X, Thing.mapf 3 .i64 fb (setF Fd) X.length]) (.cons _ (.cons_cons _ (.cons _ (.cons_cons _ (.cons _ (List.nil_sublist _)))))))
      clear hl9 HL8
      go_wp2
      clear hlen1 hlen2
      go_loopw [19] (fun i wx => ∃ k : Nat, k ≤ X.length ∧ i = .int .i64 k ∧ Lab w wx [Thing.ints (.slice a7 X.length c7) X, Thing.mapf 3 .i64 fb (setF Fd) X.length]) (fun i _ => X.length - (intOf i).toNat)
      case atStart => exact ⟨0, by omega, rfl, HL9.out⟩
      case round =>
        obtain ⟨k, hk, rfl, hl⟩ := hrel
        clear HL9
        by_cases hkl : k < X.length
        · have hkl' : (k : Int) < (X.length : Int) := by omega
          have hown : OwnInts wr 0 3 .i64 (.slice a7 X.length c7) X := hl.ints
          obtain ⟨g, cap, e⟩ := own_some' hown (by intro e; rw [e] at hkl; simp at hkl)
          simp only [Value.slice.injEq] at e
          obtain ⟨rfl, -, rfl⟩ := e
          obtain ⟨x, hx⟩ : ∃ x, X[k]? = some x := ⟨_, List.getElem?_eq_getElem hkl⟩
          have d1 := (OwnInts.slice hown).at hx
          rw [Nat.zero_add] at d1
          have hxm : x ∈ X := List.mem_of_getElem? hx
          have hxv : 0 ≤ x ∧ x ≤ 4194303 := by
            have h1 := HX.out
            have h2 := hxm
            rw [← h1] at h2
            obtain ⟨j, m, -, hm, h3, rfl⟩ := mem_varsO.1 h2
            have := HG.out m (List.mem_of_getElem? hm)
            unfold NodeGood at this
            omega
          have hask := fun q => MapF.ask (T := 52) (E := 4) (hl.later (below_drewN (Below.refl _ wr) q)).second Try.underlying3 Try.underlying52 (zeroBool _) (k := x) (wf_i64 (by omega) (by omega))
          rw [(HFD.out x).2 hxm] at hask
          have HL5 := Lib.hid hl
          rcases Nat.eq_zero_or_pos k with rfl | hk0
          · clear hl hown hxm hx hxv
            go_upto_region 26 with fail
            go_quiet (fail)
            go_wp2
            go_roundw
            case rel => exact ⟨1, by omega, by go_num, HL5.out.later (below_drewN (Below.refl _ _) _)⟩
            case measure => simp [intOf]; omega
          · obtain ⟨j, rfl⟩ : ∃ j, k = j + 1 := ⟨k - 1, by omega⟩
            obtain ⟨y, hy⟩ : ∃ y, X[j]? = some y := ⟨_, List.getElem?_eq_getElem (by omega)⟩
            have d0 := (OwnInts.slice hown).at hy
            rw [Nat.zero_add] at d0
            have hyx := HLT.out j y x hy hx
            have hyx' : ¬ x ≤ y := by omega
            have e1 : (((j + 1 : Nat) : Int)) = (j : Int) + 1 := by omega
            have hj0 : (0 : Int) < (j : Int) + 1 := by omega
            have hw1 : IntKind.i64.wrap ((j : Int) + 1 - 1) = (j : Int) := by simp [IntKind.wrap, IntKind.bits, IntKind.signed]; omega
            clear hl hown hxm hx hxv hy hyx
            go_upto_region 26 with fail
            go_quiet (fail)
            go_wp2
            go_roundw
            case rel => exact ⟨j + 1 + 1, by omega, by go_num, HL5.out.later (below_drewN (Below.refl _ _) _)⟩
            case measure => simp [intOf]; omega
        · obtain rfl : k = X.length := by omega
          have hkl' : ¬ (X.length : Int) < (X.length : Int) := by omega
          have HAW := Lib.hid hl.awake14
          clear hl
          go_wp2_with fail
          go_at_call 15
          refine HAW.out.mono ?_
          rintro e w2 ⟨rfl, hb⟩
          go_wp2
          go_ret
          exact ⟨rfl, hb⟩
    · rw [List.concat_eq_append] at hinv hst hl ⊢
      have hlen1 : (xs ++ [t]).length = xs.length + 1 := by simp
      rw [hlen1] at hst hl ⊢
      have ht := hinv.st_in t (by simp)
      obtain ⟨tn, rfl⟩ := Int.eq_ofNat_of_zero_le ht.1
      have htl : tn < L.length := by omega
      have hown : OwnInts wr 0 3 .i64 (.slice a5 (xs.length + 1) c5) (xs ++ [(tn : Int)]) := hl.second
      obtain ⟨g, cap, e⟩ := own_some' hown (by simp)
      simp only [Value.slice.injEq] at e
      obtain ⟨rfl, -, rfl⟩ := e
      have hcap := (hl.swap.ints_cap).1
      have hcap' : (xs.length : Int) + 1 ≤ (c5 : Int) := by omega
      have d0 := (OwnInts.slice hown).at (i := xs.length) (q := (tn : Int)) (by simp)
      rw [Nat.zero_add] at d0
      have hcs := cntS_le (L := L) (S := S)
      have hxl : xs.length ≤ 910000000 := by omega
      have hlp := hl.swap.pop
      have hmeas : supMeas L.length sb (.slice (some ⟨g, 0, none⟩) (xs.length + 1) c5) wr = 4 * (L.length - cntS L S) + (xs.length + 1) := by unfold supMeas; rw [mlen_of hmf, hcnt]; rfl
      have hask := hmf.ask (T := 52) (E := 4) Try.underlying3 Try.underlying52 (zeroBool _) (k := (tn : Int)) (wf_i64 (by omega) (by omega))
      rw [seenF_at] at hask
      cases hS : S tn with
      | true =>
        rw [hS] at hask
        have HINV := Lib.hid (hinv.skip (by rw [Int.toNat_natCast]; exact hS)); have HFD := Lib.hid hfd; have HL4 := Lib.hid hlp.swap; have HM := Lib.hid hmeas; have HCNT := Lib.hid hcnt
        clear hinv hfd hl hlp hmf hown hmeas hS ht hcnt
        go_wp2
        go_roundw
        case rel => exact ⟨xs, _, c5, S, Fd, n1, n2, rfl, HINV.out, HFD.out, by omega, HL4.out⟩
        case measure =>
          have h2 := supMeas_of (N := L.length) HL4.out.mapf (some ⟨g, 0, none⟩) xs.length c5
          rw [HM.out, h2, HCNT.out]
          omega
      | false =>
        obtain ⟨nd, hi⟩ : ∃ nd, L[tn]? = some nd := ⟨_, List.getElem?_eq_getElem htl⟩
        have hok := HWF.out.ok nd (List.mem_of_getElem? hi)
        have hcm := cntS_mark hS htl
        have hcm2 := cntS_le (L := L) (S := mark S tn)
        have hvis := hinv.visit HWF.out
        rw [Int.toNat_natCast, argsOf_at hi] at hvis
        rw [hS] at hask
        obtain ⟨hput, m1, hl4⟩ := Lab.sput (T := 52) (E := 4) (k := (tn : Int)) ⟨n1, hlp.swap⟩ Try.underlying3 Try.underlying52 (wf_i64 (by omega) (by omega))
        have hl5 := (hl4.mapf_congr (g := setF (seenF (mark S tn))) (fun k => setF_congr (S := fun j => if j = (tn : Int) then true else seenF S j) (seenF_mark S tn k))).rot4
        have HINV := Lib.hid hvis; have HFD := Lib.hid hfd; have HL5 := Lib.hid hl5; have HM := Lib.hid hmeas; have HI := Lib.hid hi; have HOK := Lib.hid hok; have HCM := Lib.hid hcm; have HS := Lib.hid hS; have HCNT := Lib.hid hcnt
        clear hinv hfd hl hlp hl4 hl5 hmf hown hmeas hS ht hvis hi hok hcm hcnt
        go_upto_region 13 with fail
        clear hput d0 hask
        refine wp_abs (fun w5 => Lab w w5 [Thing.graph F I gb W 1048576 L, Thing.mapf 3 .i64 sb (setF (seenF (mark S tn))) m1, Thing.ints (.slice (some ⟨g, 0, none⟩) xs.length c5) xs, Thing.mapf 3 .i64 fb (setF Fd) n2, Thing.ints (.slice a2 us.length c2) us]) HL5.out ?_
        clear HL5
        rintro w5 hl5
        have HL5 := Lib.hid hl5
        clear hl5
        go_wp2_with fail
        go_at_call 23
        refine (HL5.out.node_at tn nd HI.out).mono ?_
        rintro e w6 ⟨aa, am, ac, rfl, hl6⟩
        obtain ⟨q, hq⟩ : ∃ q, w6.heap.size = q := ⟨_, rfl⟩
        have hl7 := hl6.alloc #[.int .u8 nd.1, .int .u64 nd.2.1, .slice aa am ac] 54
        rw [hq] at hl7
        have HL7 := Lib.hid hl7
        clear hl6 hl7 HL5
        go_upto_region 14 with fail
        clear hq
        refine wp_abs (fun w7 => Lab w w7 [Thing.box q 54 #[.int .u8 nd.1, .int .u64 nd.2.1, .slice aa am ac], Thing.graph F I gb W 1048576 L, Thing.ints (.slice aa am ac) nd.2.2, Thing.mapf 3 .i64 sb (setF (seenF (mark S tn))) m1, Thing.ints (.slice (some ⟨g, 0, none⟩) xs.length c5) xs, Thing.mapf 3 .i64 fb (setF Fd) n2, Thing.ints (.slice a2 us.length c2) us]) HL7.out ?_
        clear HL7
        rintro w7 hl7
        obtain ⟨x0, x1, x2⟩ := cells3 hl7.box1
        have hxa : xs.length + nd.2.2.length ≤ 1000000000 := by have := HOK.out.2.2; have := aryN_le nd.1; omega
        have hgood := HG.out nd (List.mem_of_getElem? HI.out)
        by_cases h1 : nd.1 = 1
        · have hb : (nd.2.1 : Int) ≤ 4194303 := by unfold NodeGood at hgood; omega
          have h1' : ((nd.1 : Int) == 1) = true := by rw [h1]; rfl
          obtain ⟨hput, m2, hl8⟩ := Lab.sput (T := 52) (E := 4) (k := (nd.2.1 : Int)) ⟨n2, hl7.rot6⟩ Try.underlying3 Try.underlying52 (wf_i64 (by omega) (by omega))
          have HL8 := Lib.hid hl8; have HFD2 := Lib.hid (HFD.out.put HI.out h1)
          clear hl7 hl8 hgood HFD
          go_upto_region 18 with fail
          clear hput x0 x1 x2 h1'
          refine wp_abs (fun w8 => Lab w w8 [Thing.mapf 3 .i64 fb (setF fun j => if j = (nd.2.1 : Int) then true else Fd j) m2, Thing.box q 54 #[.int .u8 nd.1, .int .u64 nd.2.1, .slice aa am ac], Thing.graph F I gb W 1048576 L, Thing.ints (.slice aa am ac) nd.2.2, Thing.mapf 3 .i64 sb (setF (seenF (mark S tn))) m1, Thing.ints (.slice (some ⟨g, 0, none⟩) xs.length c5) xs, Thing.ints (.slice a2 us.length c2) us]) HL8.out ?_
          clear HL8
          rintro w8 hl8
          obtain ⟨x0, x1, x2⟩ := cells3 hl8.box2
          have hsrc : SliceOf w8 .i64 (.slice aa am ac) nd.2.2 := OwnInts.slice hl8.fourth
          have HL9 := Lib.hid hl8.rot6
          clear hl8 x0 x1
          go_wp2_with (at_builtin; refine wpList_append_lab (.tmp 69) (.tmp 71) HL9.out hsrc rfl rfl rfl rfl hxa ?_; intro a9 c9 w9 hl9)
          have HL10 := Lib.hid (hl9.rot6.subl (.cons_cons _ (.cons_cons _ (.cons_cons _ (.cons _ (.cons_cons _ (.cons _ (.cons_cons _ (List.Sublist.refl _)))))))))
          clear hl9 HL9 hsrc x2
          rw [HCM.out] at hcm2
          go_roundw
          case rel => exact ⟨xs ++ nd.2.2, a9, c9, mark S tn, _, m1, m2, by rw [List.length_append], HINV.out, HFD2.out, by rw [List.length_append, HCM.out]; have := HOK.out.2.2; have := aryN_le nd.1; omega, HL10.out⟩
          case measure =>
            have h2 := supMeas_of (N := L.length) HL10.out.mapf a9 (xs ++ nd.2.2).length c9
            have h3 := seenF_count HL10.out.mapf (HINV.out.low HWF.out HI1.out)
            rw [List.length_append, h3, HCM.out] at h2
            rw [HM.out, h2]
            have := HOK.out.2.2
            have := aryN_le nd.1
            omega
        · have h1' : ((nd.1 : Int) == 1) = false := by rw [beq_eq_false_iff_ne]; omega
          have hsrc : SliceOf w7 .i64 (.slice aa am ac) nd.2.2 := OwnInts.slice hl7.third
          have HL9 := Lib.hid hl7.rot5; have HFD2 := Lib.hid (HFD.out.skip HI.out h1)
          clear hl7 hgood HFD
          go_wp2_with (at_builtin; refine wpList_append_lab (.tmp 69) (.tmp 71) HL9.out hsrc rfl rfl rfl rfl hxa ?_; intro a9 c9 w9 hl9)
          have HL10 := Lib.hid ((hl9.rot5.subl (.cons_cons _ (.cons_cons _ (.cons _ (.cons_cons _ (.cons _ (.cons_cons _ (.cons_cons _ (List.Sublist.refl _))))))))).perm (.cons _ (.cons _ (.swap _ _ _))))
          clear x0 x1 h1'
          clear hl9 HL9 hsrc x2
          rw [HCM.out] at hcm2
          go_roundw
          case rel => exact ⟨xs ++ nd.2.2, a9, c9, mark S tn, _, m1, n2, by rw [List.length_append], HINV.out, HFD2.out, by rw [List.length_append, HCM.out]; have := HOK.out.2.2; have := aryN_le nd.1; omega, HL10.out⟩
          case measure =>
            have h2 := supMeas_of (N := L.length) HL10.out.mapf a9 (xs ++ nd.2.2).length c9
            have h3 := seenF_count HL10.out.mapf (HINV.out.low HWF.out HI1.out)
            rw [List.length_append, h3, HCM.out] at h2
            rw [HM.out, h2]
            have := HOK.out.2.2
            have := aryN_le nd.1
            omega
end Go.Proofs.Ytofbadmjopefpaa
