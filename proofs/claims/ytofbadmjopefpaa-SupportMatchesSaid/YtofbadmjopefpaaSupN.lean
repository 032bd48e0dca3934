/- The reference of layer 14: the variables, put into their places one after another. -/
import Derived.Test.YtofbadmjopefpaaSupM
namespace Go.Proofs.Ytofbadmjopefpaa
open Go.RowKit Go.Maps
set_option maxHeartbeats 6400000

section
variable {w0 wr w' : World} {ts : List Thing} {F I : List Nat} {rb W room : Nat} {L : List PNode}
theorem vars_next (L : List PNode) (S : Nat → Bool) (k : Nat) : ((List.range (k + 1)).filter S).filterMap (varN L) = ((List.range k).filter S).filterMap (varN L) ++ (if S k = true then (varN L k).toList else []) := by
  rw [List.range_succ, List.filter_append, List.filterMap_append]
  congr 1
  cases h : S k
  · simp [h]
  · rw [if_pos rfl]
    cases hv : varN L k <;> simp [h, hv]
/-- What has been found is in order. -/
structure Found (L : List PNode) (S : Nat → Bool) (k : Nat) (out : List Int) : Prop where
  sorted : out.Pairwise fun a b => leI a b = true
  perm : out.Perm (((List.range k).filter S).filterMap (varN L))
theorem Found.start (L : List PNode) (S : Nat → Bool) : Found L S 0 [] := ⟨.nil, .nil⟩
theorem Found.skip {S : Nat → Bool} {k : Nat} {out : List Int} (h : Found L S k out) (hs : S k = false ∨ varN L k = none) : Found L S (k + 1) out := by
  refine ⟨h.sorted, ?_⟩
  rw [vars_next]
  rcases hs with hs | hs
  · rw [if_neg (by rw [hs]; decide), List.append_nil]; exact h.perm
  · rw [hs]
    have : (if S k = true then (none : Option Int).toList else []) = [] := by split <;> rfl
    rw [this, List.append_nil]; exact h.perm
theorem Found.put {S : Nat → Bool} {k q : Nat} {out : List Int} {x : Int} (h : Found L S k out) (hs : S k = true) (hx : varN L k = some x) (hq : q ≤ out.length) (hlo : ∀ y, 0 < q → out[q - 1]? = some y → y ≤ x) (hhi : ∀ j y, q ≤ j → out[j]? = some y → x < y) : Found L S (k + 1) (insL out q x) := by
  refine ⟨insL_sorted hq h.sorted hlo hhi, ?_⟩
  rw [vars_next, if_pos hs, hx]
  exact (insL_perm out q x).trans (h.perm.append_right [x])
theorem Found.end_ {S : Nat → Bool} {out : List Int} (h : Found L S L.length out) : varsO L S = out := varsO_of h.perm.symm h.sorted
theorem Found.len {S : Nat → Bool} {k : Nat} {out : List Int} (h : Found L S k out) : out.length ≤ k := by
  rw [h.perm.length_eq]
  exact Nat.le_trans (List.length_filterMap_le _ _) (count_le S k)
theorem ints_frozen {w : World} {g n c T : Nat} {k : IntKind} {xs : List Int} (h : OwnInts w 0 T k (.slice (some ⟨g, 0, none⟩) n c) xs) (j : Nat) : w.frozen? ⟨g, j, none⟩ = false := by
  obtain ⟨h1, h2⟩ := h
  rcases h2 with ⟨e, -⟩ | ⟨g', c', cur, e, -, hg, -⟩
  · simp at e
  · simp only [Value.slice.injEq, Option.some.injEq, Addr.mk.injEq, and_true] at e
    obtain ⟨rfl, -⟩ := e
    exact frozen_of_row w g j _ _ hg
set_option maxRecDepth 100000 in
/-- The reference's Vars. -/
theorem Lab.rvars (h : Lab w0 wr (Thing.rgraph F I rb W room L :: ts)) (hg : GoodL W L) (v : Value) (us : List Int) (hv : SliceOf w0 .i64 v us) (hn : us.length ≤ 9223372036854775807) :
    Calls Try.prog 18 #[.pointer (some ⟨rb, 0, none⟩), v] wr fun e w' =>
      (InL L us → ∃ a c, e = .returned (.tuple #[.slice a (varsO L (occS L us)).length c, .int .i64 0]) ∧ Lab w0 w' (Thing.ints (.slice a (varsO L (occS L us)).length c) (varsO L (occS L us)) :: Thing.rgraph F I rb W room L :: ts)) ∧
      (¬ InL L us → e = .returned (.tuple #[.slice none 0 0, .int .i64 3]) ∧ Lab w0 w' (Thing.rgraph F I rb W room L :: ts)) := by
  have hll : L.length ≤ 1048576 := by have := h.rgr.len; have := h.rgr.r2; omega
  have HO := Lib.hid (h.roccurs v us hv hn); have HG := Lib.hid hg
  clear h hv hn hg
  by_cases hin : InL L us
  · obtain ⟨S, hS⟩ : ∃ S, occS L us = S := ⟨_, rfl⟩
    have HS := Lib.hid hS
    go_enter Try.func18, Try.ntmps18
    go_wp2_with fail
    go_at_call 39
    refine HO.out.mono ?_
    rintro e w2 ⟨h1, -⟩
    obtain ⟨ob, rfl, hl⟩ := h1 hin
    rw [hS] at hl
    have HL := Lib.hid hl.nil_ints; have HIN := Lib.hid hin
    clear h1 hl HO hS hin
    go_wp2
    go_loopw [8, 9] (fun v t wx => ∃ k : Nat, k ≤ L.length ∧ t = .int .i64 k ∧ ∃ a m c out, v = .slice a m c ∧ out.length = m ∧ Found L S k out ∧ Lab w0 wx (Thing.ints (.slice a m c) out :: Thing.fn ob 4 L.length (fun i => .bool (S i)) :: Thing.rgraph F I rb W room L :: ts)) (fun _ t _ => L.length - (intOf t).toNat)
    case atStart => exact ⟨0, by omega, rfl, none, 0, 0, [], rfl, rfl, Found.start L S, HL.out⟩
    case round =>
      obtain ⟨k, hk, rfl, a, m, c, out, rfl, hm, hf, hl⟩ := hrel
      clear HL
      by_cases hlt : k < L.length
      · have hlt' : (k : Int) < (L.length : Int) := by omega
        have d1 := hl.fn2.cell (i := k) hlt
        have HL2 := Lib.hid hl; have HF := Lib.hid hf; have HM := Lib.hid hm
        cases hs : S k with
        | false =>
          rw [hs] at d1
          have HSK := Lib.hid hs
          clear hs hl hf hm
          go_wp2
          go_roundw
          case rel => exact ⟨k + 1, by omega, by go_num, a, m, c, out, rfl, HM.out, HF.out.skip (.inl HSK.out), HL2.out⟩
          case measure => simp [intOf]; omega
        | true =>
          rw [hs] at d1
          obtain ⟨nd, hi⟩ : ∃ nd, L[k]? = some nd := ⟨_, List.getElem?_eq_getElem hlt⟩
          have hrg : RGr wr 0 F I rb W room L := hl.third
          obtain ⟨g, cap, va, c2, k0, k1, k2, -⟩ := hrg.node hi
          have hgood := HG.out nd (List.mem_of_getElem? hi)
          have HSK := Lib.hid hs
          by_cases h1 : nd.1 = 1
          · have hb : (nd.2.1 : Int) ≤ 4194303 := by unfold NodeGood at hgood; omega
            have h1' : ((nd.1 : Int) != 1) = false := by rw [h1]; rfl
            have hvn := varN_some.2 ⟨nd, hi, h1, rfl⟩
            obtain ⟨x, hx⟩ : ∃ x, (nd.2.1 : Int) = x := ⟨_, rfl⟩
            have hmk := hf.len
            rw [hm] at hmk
            have HX := Lib.hid (hvn.trans (congrArg some hx))
            clear hs hl hf hm hrg hgood hvn hi
            go_upto_block 2 with fail
            clear d1 c2 k0 k1 k2 h1'
            go_cut [11] (fun i wx => ∃ q : Nat, i = .int .i64 q ∧ q ≤ m ∧ (∀ y, 0 < q → out[q - 1]? = some y → y ≤ x) ∧ (∀ j y, q ≤ j → out[j]? = some y → x < y) ∧ Lab w0 wx (Thing.ints (.slice a m c) out :: Thing.fn ob 4 L.length (fun i => .bool (S i)) :: Thing.rgraph F I rb W room L :: ts))
            case first =>
              go_wp2
              go_loopw [11] (fun i wx => ∃ q : Nat, i = .int .i64 q ∧ q ≤ m ∧ (∀ j y, q ≤ j → out[j]? = some y → x < y) ∧ Lab w0 wx (Thing.ints (.slice a m c) out :: Thing.fn ob 4 L.length (fun i => .bool (S i)) :: Thing.rgraph F I rb W room L :: ts)) (fun i _ => (intOf i).toNat)
              case atStart =>
                refine ⟨m, rfl, Nat.le_refl _, fun j y hj hy => ?_, HL2.out⟩
                have := (List.getElem?_eq_some_iff.1 hy).1
                have := HM.out
                omega
              case round =>
                obtain ⟨q, rfl, hq, hhi, hl⟩ := hrel
                have HHI := Lib.hid hhi; have HL3 := Lib.hid hl
                rcases Nat.eq_zero_or_pos q with rfl | hq0
                · clear hl hhi
                  go_wp2
                  go_meet
                  exact ⟨0, rfl, by omega, by omega, HHI.out, HL3.out⟩
                · obtain ⟨p, rfl⟩ : ∃ p, q = p + 1 := ⟨q - 1, by omega⟩
                  have hmo := HM.out
                  obtain ⟨y, hy⟩ : ∃ y, out[p]? = some y := ⟨_, List.getElem?_eq_getElem (by omega)⟩
                  have hown : OwnInts wr 0 3 .i64 (.slice a m c) out := hl.ints
                  obtain ⟨g, cap, e⟩ := own_some' hown (by intro e; rw [e] at hmo; simp at hmo; omega)
                  simp only [Value.slice.injEq] at e
                  obtain ⟨rfl, -, rfl⟩ := e
                  have d0 := (OwnInts.slice hown).at hy
                  rw [Nat.zero_add] at d0
                  have hp0 : (0 : Int) < (p : Int) + 1 := by omega
                  have hpm : (p : Int) < (m : Int) := by omega
                  have hw1 : IntKind.i64.wrap ((p : Int) + 1 - 1) = (p : Int) := by simp [IntKind.wrap, IntKind.bits, IntKind.signed]; omega
                  have HY := Lib.hid hy
                  clear hl hhi hown hy hmo
                  by_cases hxy : x < y
                  · go_wp2
                    go_roundw
                    case rel =>
                      refine ⟨p, by go_num, by omega, fun j z hj hz => ?_, HL3.out⟩
                      by_cases e : j = p
                      · subst e; rw [HY.out] at hz; cases hz; exact hxy
                      · exact HHI.out j z (by omega) hz
                    case measure => simp [intOf]
                  · go_wp2
                    go_meet
                    exact ⟨p + 1, rfl, by omega, fun z _ hz => by rw [Nat.add_sub_cancel, HY.out] at hz; cases hz; omega, HHI.out, HL3.out⟩
            case rest =>
              obtain ⟨q, rfl, hq, hlo, hhi, hl⟩ := hcut
              have hl4 := (hl.alloc #[.int .i64 0] 3).swap
              have hsrc := sliceOf_new wc .i64 3 [0] 1
              have hlx : m + [(0 : Int)].length ≤ 1000000000 := by simp only [List.length_singleton]; omega
              have HPUT := Lib.hid (HF.out.put HSK.out HX.out (by have := HM.out; omega) hlo hhi)
              have HL4 := Lib.hid hl4; have HSRC := Lib.hid hsrc
              clear hl hl4 hsrc hlo hhi HL2
              go_upto_region 13 with (at_builtin; refine wpList_append_labn (.tmp 67) (.tmp 68) HM.out HL4.out HSRC.out rfl rfl rfl rfl hlx ?_; intro a5 c5 w5 hl5)
              have hlen5 : (out ++ [0]).length = m + 1 := by rw [List.length_append, HM.out]; rfl
              have hown : OwnInts w5 0 3 .i64 (.slice a5 (m + 1) c5) (out ++ [0]) := hl5.ints
              have hl6 : Lab w0 w5 (Thing.ints (.slice a5 (m + 1) c5) (out ++ [0]) :: Thing.fn ob 4 L.length (fun i => .bool (S i)) :: Thing.rgraph F I rb W room L :: ts) := hl5.subl (.cons_cons _ (.cons _ (List.Sublist.refl _)))
              obtain ⟨gg, cap5, e⟩ := own_some' hown (by simp)
              simp only [Value.slice.injEq] at e
              obtain ⟨rfl, -, rfl⟩ := e
              have hcc := hl6.ints_cap.1
              have hld := hl6.later (Below.refl _ _).drew
              obtain ⟨n1, hn1⟩ : ∃ n1, m + 1 = n1 := ⟨_, rfl⟩
              obtain ⟨r, hr⟩ : ∃ r, q + 1 = r := ⟨_, rfl⟩
              rw [hn1] at hld hcc hlen5 ⊢
              have HL6 := Lib.hid hld; have HLEN := Lib.hid hlen5; have HN1 := Lib.hid hn1; have HR := Lib.hid hr
              have q0 : (0 : Int) ≤ (q : Int) := by omega
              have q1 : (0 : Int) ≤ (r : Int) := by omega
              have q2 : (r : Int) ≤ (n1 : Int) := by omega
              have q3 : ¬ c5 = q := by omega
              have q4 : (q : Int) ≤ (n1 : Int) := by omega
              have q5 : (q : Int) ≤ (c5 : Int) := by omega
              have q6 : (r : Int) ≤ (c5 : Int) := by omega
              have q7 : IntKind.i64.wrap ((q : Int) + 1) = (r : Int) := by simp [IntKind.wrap, IntKind.bits, IntKind.signed]; omega
              have q8 : (n1 : Int) ≤ (c5 : Int) := by omega
              have q9 : r ≤ n1 := by omega
              have q10 : q ≤ n1 := by omega
              clear hl5 hown hl6 hld hlen5 HL4 HSRC hn1 hr
              have q11 : (q : Int) < (n1 : Int) := by have := HN1.out; omega
              have hqc : c5 = r ∨ ¬ c5 = r := by omega
              rcases hqc with rfl | qc
              all_goals
                (go_still_tail 7, (by kernel_rfl)
                 simp only [World.drew_eq]
                 refine wpList_copy_shift (.tmp 73) (.tmp 76) (n := n1) (c := c5) (q := q) HL6.out HLEN.out rfl rfl rfl rfl (by have := HR.out; omega) (by have := HR.out; have := HN1.out; omega) (fun h => by have := HR.out; have := HN1.out; first | (exfalso; omega) | (rw [HR.out])) ?_
                 intro v9 w9 hl9
                 have hsl9 := shiftL_len (xs := out ++ [0]) (q := q) (by rw [HLEN.out]; have := HN1.out; omega)
                 rw [HLEN.out] at hsl9
                 obtain ⟨y9, hy9⟩ : ∃ y, (shiftL (out ++ [0]) q)[q]? = some y := ⟨_, List.getElem?_eq_getElem (by rw [hsl9]; have := HN1.out; omega)⟩
                 have hown9 : OwnInts w9 0 3 .i64 (.slice (some ⟨gg, 0, none⟩) n1 c5) (shiftL (out ++ [0]) q) := hl9.ints
                 have d9 := (OwnInts.slice hown9).at hy9
                 rw [Nat.zero_add] at d9
                 have f9 := ints_frozen hown9 q
                 have hl10 := Lab.ints_set hsl9 hl9 q x
                 rw [shiftL_set (by have := HM.out; omega)] at hl10
                 have HL10 := Lib.hid hl10
                 clear hl9 hsl9 hy9 hown9 hl10 HL6
                 go_wp2
                 go_roundw
                 case rel => exact ⟨k + 1, by omega, by go_num, _, n1, c5, insL out q x, rfl, by rw [(insL_perm out q x).length_eq, List.length_append, HM.out, ← HN1.out]; rfl, HPUT.out, HL10.out⟩
                 case measure => simp [intOf]; omega)
          · have h1' : ((nd.1 : Int) != 1) = true := by rw [bne_iff_ne]; omega
            have hno : varN L k = none := by
              cases e : varN L k with
              | none => rfl
              | some x =>
                obtain ⟨n', e1, e2, -⟩ := varN_some.1 e
                rw [hi] at e1
                cases e1
                exact absurd e2 h1
            have HNO := Lib.hid hno
            clear hs hl hf hm hrg hgood hno hi
            go_wp2
            go_roundw
            case rel => exact ⟨k + 1, by omega, by go_num, a, m, c, out, rfl, HM.out, HF.out.skip (.inr HNO.out), HL2.out⟩
            case measure => simp [intOf]; omega
      · obtain rfl : k = L.length := by omega
        have hlt' : ¬ (L.length : Int) < (L.length : Int) := by omega
        have he := hf.end_
        have HL2 := Lib.hid (hl.swap.drop); have HE := Lib.hid he
        have HM := Lib.hid hm
        clear hl hf he hm
        go_wp2
        go_ret2
        refine ⟨fun _ => ?_, fun h => absurd HIN.out h⟩
        rw [HS.out, HE.out, HM.out]
        exact ⟨a, c, rfl, HL2.out⟩
  · go_enter Try.func18, Try.ntmps18
    go_wp2_with fail
    go_at_call 39
    refine HO.out.mono ?_
    rintro e w2 ⟨-, h2⟩
    obtain ⟨rfl, hl⟩ := h2 hin
    have HL := Lib.hid hl; have HIN := Lib.hid hin
    clear h2 hl HO hin
    go_wp2
    go_ret2
    exact ⟨fun h => absurd h HIN.out, fun _ => ⟨rfl, HL.out⟩⟩
end
end Go.Proofs.Ytofbadmjopefpaa
