/- The reference's Subst whole. -/
import Derived.Test.YtcpgiadhmmmafaaRSub
namespace Go.Proofs.Ytcpgiadhmmmafaa
open Go.RowKit Go.Maps
set_option maxHeartbeats 3200000

section
variable {w0 wr w' : World} {ts : List Thing} {F I : List Nat} {rb W room : Nat} {L : List PNode}
set_option maxRecDepth 100000 in
theorem Lab.rsubst (h : Lab w0 wr (Thing.rgraph F I rb W room L :: ts)) (t : Int) (vv uv : Value) (vs us : List Int) (hv : SliceOf w0 .i64 vv vs) (hu : SliceOf w0 .i64 uv us) (hg : GoodL W L) (hvi : ∀ v ∈ vs, (Lit.int .i64 v).wf = true) (hnv : vs.length ≤ 9223372036854775807) (hnu : us.length ≤ 9223372036854775807) {R : List PNode × Nat × Nat} (hR : subst2R W room L t vs us = R) :
    Calls Try.prog 43 #[.pointer (some ⟨rb, 0, none⟩), .int .i64 t, vv, uv] wr (RLabPost w0 rb W room ts R) := by
  obtain ⟨va, n, vc, rfl, hvn, -⟩ := hv.parts
  obtain ⟨ua, m, uc, rfl, hum, -⟩ := hu.parts
  obtain ⟨ps, hps⟩ : ∃ ps, vs.zip us = ps := ⟨_, rfl⟩
  have his := fun (wx : World) (x : Int) (hl : Lab w0 wx (Thing.rgraph F I rb W room L :: ts)) => rIs_any hl.rgr x
  have hn1 : n ≤ 9223372036854775807 := by omega
  have hm1 : m ≤ 9223372036854775807 := by omega
  have HIS := Lib.hid his; have HL := Lib.hid h; have HR := Lib.hid hR; have HV := Lib.hid (And.intro hv (And.intro hvn hvi)); have HU := Lib.hid (And.intro hu hum); have HP := Lib.hid hps; have HG := Lib.hid hg
  clear h hR hv hvn hvi hu hum hps hg hnv hnu his
  go_enter Try.func43, Try.ntmps43
  by_cases ht : 0 ≤ t ∧ t < (L.length : Int)
  case neg =>
    have hRR : R = (L, 0, 3) := by rw [← HR.out]; unfold subst2R; rw [if_neg ht]
    subst hRR
    have h1 := HIS.out wr t HL.out
    rw [show isT L t = false from decide_eq_false ht] at h1
    have H1 := Lib.hid h1
    clear h1
    go_wp2_with (go_at_call 59; refine H1.out.mono ?_; rintro e w2 ⟨rfl, rfl⟩)
    go_ret2
    exact ⟨F, I, rfl, HL.out⟩
  case pos =>
    have h1 := HIS.out wr t HL.out
    rw [show isT L t = true from decide_eq_true ht] at h1
    have H1 := Lib.hid h1
    clear h1
    by_cases hnm : n = m
    case neg =>
      have hRR : R = (L, 0, 2) := by rw [← HR.out]; unfold subst2R; rw [if_pos ht, if_neg (by rw [HV.out.2.1, HU.out.2]; exact hnm)]
      subst hRR
      have q0 : ((n : Int) != (m : Int)) = true := by rw [bne_iff_ne]; omega
      go_wp2_with (go_at_call 59; refine H1.out.mono ?_; rintro e w2 ⟨rfl, rfl⟩)
      go_ret2
      exact ⟨F, I, rfl, HL.out⟩
    case pos =>
      subst hnm
      have q0 : ((n : Int) != (n : Int)) = false := by simp
      go_wp2_with (go_at_call 59; refine H1.out.mono ?_; rintro e w2 ⟨rfl, rfl⟩)
      rename_i K hK
      have HK := Lib.hid hK
      clear hK H1
      go_loopw [10] (fun i wx => ∃ k : Nat, k ≤ n ∧ i = .int .i64 k ∧ subErr L ps k = 0 ∧ Lab w0 wx (Thing.rgraph F I rb W room L :: ts)) (fun i _ => n - (intOf i).toNat)
      case atStart => exact ⟨0, by omega, rfl, rfl, HL.out⟩
      case round =>
        clear HL
        obtain ⟨k, hk, rfl, hse, hl⟩ := hrel
        by_cases hlt : k < n
        · have hlt' : (k : Int) < (n : Int) := by omega
          obtain ⟨b, off, v, rfl, hc, hvk⟩ := HV.out.1.parts' hlt
          obtain ⟨b2, off2, u, rfl, hc2, huk⟩ := HU.out.1.parts' hlt
          have hp : ps[k]? = some (v, u) := by rw [← HP.out]; exact List.getElem?_zip_eq_some.2 ⟨hvk, huk⟩
          have hsk := subErr_succ hse hp
          have hend : ∀ f, subErr L ps (k + 1) = f → f ≠ 0 → R = (L, 0, f) := fun f h1 h2 => by
            have h3 := subErr_stop (L := L) (ps := ps) (k := k + 1) (by rw [h1]; exact h2) ps.length (by have := (List.getElem?_eq_some_iff.1 hp).1; omega)
            rw [← HR.out]
            unfold subst2R substR
            rw [if_pos ht, if_pos (by rw [HV.out.2.1, HU.out.2]), if_pos ht, HP.out, h3, h1, if_neg h2]
          have HEND := Lib.hid hend; have HSK := Lib.hid (And.intro hse hsk); have HL1 := Lib.hid hl; have HC := Lib.hid (And.intro hc hc2); have HVK := Lib.hid hvk
          have hfst : ∀ j, j < k → ∃ x, vs[j]? = some x ∧ (ps.map (·.1))[j]? = some x := fun j hj => by
            have hjl : j < vs.length := by rw [HV.out.2.1]; omega
            obtain ⟨x, hx⟩ : ∃ x, vs[j]? = some x := ⟨_, List.getElem?_eq_getElem hjl⟩
            obtain ⟨y, hy⟩ : ∃ y, us[j]? = some y := ⟨_, List.getElem?_eq_getElem (by rw [HU.out.2]; omega)⟩
            exact ⟨x, hx, by rw [List.getElem?_map, ← HP.out, (List.getElem?_zip_eq_some (z := (x, y))).2 ⟨hx, hy⟩]; rfl⟩
          have HFST := Lib.hid hfst
          clear hl hvk huk hp hse hsk hend hc hc2 hfst
          go_wp2
          go_loopw [11] (fun i wx => ∃ j : Nat, j ≤ k ∧ i = .int .i64 j ∧ v ∉ (ps.take j).map (·.1) ∧ Lab w0 wx (Thing.rgraph F I rb W room L :: ts)) (fun i _ => k - (intOf i).toNat)
          case atStart => exact ⟨0, by omega, rfl, by simp, HL1.out⟩
          case round =>
            clear HL1
            obtain ⟨j, hj, rfl, hnj, hl⟩ := hrel
            by_cases hjk : j < k
            · have hjk' : (j : Int) < (k : Int) := by omega
              have hjn' : (j : Int) < (n : Int) := by omega
              obtain ⟨x, hx, hx2⟩ := HFST.out j hjk
              have dj := cell_later hl.below (HV.out.1.at hx)
              have dk := cell_later hl.below HC.out.1
              have htk : (ps.take (j + 1)).map (·.1) = (ps.take j).map (·.1) ++ [x] := by
                rw [List.map_take, List.map_take, List.take_add_one, hx2]; rfl
              have htk2 : x ∈ (ps.take k).map (·.1) := by
                rw [List.map_take]
                exact List.mem_of_getElem? (i := j) (by rw [List.getElem?_take, if_pos hjk]; exact hx2)
              have HTK := Lib.hid htk; have HTK2 := Lib.hid htk2; have HNJ := Lib.hid hnj; have HL2 := Lib.hid hl
              clear htk htk2 hnj hl hx hx2
              by_cases hxv : x = v
              · have q3 : (x == v) = true := by simp [hxv]
                have hRR : R = (L, 0, 8) := HEND.out 8 (by rw [HSK.out.2, if_pos (by rw [← hxv]; exact HTK2.out)]) (by decide)
                subst hRR
                clear HEND HR hxv
                go_upto_region 13 with fail
                go_quiet (fail)
                go_wp2
                go_ret2
                exact ⟨F, I, rfl, HL2.out.drewN _⟩
              · have q3 : (x == v) = false := by simp [hxv]
                have HXV := Lib.hid hxv
                clear hxv
                go_upto_region 13 with fail
                go_quiet (fail)
                go_wp2
                go_roundw
                case rel =>
                  refine ⟨j + 1, by omega, by go_num, ?_, HL2.out.drewN _⟩
                  rw [HTK.out]
                  intro h
                  rcases List.mem_append.1 h with h | h
                  · exact HNJ.out h
                  · exact HXV.out (List.mem_singleton.1 h).symm
                case measure => simp [intOf]; omega
            · obtain rfl : j = k := by omega
              have dk2 := cell_later hl.below HC.out.2
              have his := HIS.out wr u hl
              have hsk := HSK.out.2
              rw [if_neg hnj] at hsk
              have HL2 := Lib.hid hl; have HSK2 := Lib.hid hsk
              clear hl hnj hsk
              by_cases hur : 0 ≤ u ∧ u < (L.length : Int)
              · rw [show isT L u = true from decide_eq_true hur] at his
                have HIS2 := Lib.hid his
                have hse1 : subErr L ps (j + 1) = 0 := by rw [HSK2.out, if_pos hur]
                have HSE := Lib.hid hse1
                clear his hse1 hur
                go_wp2_with (go_at_call 59; refine HIS2.out.mono ?_; rintro e w2 ⟨rfl, rfl⟩)
                go_roundw
                case rel => exact ⟨j + 1, by omega, by go_num, HSE.out, HL2.out⟩
                case measure => simp [intOf]; omega
              · rw [show isT L u = false from decide_eq_false hur] at his
                have HIS2 := Lib.hid his
                have hRR : R = (L, 0, 3) := HEND.out 3 (by rw [HSK2.out, if_neg hur]) (by decide)
                subst hRR
                clear his HEND HR hur
                go_wp2_with (go_at_call 59; refine HIS2.out.mono ?_; rintro e w2 ⟨rfl, rfl⟩)
                go_ret2
                exact ⟨F, I, rfl, HL2.out⟩
        · obtain rfl : k = n := by omega
          obtain ⟨z, rfl⟩ := Int.eq_ofNat_of_zero_le ht.1
          have hpl : ps.length = k := by rw [← HP.out, List.length_zip, HV.out.2.1, HU.out.2]; exact Nat.min_self _
          have hok : SubOk L ps := subErr_end (by rw [hpl]; exact hse)
          have hz : z < L.length := by omega
          have hRR : madeEnd z (madeRun W room L (occ L z) (subLf ps) (z + 1)) = R := by
            rw [← HR.out]
            unfold subst2R
            rw [if_pos ht, if_pos (by rw [HV.out.2.1, HU.out.2]), HP.out, substR_in hz hok]
          have HL2 := Lib.hid hl; have HOK := Lib.hid hok; have HRR := Lib.hid hRR
          clear hl hok hRR hse
          go_wp2
          refine HK.out _ _ ?_
          exact rsub_rest17 HL2.out hz HV.out.1 HU.out.1 HV.out.2.2 hn1 HG.out HP.out HOK.out HRR.out
end
end Go.Proofs.Ytcpgiadhmmmafaa
