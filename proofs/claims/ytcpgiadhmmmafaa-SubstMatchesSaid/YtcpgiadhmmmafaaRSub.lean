/- The reference's Subst. Printed by genrsub.py out of XRSimpF. -/
import Derived.Test.YtcpgiadhmmmafaaRSimpF
import Derived.Test.YtcpgiadhmmmafaaSubE
namespace Go.Proofs.Ytcpgiadhmmmafaa
open Go.RowKit Go.Maps
set_option maxHeartbeats 3200000

noncomputable def rsubRest (k : Nat) : Code := (Try.f43.body.bind (tailR k)).getD .skip
section
variable {w0 wr w' : World} {ts : List Thing} {F I : List Nat} {rb W room : Nat} {L : List PNode}
set_option maxRecDepth 100000 in
theorem rsubst_nil (w : World) (t : Int) (v u : Value) : Calls Try.prog 43 #[.pointer none, .int .i64 t, v, u] w fun e w' => e = .returned (.tuple #[.int .i64 0, .int .i64 1]) ∧ w = w' := by
  go_enter Try.func43, Try.ntmps43
  go_wp2
  go_ret2
  exact ⟨rfl, rfl⟩
set_option maxRecDepth 100000 in
theorem rsub_rest17 {u4 u5 u6 u7 u8 u9 u10 u11 u12 u13 u14 u15 u16 u17 u18 u19 u20 u21 u22 u23 u24 u25 u26 u27 u28 u29 u30 u31 u32 u33 u34 u35 u36 u37 u38 u39 u40 u41 u42 u43 u44 u45 u46 u47 u48 u49 u50 u51 u52 u53 u54 u55 u56 u57 u58 u59 u60 u61 u62 u63 u64 u65 u66 u67 u68 u69 u70 u71 u72 u73 u74 u75 u76 u77 u78 u79 u80 u81 u82 u83 u84 u85 u86 u87 u88 u89 u90 u91 u92 u93 u94 u95 u96 u97 u98 u99 u100 u101 u102 u103 u104 u105 u106 u107 u108 u109 u110 u111 u112 u113 u114 u115 u116 u117 u118 u119 u120 u121 u122 u123 u124 u125 u126 u127 u128 u129 u130 u131 u132 u133 u134 u135 u136 u137 u138 u139 u140 u141 u142 u143 u144 u145 u146 u147 u148 u149 u150 u151 u152 u153 u154 u155 u156 u157 u158 u159 u160 u161 u162 u163 u164 u165 u166 u167 u168 u169 u170 u171 u172 u173 u174 u175 u176 u177 u178 u179 u180 u181 u182 u183 u184 u185 u186 u187 u188 u189 u190 u191 u192 u193 u194 u195 u196 u197 u198 u199 u200 u201 : Value} (h : Lab w0 wr (Thing.rgraph F I rb W room L :: ts)) {n vc uc z : Nat} {va ua : Option Addr} {vs us : List Int} (hz : z < L.length) (hv : SliceOf w0 .i64 (.slice va n vc) vs) (hu : SliceOf w0 .i64 (.slice ua n uc) us) (hvi : ∀ v ∈ vs, (Lit.int .i64 v).wf = true) (hnn : n ≤ 9223372036854775807) (hg : GoodL W L) {ps : List (Int × Int)} (hps : vs.zip us = ps) (hok : SubOk L ps) {R : List PNode × Nat × Nat} (hR : madeEnd z (madeRun W room L (occ L z) (subLf ps) (z + 1)) = R) :
    Code.wp Try.prog (rsubRest 17) (bodyPost Try.prog Try.f43 (RLabPost w0 rb W room ts R)) ⟨(List.toArray (.pointer (some ⟨rb, 0, none⟩) :: .int .i64 z :: .slice va n vc :: .slice ua n uc :: u4 :: u5 :: u6 :: u7 :: u8 :: u9 :: u10 :: u11 :: u12 :: u13 :: u14 :: u15 :: u16 :: u17 :: u18 :: u19 :: u20 :: u21 :: u22 :: u23 :: u24 :: u25 :: u26 :: u27 :: u28 :: u29 :: u30 :: u31 :: u32 :: u33 :: u34 :: u35 :: u36 :: u37 :: u38 :: u39 :: u40 :: u41 :: u42 :: u43 :: u44 :: u45 :: u46 :: u47 :: u48 :: u49 :: u50 :: u51 :: u52 :: u53 :: u54 :: u55 :: u56 :: u57 :: u58 :: u59 :: u60 :: u61 :: u62 :: u63 :: u64 :: u65 :: u66 :: u67 :: u68 :: u69 :: u70 :: u71 :: u72 :: u73 :: u74 :: u75 :: u76 :: u77 :: u78 :: u79 :: u80 :: u81 :: u82 :: u83 :: u84 :: u85 :: u86 :: u87 :: u88 :: u89 :: u90 :: u91 :: u92 :: u93 :: u94 :: u95 :: u96 :: u97 :: u98 :: u99 :: u100 :: u101 :: u102 :: u103 :: u104 :: u105 :: u106 :: u107 :: u108 :: u109 :: u110 :: u111 :: u112 :: u113 :: u114 :: u115 :: u116 :: u117 :: u118 :: u119 :: u120 :: u121 :: u122 :: u123 :: u124 :: u125 :: u126 :: u127 :: u128 :: u129 :: u130 :: u131 :: u132 :: u133 :: u134 :: u135 :: u136 :: u137 :: u138 :: u139 :: u140 :: u141 :: u142 :: u143 :: u144 :: u145 :: u146 :: u147 :: u148 :: u149 :: u150 :: u151 :: u152 :: u153 :: u154 :: u155 :: u156 :: u157 :: u158 :: u159 :: u160 :: u161 :: u162 :: u163 :: u164 :: u165 :: u166 :: u167 :: u168 :: u169 :: u170 :: u171 :: u172 :: u173 :: u174 :: u175 :: u176 :: u177 :: u178 :: u179 :: u180 :: u181 :: u182 :: u183 :: u184 :: u185 :: u186 :: u187 :: u188 :: u189 :: u190 :: u191 :: u192 :: u193 :: u194 :: u195 :: u196 :: u197 :: u198 :: u199 :: u200 :: u201 :: [])), []⟩ wr := by
  have hll : L.length ≤ 1048576 := by have := h.rgr.len; have := h.rgr.r2; omega
  have hwf := h.rgr.wf
  have hlv : vs.length = n := by obtain ⟨a', n', c', e, hl, -⟩ := hv.parts; simp only [Value.slice.injEq] at e; omega
  have hlu : us.length = n := by obtain ⟨a', n', c', e, hl, -⟩ := hu.parts; simp only [Value.slice.injEq] at e; omega
  have hmk1 : ∀ w, (Instr.makeSlice 115 (.int .i64 ((z : Int) + 1)) (.int .i64 ((z : Int) + 1))).run Try.prog w = .ok (.slice (some ⟨w.heap.size, 0, none⟩) (z + 1) (z + 1)) (w.alloc (.cells (madeCells #[.bool false] (z + 1)) 4)) :=
    run_make_row' (P := Try.prog) 115 4 (.bool false) 1 Try.underlying115 Try.infoBool rfl .i64 .i64 (z + 1) (by omega) (by omega)
  have hmk3 : ∀ w, (Instr.makeSlice 33 (.int .i64 ((z : Int) + 1)) (.int .i64 ((z : Int) + 1))).run Try.prog w = .ok (.slice (some ⟨w.heap.size, 0, none⟩) (z + 1) (z + 1)) (w.alloc (.cells (madeCells #[.int .i64 0] (z + 1)) 3)) :=
    run_make_row' (P := Try.prog) 33 3 (.int .i64 0) 8 Try.underlying33 Try.infoI64 rfl .i64 .i64 (z + 1) (by omega) (by omega)
  obtain ⟨ob, hob⟩ : ∃ ob, wr.heap.size = ob := ⟨_, rfl⟩
  have hl1 := h.make1 (z + 1) 4 (.bool false)
  rw [hob] at hl1
  have HARG := Lib.hid (And.intro hv (And.intro hu hvi)); have HPS := Lib.hid (And.intro hps (And.intro hlv hlu)); have HSO := Lib.hid (And.intro hok hg)
  have HL1 := Lib.hid hl1; have HR := Lib.hid hR; have HWF := Lib.hid hwf
  clear h hl1 hR hwf hv hu hvi hps hok hg hlv hlu
  conv => arg 2; whnf
  go_upto_region 18 with fail
  clear hob hmk1
  refine wp_abs (fun w1 => Lab w0 w1 (Thing.fn ob 4 (z + 1) (fun _ => .bool false) :: Thing.rgraph F I rb W room L :: ts)) HL1.out ?_
  clear HL1
  rintro w1 hl
  have hcl := hl.fn1.cell (i := z) (by omega)
  have hfr := hl.fn1.frozen z
  have hl2 := ((hl.set z (.bool true)).fn_congr (g := fun i => .bool (i == z)) (fun i _ => by by_cases e : i = z <;> simp [e]))
  have HL1 := Lib.hid hl2
  clear hl hl2
  go_upto_region 19 with fail
  refine wp_abs (fun w1 => Lab w0 w1 (Thing.fn ob 4 (z + 1) (fun i => .bool (i == z)) :: Thing.rgraph F I rb W room L :: ts)) HL1.out ?_
  clear HL1 hcl hfr
  rintro w2 hl
  have HL3 := Lib.hid hl
  clear hl
  go_wp2
  go_loopw [13] (fun i wr => ∃ c : Int, -1 ≤ c ∧ c ≤ (z : Int) ∧ i = .int .i64 c ∧ ∃ need, occDown L (c + 1).toNat need = occ L z ∧ Lab w0 wr (Thing.fn ob 4 (z + 1) (fun i => .bool (need i)) :: Thing.rgraph F I rb W room L :: ts)) (fun i _ => (intOf i + 1).toNat)
  case atStart => exact ⟨(z : Int), by omega, by omega, rfl, fun i => i == z, rfl, HL3.out⟩
  case round =>
    obtain ⟨c, hc0, hcM, rfl, need, hnd, hl⟩ := hrel
    by_cases hcn : 0 ≤ c
    · obtain ⟨y, rfl⟩ := Int.eq_ofNat_of_zero_le hcn
      obtain ⟨nd, hi⟩ : ∃ nd, L[y]? = some nd := ⟨_, List.getElem?_eq_getElem (by omega)⟩
      rw [show ((y : Int) + 1).toNat = y + 1 by omega] at hnd
      have hok := (HWF.out.ok nd (List.mem_of_getElem? hi)).2.2
      have hary := aryN_le nd.1
      have hargs := HWF.out.args y nd hi
      have HL6 := Lib.hid hl; have HND := Lib.hid hnd; have HI := Lib.hid hi; have HARGS := Lib.hid hargs
      clear hl hnd hi hargs
      cases hs : need y with
      | false =>
        have HS := Lib.hid hs
        clear hs
        go_wp2
        go_loopw [14] (fun k wr => k = .int .i64 0 ∧ Lab w0 wr (Thing.fn ob 4 (z + 1) (fun i => .bool (need i)) :: Thing.rgraph F I rb W room L :: ts)) (fun _ _ => 0)
        case atStart => exact ⟨rfl, HL6.out⟩
        case round =>
          obtain ⟨rfl, hl⟩ := hrel
          have d1 := hl.fn1.cell (i := y) (by omega)
          rw [HS.out] at d1
          obtain ⟨g, cap, va, c2, k0, k1, k2, hva⟩ := hl.rgr2.node HI.out
          obtain ⟨a, m, cc, rfl, hm, -⟩ := hva.slice.parts
          have HL8 := Lib.hid hl
          clear hl hva k0 k1
          have q0 : ((0 : Int) < (m : Int)) ∨ ¬ ((0 : Int) < (m : Int)) := by omega
          rcases q0 with q0 | q0
          all_goals go_wp2
          all_goals go_roundw
          all_goals first | (case rel => exact ⟨(y : Int) - 1, by omega, by omega, by go_num, need, by rw [show ((y : Int) - 1 + 1).toNat = y by omega, ← HND.out]; show _ = occDown L y (occStep L y need); rw [occStep_no HS.out], HL8.out⟩) | (case measure => simp [intOf] <;> omega)
      | true =>
        have HS := Lib.hid hs
        clear hs
        go_wp2
        go_loopw [14] (fun k wr => ∃ j : Nat, j ≤ nd.2.2.length ∧ k = .int .i64 j ∧ Lab w0 wr (Thing.fn ob 4 (z + 1) (fun i => .bool (markA need (nd.2.2.take j) i)) :: Thing.rgraph F I rb W room L :: ts)) (fun k _ => nd.2.2.length - (intOf k).toNat)
        case atStart => exact ⟨0, by omega, rfl, by rw [List.take_zero, markA_nil]; exact HL6.out⟩
        case round =>
          obtain ⟨j, hj, rfl, hl⟩ := hrel
          have d1 := hl.fn1.cell (i := y) (by omega)
          rw [show markA need (nd.2.2.take j) y = true by unfold markA; rw [HS.out]; rfl] at d1
          obtain ⟨g, cap, va, c2, k0, k1, k2, hva⟩ := hl.rgr2.node HI.out
          obtain ⟨a, m, cc, rfl, hm, -⟩ := hva.slice.parts
          by_cases hlt : j < nd.2.2.length
          · obtain ⟨b, off, u, rfl, hc, hu⟩ := SliceOf.parts' hva.slice (i := j) (by omega)
            have hub := HARGS.out u (List.mem_of_getElem? hu)
            obtain ⟨g2, rfl⟩ := Int.eq_ofNat_of_zero_le hub.1
            have hgz : (g2 : Int) < (z : Int) + 1 := by omega
            have hjm : (j : Int) < (m : Int) := by omega
            have d2 := hl.fn1.cell (i := g2) (by omega)
            have f2 := hl.fn1.frozen g2
            have HL9 := Lib.hid hl; have HU := Lib.hid hu
            clear hl hva hu hub k0 k1 hm
            go_wp2
            go_roundw
            case rel =>
              have hl6 := (HL9.out.set g2 (.bool true)).fn_congr (g := fun i => .bool (markA need (nd.2.2.take (j + 1)) i)) (fun i _ => by rw [← markA_snoc HU.out]; by_cases e : i = g2 <;> simp [e])
              exact ⟨j + 1, by omega, by go_num, hl6⟩
            case measure => simp [intOf]; omega
          · obtain rfl : j = nd.2.2.length := by omega
            have hjm : ¬ ((nd.2.2.length : Int) < (m : Int)) := by omega
            rw [List.take_length, markA_all HI.out HS.out] at hl
            have HL9 := Lib.hid hl
            clear hl hva k0 k1 hm
            go_wp2
            go_roundw
            case rel =>
              exact ⟨(y : Int) - 1, by omega, by omega, by go_num, occStep L y need, by rw [show ((y : Int) - 1 + 1).toNat = y by omega]; exact HND.out, HL9.out⟩
            case measure => simp [intOf] <;> omega
    · obtain rfl : c = -1 := by omega
      have hnd' : need = occ L z := hnd
      subst hnd'
      have HL6 := Lib.hid hl
      clear hl hnd HL3
      obtain ⟨bb, hbb⟩ : ∃ bb, wr.heap.size = bb := ⟨_, rfl⟩
      have hl7 := HL6.out.make1 (z + 1) 3 (.int .i64 0)
      rw [hbb] at hl7
      have HL7 := Lib.hid hl7
      clear hl7 hc0 hcM hcn HL6
      go_upto_region 27 with fail
      clear hbb hmk3
      refine wp_abs (fun w1 => Lab w0 w1 (Thing.fn bb 3 (z + 1) (fun _ => .int .i64 0) :: Thing.fn ob 4 (z + 1) (fun i => .bool (occ L z i)) :: Thing.rgraph F I rb W room L :: ts)) HL7.out ?_
      clear HL7
      rintro w5 hl
      obtain ⟨MR, hMR⟩ : ∃ MR, madeRun W room L (occ L z) (subLf ps) = MR := ⟨_, rfl⟩
      have h0 : MR 0 = (L, [], 0) := by rw [← hMR]; rfl
      have HMR := Lib.hid hMR; have H0 := Lib.hid h0; have HL8 := Lib.hid hl
      clear hMR h0 hl
      go_wp2
      go_loopw [16] (fun i wx => ∃ y : Nat, y ≤ z + 1 ∧ i = .int .i64 y ∧ (MR y).2.2 = 0 ∧ ∃ F4 I4, Lab w0 wx (Thing.fn bb 3 (z + 1) (fun i => .int .i64 (if i < y then (MR y).2.1.getD i 0 else 0)) :: Thing.fn ob 4 (z + 1) (fun i => .bool (occ L z i)) :: Thing.rgraph F4 I4 rb W room (MR y).1 :: ts)) (fun i _ => z + 1 - (intOf i).toNat)
      case atStart =>
        refine ⟨0, by omega, rfl, by rw [H0.out], F, I, ?_⟩
        have := HL8.out.fn_congr (g := fun i => .int .i64 (if i < 0 then (MR 0).2.1.getD i 0 else 0)) (fun i _ => by rw [if_neg (by omega)])
        rw [H0.out] at this ⊢
        exact this
      case round =>
        obtain ⟨y, hy, rfl, hmr, F4, I4, hl⟩ := hrel
        have HMR0 := Lib.hid hmr
        clear hmr
        by_cases hlt : y < z + 1
        · obtain ⟨nd, hi⟩ : ∃ nd, L[y]? = some nd := ⟨_, List.getElem?_eq_getElem (by omega)⟩
          have hmlen : (MR y).2.1.length = y := by rw [← HMR.out]; exact madeRun_len (by omega) (by rw [HMR.out]; exact HMR0.out)
          have hi2 : (MR y).1[y]? = some nd := by rw [← HMR.out]; exact prefix_at (madeRun_prefix _ _ _ _ _ _) hi
          have hok := HWF.out.ok nd (List.mem_of_getElem? hi)
          have hargs := HWF.out.args y nd hi
          obtain ⟨g, cap, va, c2, k0, k1, k2, hl1⟩ := hl.rot3.rreads hi2
          have hyz : decide (y ≤ z) = true := decide_eq_true (by omega)
          have hlen2 : y < (MR y).1.length := (List.getElem?_eq_some_iff.1 hi2).1
          obtain ⟨ax, mx, cx, rfl, hmx, -⟩ := (reads_slice hl1.head).parts
          have hm3 : mx ≤ 3 := by have := hok.2.2; have := aryN_le nd.1; omega
          obtain ⟨xb, hxb⟩ : ∃ xb, wr.heap.size = xb := ⟨_, rfl⟩
          have hl2 := (hl1.perm (.cons _ (List.perm_middle (l₁ := [_, _])).symm)).alloc #[.int .u8 nd.1, .int .u64 nd.2.1, .slice ax mx cx] 106
          rw [hxb] at hl2
          have HI := Lib.hid hi; have HML := Lib.hid hmlen; have HOK := Lib.hid hok; have HARGS := Lib.hid hargs; have HL9 := Lib.hid hl2; have HMX := Lib.hid hmx
          clear hl hl1 hl2 hi hi2 hmlen hok hargs hmx
          go_upto_region 31 with fail
          clear hxb c2 k0 k1 k2
          refine wp_abs (fun w1 => Lab w0 w1 (Thing.box xb 106 #[.int .u8 nd.1, .int .u64 nd.2.1, .slice ax mx cx] :: Thing.reads (.slice ax mx cx) nd.2.2 :: Thing.fn bb 3 (z + 1) (fun i => .int .i64 (if i < y then (MR y).2.1.getD i 0 else 0)) :: Thing.fn ob 4 (z + 1) (fun i => .bool (occ L z i)) :: Thing.rgraph F4 I4 rb W room (MR y).1 :: ts)) HL9.out ?_
          clear HL9
          rintro w6 hl
          have d1 := hl.fn3.cell (i := y) (by omega)
          have f1 := hl.fn3.frozen y
          have hl3 := hl.rot3.set y (.int .i64 y)
          have HL9 := Lib.hid (hl3.fn_congr (g := fun i => .int .i64 (if i = y then (y : Int) else if i < y then (MR y).2.1.getD i 0 else 0)) (fun i _ => by by_cases e : i = y <;> simp [e]))
          clear hl hl3
          go_upto_region 32 with fail
          clear d1 f1
          refine wp_abs (fun w1 => Lab w0 w1 (Thing.fn bb 3 (z + 1) (fun i => .int .i64 (if i = y then (y : Int) else if i < y then (MR y).2.1.getD i 0 else 0)) :: Thing.box xb 106 #[.int .u8 nd.1, .int .u64 nd.2.1, .slice ax mx cx] :: Thing.reads (.slice ax mx cx) nd.2.2 :: Thing.fn ob 4 (z + 1) (fun i => .bool (occ L z i)) :: Thing.rgraph F4 I4 rb W room (MR y).1 :: ts)) HL9.out ?_
          clear HL9
          rintro w7 hl
          have d1 := hl.fn4.cell (i := y) (by omega)
          obtain ⟨x0, x1, x2⟩ := cells3 hl.box2
          cases hO : occ L z y with
          | false =>
            rw [hO] at d1
            have HL9 := Lib.hid hl; have HO := Lib.hid hO
            clear hl hO
            go_wp2
            go_roundw
            case rel =>
              have hM : MR (y + 1) = ((MR y).1, (MR y).2.1 ++ [(y : Int)], 0) := by rw [← HMR.out, madeRun_succ (by rw [HMR.out]; exact HMR0.out), step_skip HI.out HO.out]
              refine ⟨y + 1, by omega, by go_num, by rw [hM], F4, I4, ?_⟩
              rw [hM]
              exact (HL9.out.sub (.cons_cons _ (.cons _ (.cons _ (.cons_cons _ (.cons_cons _ (List.Sublist.refl _))))))).fn_congr fun i _ => by rw [made_next HML.out]
            case measure => simp [intOf]; omega
          | true =>
            rw [hO] at d1
            have HL9 := Lib.hid hl; have HO := Lib.hid hO
            clear hl hO
            have hnn2 := subLf_nonneg HSO.out.1 y nd
            have HNN2 := Lib.hid hnn2
            clear hnn2
            clear x1 x2
            obtain ⟨lfv, hlfv⟩ : ∃ lfv, subLf ps y nd = lfv := ⟨_, rfl⟩
            have HLFV := Lib.hid hlfv
            clear hlfv
            go_upto_block 10 with fail
            go_cut [18] (fun _ wx => Lab w0 wx (Thing.fn bb 3 (z + 1) (fun i => .int .i64 (if i = y then lfv else if i < y then (MR y).2.1.getD i 0 else 0)) :: Thing.box xb 106 #[.int .u8 nd.1, .int .u64 nd.2.1, .slice ax mx cx] :: Thing.reads (.slice ax mx cx) nd.2.2 :: Thing.fn ob 4 (z + 1) (fun i => .bool (occ L z i)) :: Thing.rgraph F4 I4 rb W room (MR y).1 :: ts))
            case first =>
             go_wp2
             go_loopw [18] (fun i wx => ∃ k : Nat, k ≤ n ∧ i = .int .i64 k ∧ (nd.1 ≠ 1 → k = 0) ∧ Lab w0 wx (Thing.fn bb 3 (z + 1) (fun i => .int .i64 (if i = y then (if nd.1 = 1 then (subOf (ps.take k) nd.2.1).getD (y : Int) else (y : Int)) else if i < y then (MR y).2.1.getD i 0 else 0)) :: Thing.box xb 106 #[.int .u8 nd.1, .int .u64 nd.2.1, .slice ax mx cx] :: Thing.reads (.slice ax mx cx) nd.2.2 :: Thing.fn ob 4 (z + 1) (fun i => .bool (occ L z i)) :: Thing.rgraph F4 I4 rb W room (MR y).1 :: ts)) (fun i _ => n - (intOf i).toNat)
             case atStart =>
               refine ⟨0, by omega, rfl, fun _ => rfl, HL9.out.fn_congr fun i _ => ?_⟩
               have : (if nd.1 = 1 then (subOf (ps.take 0) nd.2.1).getD (y : Int) else (y : Int)) = (y : Int) := by split <;> rfl
               rw [this]
             case round =>
               clear HL9 x0 d1
               obtain ⟨k, hk, rfl, hk0, hl⟩ := hrel
               obtain ⟨x0, x1, x2⟩ := cells3 hl.box2
               by_cases hgo : k < n ∧ nd.1 = 1
               · obtain ⟨hlt6, hv1⟩ := hgo
                 have hlt6' : (k : Int) < (n : Int) := by omega
                 have hq1 : ((nd.1 : Int) == 1) = true := by rw [beq_iff_eq]; omega
                 obtain ⟨b1, o1, v, rfl, hc1, hvk⟩ := (HARG.out.1.below hl.below).parts' hlt6
                 obtain ⟨b2, o2, u, rfl, hc2, huk⟩ := (HARG.out.2.1.below hl.below).parts' hlt6
                 have hp : ps[k]? = some (v, u) := by rw [← HPS.out.1]; exact List.getElem?_zip_eq_some.2 ⟨hvk, huk⟩
                 have hnum : nd.2.1 ≤ 18446744073709551615 := HOK.out.2.1
                 have hwv := HARG.out.2.2 v (List.mem_of_getElem? hvk)
                 have hvb : -9223372036854775808 ≤ v ∧ v ≤ 9223372036854775807 := by simp [Lit.wf, IntKind.min, IntKind.max, IntKind.signed, IntKind.bits] at hwv; omega
                 have hsn : subOf (ps.take (k + 1)) nd.2.1 = (subOf (ps.take k) nd.2.1).or (if v = (nd.2.1 : Int) then some u else none) := by rw [take_snoc2 hp, subOf_snoc]
                 have HSN := Lib.hid hsn; have HP := Lib.hid hp; have HL10 := Lib.hid hl; have HV1 := Lib.hid hv1
                 have dy := hl.fn1.cell (i := y) (by omega)
                 have fy := hl.fn1.frozen y
                 clear hl hvk huk hp hwv hsn hv1 hk0
                 by_cases hvv : v = (nd.2.1 : Int)
                 · have hv0 : decide (v ≥ 0) = true := by simp; omega
                   have hv0' : (0 : Int) ≤ v := by omega
                   have hvm : IntKind.u64.wrap v = v := by simp [IntKind.wrap, IntKind.bits, IntKind.signed]; omega
                   have hq2 : (v == (nd.2.1 : Int)) = true := by simp [hvv]
                   have HVV := Lib.hid hvv
                   clear hvv
                   go_upto_region 36 with fail
                   go_quiet (fail)
                   go_upto_region 37 with fail
                   refine wp_abs (fun w8 => Lab w0 w8 (Thing.fn bb 3 (z + 1) (fun i => .int .i64 (if i = y then (if nd.1 = 1 then (subOf (ps.take k) nd.2.1).getD (y : Int) else (y : Int)) else if i < y then (MR y).2.1.getD i 0 else 0)) :: Thing.box xb 106 #[.int .u8 nd.1, .int .u64 nd.2.1, .slice ax mx cx] :: Thing.reads (.slice ax mx cx) nd.2.2 :: Thing.fn ob 4 (z + 1) (fun i => .bool (occ L z i)) :: Thing.rgraph F4 I4 rb W room (MR y).1 :: ts) ∧ w8.cell? ⟨b2, o2 + k, none⟩ = some (.int .i64 u)) ⟨HL10.out.drewN _, by simpa using hc2⟩ ?_
                   clear hc1 hc2 dy fy x0 x1 x2 HL10
                   rintro w8 ⟨hl, hc2⟩
                   have dy := hl.fn1.cell (i := y) (by omega)
                   have fy := hl.fn1.frozen y
                   have HL10 := Lib.hid hl
                   clear hl
                   go_wp2
                   go_roundw
                   case rel =>
                     refine ⟨k + 1, by omega, by go_num, fun h => absurd HV1.out h, (HL10.out.set y (.int .i64 u)).fn_congr fun i _ => ?_⟩
                     have hno : subOf (ps.take k) nd.2.1 = none := subOf_none.2 fun s hs => by
                       obtain ⟨j, hj⟩ := List.mem_iff_getElem?.1 hs
                       rw [List.getElem?_take] at hj
                       split at hj
                       · rename_i hjk
                         have h1 : (ps.map (·.1))[j]? = some v := by rw [List.getElem?_map, hj]; show some (nd.2.1 : Int) = _; rw [HVV.out]
                         have h2 : (ps.map (·.1))[k]? = some v := by rw [List.getElem?_map, HP.out]; rfl
                         have := (List.getElem?_inj (List.getElem?_eq_some_iff.1 h1).1 HSO.out.1.1).1 (h1.trans h2.symm)
                         omega
                       · cases hj
                     by_cases e : i = y
                     · subst e
                       rw [if_pos rfl, if_pos rfl, if_pos HV1.out, HSN.out, hno, if_pos HVV.out]; rfl
                     · rw [if_neg e, if_neg e, if_neg e]
                   case measure => simp [intOf]; omega
                 · have HVV := Lib.hid hvv
                   have hsame : subOf (ps.take (k + 1)) nd.2.1 = subOf (ps.take k) nd.2.1 := by rw [HSN.out, if_neg hvv, Option.or_none]
                   have HS6 := Lib.hid hsame
                   clear hsame
                   by_cases hv0n : 0 ≤ v
                   · have hv0 : decide (v ≥ 0) = true := by simp; omega
                     have hvm : IntKind.u64.wrap v = v := by simp [IntKind.wrap, IntKind.bits, IntKind.signed]; omega
                     have hq2 : (v == (nd.2.1 : Int)) = false := by simp [hvv]
                     clear hvv
                     go_upto_region 36 with fail
                     go_quiet (fail)
                     go_wp2
                     go_roundw
                     case rel => exact ⟨k + 1, by omega, by go_num, fun h => absurd HV1.out h, by rw [HS6.out]; exact HL10.out.drewN _⟩
                     case measure => simp [intOf]; omega
                   · have hv0 : decide (v ≥ 0) = false := by simp; omega
                     clear hvv
                     go_upto_region 36 with fail
                     go_quiet (fail)
                     go_wp2
                     go_roundw
                     case rel => exact ⟨k + 1, by omega, by go_num, fun h => absurd HV1.out h, by rw [HS6.out]; exact HL10.out.drewN _⟩
                     case measure => simp [intOf]; omega
               · have hlf : (if nd.1 = 1 then (subOf (ps.take k) nd.2.1).getD (y : Int) else (y : Int)) = subLf ps y nd := by
                   unfold subLf
                   by_cases e1 : nd.1 = 1
                   · have hkn : k = n := by
                       have : ¬ k < n := fun h => hgo ⟨h, e1⟩
                       omega
                     rw [if_pos e1, if_pos e1, hkn, List.take_of_length_le (by rw [← HPS.out.1, List.length_zip, HPS.out.2.1, HPS.out.2.2]; omega)]
                   · rw [if_neg e1, if_neg e1]
                 rw [hlf] at hl
                 rw [HLFV.out] at hl
                 have HL9 := Lib.hid hl
                 have htest : (k : Int) < (n : Int) ∧ ((nd.1 : Int) == 1) = false ∨ ¬ (k : Int) < (n : Int) := by
                   by_cases e : k < n
                   · exact .inl ⟨by omega, by rw [beq_eq_false_iff_ne]; intro e1; exact hgo ⟨e, by omega⟩⟩
                   · exact .inr (by omega)
                 clear hl hlf hgo hk0
                 rcases htest with ⟨t1, t2⟩ | t1
                 · go_wp2
                   go_meet
                   exact HL9.out
                 · go_wp2
                   go_meet
                   exact HL9.out
            case rest =>
             rename_i K6 hK6
             refine hK6 _ _ ?_
             clear hK6
             refine wp_abs (fun w7 => Lab w0 w7 (Thing.fn bb 3 (z + 1) (fun i => .int .i64 (if i = y then lfv else if i < y then (MR y).2.1.getD i 0 else 0)) :: Thing.box xb 106 #[.int .u8 nd.1, .int .u64 nd.2.1, .slice ax mx cx] :: Thing.reads (.slice ax mx cx) nd.2.2 :: Thing.fn ob 4 (z + 1) (fun i => .bool (occ L z i)) :: Thing.rgraph F4 I4 rb W room (MR y).1 :: ts)) hcut ?_
             clear hcut HL9 d1 x0
             rintro w7 hl
             obtain ⟨x0, x1, x2⟩ := cells3 hl.box2
             have HL9 := Lib.hid hl
             clear hl
             by_cases hm0 : mx = 0
             · subst hm0
               have hnil : nd.2.2 = [] := List.length_eq_zero_iff.1 HMX.out
               have HNIL := Lib.hid hnil
               clear hnil
               go_wp2
               go_roundw
               case rel =>
                 have hM : MR (y + 1) = ((MR y).1, (MR y).2.1 ++ [lfv], 0) := by rw [← HMR.out, madeRun_succ (by rw [HMR.out]; exact HMR0.out), step_leaf HI.out HO.out HNIL.out, HLFV.out]
                 refine ⟨y + 1, by omega, by go_num, by rw [hM], F4, I4, ?_⟩
                 rw [hM]
                 exact (HL9.out.sub (.cons_cons _ (.cons _ (.cons _ (.cons_cons _ (.cons_cons _ (List.Sublist.refl _))))))).fn_congr fun i _ => by rw [made_next HML.out]
               case measure => simp [intOf]; omega
             · have hm1 : ((mx : Int) == 0) = false := by rw [beq_eq_false_iff_ne]; omega
               go_wp2
               clear x0 x1 x2
               go_loopw [19, 20] (fun v i wx => ∃ k : Nat, k ≤ mx ∧ i = .int .i64 k ∧ OwnInts wx w7.heap.size 3 .i64 v ((nd.2.2.map fun a => (MR y).2.1.getD a.toNat 0).take k) ∧ Below w7.heap.size w7 wx) (fun _ i _ => mx - (intOf i).toNat)
               case atStart => exact ⟨0, by omega, rfl, OwnInts.nil _ _ _ _, Below.refl _ _⟩
               case round =>
                 obtain ⟨k, hk, rfl, hown, hbr⟩ := hrel
                 have hl := HL9.out.later hbr
                 obtain ⟨x0, x1, x2⟩ := cells3 hl.box2
                 have hbs := hbr.size
                 by_cases hlt3 : k < mx
                 · have hsl : SliceOf wr .i64 (.slice ax mx cx) nd.2.2 := reads_slice hl.third
                   obtain ⟨b, off, u, rfl, hc, hu⟩ := hsl.parts' hlt3
                   obtain ⟨g, rfl⟩ := Int.eq_ofNat_of_zero_le (HARGS.out u (List.mem_of_getElem? hu)).1
                   have hgy : (g : Int) < (y : Int) := (HARGS.out _ (List.mem_of_getElem? hu)).2
                   have hgz : (g : Int) < (z : Int) + 1 := by omega
                   have d2 := hl.fn1.cell (i := g) (by omega)
                   rw [if_neg (by omega), if_pos (by omega)] at d2
                   have hval : (nd.2.2.map fun a => (MR y).2.1.getD a.toNat 0).take (k + 1) = (nd.2.2.map fun a => (MR y).2.1.getD a.toNat 0).take k ++ [(MR y).2.1.getD g 0] := by
                     rw [List.take_add_one, List.getElem?_map, hu]; rfl
                   have hlen3 : ((nd.2.2.map fun a => (MR y).2.1.getD a.toNat 0).take k).length ≤ 1000000000 := by have := List.length_take_le k (nd.2.2.map fun a => (MR y).2.1.getD a.toNat 0); omega
                   have HV := Lib.hid hval; have HBR := Lib.hid hbr
                   clear hl hsl hu hval hbr
                   go_wp2_with (at_builtin; refine wpList_append1_int 33 3 .i64 w7.heap.size _ _ _ ((MR y).2.1.getD g 0) 8 hown _ _ rfl rfl Try.underlying33 Try.infoI64 (by decide) rfl rfl hlen3 hbs ?_; intro v' w' hown' hb' hv')
                   go_roundw
                   case rel => exact ⟨k + 1, by omega, by go_num, by rw [HV.out]; exact hown', HBR.out.trans hb'⟩
                   case measure => simp [intOf]; omega
                 · obtain rfl : k = mx := by omega
                   rw [List.take_of_length_le (by rw [List.length_map, HMX.out]; exact Nat.le_refl _)] at hown
                   have hsl2 := OwnInts.slice hown
                   have hg7 := hl.rot5
                   obtain ⟨R2, hR2⟩ : ∃ R2, simpR W room (MR y).1 nd.1 (nd.2.2.map fun a => (MR y).2.1.getD a.toNat 0) = R2 := ⟨_, rfl⟩
                   have hcall := rsapp_any hg7.rgr nd.1 (by have := HOK.out.1; omega) (nd.2.2.map fun a => (MR y).2.1.getD a.toNat 0) _ hsl2
                   rw [hR2] at hcall
                   have HG7 := Lib.hid hg7; have HC := Lib.hid hcall; have HR2 := Lib.hid hR2
                   clear hl hsl2 hg7 hcall hR2 x1 hown hbr hbs
                   go_wp2_with fail
                   go_at_call 50
                   refine HC.out.mono ?_
                   intro e w9 hp
                   obtain ⟨F5, I5, rfl, hl9⟩ := HG7.out.rpost hp
                   have HL12 := Lib.hid hl9
                   clear hp hl9 x0
                   have hstep : MR (y + 1) = if R2.2.2 = 0 then (R2.1, (MR y).2.1 ++ [(R2.2.1 : Int)], 0) else (R2.1, (MR y).2.1, R2.2.2) := by
                     rw [← HMR.out, madeRun_succ (by rw [HMR.out]; exact HMR0.out), step_app HI.out HO.out (fun e => by have := HMX.out; rw [e] at this; simp at this; omega) rfl, HMR.out, HR2.out]
                   have HST := Lib.hid hstep
                   clear hstep
                   obtain ⟨L6, t6, e6⟩ := R2
                   by_cases he : e6 = 0
                   · subst he
                     have hM : MR (y + 1) = (L6, (MR y).2.1 ++ [(t6 : Int)], 0) := HST.out.trans (if_pos rfl)
                     have e1 : (((0 : Nat) : Int) != 0) = false := by simp
                     have d2 := HL12.out.fn2.cell (i := y) (by omega)
                     have f2 := HL12.out.fn2.frozen y
                     have HM := Lib.hid hM
                     clear hM
                     go_wp2
                     go_roundw
                     case rel =>
                       refine ⟨y + 1, by omega, by go_num, by rw [HM.out], F5, I5, ?_⟩
                       rw [HM.out]
                       exact ((HL12.out.sub (.cons_cons _ (.cons_cons _ (.cons _ (.cons _ (.cons_cons _ (List.Sublist.refl _))))))).rot3'.set y (.int .i64 t6)).fn_congr fun i _ => by rw [made_next HML.out]; by_cases e : i = y <;> simp [e]
                     case measure => simp [intOf]; omega
                   · have e1 : ((e6 : Int) != 0) = true := by rw [bne_iff_ne]; omega
                     have hM : MR (y + 1) = (L6, (MR y).2.1, e6) := HST.out.trans (if_neg he)
                     have hend : MR (z + 1) = (L6, (MR y).2.1, e6) := by
                       rw [← hM, ← HMR.out]
                       exact madeRun_stop (by rw [HMR.out, hM]; exact he) (by omega)
                     have hRR : R = (L6, 0, e6) := by
                       rw [← HR.out]
                       unfold madeEnd
                       rw [HMR.out, hend]
                       exact if_neg he
                     subst hRR
                     clear hM hend
                     go_wp2
                     go_ret2
                     exact ⟨F5, I5, rfl, HL12.out.sub (.cons_cons _ (.cons _ (.cons _ (.cons _ (.cons _ (List.Sublist.refl _))))))⟩
        · obtain rfl : y = z + 1 := by omega
          have d1 := hl.fn1.cell (i := z) (by omega)
          rw [if_pos (by omega)] at d1
          have hnn : 0 ≤ (MR (z + 1)).2.1.getD z 0 := by
            have := madeRun_nonneg (W := W) (room := room) (L0 := L) (O := occ L z) (lf := subLf ps) (subLf_nonneg HSO.out.1) (z + 1)
            rw [HMR.out] at this
            rw [List.getD_eq_getElem?_getD]
            cases hq : (MR (z + 1)).2.1[z]? with
            | none => simp
            | some q => exact this q (List.mem_of_getElem? hq)
          obtain ⟨q, hq⟩ := Int.eq_ofNat_of_zero_le hnn
          rw [hq] at d1
          have hRR : R = ((MR (z + 1)).1, q, 0) := by
            rw [← HR.out]
            unfold madeEnd
            rw [HMR.out, if_pos HMR0.out, hq]; rfl
          subst hRR
          have HL9 := Lib.hid hl
          clear hl hq hnn
          go_wp2
          go_ret2
          exact ⟨F4, I4, rfl, HL9.out.drop.drop⟩
end
end Go.Proofs.Ytcpgiadhmmmafaa
