/- Package simp: App: the arguments, one after another. -/
import Derived.Test.YtcpgiadhmmmafaaSimpL
namespace Go.Proofs.Ytcpgiadhmmmafaa
open Go.RowKit Go.Maps
set_option maxHeartbeats 1600000

noncomputable def appRest7 : Code := (Try.f26.body.bind (tailAt 7)).getD .skip
section
variable {w wr : World} {base : Nat} {F I : List Nat} {gb W room : Nat} {L : List PNode} {xb ab ca nb ib n cap o : Nat} {a : Option Addr} {xs : List Int} {fa fn fi : Nat → Value}
theorem all_snoc {L : List PNode} {xs : List Int} {k : Nat} {t : Int} (h : xs[k]? = some t) : (xs.take (k + 1)).all (isNum L) = ((xs.take k).all (isNum L) && isNum L t) := by
  rw [← take_snoc' h, List.all_append]
  simp
theorem all_decide (L : List PNode) (xs : List Int) : xs.all (isNum L) = decide (∀ t ∈ xs, isNum L t = true) := by
  rw [Bool.eq_iff_iff, List.all_eq_true, decide_eq_true_iff]
set_option maxRecDepth 100000 in
theorem sapp_loop {u3 u4 u5 u6 u7 u8 u9 u11 u12 u13 u14 u15 u16 u17 u18 u19 u20 u21 u22 u23 u24 u25 u26 u27 u28 u29 u30 u31 u32 u33 u34 u35 u36 u37 u38 u39 u40 u41 u42 u43 u44 u45 u46 u47 u48 u49 u50 u51 u52 u53 u54 u55 u56 u57 u58 u59 u60 u61 u62 u63 u64 u65 u66 u67 u68 u69 u70 u71 u72 u73 u74 u75 u76 u77 u78 u79 u80 u81 u82 u83 u84 u85 u86 u87 u88 u89 u90 u91 u92 u93 u94 u95 u96 u97 u98 u99 u100 u101 u102 u103 u104 u105 u106 u107 u108 u109 u110 u111 u112 u113 u114 u115 u116 u117 u118 u119 u120 u121 u122 u123 u124 u125 u126 u127 u128 u129 u130 u131 u132 u133 u134 u135 u136 u137 u138 u139 u140 u141 u142 u143 u144 u145 u146 u147 u148 u149 u150 u151 u152 u153 u154 u155 u156 u157 u158 u159 u160 u161 u162 u163 u164 u165 u166 u167 u168 u169 u170 u171 u172 u173 u174 u175 u176 u177 u178 u179 u180 u181 u182 u183 u184 u185 u186 u187 u188 u189 u190 u191 u192 u193 u194 u195 u196 u197 u198 u199 u200 u201 u202 u203 u204 u205 u206 u207 u208 u209 u210 u211 u212 u213 u214 u215 u216 u217 u218 u219 u220 u221 u222 u223 u224 u225 u226 u227 u228 u229 u230 u231 u232 u233 u234 u235 u236 u237 u238 u239 u240 u241 u242 u243 u244 u245 u246 u247 u248 u249 u250 u251 u252 u253 : Value} (h : Gr w base F I gb W room L) (hv : SliceOf w .i64 (.slice a n cap) xs) (hn3 : n ≤ 3) (hca : n ≤ ca) (hfa : ∀ i, i < n → fa i = .int .i64 (xs.getD i 0)) (hlab : Lab w wr (askThings xb gb ab ca nb ib n o fa fn fi)) (ho1 : 2 ≤ o) (ho2 : o ≤ 21) (hl : aryN o = n)
    (hrec : o = 11 → ∀ (x : Int) (w2 : World) (va : Value), 0 ≤ x → x < (L.length : Int) → isNum L x = false → SliceOf w2 .i64 va [x] → Gr w2 base F I gb W room L → Calls Try.prog 26 #[.pointer (some ⟨gb, 0, none⟩), .int .u8 2, va] w2 (GPost w2 base F I gb W room ((oneA L 2 x).res W room L))) :
    Code.wp Try.prog appRest7 (bodyPost Try.prog Try.f26 (GPost w base F I gb W room (if ∀ a ∈ xs, (0 : Int) ≤ a ∧ a < (L.length : Int) then (simpA W L o xs).res W room L else (L, 0, 3)))) ⟨(List.toArray (.pointer (some ⟨gb, 0, none⟩) :: .int .u8 o :: .slice a n cap :: u3 :: u4 :: u5 :: u6 :: u7 :: u8 :: u9 :: .pointer (some ⟨xb, 0, none⟩) :: u11 :: u12 :: u13 :: u14 :: u15 :: u16 :: u17 :: u18 :: u19 :: u20 :: u21 :: u22 :: u23 :: u24 :: u25 :: u26 :: u27 :: u28 :: u29 :: u30 :: u31 :: u32 :: u33 :: u34 :: u35 :: u36 :: u37 :: u38 :: u39 :: u40 :: u41 :: u42 :: u43 :: u44 :: u45 :: u46 :: u47 :: u48 :: u49 :: u50 :: u51 :: u52 :: u53 :: u54 :: u55 :: u56 :: u57 :: u58 :: u59 :: u60 :: u61 :: u62 :: u63 :: u64 :: u65 :: u66 :: u67 :: u68 :: u69 :: u70 :: u71 :: u72 :: u73 :: u74 :: u75 :: u76 :: u77 :: u78 :: u79 :: u80 :: u81 :: u82 :: u83 :: u84 :: u85 :: u86 :: u87 :: u88 :: u89 :: u90 :: u91 :: u92 :: u93 :: u94 :: u95 :: u96 :: u97 :: u98 :: u99 :: u100 :: u101 :: u102 :: u103 :: u104 :: u105 :: u106 :: u107 :: u108 :: u109 :: u110 :: u111 :: u112 :: u113 :: u114 :: u115 :: u116 :: u117 :: u118 :: u119 :: u120 :: u121 :: u122 :: u123 :: u124 :: u125 :: u126 :: u127 :: u128 :: u129 :: u130 :: u131 :: u132 :: u133 :: u134 :: u135 :: u136 :: u137 :: u138 :: u139 :: u140 :: u141 :: u142 :: u143 :: u144 :: u145 :: u146 :: u147 :: u148 :: u149 :: u150 :: u151 :: u152 :: u153 :: u154 :: u155 :: u156 :: u157 :: u158 :: u159 :: u160 :: u161 :: u162 :: u163 :: u164 :: u165 :: u166 :: u167 :: u168 :: u169 :: u170 :: u171 :: u172 :: u173 :: u174 :: u175 :: u176 :: u177 :: u178 :: u179 :: u180 :: u181 :: u182 :: u183 :: u184 :: u185 :: u186 :: u187 :: u188 :: u189 :: u190 :: u191 :: u192 :: u193 :: u194 :: u195 :: u196 :: u197 :: u198 :: u199 :: u200 :: u201 :: u202 :: u203 :: u204 :: u205 :: u206 :: u207 :: u208 :: u209 :: u210 :: u211 :: u212 :: u213 :: u214 :: u215 :: u216 :: u217 :: u218 :: u219 :: u220 :: u221 :: u222 :: u223 :: u224 :: u225 :: u226 :: u227 :: u228 :: u229 :: u230 :: u231 :: u232 :: u233 :: u234 :: u235 :: u236 :: u237 :: u238 :: u239 :: u240 :: u241 :: u242 :: u243 :: u244 :: u245 :: u246 :: u247 :: u248 :: u249 :: u250 :: u251 :: u252 :: u253 :: [])), []⟩ wr := by
  obtain ⟨R, hR⟩ : ∃ R, (if ∀ a ∈ xs, (0 : Int) ≤ a ∧ a < (L.length : Int) then (simpA W L o xs).res W room L else (L, 0, 3)) = R := ⟨_, rfl⟩
  rw [hR]
  obtain ⟨a', n', cap', e', hln, hcell⟩ := hv.parts
  simp only [Value.slice.injEq] at e'
  obtain ⟨rfl, rfl, rfl⟩ := e'
  have hll : L.length ≤ 1048576 := by have := h.len; have := h.r2; omega
  have HR := Lib.hid hR; have HG := Lib.hid h; have HC := Lib.hid hcell; have HFA := Lib.hid hfa; have HL := Lib.hid hlab; have HO := Lib.hid (And.intro ho1 (And.intro ho2 (And.intro hl hln))); have HREC := Lib.hid hrec; have HCA := Lib.hid hca
  clear hR h hv hcell hfa hlab ho1 ho2 hl hrec hln hca
  conv => arg 2; whnf
  refine wp_seq_k ?_
  intro K0 hK0
  go_cut [11] (fun s11 wx => s11 = .bool true ∧ wx = wr)
  case first =>
    go_wp2
    go_meet
    exact ⟨rfl, rfl⟩
  obtain ⟨rfl, rfl⟩ := hcut
  refine hK0 _ _ ?_
  refine wp_seq_k ?_
  intro K1 hK1
  go_cut [10, 11] (fun s10 s11 wx => s10 = .pointer (some ⟨xb, 0, none⟩) ∧ (∀ t ∈ xs, (0 : Int) ≤ t ∧ t < (L.length : Int)) ∧ s11 = .bool (xs.all (isNum L)) ∧ AskedL w wx xb gb ab ca nb ib n L o xs)
  case first =>
    go_wp2
    go_loopw [11, 52] (fun al i wx => ∃ k : Nat, k ≤ n ∧ i = .int .i64 k ∧ al = .bool ((xs.take k).all (isNum L)) ∧ (∀ t ∈ xs.take k, (0 : Int) ≤ t ∧ t < (L.length : Int)) ∧ ∃ fn fi : Nat → Value, (∀ i, i < k → fn i = .int .u64 (numD L (xs.getD i 0)) ∧ fi i = .bool (isNum L (xs.getD i 0))) ∧ Lab w wx (askThings xb gb ab ca nb ib n o fa fn fi)) (fun _ i _ => n - (intOf i).toNat)
    case atStart => exact ⟨0, by omega, rfl, rfl, by simp, fn, fi, fun i hi => by omega, HL.out⟩
    case round =>
      obtain ⟨k, hk, rfl, rfl, hin, fn2, fi2, hf2, hlab⟩ := hrel
      have HIN := Lib.hid hin; have HF2 := Lib.hid hf2
      clear hin hf2
      by_cases hlt : k < n
      · obtain ⟨b, off, t, rfl, hc, ht⟩ := HC.out k hlt
        have hc1 := cell_later hlab.below hc
        have hgx := HG.out.later hlab.below
        have hb0 := hlab.below
        by_cases t0 : t < 0
        · have hRb : (L, 0, 3) = R := by
            have hR := HR.out
            rw [if_neg (fun hh => by have := (hh t (List.mem_of_getElem? ht)).1; omega)] at hR
            exact hR
          subst hRb
          clear HR
          have HB0 := Lib.hid hb0
          clear hlab hgx ht hc hb0
          go_wp2
          go_ret2
          exact GPost.same HG.out HB0.out 0 3
        · by_cases t1 : (L.length : Int) ≤ t
          · have hRb : (L, 0, 3) = R := by
              have hR := HR.out
              rw [if_neg (fun hh => by have := (hh t (List.mem_of_getElem? ht)).2; omega)] at hR
              exact hR
            subst hRb
            clear HR
            have HB0 := Lib.hid hb0; have HGX := Lib.hid hgx
            clear hlab hgx ht hc hb0
            go_wp2_with (go_at_call 24; refine (len_any HGX.out).mono ?_; rintro e w2 ⟨rfl, rfl⟩)
            go_ret2
            exact GPost.same HG.out HB0.out 0 3
          · obtain ⟨d0, d1, d2, d3, d4⟩ := ask_head hlab
            have HGX := Lib.hid hgx; have HT := Lib.hid ht; have HLAB := Lib.hid hlab
            have hxk : xs.getD k 0 = t := by rw [List.getD_eq_getElem?_getD, ht]; rfl
            have HXK := Lib.hid hxk
            clear hgx ht hlab hc hb0 d0 d1 d2 hxk
            go_upto_region 13 with (go_at_call 24; refine (len_any HGX.out).mono ?_; rintro e w2 ⟨rfl, rfl⟩)
            refine app_region13 HGX.out HLAB.out hlt hn3 HCA.out ?_
            intro _ _ _ _ _ _ _ _ _ _ _ _ _ _ _ _ _ _ w3 hl3
            have e3 := (ask_head hl3).2.2.2.2
            have e4 := (ask_cells hl3 (i := k) hlt HCA.out).2.2
            rw [if_pos rfl] at e4
            have HL3 := Lib.hid hl3
            clear hl3 hc1 d3 d4
            cases hal : (xs.take k).all (isNum L) with
            | true =>
              have HAL := Lib.hid hal
              clear hal
              go_wp2
              go_roundw
              case rel =>
                refine ⟨k + 1, by omega, by go_num, by rw [all_snoc HT.out, HAL.out]; rfl, fun u hu => ?_, _, _, fun i hi => ?_, HL3.out⟩
                · rw [← take_snoc' HT.out] at hu
                  rcases List.mem_append.1 hu with hu | hu
                  · exact HIN.out u hu
                  · obtain rfl := List.mem_singleton.1 hu; omega
                · by_cases e : i = k
                  · subst e; rw [if_pos rfl, if_pos rfl, HXK.out]; exact ⟨rfl, rfl⟩
                  · rw [if_neg e, if_neg e]; exact HF2.out i (by omega)
              case measure => simp [intOf]; omega
            | false =>
              have HAL := Lib.hid hal
              clear hal
              go_wp2
              go_roundw
              case rel =>
                refine ⟨k + 1, by omega, by go_num, by rw [all_snoc HT.out, HAL.out]; rfl, fun u hu => ?_, _, _, fun i hi => ?_, HL3.out⟩
                · rw [← take_snoc' HT.out] at hu
                  rcases List.mem_append.1 hu with hu | hu
                  · exact HIN.out u hu
                  · obtain rfl := List.mem_singleton.1 hu; omega
                · by_cases e : i = k
                  · subst e; rw [if_pos rfl, if_pos rfl, HXK.out]; exact ⟨rfl, rfl⟩
                  · rw [if_neg e, if_neg e]; exact HF2.out i (by omega)
              case measure => simp [intOf]; omega
      · obtain rfl : k = n := by omega
        rw [List.take_of_length_le (by rw [HO.out.2.2.2]; exact Nat.le_refl _)] at HIN
        rw [List.take_of_length_le (by rw [HO.out.2.2.2]; exact Nat.le_refl _)]
        have HLAB := Lib.hid hlab
        clear hlab
        go_wp2
        go_meet
        exact ⟨rfl, HIN.out, rfl, HO.out.2.2.2, hn3, HCA.out, fa, fn2, fi2, fun i hi => ⟨HFA.out i hi, HF2.out i hi⟩, HLAB.out⟩
  case rest =>
    obtain ⟨rfl, hall, rfl, ha⟩ := hcut
    have hR := HR.out
    rw [if_pos hall] at hR
    refine hK1 _ _ ?_
    rw [← hR]
    exact sapp_all HG.out ha HO.out.1 HO.out.2.1 HO.out.2.2.1 hall (all_decide L xs) HREC.out
end
end Go.Proofs.Ytcpgiadhmmmafaa
