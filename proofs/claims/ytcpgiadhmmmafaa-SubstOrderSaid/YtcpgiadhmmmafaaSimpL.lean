/- Package simp: App: all arguments are numbers, or not. Package simp: App: an argument's number is stored. -/
import Derived.Test.YtcpgiadhmmmafaaSimpJ
namespace Go.Proofs.Ytcpgiadhmmmafaa
open Go.RowKit Go.Maps
set_option maxHeartbeats 1600000

noncomputable def appRest16 : Code := (Try.f26.body.bind (tailAt 16)).getD .skip
section
variable {w wr : World} {base : Nat} {F I : List Nat} {gb W room : Nat} {L : List PNode} {xb ab ca nb ib n o : Nat} {xs : List Int}
/-- What the rules make of arguments in their order is the simple term. -/
theorem simpA_rules (ho1 : 2 ≤ o) (ho2 : o ≤ 21) (hl : aryN o = xs.length) (hnn : ¬ ∀ t ∈ xs, isNum L t = true) : firstR W room L o (ordA L o xs) = (simpA W L o xs).res W room L := by
  unfold firstR simpA
  rw [if_neg hnn]
  have h3 := aryN_le o
  match xs, hl with
  | [], h => have : o = 2 ∨ o = 3 ∨ o = 4 ∨ o = 5 ∨ o = 6 ∨ o = 7 ∨ o = 8 ∨ o = 9 ∨ o = 10 ∨ o = 11 ∨ o = 12 ∨ o = 13 ∨ o = 14 ∨ o = 15 ∨ o = 16 ∨ o = 17 ∨ o = 18 ∨ o = 19 ∨ o = 20 ∨ o = 21 := by omega
             rcases this with rfl | rfl | rfl | rfl | rfl | rfl | rfl | rfl | rfl | rfl | rfl | rfl | rfl | rfl | rfl | rfl | rfl | rfl | rfl | rfl <;> cases h
  | [x], h =>
    have h2 : o = 2 ∨ o = 3 := by
      have : o = 2 ∨ o = 3 ∨ o = 4 ∨ o = 5 ∨ o = 6 ∨ o = 7 ∨ o = 8 ∨ o = 9 ∨ o = 10 ∨ o = 11 ∨ o = 12 ∨ o = 13 ∨ o = 14 ∨ o = 15 ∨ o = 16 ∨ o = 17 ∨ o = 18 ∨ o = 19 ∨ o = 20 ∨ o = 21 := by omega
      rcases this with rfl | rfl | rfl | rfl | rfl | rfl | rfl | rfl | rfl | rfl | rfl | rfl | rfl | rfl | rfl | rfl | rfl | rfl | rfl | rfl <;> first | (left; rfl) | (right; rfl) | cases h
    show (firstA W L o x _ _ [x] (rulesOf o)).res W room L = _
    rw [first_one W L h2]
  | [x, y], h =>
    have h2 : 4 ≤ o ∧ o ≤ 20 := by
      have : o = 2 ∨ o = 3 ∨ (4 ≤ o ∧ o ≤ 20) ∨ o = 21 := by omega
      rcases this with rfl | rfl | h2 | rfl <;> first | exact h2 | cases h
    show Ans.res W room L _ = Ans.res W room L (if swapA L o x y then twoA W L o y x else twoA W L o x y)
    by_cases hs : swapA L o x y
    · have e : ordA L o [x, y] = [y, x] := if_pos hs
      rw [e, if_pos hs]
      exact congrArg _ (first_two W L o y x _ h2.1 h2.2)
    · have e : ordA L o [x, y] = [x, y] := if_neg hs
      rw [e, if_neg hs]
      exact congrArg _ (first_two W L o x y _ h2.1 h2.2)
  | [x, y, z], h =>
    have h2 : o = 21 := by
      have : o = 2 ∨ o = 3 ∨ o = 4 ∨ o = 5 ∨ o = 6 ∨ o = 7 ∨ o = 8 ∨ o = 9 ∨ o = 10 ∨ o = 11 ∨ o = 12 ∨ o = 13 ∨ o = 14 ∨ o = 15 ∨ o = 16 ∨ o = 17 ∨ o = 18 ∨ o = 19 ∨ o = 20 ∨ o = 21 := by omega
      rcases this with rfl | rfl | rfl | rfl | rfl | rfl | rfl | rfl | rfl | rfl | rfl | rfl | rfl | rfl | rfl | rfl | rfl | rfl | rfl | rfl <;> first | rfl | cases h
    subst h2
    exact congrArg _ (first_three W L x y z)
  | _ :: _ :: _ :: _ :: _, h => simp at h; omega
theorem numD_lt (h : WFL L) (t : Int) : numD L t < 18446744073709551616 := by
  unfold numD
  cases hn : numOf L t with
  | none => simp
  | some c =>
    obtain ⟨_, n, hi, _, hc⟩ := numOf_at hn
    have := (h.ok n (List.mem_of_getElem? hi)).2.1
    show c < _
    omega
set_option maxRecDepth 100000 in
theorem sapp_all {u2 u3 u4 u5 u6 u7 u8 u9 u12 u13 u14 u15 u16 u17 u18 u19 u20 u21 u22 u23 u24 u25 u26 u27 u28 u29 u30 u31 u32 u33 u34 u35 u36 u37 u38 u39 u40 u41 u42 u43 u44 u45 u46 u47 u48 u49 u50 u51 u52 u53 u54 u55 u56 u57 u58 u59 u60 u61 u62 u63 u64 u65 u66 u67 u68 u69 u70 u71 u72 u73 u74 u75 u76 u77 u78 u79 u80 u81 u82 u83 u84 u85 u86 u87 u88 u89 u90 u91 u92 u93 u94 u95 u96 u97 u98 u99 u100 u101 u102 u103 u104 u105 u106 u107 u108 u109 u110 u111 u112 u113 u114 u115 u116 u117 u118 u119 u120 u121 u122 u123 u124 u125 u126 u127 u128 u129 u130 u131 u132 u133 u134 u135 u136 u137 u138 u139 u140 u141 u142 u143 u144 u145 u146 u147 u148 u149 u150 u151 u152 u153 u154 u155 u156 u157 u158 u159 u160 u161 u162 u163 u164 u165 u166 u167 u168 u169 u170 u171 u172 u173 u174 u175 u176 u177 u178 u179 u180 u181 u182 u183 u184 u185 u186 u187 u188 u189 u190 u191 u192 u193 u194 u195 u196 u197 u198 u199 u200 u201 u202 u203 u204 u205 u206 u207 u208 u209 u210 u211 u212 u213 u214 u215 u216 u217 u218 u219 u220 u221 u222 u223 u224 u225 u226 u227 u228 u229 u230 u231 u232 u233 u234 u235 u236 u237 u238 u239 u240 u241 u242 u243 u244 u245 u246 u247 u248 u249 u250 u251 u252 u253 : Value} {all : Bool} (h : Gr w base F I gb W room L) (ha : AskedL w wr xb gb ab ca nb ib n L o xs) (ho1 : 2 ≤ o) (ho2 : o ≤ 21) (hl : aryN o = n) (hys : ∀ t ∈ xs, (0 : Int) ≤ t ∧ t < (L.length : Int)) (hall : all = decide (∀ t ∈ xs, isNum L t = true))
    (hrec : o = 11 → ∀ (x : Int) (w2 : World) (va : Value), 0 ≤ x → x < (L.length : Int) → isNum L x = false → SliceOf w2 .i64 va [x] → Gr w2 base F I gb W room L → Calls Try.prog 26 #[.pointer (some ⟨gb, 0, none⟩), .int .u8 2, va] w2 (GPost w2 base F I gb W room ((oneA L 2 x).res W room L))) :
    Code.wp Try.prog appRest16 (bodyPost Try.prog Try.f26 (GPost w base F I gb W room ((simpA W L o xs).res W room L))) ⟨(List.toArray (.pointer (some ⟨gb, 0, none⟩) :: .int .u8 o :: u2 :: u3 :: u4 :: u5 :: u6 :: u7 :: u8 :: u9 :: .pointer (some ⟨xb, 0, none⟩) :: .bool all :: u12 :: u13 :: u14 :: u15 :: u16 :: u17 :: u18 :: u19 :: u20 :: u21 :: u22 :: u23 :: u24 :: u25 :: u26 :: u27 :: u28 :: u29 :: u30 :: u31 :: u32 :: u33 :: u34 :: u35 :: u36 :: u37 :: u38 :: u39 :: u40 :: u41 :: u42 :: u43 :: u44 :: u45 :: u46 :: u47 :: u48 :: u49 :: u50 :: u51 :: u52 :: u53 :: u54 :: u55 :: u56 :: u57 :: u58 :: u59 :: u60 :: u61 :: u62 :: u63 :: u64 :: u65 :: u66 :: u67 :: u68 :: u69 :: u70 :: u71 :: u72 :: u73 :: u74 :: u75 :: u76 :: u77 :: u78 :: u79 :: u80 :: u81 :: u82 :: u83 :: u84 :: u85 :: u86 :: u87 :: u88 :: u89 :: u90 :: u91 :: u92 :: u93 :: u94 :: u95 :: u96 :: u97 :: u98 :: u99 :: u100 :: u101 :: u102 :: u103 :: u104 :: u105 :: u106 :: u107 :: u108 :: u109 :: u110 :: u111 :: u112 :: u113 :: u114 :: u115 :: u116 :: u117 :: u118 :: u119 :: u120 :: u121 :: u122 :: u123 :: u124 :: u125 :: u126 :: u127 :: u128 :: u129 :: u130 :: u131 :: u132 :: u133 :: u134 :: u135 :: u136 :: u137 :: u138 :: u139 :: u140 :: u141 :: u142 :: u143 :: u144 :: u145 :: u146 :: u147 :: u148 :: u149 :: u150 :: u151 :: u152 :: u153 :: u154 :: u155 :: u156 :: u157 :: u158 :: u159 :: u160 :: u161 :: u162 :: u163 :: u164 :: u165 :: u166 :: u167 :: u168 :: u169 :: u170 :: u171 :: u172 :: u173 :: u174 :: u175 :: u176 :: u177 :: u178 :: u179 :: u180 :: u181 :: u182 :: u183 :: u184 :: u185 :: u186 :: u187 :: u188 :: u189 :: u190 :: u191 :: u192 :: u193 :: u194 :: u195 :: u196 :: u197 :: u198 :: u199 :: u200 :: u201 :: u202 :: u203 :: u204 :: u205 :: u206 :: u207 :: u208 :: u209 :: u210 :: u211 :: u212 :: u213 :: u214 :: u215 :: u216 :: u217 :: u218 :: u219 :: u220 :: u221 :: u222 :: u223 :: u224 :: u225 :: u226 :: u227 :: u228 :: u229 :: u230 :: u231 :: u232 :: u233 :: u234 :: u235 :: u236 :: u237 :: u238 :: u239 :: u240 :: u241 :: u242 :: u243 :: u244 :: u245 :: u246 :: u247 :: u248 :: u249 :: u250 :: u251 :: u252 :: u253 :: [])), []⟩ wr := by
  by_cases hc : ∀ t ∈ xs, isNum L t = true
  · obtain rfl : all = true := hall.trans (decide_eq_true hc)
    have ha2 := ha.asked
    have hns : SliceOf wr .u64 (.slice (some ⟨nb, 0, none⟩) n n) (xs.map fun t => (numD L t : Int)) := by
      refine ⟨_, _, _, rfl, by simp [ha2.len], fun i hi => ⟨nb, 0, rfl, ?_⟩⟩
      have hix : i < xs.length := by rw [ha2.len]; exact hi
      rw [Nat.zero_add, ha2.num i hi]
      simp [hix]
    have hbd := wI_bounds o W (xs.map fun t => (numD L t : Int)) (by have := h.w1; omega) (by have := h.w2; omega)
    have hz := wE_zero h.w1 h.w2 ho1 ho2 (hl.trans ha2.len.symm)
    have hpw : 2 ^ W ≤ 2 ^ 64 := Nat.pow_le_pow_right (by decide) h.w2
    have hap := fun w' (hb : Below wr.heap.size wr w') => apply_any (o : Int) (W : Int) (by omega) (by omega) _ _ w' (hns.below hb) (by
      intro x hx
      obtain ⟨t, -, rfl⟩ := List.mem_map.1 hx
      have := numD_lt h.wf t
      omega) (by rw [List.length_map, ha2.len]; have := ha2.nlt; omega)
    rw [List.length_map, hz] at hap
    have hR : (simpA W L o xs).res W room L = constR W room L (wI o W (xs.map fun t => (numD L t : Int))).toNat := by unfold simpA; rw [if_pos hc]; rfl
    obtain ⟨q, hq⟩ : ∃ q : Nat, wI o W (xs.map fun t => (numD L t : Int)) = (q : Int) := ⟨_, (Int.toNat_of_nonneg hbd.1).symm⟩
    rw [hq] at hap hbd hR
    rw [hR, Int.toNat_natCast]
    rw [Int.toNat_natCast] at hbd
    have c3 := ha2.c3
    have hq64 : q < 18446744073709551616 := by omega
    have HG := Lib.hid (h.later ha.below); have HB := Lib.hid ha.below; have HAP := Lib.hid hap; have HQ64 := Lib.hid hq64
    clear h ha ha2 hns hbd hz hpw hap hR hq hrec hys hc hall hl
    conv => arg 2; whnf
    go_upto_region 17 with fail
    go_region_held3 (fun w' => w'.cell? ⟨xb, 3, none⟩ = some (.slice (some ⟨nb, 0, none⟩) n n)) (first | exact c3 | go_keep)
      (first
        | (go_at_call 35; refine (width_any (HG.out.later (below_drewN (Below.refl _ _) 1))).mono ?_; rintro e w3 ⟨rfl, rfl⟩)
        | (go_at_call 56; refine (HAP.out _ (below_drewN (Below.refl _ _) 1)).mono ?_; rintro e w3 ⟨rfl, hb3⟩; have c3' := cell_later hb3 (show (wr.drewN 1).cell? ⟨xb, 3, none⟩ = some (.slice (some ⟨nb, 0, none⟩) n n) from c3)))
    have hbz := (below_drewN (Below.refl wr.heap.size wr) 1).trans (hb3.mono (below_drewN (Below.refl wr.heap.size wr) 1).size)
    have HC := Lib.hid (const_any (HG.out.later hbz) q HQ64.out)
    have HBZ := Lib.hid hbz
    clear hb3 hbz c3 c3' hq64
    go_wp2_with fail
    go_at_call 40
    refine HC.out.mono ?_
    intro e w4 hp
    obtain ⟨F', I', rfl, hrest⟩ := hp.later (HB.out.trans (HBZ.out.mono HB.out.size))
    have HQ := Lib.hid hrest
    clear hp hrest
    go_wp2
    go_ret2
    exact ⟨F', I', rfl, HQ.out⟩
  · obtain rfl : all = false := hall.trans (decide_eq_false hc)
    rw [← simpA_rules ho1 ho2 (hl.trans ha.len.symm) hc]
    have HG := Lib.hid h; have HA := Lib.hid ha; have HYS := Lib.hid hys; have HC := Lib.hid hc; have HREC := Lib.hid hrec
    have HO := Lib.hid (And.intro ho1 (And.intro ho2 hl))
    clear h ha hys hc hrec ho1 ho2 hl hall
    conv => arg 2; whnf
    refine wp_seq_k ?_
    intro K hK
    go_cut [10] (fun s10 wx => s10 = .pointer (some ⟨xb, 0, none⟩) ∧ wx = wr)
    case first =>
      go_wp2
      go_meet
      exact ⟨rfl, rfl⟩
    case rest =>
      obtain ⟨rfl, rfl⟩ := hcut
      refine hK _ _ ?_
      exact sapp_swap HG.out HA.out HO.out.1 HO.out.2.1 HO.out.2.2 HYS.out HC.out HREC.out
end
end Go.Proofs.Ytcpgiadhmmmafaa
namespace Go.Proofs.Ytcpgiadhmmmafaa
open Go.RowKit Go.Maps
set_option maxHeartbeats 1600000

section
variable {w w0 : World} {base : Nat} {F I : List Nat} {gb W room : Nat} {L : List PNode} {xb ab ca nb ib n o k : Nat} {t : Int} {fa fn fi : Nat → Value}
set_option maxRecDepth 100000 in
theorem app_region13 {u1 u2 u3 u4 u5 u6 u7 u8 u9 u11 u14 u15 u16 u17 u18 u19 u20 u21 u22 u23 u24 u25 u26 u27 u28 u29 u30 u31 u32 u33 u34 u35 u36 u37 u38 u39 u40 u41 u42 u43 u44 u45 u46 u47 u48 u49 u50 u51 u52 u53 u54 u55 u56 u57 u58 u59 u60 u61 u62 u63 u64 u65 u66 u67 u68 u69 u70 u71 u72 u73 u74 u75 u76 u77 u78 u79 u80 u81 u82 u83 u84 u85 u86 u87 u88 u89 u90 u91 u92 u93 u94 u95 u96 u97 u98 u99 u100 u101 u102 u103 u104 u105 u106 u107 u108 u109 u110 u111 u112 u113 u114 u115 u116 u117 u118 u119 u120 u121 u122 u123 u124 u125 u126 u127 u128 u129 u130 u131 u132 u133 u134 u135 u136 u137 u138 u139 u140 u141 u142 u143 u144 u145 u146 u147 u148 u149 u150 u151 u152 u153 u154 u155 u156 u157 u158 u159 u160 u161 u162 u163 u164 u165 u166 u167 u168 u169 u170 u171 u172 u173 u174 u175 u176 u177 u178 u179 u180 u181 u182 u183 u184 u185 u186 u187 u188 u189 u190 u191 u192 u193 u194 u195 u196 u197 u198 u199 u200 u201 u202 u203 u204 u205 u206 u207 u208 u209 u210 u211 u212 u213 u214 u215 u216 u217 u218 u219 u220 u221 u222 u223 u224 u225 u226 u227 u228 u229 u230 u231 u232 u233 u234 u235 u236 u237 u238 u239 u240 u241 u242 u243 u244 u245 u246 u247 u248 u249 u250 u251 u252 u253 : Value} {Q : Exit → Act → World → Prop} (h : Gr w base F I gb W room L) (hlab : Lab w0 w (askThings xb gb ab ca nb ib n o fa fn fi)) (hk : k < n) (_hn : n ≤ 3) (hca : n ≤ ca)
    (hQ : ∀ v65 v66 v67 v68 v69 v70 v71 v72 v73 v74 v75 v76 v77 v78 v79 v80 v81 v82 : Value, ∀ w3, Lab w0 w3 (askThings xb gb ab ca nb ib n o fa (fun j => if j = k then .int .u64 (numD L t) else fn j) (fun j => if j = k then .bool (isNum L t) else fi j)) →
      Q .normal ⟨(List.toArray (.pointer (some ⟨gb, 0, none⟩) :: u1 :: u2 :: u3 :: u4 :: u5 :: u6 :: u7 :: u8 :: u9 :: .pointer (some ⟨xb, 0, none⟩) :: u11 :: .int .i64 k :: .int .i64 t :: u14 :: u15 :: u16 :: u17 :: u18 :: u19 :: u20 :: u21 :: u22 :: u23 :: u24 :: u25 :: u26 :: u27 :: u28 :: u29 :: u30 :: u31 :: u32 :: u33 :: u34 :: u35 :: u36 :: u37 :: u38 :: u39 :: u40 :: u41 :: u42 :: u43 :: u44 :: u45 :: u46 :: u47 :: u48 :: u49 :: u50 :: u51 :: u52 :: u53 :: u54 :: u55 :: u56 :: u57 :: u58 :: u59 :: u60 :: u61 :: u62 :: u63 :: u64 :: v65 :: v66 :: v67 :: v68 :: v69 :: v70 :: v71 :: v72 :: v73 :: v74 :: v75 :: v76 :: v77 :: v78 :: v79 :: v80 :: v81 :: v82 :: u83 :: u84 :: u85 :: u86 :: u87 :: u88 :: u89 :: u90 :: u91 :: u92 :: u93 :: u94 :: u95 :: u96 :: u97 :: u98 :: u99 :: u100 :: u101 :: u102 :: u103 :: u104 :: u105 :: u106 :: u107 :: u108 :: u109 :: u110 :: u111 :: u112 :: u113 :: u114 :: u115 :: u116 :: u117 :: u118 :: u119 :: u120 :: u121 :: u122 :: u123 :: u124 :: u125 :: u126 :: u127 :: u128 :: u129 :: u130 :: u131 :: u132 :: u133 :: u134 :: u135 :: u136 :: u137 :: u138 :: u139 :: u140 :: u141 :: u142 :: u143 :: u144 :: u145 :: u146 :: u147 :: u148 :: u149 :: u150 :: u151 :: u152 :: u153 :: u154 :: u155 :: u156 :: u157 :: u158 :: u159 :: u160 :: u161 :: u162 :: u163 :: u164 :: u165 :: u166 :: u167 :: u168 :: u169 :: u170 :: u171 :: u172 :: u173 :: u174 :: u175 :: u176 :: u177 :: u178 :: u179 :: u180 :: u181 :: u182 :: u183 :: u184 :: u185 :: u186 :: u187 :: u188 :: u189 :: u190 :: u191 :: u192 :: u193 :: u194 :: u195 :: u196 :: u197 :: u198 :: u199 :: u200 :: u201 :: u202 :: u203 :: u204 :: u205 :: u206 :: u207 :: u208 :: u209 :: u210 :: u211 :: u212 :: u213 :: u214 :: u215 :: u216 :: u217 :: u218 :: u219 :: u220 :: u221 :: u222 :: u223 :: u224 :: u225 :: u226 :: u227 :: u228 :: u229 :: u230 :: u231 :: u232 :: u233 :: u234 :: u235 :: u236 :: u237 :: u238 :: u239 :: u240 :: u241 :: u242 :: u243 :: u244 :: u245 :: u246 :: u247 :: u248 :: u249 :: u250 :: u251 :: u252 :: u253 :: [])), []⟩ w3) :
    Code.wp Try.prog (regionOf 13) Q ⟨(List.toArray (.pointer (some ⟨gb, 0, none⟩) :: u1 :: u2 :: u3 :: u4 :: u5 :: u6 :: u7 :: u8 :: u9 :: .pointer (some ⟨xb, 0, none⟩) :: u11 :: .int .i64 k :: .int .i64 t :: u14 :: u15 :: u16 :: u17 :: u18 :: u19 :: u20 :: u21 :: u22 :: u23 :: u24 :: u25 :: u26 :: u27 :: u28 :: u29 :: u30 :: u31 :: u32 :: u33 :: u34 :: u35 :: u36 :: u37 :: u38 :: u39 :: u40 :: u41 :: u42 :: u43 :: u44 :: u45 :: u46 :: u47 :: u48 :: u49 :: u50 :: u51 :: u52 :: u53 :: u54 :: u55 :: u56 :: u57 :: u58 :: u59 :: u60 :: u61 :: u62 :: u63 :: u64 :: u65 :: u66 :: u67 :: u68 :: u69 :: u70 :: u71 :: u72 :: u73 :: u74 :: u75 :: u76 :: u77 :: u78 :: u79 :: u80 :: u81 :: u82 :: u83 :: u84 :: u85 :: u86 :: u87 :: u88 :: u89 :: u90 :: u91 :: u92 :: u93 :: u94 :: u95 :: u96 :: u97 :: u98 :: u99 :: u100 :: u101 :: u102 :: u103 :: u104 :: u105 :: u106 :: u107 :: u108 :: u109 :: u110 :: u111 :: u112 :: u113 :: u114 :: u115 :: u116 :: u117 :: u118 :: u119 :: u120 :: u121 :: u122 :: u123 :: u124 :: u125 :: u126 :: u127 :: u128 :: u129 :: u130 :: u131 :: u132 :: u133 :: u134 :: u135 :: u136 :: u137 :: u138 :: u139 :: u140 :: u141 :: u142 :: u143 :: u144 :: u145 :: u146 :: u147 :: u148 :: u149 :: u150 :: u151 :: u152 :: u153 :: u154 :: u155 :: u156 :: u157 :: u158 :: u159 :: u160 :: u161 :: u162 :: u163 :: u164 :: u165 :: u166 :: u167 :: u168 :: u169 :: u170 :: u171 :: u172 :: u173 :: u174 :: u175 :: u176 :: u177 :: u178 :: u179 :: u180 :: u181 :: u182 :: u183 :: u184 :: u185 :: u186 :: u187 :: u188 :: u189 :: u190 :: u191 :: u192 :: u193 :: u194 :: u195 :: u196 :: u197 :: u198 :: u199 :: u200 :: u201 :: u202 :: u203 :: u204 :: u205 :: u206 :: u207 :: u208 :: u209 :: u210 :: u211 :: u212 :: u213 :: u214 :: u215 :: u216 :: u217 :: u218 :: u219 :: u220 :: u221 :: u222 :: u223 :: u224 :: u225 :: u226 :: u227 :: u228 :: u229 :: u230 :: u231 :: u232 :: u233 :: u234 :: u235 :: u236 :: u237 :: u238 :: u239 :: u240 :: u241 :: u242 :: u243 :: u244 :: u245 :: u246 :: u247 :: u248 :: u249 :: u250 :: u251 :: u252 :: u253 :: [])), []⟩ w := by
  obtain ⟨d0, d1, d2, d3, d4⟩ := ask_head hlab
  have hap := List.pairwise_cons.1 hlab.apart
  have hxn : xb ≠ nb := fun e => ((hap.1 (Thing.fn nb 22 n fn) (by simp)).1 xb (by simp [Thing.box])).1 (by simp [Thing.fn, e])
  have hxi : xb ≠ ib := fun e => ((hap.1 (Thing.fn ib 4 n fi) (by simp)).1 xb (by simp [Thing.box])).1 (by simp [Thing.fn, e])
  have hap2 := List.pairwise_cons.1 (List.pairwise_cons.1 hap.2).2
  have hni : nb ≠ ib := fun e => ((hap2.1 (Thing.fn ib 4 n fi) (by simp)).1 nb (by simp [Thing.fn])).1 (by simp [Thing.fn, e])
  have hin : ib ≠ nb := hni.symm
  have hnx : nb ≠ xb := hxn.symm
  have hix : ib ≠ xb := hxi.symm
  have k0 : (0 : Int) ≤ (k : Int) := by omega
  have kn : (k : Int) < (n : Int) := by omega
  have hnum := fun (w' : World) (hb : Below w.heap.size w w') => number_any (h.later hb) t
  have HCA := Lib.hid hca; have HNUM := Lib.hid hnum; have HLAB := Lib.hid hlab; have HQ := Lib.hid hQ
  clear hQ h hlab hap hap2 d0 d1 d2 hnum hca
  conv => arg 2; whnf
  go_region_held3 (fun w' => w'.cell? ⟨xb, 3, none⟩ = some (.slice (some ⟨nb, 0, none⟩) n n) ∧ w'.cell? ⟨xb, 4, none⟩ = some (.slice (some ⟨ib, 0, none⟩) n n)) (first | exact ⟨d3, d4⟩ | exact ⟨by assumption, by assumption⟩ | go_keep)
    ((go_at_call 31; refine (HNUM.out _ (below_drewN (Below.refl _ _) 1)).mono ?_; rintro e w3 ⟨rfl, hb3⟩; have hb4 := (below_drewN (Below.refl w.heap.size w) 1).trans (hb3.mono (below_drewN (Below.refl w.heap.size w) 1).size); have hl4 := HLAB.out.later hb4; have e3 := cell_later hb4 d3; have e4 := cell_later hb4 d4; have e5 := (ask_cells hl4 (i := k) (by omega) HCA.out).2.1; have e6 := (ask_cells hl4 (i := k) (by omega) HCA.out).2.2; have e7 := hl4.fn3.frozen k; have e8 := hl4.fn4.frozen k))
  exact HQ.out _ _ _ _ _ _ _ _ _ _ _ _ _ _ _ _ _ _ _ (ask_set_i (ask_set_n hl4 k (.int .u64 (numD L t))) k (.bool (isNum L t)))
end
end Go.Proofs.Ytcpgiadhmmmafaa
