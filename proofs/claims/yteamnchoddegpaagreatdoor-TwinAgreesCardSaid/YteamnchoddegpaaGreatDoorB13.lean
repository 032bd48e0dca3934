/- SimpL, SimpM, SimpO, SimpS: joined by wip/bundle.py. -/
import Derived.Test.YteamnchoddegpaaGreatDoorB1
import Derived.Test.YteamnchoddegpaaGreatDoorB2
import Derived.Test.YteamnchoddegpaaGreatDoorB3
import Derived.Test.YteamnchoddegpaaGreatDoorB4
import Derived.Test.YteamnchoddegpaaGreatDoorB5
import Derived.Test.YteamnchoddegpaaGreatDoorB6
import Derived.Test.YteamnchoddegpaaGreatDoorB7
import Derived.Test.YteamnchoddegpaaGreatDoorB8
import Derived.Test.YteamnchoddegpaaGreatDoorB9
import Derived.Test.YteamnchoddegpaaGreatDoorB10
import Derived.Test.YteamnchoddegpaaGreatDoorB11
import Derived.Test.YteamnchoddegpaaGreatDoorB12
import Derived.BigQuiet
namespace Go.Proofs.YteamnchoddegpaaGreatDoor
open Go.RowKit Go.Maps
set_option maxHeartbeats 1600000
noncomputable def appRest16 : Code := (Tryz.f85.body.bind (tailAt 16)).getD .skip
section
variable {w wr : World} {base : Nat} {F I : List Nat} {gb W room : Nat} {L : List PNode} {xb ab ca nb ib n o : Nat} {xs : List Int}
/-- What the rules make of arguments in their order is the simple term. -/
theorem simpA_rules (ho1 : 2 ≤ o) (ho2 : o ≤ 21) (hl : aryN o = xs.length) (hnn : ¬ ∀ t ∈ xs, isNum L t = true) : firstR W room L o (ordA L o xs) = (simpA W L o xs).res W room L := by
  unfold firstR simpA
  rw [if_neg hnn]
  have h3 := aryN_le o
  match xs, hl with
  | [], h => have : o = 2 ∨ o = 3 ∨ o = 4 ∨ o = 5 ∨ o = 6 ∨ o = 7 ∨ o = 8 ∨ o = 9 ∨ o = 10 ∨ o = 11 ∨ o = 12 ∨ o = 13 ∨ o = 14 ∨ o = 15 ∨ o = 16 ∨ o = 17 ∨ o = 18 ∨ o = 19 ∨ o = 20 ∨ o = 21 := by omega
             rcases this with rfl | rfl | rfl | rfl | rfl | rfl | rfl | rfl | rfl | rfl | rfl | rfl | rfl | rfl | rfl | rfl | rfl | rfl | rfl | rfl <;> cases h
  | [x], h =>
    have h2 : o = 2 ∨ o = 3 := by
      have : o = 2 ∨ o = 3 ∨ o = 4 ∨ o = 5 ∨ o = 6 ∨ o = 7 ∨ o = 8 ∨ o = 9 ∨ o = 10 ∨ o = 11 ∨ o = 12 ∨ o = 13 ∨ o = 14 ∨ o = 15 ∨ o = 16 ∨ o = 17 ∨ o = 18 ∨ o = 19 ∨ o = 20 ∨ o = 21 := by omega
      rcases this with rfl | rfl | rfl | rfl | rfl | rfl | rfl | rfl | rfl | rfl | rfl | rfl | rfl | rfl | rfl | rfl | rfl | rfl | rfl | rfl <;> first | (left; rfl) | (right; rfl) | cases h
    show (firstA W L o x _ _ [x] (rulesOf o)).res W room L = _
    rw [first_one W L h2]
  | [x, y], h =>
    have h2 : 4 ≤ o ∧ o ≤ 20 := by
      have : o = 2 ∨ o = 3 ∨ (4 ≤ o ∧ o ≤ 20) ∨ o = 21 := by omega
      rcases this with rfl | rfl | h2 | rfl <;> first | exact h2 | cases h
    show Ans.res W room L _ = Ans.res W room L (if swapA L o x y then twoA W L o y x else twoA W L o x y)
    by_cases hs : swapA L o x y
    · have e : ordA L o [x, y] = [y, x] := if_pos hs
      rw [e, if_pos hs]
      exact congrArg _ (first_two W L o y x _ h2.1 h2.2)
    · have e : ordA L o [x, y] = [x, y] := if_neg hs
      rw [e, if_neg hs]
      exact congrArg _ (first_two W L o x y _ h2.1 h2.2)
  | [x, y, z], h =>
    have h2 : o = 21 := by
      have : o = 2 ∨ o = 3 ∨ o = 4 ∨ o = 5 ∨ o = 6 ∨ o = 7 ∨ o = 8 ∨ o = 9 ∨ o = 10 ∨ o = 11 ∨ o = 12 ∨ o = 13 ∨ o = 14 ∨ o = 15 ∨ o = 16 ∨ o = 17 ∨ o = 18 ∨ o = 19 ∨ o = 20 ∨ o = 21 := by omega
      rcases this with rfl | rfl | rfl | rfl | rfl | rfl | rfl | rfl | rfl | rfl | rfl | rfl | rfl | rfl | rfl | rfl | rfl | rfl | rfl | rfl <;> first | rfl | cases h
    subst h2
    exact congrArg _ (first_three W L x y z)
  | _ :: _ :: _ :: _ :: _, h => simp at h; omega
theorem numD_lt (h : WFL L) (t : Int) : numD L t < 18446744073709551616 := by
  unfold numD
  cases hn : numOf L t with
  | none => simp
  | some c =>
    obtain ⟨_, n, hi, _, hc⟩ := numOf_at hn
    have := (h.ok n (List.mem_of_getElem? hi)).2.1
    show c < _
    omega
set_option maxRecDepth 100000 in
theorem sapp_all {u2 u3 u4 u5 u6 u7 u8 u9 u12 u13 u14 u15 u16 u17 u18 u19 u20 u21 u22 u23 u24 u25 u26 u27 u28 u29 u30 u31 u32 u33 u34 u35 u36 u37 u38 u39 u40 u41 u42 u43 u44 u45 u46 u47 u48 u49 u50 u51 u52 u53 u54 u55 u56 u57 u58 u59 u60 u61 u62 u63 u64 u65 u66 u67 u68 u69 u70 u71 u72 u73 u74 u75 u76 u77 u78 u79 u80 u81 u82 u83 u84 u85 u86 u87 u88 u89 u90 u91 u92 u93 u94 u95 u96 u97 u98 u99 u100 u101 u102 u103 u104 u105 u106 u107 u108 u109 u110 u111 u112 u113 u114 u115 u116 u117 u118 u119 u120 u121 u122 u123 u124 u125 u126 u127 u128 u129 u130 u131 u132 u133 u134 u135 u136 u137 u138 u139 u140 u141 u142 u143 u144 u145 u146 u147 u148 u149 u150 u151 u152 u153 u154 u155 u156 u157 u158 u159 u160 u161 u162 u163 u164 u165 u166 u167 u168 u169 u170 u171 u172 u173 u174 u175 u176 u177 u178 u179 u180 u181 u182 u183 u184 u185 u186 u187 u188 u189 u190 u191 u192 u193 u194 u195 u196 u197 u198 u199 u200 u201 u202 u203 u204 u205 u206 u207 u208 u209 u210 u211 u212 u213 u214 u215 u216 u217 u218 u219 u220 u221 u222 u223 u224 u225 u226 u227 u228 u229 u230 u231 u232 u233 u234 u235 u236 u237 u238 u239 u240 u241 u242 u243 u244 u245 u246 u247 u248 u249 u250 u251 u252 u253 : Value} {all : Bool} (h : Gr w base F I gb W room L) (ha : AskedL w wr xb gb ab ca nb ib n L o xs) (ho1 : 2 ≤ o) (ho2 : o ≤ 21) (hl : aryN o = n) (hys : ∀ t ∈ xs, (0 : Int) ≤ t ∧ t < (L.length : Int)) (hall : all = decide (∀ t ∈ xs, isNum L t = true))
    (hrec : o = 11 → ∀ (x : Int) (w2 : World) (va : Value), 0 ≤ x → x < (L.length : Int) → isNum L x = false → SliceOf w2 .i64 va [x] → Gr w2 base F I gb W room L → Calls Tryz.prog 85 #[.pointer (some ⟨gb, 0, none⟩), .int .u8 2, va] w2 (GPost w2 base F I gb W room ((oneA L 2 x).res W room L))) :
    Code.wp Tryz.prog appRest16 (bodyPost Tryz.prog Tryz.f85 (GPost w base F I gb W room ((simpA W L o xs).res W room L))) ⟨(List.toArray (.pointer (some ⟨gb, 0, none⟩) :: .int .u8 o :: u2 :: u3 :: u4 :: u5 :: u6 :: u7 :: u8 :: u9 :: .pointer (some ⟨xb, 0, none⟩) :: .bool all :: u12 :: u13 :: u14 :: u15 :: u16 :: u17 :: u18 :: u19 :: u20 :: u21 :: u22 :: u23 :: u24 :: u25 :: u26 :: u27 :: u28 :: u29 :: u30 :: u31 :: u32 :: u33 :: u34 :: u35 :: u36 :: u37 :: u38 :: u39 :: u40 :: u41 :: u42 :: u43 :: u44 :: u45 :: u46 :: u47 :: u48 :: u49 :: u50 :: u51 :: u52 :: u53 :: u54 :: u55 :: u56 :: u57 :: u58 :: u59 :: u60 :: u61 :: u62 :: u63 :: u64 :: u65 :: u66 :: u67 :: u68 :: u69 :: u70 :: u71 :: u72 :: u73 :: u74 :: u75 :: u76 :: u77 :: u78 :: u79 :: u80 :: u81 :: u82 :: u83 :: u84 :: u85 :: u86 :: u87 :: u88 :: u89 :: u90 :: u91 :: u92 :: u93 :: u94 :: u95 :: u96 :: u97 :: u98 :: u99 :: u100 :: u101 :: u102 :: u103 :: u104 :: u105 :: u106 :: u107 :: u108 :: u109 :: u110 :: u111 :: u112 :: u113 :: u114 :: u115 :: u116 :: u117 :: u118 :: u119 :: u120 :: u121 :: u122 :: u123 :: u124 :: u125 :: u126 :: u127 :: u128 :: u129 :: u130 :: u131 :: u132 :: u133 :: u134 :: u135 :: u136 :: u137 :: u138 :: u139 :: u140 :: u141 :: u142 :: u143 :: u144 :: u145 :: u146 :: u147 :: u148 :: u149 :: u150 :: u151 :: u152 :: u153 :: u154 :: u155 :: u156 :: u157 :: u158 :: u159 :: u160 :: u161 :: u162 :: u163 :: u164 :: u165 :: u166 :: u167 :: u168 :: u169 :: u170 :: u171 :: u172 :: u173 :: u174 :: u175 :: u176 :: u177 :: u178 :: u179 :: u180 :: u181 :: u182 :: u183 :: u184 :: u185 :: u186 :: u187 :: u188 :: u189 :: u190 :: u191 :: u192 :: u193 :: u194 :: u195 :: u196 :: u197 :: u198 :: u199 :: u200 :: u201 :: u202 :: u203 :: u204 :: u205 :: u206 :: u207 :: u208 :: u209 :: u210 :: u211 :: u212 :: u213 :: u214 :: u215 :: u216 :: u217 :: u218 :: u219 :: u220 :: u221 :: u222 :: u223 :: u224 :: u225 :: u226 :: u227 :: u228 :: u229 :: u230 :: u231 :: u232 :: u233 :: u234 :: u235 :: u236 :: u237 :: u238 :: u239 :: u240 :: u241 :: u242 :: u243 :: u244 :: u245 :: u246 :: u247 :: u248 :: u249 :: u250 :: u251 :: u252 :: u253 :: [])), []⟩ wr := by
  by_cases hc : ∀ t ∈ xs, isNum L t = true
  · obtain rfl : all = true := hall.trans (decide_eq_true hc)
    have ha2 := ha.asked
    have hns : SliceOf wr .u64 (.slice (some ⟨nb, 0, none⟩) n n) (xs.map fun t => (numD L t : Int)) := by
      refine ⟨_, _, _, rfl, by simp [ha2.len], fun i hi => ⟨nb, 0, rfl, ?_⟩⟩
      have hix : i < xs.length := by rw [ha2.len]; exact hi
      rw [Nat.zero_add, ha2.num i hi]
      simp [hix]
    have hbd := wI_bounds o W (xs.map fun t => (numD L t : Int)) (by have := h.w1; omega) (by have := h.w2; omega)
    have hz := wE_zero h.w1 h.w2 ho1 ho2 (hl.trans ha2.len.symm)
    have hpw : 2 ^ W ≤ 2 ^ 64 := Nat.pow_le_pow_right (by decide) h.w2
    have hap := fun w' (hb : Below wr.heap.size wr w') => apply_any (o : Int) (W : Int) (by omega) (by omega) _ _ w' (hns.below hb) (by
      intro x hx
      obtain ⟨t, -, rfl⟩ := List.mem_map.1 hx
      have := numD_lt h.wf t
      omega) (by rw [List.length_map, ha2.len]; have := ha2.nlt; omega)
    rw [List.length_map, hz] at hap
    have hR : (simpA W L o xs).res W room L = constR W room L (wI o W (xs.map fun t => (numD L t : Int))).toNat := by unfold simpA; rw [if_pos hc]; rfl
    obtain ⟨q, hq⟩ : ∃ q : Nat, wI o W (xs.map fun t => (numD L t : Int)) = (q : Int) := ⟨_, (Int.toNat_of_nonneg hbd.1).symm⟩
    rw [hq] at hap hbd hR
    rw [hR, Int.toNat_natCast]
    rw [Int.toNat_natCast] at hbd
    have c3 := ha2.c3
    have hq64 : q < 18446744073709551616 := by omega
    have HG := Lib.hid (h.later ha.below); have HB := Lib.hid ha.below; have HAP := Lib.hid hap; have HQ64 := Lib.hid hq64
    clear h ha ha2 hns hbd hz hpw hap hR hq hrec hys hc hall hl
    conv => arg 2; whnf
    go_upto_region 17 with fail
    go_region_held3 (fun w' => w'.cell? ⟨xb, 3, none⟩ = some (.slice (some ⟨nb, 0, none⟩) n n)) (first | exact c3 | go_keep)
      (first
        | (go_at_call 70; refine (width_any (HG.out.later (below_drewN (Below.refl _ _) 1))).mono ?_; rintro e w3 ⟨rfl, rfl⟩)
        | (go_at_call 72; refine (HAP.out _ (below_drewN (Below.refl _ _) 1)).mono ?_; rintro e w3 ⟨rfl, hb3⟩; have c3' := cell_later hb3 (show (wr.drewN 1).cell? ⟨xb, 3, none⟩ = some (.slice (some ⟨nb, 0, none⟩) n n) from c3)))
    have hbz := (below_drewN (Below.refl wr.heap.size wr) 1).trans (hb3.mono (below_drewN (Below.refl wr.heap.size wr) 1).size)
    have HC := Lib.hid (const_any (HG.out.later hbz) q HQ64.out)
    have HBZ := Lib.hid hbz
    clear hb3 hbz c3 c3' hq64
    go_wp2_with fail
    go_at_call 28
    refine HC.out.mono ?_
    intro e w4 hp
    obtain ⟨F', I', rfl, hrest⟩ := hp.later (HB.out.trans (HBZ.out.mono HB.out.size))
    have HQ := Lib.hid hrest
    clear hp hrest
    go_wp2
    go_ret2
    exact ⟨F', I', rfl, HQ.out⟩
  · obtain rfl : all = false := hall.trans (decide_eq_false hc)
    rw [← simpA_rules ho1 ho2 (hl.trans ha.len.symm) hc]
    have HG := Lib.hid h; have HA := Lib.hid ha; have HYS := Lib.hid hys; have HC := Lib.hid hc; have HREC := Lib.hid hrec
    have HO := Lib.hid (And.intro ho1 (And.intro ho2 hl))
    clear h ha hys hc hrec ho1 ho2 hl hall
    conv => arg 2; whnf
    refine wp_seq_k ?_
    intro K hK
    go_cut [10] (fun s10 wx => s10 = .pointer (some ⟨xb, 0, none⟩) ∧ wx = wr)
    case first =>
      go_wp2
      go_meet
      exact ⟨rfl, rfl⟩
    case rest =>
      obtain ⟨rfl, rfl⟩ := hcut
      refine hK _ _ ?_
      exact sapp_swap HG.out HA.out HO.out.1 HO.out.2.1 HO.out.2.2 HYS.out HC.out HREC.out
end
end Go.Proofs.YteamnchoddegpaaGreatDoor
namespace Go.Proofs.YteamnchoddegpaaGreatDoor
open Go.RowKit Go.Maps
set_option maxHeartbeats 1600000
section
variable {w w0 : World} {base : Nat} {F I : List Nat} {gb W room : Nat} {L : List PNode} {xb ab ca nb ib n o k : Nat} {t : Int} {fa fn fi : Nat → Value}
set_option maxRecDepth 100000 in
theorem app_region13 {u1 u2 u3 u4 u5 u6 u7 u8 u9 u11 u14 u15 u16 u17 u18 u19 u20 u21 u22 u23 u24 u25 u26 u27 u28 u29 u30 u31 u32 u33 u34 u35 u36 u37 u38 u39 u40 u41 u42 u43 u44 u45 u46 u47 u48 u49 u50 u51 u52 u53 u54 u55 u56 u57 u58 u59 u60 u61 u62 u63 u64 u65 u66 u67 u68 u69 u70 u71 u72 u73 u74 u75 u76 u77 u78 u79 u80 u81 u82 u83 u84 u85 u86 u87 u88 u89 u90 u91 u92 u93 u94 u95 u96 u97 u98 u99 u100 u101 u102 u103 u104 u105 u106 u107 u108 u109 u110 u111 u112 u113 u114 u115 u116 u117 u118 u119 u120 u121 u122 u123 u124 u125 u126 u127 u128 u129 u130 u131 u132 u133 u134 u135 u136 u137 u138 u139 u140 u141 u142 u143 u144 u145 u146 u147 u148 u149 u150 u151 u152 u153 u154 u155 u156 u157 u158 u159 u160 u161 u162 u163 u164 u165 u166 u167 u168 u169 u170 u171 u172 u173 u174 u175 u176 u177 u178 u179 u180 u181 u182 u183 u184 u185 u186 u187 u188 u189 u190 u191 u192 u193 u194 u195 u196 u197 u198 u199 u200 u201 u202 u203 u204 u205 u206 u207 u208 u209 u210 u211 u212 u213 u214 u215 u216 u217 u218 u219 u220 u221 u222 u223 u224 u225 u226 u227 u228 u229 u230 u231 u232 u233 u234 u235 u236 u237 u238 u239 u240 u241 u242 u243 u244 u245 u246 u247 u248 u249 u250 u251 u252 u253 : Value} {Q : Exit → Act → World → Prop} (h : Gr w base F I gb W room L) (hlab : Lab w0 w (askThings xb gb ab ca nb ib n o fa fn fi)) (hk : k < n) (_hn : n ≤ 3) (hca : n ≤ ca)
    (hQ : ∀ v65 v66 v67 v68 v69 v70 v71 v72 v73 v74 v75 v76 v77 v78 v79 v80 v81 v82 : Value, ∀ w3, Lab w0 w3 (askThings xb gb ab ca nb ib n o fa (fun j => if j = k then .int .u64 (numD L t) else fn j) (fun j => if j = k then .bool (isNum L t) else fi j)) →
      Q .normal ⟨(List.toArray (.pointer (some ⟨gb, 0, none⟩) :: u1 :: u2 :: u3 :: u4 :: u5 :: u6 :: u7 :: u8 :: u9 :: .pointer (some ⟨xb, 0, none⟩) :: u11 :: .int .i64 k :: .int .i64 t :: u14 :: u15 :: u16 :: u17 :: u18 :: u19 :: u20 :: u21 :: u22 :: u23 :: u24 :: u25 :: u26 :: u27 :: u28 :: u29 :: u30 :: u31 :: u32 :: u33 :: u34 :: u35 :: u36 :: u37 :: u38 :: u39 :: u40 :: u41 :: u42 :: u43 :: u44 :: u45 :: u46 :: u47 :: u48 :: u49 :: u50 :: u51 :: u52 :: u53 :: u54 :: u55 :: u56 :: u57 :: u58 :: u59 :: u60 :: u61 :: u62 :: u63 :: u64 :: v65 :: v66 :: v67 :: v68 :: v69 :: v70 :: v71 :: v72 :: v73 :: v74 :: v75 :: v76 :: v77 :: v78 :: v79 :: v80 :: v81 :: v82 :: u83 :: u84 :: u85 :: u86 :: u87 :: u88 :: u89 :: u90 :: u91 :: u92 :: u93 :: u94 :: u95 :: u96 :: u97 :: u98 :: u99 :: u100 :: u101 :: u102 :: u103 :: u104 :: u105 :: u106 :: u107 :: u108 :: u109 :: u110 :: u111 :: u112 :: u113 :: u114 :: u115 :: u116 :: u117 :: u118 :: u119 :: u120 :: u121 :: u122 :: u123 :: u124 :: u125 :: u126 :: u127 :: u128 :: u129 :: u130 :: u131 :: u132 :: u133 :: u134 :: u135 :: u136 :: u137 :: u138 :: u139 :: u140 :: u141 :: u142 :: u143 :: u144 :: u145 :: u146 :: u147 :: u148 :: u149 :: u150 :: u151 :: u152 :: u153 :: u154 :: u155 :: u156 :: u157 :: u158 :: u159 :: u160 :: u161 :: u162 :: u163 :: u164 :: u165 :: u166 :: u167 :: u168 :: u169 :: u170 :: u171 :: u172 :: u173 :: u174 :: u175 :: u176 :: u177 :: u178 :: u179 :: u180 :: u181 :: u182 :: u183 :: u184 :: u185 :: u186 :: u187 :: u188 :: u189 :: u190 :: u191 :: u192 :: u193 :: u194 :: u195 :: u196 :: u197 :: u198 :: u199 :: u200 :: u201 :: u202 :: u203 :: u204 :: u205 :: u206 :: u207 :: u208 :: u209 :: u210 :: u211 :: u212 :: u213 :: u214 :: u215 :: u216 :: u217 :: u218 :: u219 :: u220 :: u221 :: u222 :: u223 :: u224 :: u225 :: u226 :: u227 :: u228 :: u229 :: u230 :: u231 :: u232 :: u233 :: u234 :: u235 :: u236 :: u237 :: u238 :: u239 :: u240 :: u241 :: u242 :: u243 :: u244 :: u245 :: u246 :: u247 :: u248 :: u249 :: u250 :: u251 :: u252 :: u253 :: [])), []⟩ w3) :
    Code.wp Tryz.prog (regionOf 13) Q ⟨(List.toArray (.pointer (some ⟨gb, 0, none⟩) :: u1 :: u2 :: u3 :: u4 :: u5 :: u6 :: u7 :: u8 :: u9 :: .pointer (some ⟨xb, 0, none⟩) :: u11 :: .int .i64 k :: .int .i64 t :: u14 :: u15 :: u16 :: u17 :: u18 :: u19 :: u20 :: u21 :: u22 :: u23 :: u24 :: u25 :: u26 :: u27 :: u28 :: u29 :: u30 :: u31 :: u32 :: u33 :: u34 :: u35 :: u36 :: u37 :: u38 :: u39 :: u40 :: u41 :: u42 :: u43 :: u44 :: u45 :: u46 :: u47 :: u48 :: u49 :: u50 :: u51 :: u52 :: u53 :: u54 :: u55 :: u56 :: u57 :: u58 :: u59 :: u60 :: u61 :: u62 :: u63 :: u64 :: u65 :: u66 :: u67 :: u68 :: u69 :: u70 :: u71 :: u72 :: u73 :: u74 :: u75 :: u76 :: u77 :: u78 :: u79 :: u80 :: u81 :: u82 :: u83 :: u84 :: u85 :: u86 :: u87 :: u88 :: u89 :: u90 :: u91 :: u92 :: u93 :: u94 :: u95 :: u96 :: u97 :: u98 :: u99 :: u100 :: u101 :: u102 :: u103 :: u104 :: u105 :: u106 :: u107 :: u108 :: u109 :: u110 :: u111 :: u112 :: u113 :: u114 :: u115 :: u116 :: u117 :: u118 :: u119 :: u120 :: u121 :: u122 :: u123 :: u124 :: u125 :: u126 :: u127 :: u128 :: u129 :: u130 :: u131 :: u132 :: u133 :: u134 :: u135 :: u136 :: u137 :: u138 :: u139 :: u140 :: u141 :: u142 :: u143 :: u144 :: u145 :: u146 :: u147 :: u148 :: u149 :: u150 :: u151 :: u152 :: u153 :: u154 :: u155 :: u156 :: u157 :: u158 :: u159 :: u160 :: u161 :: u162 :: u163 :: u164 :: u165 :: u166 :: u167 :: u168 :: u169 :: u170 :: u171 :: u172 :: u173 :: u174 :: u175 :: u176 :: u177 :: u178 :: u179 :: u180 :: u181 :: u182 :: u183 :: u184 :: u185 :: u186 :: u187 :: u188 :: u189 :: u190 :: u191 :: u192 :: u193 :: u194 :: u195 :: u196 :: u197 :: u198 :: u199 :: u200 :: u201 :: u202 :: u203 :: u204 :: u205 :: u206 :: u207 :: u208 :: u209 :: u210 :: u211 :: u212 :: u213 :: u214 :: u215 :: u216 :: u217 :: u218 :: u219 :: u220 :: u221 :: u222 :: u223 :: u224 :: u225 :: u226 :: u227 :: u228 :: u229 :: u230 :: u231 :: u232 :: u233 :: u234 :: u235 :: u236 :: u237 :: u238 :: u239 :: u240 :: u241 :: u242 :: u243 :: u244 :: u245 :: u246 :: u247 :: u248 :: u249 :: u250 :: u251 :: u252 :: u253 :: [])), []⟩ w := by
  obtain ⟨d0, d1, d2, d3, d4⟩ := ask_head hlab
  have hap := List.pairwise_cons.1 hlab.apart
  have hxn : xb ≠ nb := fun e => ((hap.1 (Thing.fn nb 43 n fn) (by simp)).1 xb (by simp [Thing.box])).1 (by simp [Thing.fn, e])
  have hxi : xb ≠ ib := fun e => ((hap.1 (Thing.fn ib 4 n fi) (by simp)).1 xb (by simp [Thing.box])).1 (by simp [Thing.fn, e])
  have hap2 := List.pairwise_cons.1 (List.pairwise_cons.1 hap.2).2
  have hni : nb ≠ ib := fun e => ((hap2.1 (Thing.fn ib 4 n fi) (by simp)).1 nb (by simp [Thing.fn])).1 (by simp [Thing.fn, e])
  have hin : ib ≠ nb := hni.symm
  have hnx : nb ≠ xb := hxn.symm
  have hix : ib ≠ xb := hxi.symm
  have k0 : (0 : Int) ≤ (k : Int) := by omega
  have kn : (k : Int) < (n : Int) := by omega
  have hnum := fun (w' : World) (hb : Below w.heap.size w w') => number_any (h.later hb) t
  have HCA := Lib.hid hca; have HNUM := Lib.hid hnum; have HLAB := Lib.hid hlab; have HQ := Lib.hid hQ
  clear hQ h hlab hap hap2 d0 d1 d2 hnum hca
  conv => arg 2; whnf
  go_region_held3 (fun w' => w'.cell? ⟨xb, 3, none⟩ = some (.slice (some ⟨nb, 0, none⟩) n n) ∧ w'.cell? ⟨xb, 4, none⟩ = some (.slice (some ⟨ib, 0, none⟩) n n)) (first | exact ⟨d3, d4⟩ | exact ⟨by assumption, by assumption⟩ | go_keep)
    ((go_at_call 101; refine (HNUM.out _ (below_drewN (Below.refl _ _) 1)).mono ?_; rintro e w3 ⟨rfl, hb3⟩; have hb4 := (below_drewN (Below.refl w.heap.size w) 1).trans (hb3.mono (below_drewN (Below.refl w.heap.size w) 1).size); have hl4 := HLAB.out.later hb4; have e3 := cell_later hb4 d3; have e4 := cell_later hb4 d4; have e5 := (ask_cells hl4 (i := k) (by omega) HCA.out).2.1; have e6 := (ask_cells hl4 (i := k) (by omega) HCA.out).2.2; have e7 := hl4.fn3.frozen k; have e8 := hl4.fn4.frozen k))
  exact HQ.out _ _ _ _ _ _ _ _ _ _ _ _ _ _ _ _ _ _ _ (ask_set_i (ask_set_n hl4 k (.int .u64 (numD L t))) k (.bool (isNum L t)))
end
end Go.Proofs.YteamnchoddegpaaGreatDoor
namespace Go.Proofs.YteamnchoddegpaaGreatDoor
open Go.RowKit Go.Maps
set_option maxHeartbeats 1600000
noncomputable def appRest7 : Code := (Tryz.f85.body.bind (tailAt 7)).getD .skip
section
variable {w wr : World} {base : Nat} {F I : List Nat} {gb W room : Nat} {L : List PNode} {xb ab ca nb ib n cap o : Nat} {a : Option Addr} {xs : List Int} {fa fn fi : Nat → Value}
theorem all_snoc {L : List PNode} {xs : List Int} {k : Nat} {t : Int} (h : xs[k]? = some t) : (xs.take (k + 1)).all (isNum L) = ((xs.take k).all (isNum L) && isNum L t) := by
  rw [← take_snoc' h, List.all_append]
  simp
theorem all_decide (L : List PNode) (xs : List Int) : xs.all (isNum L) = decide (∀ t ∈ xs, isNum L t = true) := by
  rw [Bool.eq_iff_iff, List.all_eq_true, decide_eq_true_iff]
set_option maxRecDepth 100000 in
theorem sapp_loop {u3 u4 u5 u6 u7 u8 u9 u11 u12 u13 u14 u15 u16 u17 u18 u19 u20 u21 u22 u23 u24 u25 u26 u27 u28 u29 u30 u31 u32 u33 u34 u35 u36 u37 u38 u39 u40 u41 u42 u43 u44 u45 u46 u47 u48 u49 u50 u51 u52 u53 u54 u55 u56 u57 u58 u59 u60 u61 u62 u63 u64 u65 u66 u67 u68 u69 u70 u71 u72 u73 u74 u75 u76 u77 u78 u79 u80 u81 u82 u83 u84 u85 u86 u87 u88 u89 u90 u91 u92 u93 u94 u95 u96 u97 u98 u99 u100 u101 u102 u103 u104 u105 u106 u107 u108 u109 u110 u111 u112 u113 u114 u115 u116 u117 u118 u119 u120 u121 u122 u123 u124 u125 u126 u127 u128 u129 u130 u131 u132 u133 u134 u135 u136 u137 u138 u139 u140 u141 u142 u143 u144 u145 u146 u147 u148 u149 u150 u151 u152 u153 u154 u155 u156 u157 u158 u159 u160 u161 u162 u163 u164 u165 u166 u167 u168 u169 u170 u171 u172 u173 u174 u175 u176 u177 u178 u179 u180 u181 u182 u183 u184 u185 u186 u187 u188 u189 u190 u191 u192 u193 u194 u195 u196 u197 u198 u199 u200 u201 u202 u203 u204 u205 u206 u207 u208 u209 u210 u211 u212 u213 u214 u215 u216 u217 u218 u219 u220 u221 u222 u223 u224 u225 u226 u227 u228 u229 u230 u231 u232 u233 u234 u235 u236 u237 u238 u239 u240 u241 u242 u243 u244 u245 u246 u247 u248 u249 u250 u251 u252 u253 : Value} (h : Gr w base F I gb W room L) (hv : SliceOf w .i64 (.slice a n cap) xs) (hn3 : n ≤ 3) (hca : n ≤ ca) (hfa : ∀ i, i < n → fa i = .int .i64 (xs.getD i 0)) (hlab : Lab w wr (askThings xb gb ab ca nb ib n o fa fn fi)) (ho1 : 2 ≤ o) (ho2 : o ≤ 21) (hl : aryN o = n)
    (hrec : o = 11 → ∀ (x : Int) (w2 : World) (va : Value), 0 ≤ x → x < (L.length : Int) → isNum L x = false → SliceOf w2 .i64 va [x] → Gr w2 base F I gb W room L → Calls Tryz.prog 85 #[.pointer (some ⟨gb, 0, none⟩), .int .u8 2, va] w2 (GPost w2 base F I gb W room ((oneA L 2 x).res W room L))) :
    Code.wp Tryz.prog appRest7 (bodyPost Tryz.prog Tryz.f85 (GPost w base F I gb W room (if ∀ a ∈ xs, (0 : Int) ≤ a ∧ a < (L.length : Int) then (simpA W L o xs).res W room L else (L, 0, 3)))) ⟨(List.toArray (.pointer (some ⟨gb, 0, none⟩) :: .int .u8 o :: .slice a n cap :: u3 :: u4 :: u5 :: u6 :: u7 :: u8 :: u9 :: .pointer (some ⟨xb, 0, none⟩) :: u11 :: u12 :: u13 :: u14 :: u15 :: u16 :: u17 :: u18 :: u19 :: u20 :: u21 :: u22 :: u23 :: u24 :: u25 :: u26 :: u27 :: u28 :: u29 :: u30 :: u31 :: u32 :: u33 :: u34 :: u35 :: u36 :: u37 :: u38 :: u39 :: u40 :: u41 :: u42 :: u43 :: u44 :: u45 :: u46 :: u47 :: u48 :: u49 :: u50 :: u51 :: u52 :: u53 :: u54 :: u55 :: u56 :: u57 :: u58 :: u59 :: u60 :: u61 :: u62 :: u63 :: u64 :: u65 :: u66 :: u67 :: u68 :: u69 :: u70 :: u71 :: u72 :: u73 :: u74 :: u75 :: u76 :: u77 :: u78 :: u79 :: u80 :: u81 :: u82 :: u83 :: u84 :: u85 :: u86 :: u87 :: u88 :: u89 :: u90 :: u91 :: u92 :: u93 :: u94 :: u95 :: u96 :: u97 :: u98 :: u99 :: u100 :: u101 :: u102 :: u103 :: u104 :: u105 :: u106 :: u107 :: u108 :: u109 :: u110 :: u111 :: u112 :: u113 :: u114 :: u115 :: u116 :: u117 :: u118 :: u119 :: u120 :: u121 :: u122 :: u123 :: u124 :: u125 :: u126 :: u127 :: u128 :: u129 :: u130 :: u131 :: u132 :: u133 :: u134 :: u135 :: u136 :: u137 :: u138 :: u139 :: u140 :: u141 :: u142 :: u143 :: u144 :: u145 :: u146 :: u147 :: u148 :: u149 :: u150 :: u151 :: u152 :: u153 :: u154 :: u155 :: u156 :: u157 :: u158 :: u159 :: u160 :: u161 :: u162 :: u163 :: u164 :: u165 :: u166 :: u167 :: u168 :: u169 :: u170 :: u171 :: u172 :: u173 :: u174 :: u175 :: u176 :: u177 :: u178 :: u179 :: u180 :: u181 :: u182 :: u183 :: u184 :: u185 :: u186 :: u187 :: u188 :: u189 :: u190 :: u191 :: u192 :: u193 :: u194 :: u195 :: u196 :: u197 :: u198 :: u199 :: u200 :: u201 :: u202 :: u203 :: u204 :: u205 :: u206 :: u207 :: u208 :: u209 :: u210 :: u211 :: u212 :: u213 :: u214 :: u215 :: u216 :: u217 :: u218 :: u219 :: u220 :: u221 :: u222 :: u223 :: u224 :: u225 :: u226 :: u227 :: u228 :: u229 :: u230 :: u231 :: u232 :: u233 :: u234 :: u235 :: u236 :: u237 :: u238 :: u239 :: u240 :: u241 :: u242 :: u243 :: u244 :: u245 :: u246 :: u247 :: u248 :: u249 :: u250 :: u251 :: u252 :: u253 :: [])), []⟩ wr := by
  obtain ⟨R, hR⟩ : ∃ R, (if ∀ a ∈ xs, (0 : Int) ≤ a ∧ a < (L.length : Int) then (simpA W L o xs).res W room L else (L, 0, 3)) = R := ⟨_, rfl⟩
  rw [hR]
  obtain ⟨a', n', cap', e', hln, hcell⟩ := hv.parts
  simp only [Value.slice.injEq] at e'
  obtain ⟨rfl, rfl, rfl⟩ := e'
  have hll : L.length ≤ 1048576 := by have := h.len; have := h.r2; omega
  have HR := Lib.hid hR; have HG := Lib.hid h; have HC := Lib.hid hcell; have HFA := Lib.hid hfa; have HL := Lib.hid hlab; have HO := Lib.hid (And.intro ho1 (And.intro ho2 (And.intro hl hln))); have HREC := Lib.hid hrec; have HCA := Lib.hid hca
  clear hR h hv hcell hfa hlab ho1 ho2 hl hrec hln hca
  conv => arg 2; whnf
  refine wp_seq_k ?_
  intro K0 hK0
  go_cut [11] (fun s11 wx => s11 = .bool true ∧ wx = wr)
  case first =>
    go_wp2
    go_meet
    exact ⟨rfl, rfl⟩
  obtain ⟨rfl, rfl⟩ := hcut
  refine hK0 _ _ ?_
  refine wp_seq_k ?_
  intro K1 hK1
  go_cut [10, 11] (fun s10 s11 wx => s10 = .pointer (some ⟨xb, 0, none⟩) ∧ (∀ t ∈ xs, (0 : Int) ≤ t ∧ t < (L.length : Int)) ∧ s11 = .bool (xs.all (isNum L)) ∧ AskedL w wx xb gb ab ca nb ib n L o xs)
  case first =>
    go_wp2
    go_loopw [11, 52] (fun al i wx => ∃ k : Nat, k ≤ n ∧ i = .int .i64 k ∧ al = .bool ((xs.take k).all (isNum L)) ∧ (∀ t ∈ xs.take k, (0 : Int) ≤ t ∧ t < (L.length : Int)) ∧ ∃ fn fi : Nat → Value, (∀ i, i < k → fn i = .int .u64 (numD L (xs.getD i 0)) ∧ fi i = .bool (isNum L (xs.getD i 0))) ∧ Lab w wx (askThings xb gb ab ca nb ib n o fa fn fi)) (fun _ i _ => n - (intOf i).toNat)
    case atStart => exact ⟨0, by omega, rfl, rfl, by simp, fn, fi, fun i hi => by omega, HL.out⟩
    case round =>
      obtain ⟨k, hk, rfl, rfl, hin, fn2, fi2, hf2, hlab⟩ := hrel
      have HIN := Lib.hid hin; have HF2 := Lib.hid hf2
      clear hin hf2
      by_cases hlt : k < n
      · obtain ⟨b, off, t, rfl, hc, ht⟩ := HC.out k hlt
        have hc1 := cell_later hlab.below hc
        have hgx := HG.out.later hlab.below
        have hb0 := hlab.below
        by_cases t0 : t < 0
        · have hRb : (L, 0, 3) = R := by
            have hR := HR.out
            rw [if_neg (fun hh => by have := (hh t (List.mem_of_getElem? ht)).1; omega)] at hR
            exact hR
          subst hRb
          clear HR
          have HB0 := Lib.hid hb0
          clear hlab hgx ht hc hb0
          go_wp2
          go_ret2
          exact GPost.same HG.out HB0.out 0 3
        · by_cases t1 : (L.length : Int) ≤ t
          · have hRb : (L, 0, 3) = R := by
              have hR := HR.out
              rw [if_neg (fun hh => by have := (hh t (List.mem_of_getElem? ht)).2; omega)] at hR
              exact hR
            subst hRb
            clear HR
            have HB0 := Lib.hid hb0; have HGX := Lib.hid hgx
            clear hlab hgx ht hc hb0
            go_wp2_with (go_at_call 22; refine (len_any HGX.out).mono ?_; rintro e w2 ⟨rfl, rfl⟩)
            go_ret2
            exact GPost.same HG.out HB0.out 0 3
          · obtain ⟨d0, d1, d2, d3, d4⟩ := ask_head hlab
            have HGX := Lib.hid hgx; have HT := Lib.hid ht; have HLAB := Lib.hid hlab
            have hxk : xs.getD k 0 = t := by rw [List.getD_eq_getElem?_getD, ht]; rfl
            have HXK := Lib.hid hxk
            clear hgx ht hlab hc hb0 d0 d1 d2 hxk
            go_upto_region 13 with (go_at_call 22; refine (len_any HGX.out).mono ?_; rintro e w2 ⟨rfl, rfl⟩)
            refine app_region13 HGX.out HLAB.out hlt hn3 HCA.out ?_
            intro _ _ _ _ _ _ _ _ _ _ _ _ _ _ _ _ _ _ w3 hl3
            have e3 := (ask_head hl3).2.2.2.2
            have e4 := (ask_cells hl3 (i := k) hlt HCA.out).2.2
            rw [if_pos rfl] at e4
            have HL3 := Lib.hid hl3
            clear hl3 hc1 d3 d4
            cases hal : (xs.take k).all (isNum L) with
            | true =>
              have HAL := Lib.hid hal
              clear hal
              go_wp2
              go_roundw
              case rel =>
                refine ⟨k + 1, by omega, by go_num, by rw [all_snoc HT.out, HAL.out]; rfl, fun u hu => ?_, _, _, fun i hi => ?_, HL3.out⟩
                · rw [← take_snoc' HT.out] at hu
                  rcases List.mem_append.1 hu with hu | hu
                  · exact HIN.out u hu
                  · obtain rfl := List.mem_singleton.1 hu; omega
                · by_cases e : i = k
                  · subst e; rw [if_pos rfl, if_pos rfl, HXK.out]; exact ⟨rfl, rfl⟩
                  · rw [if_neg e, if_neg e]; exact HF2.out i (by omega)
              case measure => simp [intOf]; omega
            | false =>
              have HAL := Lib.hid hal
              clear hal
              go_wp2
              go_roundw
              case rel =>
                refine ⟨k + 1, by omega, by go_num, by rw [all_snoc HT.out, HAL.out]; rfl, fun u hu => ?_, _, _, fun i hi => ?_, HL3.out⟩
                · rw [← take_snoc' HT.out] at hu
                  rcases List.mem_append.1 hu with hu | hu
                  · exact HIN.out u hu
                  · obtain rfl := List.mem_singleton.1 hu; omega
                · by_cases e : i = k
                  · subst e; rw [if_pos rfl, if_pos rfl, HXK.out]; exact ⟨rfl, rfl⟩
                  · rw [if_neg e, if_neg e]; exact HF2.out i (by omega)
              case measure => simp [intOf]; omega
      · obtain rfl : k = n := by omega
        rw [List.take_of_length_le (by rw [HO.out.2.2.2]; exact Nat.le_refl _)] at HIN
        rw [List.take_of_length_le (by rw [HO.out.2.2.2]; exact Nat.le_refl _)]
        have HLAB := Lib.hid hlab
        clear hlab
        go_wp2
        go_meet
        exact ⟨rfl, HIN.out, rfl, HO.out.2.2.2, hn3, HCA.out, fa, fn2, fi2, fun i hi => ⟨HFA.out i hi, HF2.out i hi⟩, HLAB.out⟩
  case rest =>
    obtain ⟨rfl, hall, rfl, ha⟩ := hcut
    have hR := HR.out
    rw [if_pos hall] at hR
    refine hK1 _ _ ?_
    rw [← hR]
    exact sapp_all HG.out ha HO.out.1 HO.out.2.1 HO.out.2.2.1 hall (all_decide L xs) HREC.out
end
end Go.Proofs.YteamnchoddegpaaGreatDoor
namespace Go.Proofs.YteamnchoddegpaaGreatDoor
open Go.RowKit Go.Maps
set_option maxHeartbeats 1600000
section
variable {w : World} {base : Nat} {F I : List Nat} {gb W room : Nat} {L : List PNode}
set_option maxRecDepth 100000 in
theorem sapp_bad (h : Gr w base F I gb W room L) (o : Nat) (ho : o ≤ 255) (xs : List Int) (va : Value) (hv : SliceOf w .i64 va xs) (hb : ¬ (o ≤ 21 ∧ aryN o ≠ 0 ∧ aryN o = xs.length)) :
    Calls Tryz.prog 85 #[.pointer (some ⟨gb, 0, none⟩), .int .u8 o, va] w (GPost w base F I gb W room (L, 0, 2)) := by
  have H0 := Lib.hid h
  clear h
  obtain ⟨a, n, cap, rfl, hna, -⟩ := hv.parts
  clear hv
  rw [hna] at hb
  clear hna
  obtain ⟨p, hp⟩ : ∃ p : Nat, (if 21 < (o : Int) then 0 else aryN (o : Int).toNat) = p := ⟨_, rfl⟩
  have hp' : 21 < (o : Int) ∨ p = 0 ∨ p ≠ n := by
    by_cases h1 : 21 < (o : Int)
    · exact .inl h1
    · rw [if_neg h1] at hp; simp at hp; right; omega
  have HP := Lib.hid hp
  clear hp hb
  have har : ∀ w', Calls Tryz.prog 60 #[.int .u8 o] w' fun e w'' => e = .returned (.tuple #[.int .i64 p, .int .i64 (if 21 < (o : Int) then 3 else 0)]) ∧ Below w'.heap.size w' w'' := by
    intro w'
    refine (arity_any o (by omega) (by omega) w').mono ?_
    rintro e w'' ⟨rfl, hb⟩
    refine ⟨?_, hb⟩
    rw [← HP.out]
    by_cases h1 : 21 < (o : Int) <;> simp [h1]
  by_cases h1 : 21 < (o : Int)
  · rw [if_pos h1] at har
    clear hp'
    go_enter Tryz.func85, Tryz.ntmps85
    go_wp2_with (go_at_call 60; refine (har _).mono ?_; rintro e w' ⟨rfl, hb⟩)
    go_ret2
    exact GPost.same H0.out hb 0 2
  · rw [if_neg h1] at har
    by_cases h0 : p = 0
    · subst h0
      go_enter Tryz.func85, Tryz.ntmps85
      go_wp2_with (go_at_call 60; refine (har _).mono ?_; rintro e w' ⟨rfl, hb⟩)
      go_ret2
      exact GPost.same H0.out hb 0 2
    · have hpn : ((p : Int) != (n : Int)) = true := by simp; omega
      have hp0 : ((p : Int) == 0) = false := by simp; omega
      clear h0
      go_enter Tryz.func85, Tryz.ntmps85
      go_wp2_with (go_at_call 60; refine (har _).mono ?_; rintro e w' ⟨rfl, hb⟩)
      go_ret2
      exact GPost.same H0.out hb 0 2
/-- Behind the making of an operator with its arguments. -/
def App6 (w : World) (gb n o : Nat) (xs : List Int) (m : Value) (wx : World) : Prop :=
  ∃ xb ab ca nb ib, ∃ fa fn fi : Nat → Value, m = .pointer (some ⟨xb, 0, none⟩) ∧ n ≤ ca ∧ (∀ i, i < n → fa i = .int .i64 (xs.getD i 0)) ∧ Lab w wx (askThings xb gb ab ca nb ib n o fa fn fi)
theorem row_of_owns {w : World} {b : Nat} {a : Option Addr} {m c : Nat} {xs : List Int} (h : OwnInts w b 3 .i64 (.slice a m c) xs) (h0 : xs.length ≠ 0) :
    ∃ g f, a = some ⟨g, 0, none⟩ ∧ m = xs.length ∧ b ≤ g ∧ xs.length ≤ c ∧ w.rowIs g 3 c f ∧ ∀ i, i < xs.length → f i = .int .i64 (xs.getD i 0) := by
  rcases h.2 with ⟨_, hn⟩ | ⟨g, cap, cur, hv, hb, hg, hn, hm, hsz, htake⟩
  · exact absurd hn h0
  · simp only [Value.slice.injEq] at hv
    obtain ⟨rfl, rfl, rfl⟩ := hv
    rw [Nat.mul_one] at hsz htake
    refine ⟨g, fun i => cur.getD i (.int .i64 0), rfl, rfl, hb, hn, ⟨cur, hg, hsz, fun i hi => ?_⟩, fun i hi => ?_⟩
    · rw [Array.getElem?_eq_getElem (by omega)]
      simp [show i < cur.size by omega]
    · have := congrArg (fun l => l[i]?) htake
      simp only [List.getElem?_take, hi, if_true, List.getElem?_map] at this
      have hlt : i < cur.size := by omega
      rw [← Array.getElem?_toList] at *
      rw [List.getElem?_eq_getElem (by simpa using hlt)] at this
      simp [hi] at this
      simp [hlt, this, hi]
theorem Lab.new_fn {w0 wr w' : World} {ts : List Thing} {g T c : Nat} {f : Nat → Value} (h : Lab w0 wr ts) (hb : Below wr.heap.size wr w') (hf : w'.rowIs g T c f) (hg : wr.heap.size ≤ g) : Lab w0 w' (Thing.fn g T c f :: ts) :=
  h.new (s := Thing.fn g T c f) hb hf (fun k hk => by simp [Thing.fn] at hk; omega) (fun k hk => by simp [Thing.fn] at hk) (fun k hk => by simp [Thing.fn] at hk; subst hk; exact hf.lt)
theorem Lab.drew1 {w0 wr : World} {ts : List Thing} (h : Lab w0 wr ts) : Lab w0 wr.drew ts := h.later ((Below.refl _ _).drew)
theorem Reas.alloc {w w' : World} (h : Below w.heap.size w w') (o : Obj) : Below w.heap.size w (w'.alloc o) := Below.alloc h h.size o
theorem Reas.drew {w w' : World} (h : Below w.heap.size w w') : Below w.heap.size w w'.drew := below_drewN h 1
set_option maxRecDepth 100000 in
theorem sapp_good (h : Gr w base F I gb W room L) (o : Nat) (ho : o ≤ 21) (xs : List Int) (va : Value) (hv : SliceOf w .i64 va xs) (h0 : aryN o ≠ 0) (hl : aryN o = xs.length)
    (hrec : o = 11 → ∀ (x : Int) (w2 : World) (va : Value), 0 ≤ x → x < (L.length : Int) → isNum L x = false → SliceOf w2 .i64 va [x] → Gr w2 base F I gb W room L → Calls Tryz.prog 85 #[.pointer (some ⟨gb, 0, none⟩), .int .u8 2, va] w2 (GPost w2 base F I gb W room ((oneA L 2 x).res W room L))) :
    Calls Tryz.prog 85 #[.pointer (some ⟨gb, 0, none⟩), .int .u8 o, va] w (GPost w base F I gb W room (if ∀ a ∈ xs, (0 : Int) ≤ a ∧ a < (L.length : Int) then (simpA W L o xs).res W room L else (L, 0, 3))) := by
  obtain ⟨R, hR⟩ : ∃ R, (if ∀ a ∈ xs, (0 : Int) ≤ a ∧ a < (L.length : Int) then (simpA W L o xs).res W room L else (L, 0, 3)) = R := ⟨_, rfl⟩
  rw [hR]
  have H0 := Lib.hid h; have HR := Lib.hid hR; have HV := Lib.hid hv
  obtain ⟨a, n, cap, rfl, hna, -⟩ := hv.parts
  have hn : aryN o = n := hl.trans hna
  have hn3 : n ≤ 3 := by rw [← hn]; exact aryN_le o
  have hn0 : n ≠ 0 := by rw [← hn]; exact h0
  have har : ∀ w', Calls Tryz.prog 60 #[.int .u8 o] w' fun e w'' => e = .returned (.tuple #[.int .i64 n, .int .i64 0]) ∧ Below w'.heap.size w' w'' := by
    intro w'
    refine (arity_any o (by omega) (by omega) w').mono ?_
    rintro e w'' ⟨rfl, hb⟩
    exact ⟨by rw [if_neg (by omega), if_neg (by omega), Int.toNat_natCast, hn], hb⟩
  have hpn : ((n : Int) != (n : Int)) = false := by simp
  have hp0 : ((n : Int) == 0) = false := by simp; omega
  have HN := Lib.hid (And.intro hna (And.intro hn hl))
  have hmk1 := run_make_row' (P := Tryz.prog) 25 43 (.int .u64 0) 8 Tryz.underlying25 Tryz.infoU64 rfl .i64 .i64 n (by omega) (by omega)
  have hmk2 := run_make_row' (P := Tryz.prog) 84 4 (.bool false) 1 Tryz.underlying84 Tryz.infoBool rfl .i64 .i64 n (by omega) (by omega)
  have ho1 : 2 ≤ o := by
    rcases Nat.lt_or_ge o 2 with h2 | h2
    · exact absurd (by unfold aryN; rw [if_pos (by omega)]) h0
    · exact h2
  have HO := Lib.hid (And.intro ho1 ho); have HREC := Lib.hid hrec
  clear h hR hv hna hl h0 hn hrec ho1
  go_enter Tryz.func85, Tryz.ntmps85
  go_upto_region 6 with (go_at_call 60; refine (har _).mono ?_; rintro e w2 ⟨rfl, hb⟩)
  have HVW := Lib.hid (HV.out.below hb)
  have HX3 := Lib.hid (show ([] : List Int).length + xs.length ≤ 1000000000 by have := HN.out.1; simp; omega)
  go_cut [10] (fun m wx => App6 w gb n o xs m wx)
  case first =>
    go_region_held3 (fun w' => True) (trivial) ((refine step_append_own (P := Tryz.prog) _ 24 3 .i64 8 _ (.slice none 0 0) (.slice a n cap) [] xs (OwnInts.nil _ _ _ _) (HVW.out.below (by repeat (with_reducible first | exact Below.refl _ _ | refine Reas.drew ?_ | refine Reas.alloc ?_ _))) (Nat.le_refl _) rfl (.const (.slice none 0 0)) (.tmp 40) rfl Tryz.underlying24 Tryz.infoI64 (by decide) rfl rfl HX3.out ?_; intro a' m' c' w' hown hbb))
    all_goals (go_wp2; go_meet)
    all_goals (simp only [List.nil_append] at hown)
    all_goals (obtain ⟨g, f, rfl, rfl, hg, hc, hrow, hf⟩ := row_of_owns hown (by have := HN.out.1; omega))
    all_goals (have hlen := HN.out.1; clear HN; subst hlen)
    all_goals first
      | (have l := ((((Lab.nil hb).drew1.new_fn hbb hrow hg).make1 xs.length 43 (.int .u64 0)).make1 xs.length 4 (.bool false)).alloc #[.pointer (some ⟨gb, 0, none⟩), .int .u8 o, .slice (some ⟨g, 0, none⟩) xs.length c', .slice (some ⟨w'.heap.size, 0, none⟩) xs.length xs.length, .slice (some ⟨w'.heap.size + 1, 0, none⟩) xs.length xs.length] 174; simp only [alsz] at l; exact ⟨_, _, _, _, _, f, _, _, rfl, hc, hf, l.perm (.cons _ ((List.reverse_perm _).symm))⟩)
      | (have l := ((((Lab.nil hb).drew1.new_fn hbb hrow hg).make1 xs.length 4 (.bool false)).make1 xs.length 43 (.int .u64 0)).alloc #[.pointer (some ⟨gb, 0, none⟩), .int .u8 o, .slice (some ⟨g, 0, none⟩) xs.length c', .slice (some ⟨w'.heap.size + 1, 0, none⟩) xs.length xs.length, .slice (some ⟨w'.heap.size, 0, none⟩) xs.length xs.length] 174; simp only [alsz] at l; exact ⟨_, _, _, _, _, f, _, _, rfl, hc, hf, l.perm (.cons _ (List.perm_append_comm (l₁ := [_, _]) (l₂ := [_])))⟩)
      | (have l := ((((Lab.nil hb).make1 xs.length 43 (.int .u64 0)).drew1.new_fn hbb hrow hg).make1 xs.length 4 (.bool false)).alloc #[.pointer (some ⟨gb, 0, none⟩), .int .u8 o, .slice (some ⟨g, 0, none⟩) xs.length c', .slice (some ⟨w2.heap.size, 0, none⟩) xs.length xs.length, .slice (some ⟨w'.heap.size, 0, none⟩) xs.length xs.length] 174; simp only [alsz] at l; exact ⟨_, _, _, _, _, f, _, _, rfl, hc, hf, l.perm (.cons _ (List.perm_append_comm (l₁ := [_]) (l₂ := [_, _])))⟩)
      | (have l := ((((Lab.nil hb).make1 xs.length 43 (.int .u64 0)).make1 xs.length 4 (.bool false)).drew1.new_fn hbb hrow hg).alloc #[.pointer (some ⟨gb, 0, none⟩), .int .u8 o, .slice (some ⟨g, 0, none⟩) xs.length c', .slice (some ⟨w2.heap.size, 0, none⟩) xs.length xs.length, .slice (some ⟨w2.heap.size + 1, 0, none⟩) xs.length xs.length] 174; simp only [alsz] at l; exact ⟨_, _, _, _, _, f, _, _, rfl, hc, hf, l.perm (.cons _ (.cons _ (.swap _ _ _)))⟩)
      | (have l := ((((Lab.nil hb).make1 xs.length 4 (.bool false)).drew1.new_fn hbb hrow hg).make1 xs.length 43 (.int .u64 0)).alloc #[.pointer (some ⟨gb, 0, none⟩), .int .u8 o, .slice (some ⟨g, 0, none⟩) xs.length c', .slice (some ⟨w'.heap.size, 0, none⟩) xs.length xs.length, .slice (some ⟨w2.heap.size, 0, none⟩) xs.length xs.length] 174; simp only [alsz] at l; exact ⟨_, _, _, _, _, f, _, _, rfl, hc, hf, l.perm (.cons _ (.swap _ _ _))⟩)
      | (have l := ((((Lab.nil hb).make1 xs.length 4 (.bool false)).make1 xs.length 43 (.int .u64 0)).drew1.new_fn hbb hrow hg).alloc #[.pointer (some ⟨gb, 0, none⟩), .int .u8 o, .slice (some ⟨g, 0, none⟩) xs.length c', .slice (some ⟨w2.heap.size + 1, 0, none⟩) xs.length xs.length, .slice (some ⟨w2.heap.size, 0, none⟩) xs.length xs.length] 174; simp only [alsz] at l; exact ⟨_, _, _, _, _, f, _, _, rfl, hc, hf, l.perm (.cons _ (.refl _))⟩)
  case rest =>
    obtain ⟨xb, ab, ca, nb, ib, fa, fn, fi, rfl, hca, hfa, hlab⟩ := hcut
    rename_i K hK
    refine hK _ _ ?_
    have hO := HO.out
    rw [← HR.out]
    exact sapp_loop H0.out HV.out hn3 hca hfa hlab hO.1 hO.2 HN.out.2.1 HREC.out
theorem sapp_nots (o : Nat) (_ho : o = 11) (x : Int) (w2 : World) (va : Value) (hx0 : 0 ≤ x) (hx1 : x < (L.length : Int)) (hn : isNum L x = false) (hv : SliceOf w2 .i64 va [x]) (h : Gr w2 base F I gb W room L) :
    Calls Tryz.prog 85 #[.pointer (some ⟨gb, 0, none⟩), .int .u8 2, va] w2 (GPost w2 base F I gb W room ((oneA L 2 x).res W room L)) := by
  have hc := sapp_good h 2 (by decide) [x] va hv (by decide) rfl (fun e => by cases e)
  rw [if_pos (by intro a ha; obtain rfl := List.mem_singleton.1 ha; exact ⟨hx0, hx1⟩)] at hc
  have e : simpA W L 2 [x] = oneA L 2 x := by
    unfold simpA
    rw [if_neg (fun q => by rw [q x (by simp)] at hn; cases hn)]
  rw [e] at hc
  exact hc
/-- App of package simp. -/
theorem sapp_any (h : Gr w base F I gb W room L) (o : Nat) (ho : o ≤ 255) (xs : List Int) (va : Value) (hv : SliceOf w .i64 va xs) :
    Calls Tryz.prog 85 #[.pointer (some ⟨gb, 0, none⟩), .int .u8 o, va] w (GPost w base F I gb W room (simpR W room L o xs)) := by
  unfold simpR
  by_cases hc : o ≤ 21 ∧ aryN o ≠ 0 ∧ aryN o = xs.length
  · rw [if_pos hc]
    exact sapp_good h o hc.1 xs va hv hc.2.1 hc.2.2 (sapp_nots o)
  · rw [if_neg hc]
    exact sapp_bad h o ho xs va hv hc
end
end Go.Proofs.YteamnchoddegpaaGreatDoor
namespace Go.Proofs.YteamnchoddegpaaGreatDoor
open Go.RowKit Go.Maps
set_option maxHeartbeats 3200000
theorem Lab.sub {w0 wr : World} {ts ts' : List Thing} (h : Lab w0 wr ts) (hs : ts'.Sublist ts) : Lab w0 wr ts' :=
  ⟨h.below, fun t ht => h.holds t (hs.subset ht), fun t ht => h.low t (hs.subset ht), fun t ht => h.high t (hs.subset ht), h.apart.sublist hs⟩
section
variable {w0 wr w' : World} {ts : List Thing} {F I : List Nat} {gb W room : Nat} {L : List PNode}
end
end Go.Proofs.YteamnchoddegpaaGreatDoor
