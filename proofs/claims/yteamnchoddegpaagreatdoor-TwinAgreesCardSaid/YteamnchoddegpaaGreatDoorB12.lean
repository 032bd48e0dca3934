/- SimpI, Comm, SimpJ: joined by wip/bundle.py. -/
import Derived.Test.YteamnchoddegpaaGreatDoorB1
import Derived.Test.YteamnchoddegpaaGreatDoorB2
import Derived.Test.YteamnchoddegpaaGreatDoorB3
import Derived.Test.YteamnchoddegpaaGreatDoorB4
import Derived.Test.YteamnchoddegpaaGreatDoorB5
import Derived.Test.YteamnchoddegpaaGreatDoorB6
import Derived.Test.YteamnchoddegpaaGreatDoorB7
import Derived.Test.YteamnchoddegpaaGreatDoorB8
import Derived.Test.YteamnchoddegpaaGreatDoorB9
import Derived.Test.YteamnchoddegpaaGreatDoorB10
import Derived.Test.YteamnchoddegpaaGreatDoorB11
import Derived.StillTailTactics
import Derived.Deep.DeepCutAuto
import Derived.BigQuiet
import Derived.Deep.QuietTactic
namespace Go.Proofs.YteamnchoddegpaaGreatDoor
open Go.RowKit Go.Maps
set_option maxHeartbeats 1600000
/-- What follows from a region on, in a row of statements. -/
def headAt : Code → Option Nat
  | .region i _ _ => some i
  | .seq a _ => headAt a
  | _ => none
def tailAt (id : Nat) : Code → Option Code
  | .seq a b => if headAt a = some id then some (.seq a b) else tailAt id b
  | _ => none
noncomputable def appRest23 : Code := (Tryz.f85.body.bind (tailAt 23)).getD .skip
/-- The first answer of rules that are left. -/
theorem firstA_drop {W : Nat} {L : List PNode} {o : Nat} {x y z : Int} {xs : List Int} {rs : List Rul} {j : Nat} {r : Rul} (h : rs[j]? = some r) : firstA W L o x y z xs (rs.drop j) = if (ruleA W L o x y z r).1 = 0 then firstA W L o x y z xs (rs.drop (j + 1)) else ansOf L (ruleA W L o x y z r) := by
  have hlt := (List.getElem?_eq_some_iff.1 h).1
  rw [List.drop_eq_getElem_cons hlt]
  have e : rs[j] = r := by rw [List.getElem?_eq_getElem hlt] at h; simpa using h
  rw [e]; rfl
def Rul.small (o : Nat) : Rul → Bool
  | .fixed _ _ u => decide (u ≤ 1)
  | .equal v => decide (v ≤ 1)
  | .full k => decide (k ≤ 3 ∧ (k = 3 → o = 11))
  | _ => true
theorem rules_small {o : Nat} (h1 : 2 ≤ o) (h2 : o ≤ 21) : ∀ r ∈ rulesOf o, r.small o = true := by
  have hc : o = 2 ∨ o = 3 ∨ o = 4 ∨ o = 5 ∨ o = 6 ∨ o = 7 ∨ o = 8 ∨ o = 9 ∨ o = 10 ∨ o = 11 ∨ o = 12 ∨ o = 13 ∨ o = 14 ∨ o = 15 ∨ o = 16 ∨ o = 17 ∨ o = 18 ∨ o = 19 ∨ o = 20 ∨ o = 21 := by omega
  rcases hc with rfl | rfl | rfl | rfl | rfl | rfl | rfl | rfl | rfl | rfl | rfl | rfl | rfl | rfl | rfl | rfl | rfl | rfl | rfl | rfl <;> simp [rulesOf, Rul.small]
/-- What a rule's answer may be. -/
theorem ruleA_kinds {W : Nat} {L : List PNode} {o : Nat} {x y z : Int} {r : Rul} (hW : W ≤ 64) (hw : WFL L) (hx : 0 ≤ x) (hy : 0 ≤ y) (hz : 0 ≤ z) (h1 : 2 ≤ o) (h2 : o ≤ 21) (hr : r ∈ rulesOf o) : (ruleA W L o x y z r).1 ≤ 3 ∧ 0 ≤ (ruleA W L o x y z r).2.1 ∧ ((ruleA W L o x y z r).1 = 3 → o = 11 ∧ (ruleA W L o x y z r).2.1 = x ∧ isNum L y = true) ∧ (ruleA W L o x y z r).2.2 < 18446744073709551616 := by
  have hs := rules_small h1 h2 r hr
  have hp : 2 ^ W ≤ 2 ^ 64 := Nat.pow_le_pow_right (by decide) hW
  have hp0 : 0 < 2 ^ W := Nat.pos_of_ne_zero (by simp)
  cases r with
  | twice =>
    simp only [ruleA]
    split
    · rename_i nd hnd
      split
      · refine ⟨by simp, ?_, by simp, by simp⟩
        have := hw.args _ _ hnd
        show 0 ≤ nd.2.2.getD 0 0
        match nd.2.2, this with
        | [], _ => simp
        | a :: l, h => exact (h a (by simp)).1
      · simp
    · simp
  | neutral v => simp only [ruleA]; split <;> simp [hx]
  | fixed i v u => simp only [Rul.small, decide_eq_true_eq] at hs; simp only [ruleA]; split <;> simp; omega
  | equal v => simp only [Rul.small, decide_eq_true_eq] at hs; simp only [ruleA]; split <;> simp; omega
  | both => simp only [ruleA]; split <;> simp [hx]
  | full k =>
    simp only [Rul.small, decide_eq_true_eq] at hs
    simp only [ruleA]
    split
    · rename_i hc; exact ⟨hs.1, hx, fun h => ⟨hs.2 h, rfl, hc.1⟩, by show 2 ^ W - 1 < _; omega⟩
    · simp
  | beyond => simp only [ruleA]; split <;> simp
  | chosen =>
    simp only [ruleA]
    split
    · simp [hy]
    · split
      · split <;> simp [hy, hz]
      · simp
theorem getD_nonneg {ys : List Int} {l : Int} (h : ∀ t ∈ ys, (0 : Int) ≤ t ∧ t < l) (i : Nat) : 0 ≤ ys.getD i 0 := by
  rw [List.getD_eq_getElem?_getD]
  cases hy : ys[i]? with
  | none => simp
  | some y => exact (h y (List.mem_of_getElem? hy)).1
theorem Asked.slice {w : World} {xb gb ab ca nb ib n o : Nat} {L : List PNode} {ys : List Int} (h : Asked w xb gb ab ca nb ib n L o ys) : SliceOf w .i64 (.slice (some ⟨ab, 0, none⟩) n ca) ys :=
  ⟨_, _, _, rfl, h.len, fun i hi => ⟨ab, 0, rfl, by rw [Nat.zero_add, h.a i hi]⟩⟩
section
variable {w wr : World} {base : Nat} {F I : List Nat} {gb W room : Nat} {L : List PNode} {xb ab ca nb ib n o : Nat} {ys : List Int}
set_option maxRecDepth 100000 in
theorem sapp_rules {u2 u3 u4 u5 u6 u7 u8 u9 u11 u12 u13 u14 u15 u16 u17 u18 u19 u20 u21 u22 u23 u24 u25 u26 u27 u28 u29 u30 u31 u32 u33 u34 u35 u36 u37 u38 u39 u40 u41 u42 u43 u44 u45 u46 u47 u48 u49 u50 u51 u52 u53 u54 u55 u56 u57 u58 u59 u60 u61 u62 u63 u64 u65 u66 u67 u68 u69 u70 u71 u72 u73 u74 u75 u76 u77 u78 u79 u80 u81 u82 u83 u84 u85 u86 u87 u88 u89 u90 u91 u92 u93 u94 u95 u96 u97 u98 u99 u100 u101 u102 u103 u104 u105 u106 u107 u108 u109 u110 u111 u112 u113 u114 u115 u116 u117 u118 u119 u120 u121 u122 u123 u124 u125 u126 u127 u128 u129 u130 u131 u132 u133 u134 u135 u136 u137 u138 u139 u140 u141 u142 u143 u144 u145 u146 u147 u148 u149 u150 u151 u152 u153 u154 u155 u156 u157 u158 u159 u160 u161 u162 u163 u164 u165 u166 u167 u168 u169 u170 u171 u172 u173 u174 u175 u176 u177 u178 u179 u180 u181 u182 u183 u184 u185 u186 u187 u188 u189 u190 u191 u192 u193 u194 u195 u196 u197 u198 u199 u200 u201 u202 u203 u204 u205 u206 u207 u208 u209 u210 u211 u212 u213 u214 u215 u216 u217 u218 u219 u220 u221 u222 u223 u224 u225 u226 u227 u228 u229 u230 u231 u232 u233 u234 u235 u236 u237 u238 u239 u240 u241 u242 u243 u244 u245 u246 u247 u248 u249 u250 u251 u252 u253 : Value} (hb : Below w.heap.size w wr) (h : Gr w base F I gb W room L) (ha : Asked wr xb gb ab ca nb ib n L o ys) (ho1 : 2 ≤ o) (ho2 : o ≤ 21) (hl : aryN o = n) (hys : ∀ t ∈ ys, (0 : Int) ≤ t ∧ t < (L.length : Int)) (hnn : ¬ ∀ t ∈ ys, isNum L t = true)
    (hrec : o = 11 → ∀ (x : Int) (w2 : World) (va : Value), 0 ≤ x → x < (L.length : Int) → isNum L x = false → SliceOf w2 .i64 va [x] → Gr w2 base F I gb W room L → Calls Tryz.prog 85 #[.pointer (some ⟨gb, 0, none⟩), .int .u8 2, va] w2 (GPost w2 base F I gb W room ((oneA L 2 x).res W room L))) :
    Code.wp Tryz.prog appRest23 (bodyPost Tryz.prog Tryz.f85 (GPost w base F I gb W room ((firstA W L o (ys.getD 0 0) (ys.getD 1 0) (ys.getD 2 0) ys (rulesOf o)).res W room L))) ⟨(List.toArray (.pointer (some ⟨gb, 0, none⟩) :: .int .u8 o :: u2 :: u3 :: u4 :: u5 :: u6 :: u7 :: u8 :: u9 :: .pointer (some ⟨xb, 0, none⟩) :: u11 :: u12 :: u13 :: u14 :: u15 :: u16 :: u17 :: u18 :: u19 :: u20 :: u21 :: u22 :: u23 :: u24 :: u25 :: u26 :: u27 :: u28 :: u29 :: u30 :: u31 :: u32 :: u33 :: u34 :: u35 :: u36 :: u37 :: u38 :: u39 :: u40 :: u41 :: u42 :: u43 :: u44 :: u45 :: u46 :: u47 :: u48 :: u49 :: u50 :: u51 :: u52 :: u53 :: u54 :: u55 :: u56 :: u57 :: u58 :: u59 :: u60 :: u61 :: u62 :: u63 :: u64 :: u65 :: u66 :: u67 :: u68 :: u69 :: u70 :: u71 :: u72 :: u73 :: u74 :: u75 :: u76 :: u77 :: u78 :: u79 :: u80 :: u81 :: u82 :: u83 :: u84 :: u85 :: u86 :: u87 :: u88 :: u89 :: u90 :: u91 :: u92 :: u93 :: u94 :: u95 :: u96 :: u97 :: u98 :: u99 :: u100 :: u101 :: u102 :: u103 :: u104 :: u105 :: u106 :: u107 :: u108 :: u109 :: u110 :: u111 :: u112 :: u113 :: u114 :: u115 :: u116 :: u117 :: u118 :: u119 :: u120 :: u121 :: u122 :: u123 :: u124 :: u125 :: u126 :: u127 :: u128 :: u129 :: u130 :: u131 :: u132 :: u133 :: u134 :: u135 :: u136 :: u137 :: u138 :: u139 :: u140 :: u141 :: u142 :: u143 :: u144 :: u145 :: u146 :: u147 :: u148 :: u149 :: u150 :: u151 :: u152 :: u153 :: u154 :: u155 :: u156 :: u157 :: u158 :: u159 :: u160 :: u161 :: u162 :: u163 :: u164 :: u165 :: u166 :: u167 :: u168 :: u169 :: u170 :: u171 :: u172 :: u173 :: u174 :: u175 :: u176 :: u177 :: u178 :: u179 :: u180 :: u181 :: u182 :: u183 :: u184 :: u185 :: u186 :: u187 :: u188 :: u189 :: u190 :: u191 :: u192 :: u193 :: u194 :: u195 :: u196 :: u197 :: u198 :: u199 :: u200 :: u201 :: u202 :: u203 :: u204 :: u205 :: u206 :: u207 :: u208 :: u209 :: u210 :: u211 :: u212 :: u213 :: u214 :: u215 :: u216 :: u217 :: u218 :: u219 :: u220 :: u221 :: u222 :: u223 :: u224 :: u225 :: u226 :: u227 :: u228 :: u229 :: u230 :: u231 :: u232 :: u233 :: u234 :: u235 :: u236 :: u237 :: u238 :: u239 :: u240 :: u241 :: u242 :: u243 :: u244 :: u245 :: u246 :: u247 :: u248 :: u249 :: u250 :: u251 :: u252 :: u253 :: [])), []⟩ wr := by
  obtain ⟨R, hR⟩ : ∃ R, (firstA W L o (ys.getD 0 0) (ys.getD 1 0) (ys.getD 2 0) ys (rulesOf o)) = R := ⟨_, rfl⟩
  rw [hR]
  have hru := rules_any o ho1 ho2 wr
  have HR := Lib.hid hR; have HB := Lib.hid hb; have HG := Lib.hid h; have HA := Lib.hid ha; have HYS := Lib.hid (And.intro hys hnn); have HREC := Lib.hid hrec; have HRU := Lib.hid hru; have HO := Lib.hid (And.intro ho1 (And.intro ho2 hl))
  clear hR hb h ha hys hnn hrec hru ho1 ho2 hl
  conv => arg 2; whnf
  go_wp2_with fail
  go_at_call 103
  refine HRU.out.mono ?_
  rintro e w1 ⟨mb, sb, rfl, hrow, hb1⟩
  have hlen : (rulesOf o).length ≤ 3 := by
    obtain ⟨h1, h2, -⟩ := HO.out
    have hc : o = 2 ∨ o = 3 ∨ o = 4 ∨ o = 5 ∨ o = 6 ∨ o = 7 ∨ o = 8 ∨ o = 9 ∨ o = 10 ∨ o = 11 ∨ o = 12 ∨ o = 13 ∨ o = 14 ∨ o = 15 ∨ o = 16 ∨ o = 17 ∨ o = 18 ∨ o = 19 ∨ o = 20 ∨ o = 21 := by omega
    rcases hc with rfl | rfl | rfl | rfl | rfl | rfl | rfl | rfl | rfl | rfl | rfl | rfl | rfl | rfl | rfl | rfl | rfl | rfl | rfl | rfl <;> decide
  obtain ⟨rs, hrs⟩ : ∃ rs, rulesOf o = rs := ⟨_, rfl⟩
  rw [hrs] at hlen hrow
  have HRS := Lib.hid hrs
  have HB1 := Lib.hid (HB.out.trans (hb1.mono HB.out.size)); have HROW := Lib.hid hrow; have HA1 := Lib.hid (HA.out.below hb1); have HG1 := Lib.hid (HG.out.later (HB.out.trans (hb1.mono HB.out.size)))
  rw [hrs]
  obtain ⟨m, hm⟩ : ∃ m, rs.length = m := ⟨_, rfl⟩
  rw [hm] at hlen ⊢
  have HM := Lib.hid hm
  clear hb1 hrow hrs hm
  go_wp2
  go_loopw [214] (fun i wx => ∃ j : Nat, j ≤ m ∧ i = .int .i64 j ∧ Below w1.heap.size w1 wx ∧ firstA W L o (ys.getD 0 0) (ys.getD 1 0) (ys.getD 2 0) ys (rs.drop j) = R) (fun i _ => m - (intOf i).toNat)
  case atStart => exact ⟨0, by omega, rfl, Below.refl _ _, by rw [List.drop_zero, ← HRS.out]; exact HR.out⟩
  case round =>
    obtain ⟨j, hj, rfl, hbx, hfst⟩ := hrel
    by_cases hlt : j < m
    · obtain ⟨r, hr⟩ : ∃ r, rs[j]? = some r := ⟨_, List.getElem?_eq_getElem (by have := HM.out; omega)⟩
      obtain ⟨f, hcf, hrv⟩ := HROW.out.2 j r hr
      have hcx := cell_later hbx hcf
      have hgx := HG1.out.later hbx
      have hcall := rule_any (HA1.out.below hbx) hgx HO.out.1 HO.out.2.1 HO.out.2.2 HYS.out.1 r (by rw [HRS.out]; exact List.mem_of_getElem? hr) (hrv.below hbx)
      have hkind := ruleA_kinds (W := W) (L := L) (x := ys.getD 0 0) (y := ys.getD 1 0) (z := ys.getD 2 0) hgx.w2 hgx.wf (getD_nonneg HYS.out.1 0) (getD_nonneg HYS.out.1 1) (getD_nonneg HYS.out.1 2) HO.out.1 HO.out.2.1 (show r ∈ rulesOf o by rw [HRS.out]; exact List.mem_of_getElem? hr)
      rw [firstA_drop hr] at hfst
      generalize ruleA W L o (ys.getD 0 0) (ys.getD 1 0) (ys.getD 2 0) r = q at *
      obtain ⟨kd, tm, nu⟩ := q
      simp only at hfst hkind
      obtain ⟨N, caps, rfl, henter, hcl⟩ := hcall
      have HF := Lib.hid hfst; have HK := Lib.hid hkind; have HBX := Lib.hid hbx; have HGX := Lib.hid hgx; have HCL := Lib.hid hcl
      clear hfst hkind hbx hgx hcl hcf hr hrv
      go_wp2_with fail
      refine HCL.out.mono ?_
      rintro e w3 ⟨rfl, hb3⟩
      have hb4 := hb3.trans ((below_new w3 (.cells #[.int .u8 kd, .int .i64 tm, .int .u64 nu] 182)).mono hb3.size)
      have HB4 := Lib.hid hb4
      clear hb3 hb4
      unfold ansV
      have hk3 : kd = 0 ∨ kd = 1 ∨ kd = 2 ∨ kd = 3 := by have := HK.out.1; omega
      rcases hk3 with rfl | rfl | rfl | rfl
      · go_wp2
        go_roundw
        case rel => exact ⟨j + 1, by omega, by go_num, HBX.out.trans (HB4.out.mono HBX.out.size), HF.out⟩
        case measure => simp [intOf]; omega
      · have hR : R = .term tm := by rw [← HF.out]; rfl
        have ht0 := HK.out.2.1
        obtain ⟨tn, rfl⟩ := Int.eq_ofNat_of_zero_le ht0
        subst hR
        go_wp2
        go_ret2
        exact GPost.same HG.out (HB1.out.trans ((HBX.out.trans (HB4.out.mono HBX.out.size)).mono (HB1.out.size))) tn 0
      · have hR : R = .num nu := by rw [← HF.out]; rfl
        subst hR
        have hq := HK.out.2.2.2
        have hbz := HBX.out.trans (HB4.out.mono HBX.out.size)
        have HC := Lib.hid (const_any (HG1.out.later hbz) nu hq)
        have HBZ := Lib.hid hbz
        clear hq hbz
        go_wp2_with fail
        go_at_call 28
        refine HC.out.mono ?_
        intro e w4 hp
        obtain ⟨F', I', rfl, hrest⟩ := hp.later (HB1.out.trans (HBZ.out.mono HB1.out.size))
        have HQ := Lib.hid hrest
        clear hp hrest
        go_wp2
        go_ret2
        exact ⟨F', I', rfl, HQ.out⟩
      · have ho := HK.out.2.2.1 rfl
        obtain ⟨rfl, hx, hy⟩ := ho
        have hR : R = oneA L 2 tm := by rw [← HF.out]; rfl
        have hn2 : n = 2 := HO.out.2.2.symm
        obtain ⟨x, y, rfl⟩ : ∃ x y, ys = [x, y] := by
          have := HA.out.len
          match ys, this with
          | [x, y], _ => exact ⟨x, y, rfl⟩
          | [], h => simp at h; omega
          | [_], h => simp at h; omega
          | _ :: _ :: _ :: _, h => simp at h; omega
        obtain rfl : tm = x := hx
        have hnx : isNum L tm = false := by
          cases hc : isNum L tm with
          | false => rfl
          | true => exact absurd (fun t ht => (List.mem_cons.1 ht).elim (fun e => e ▸ hc) (fun ht => (List.mem_singleton.1 ht) ▸ hy)) HYS.out.2
        have hin := HYS.out.1 tm (by simp)
        have hb4 : Below wr.heap.size wr (w3.alloc (.cells #[.int .u8 3, .int .i64 tm, .int .u64 nu] 182)) := HB4.out
        have hbz := HBX.out.trans (hb4.mono HBX.out.size)
        have hb5 := hbz.trans ((below_new (w3.alloc (.cells #[.int .u8 3, .int .i64 tm, .int .u64 nu] 182)) (.cells #[.int .i64 tm] 3)).mono hbz.size)
        have hsl : SliceOf ((w3.alloc (.cells #[.int .u8 3, .int .i64 tm, .int .u64 nu] 182)).alloc (.cells #[.int .i64 tm] 3)) .i64 (.slice (some ⟨w3.heap.size + 1, 0, none⟩) 1 1) [tm] := by
          have := sliceOf_new (w3.alloc (.cells #[.int .u8 3, .int .i64 tm, .int .u64 nu] 182)) .i64 3 [tm] 1
          rw [alsz] at this
          exact this
        have HC := Lib.hid (HREC.out rfl tm _ _ hin.1 hin.2 hnx hsl (HG1.out.later hb5))
        have HBZ := Lib.hid hb5
        subst hR
        clear hin hnx hbz hb5 hy hn2 hb4 hsl
        go_wp2_with fail
        go_at_call 85
        refine HC.out.mono ?_
        intro e w4 hp
        obtain ⟨F', I', rfl, hrest⟩ := hp.later (HB1.out.trans (HBZ.out.mono HB1.out.size))
        have HQ := Lib.hid hrest
        clear hp hrest
        go_wp2
        go_ret2
        exact ⟨F', I', rfl, HQ.out⟩
    · obtain rfl : j = m := by omega
      rw [List.drop_of_length_le (by rw [HM.out]; exact Nat.le_refl _)] at hfst
      have hR : R = .app o ys := hfst.symm
      subst hR
      have HBX := Lib.hid hbx
      have ha := HA1.out.below hbx
      have c2 := ha.c2
      have HC := Lib.hid (app_any (HG1.out.later hbx) o (by have := HO.out.2.1; omega) ys _ ha.slice)
      clear hfst hbx ha
      go_wp2_with fail
      go_at_call 32
      refine HC.out.mono ?_
      intro e w4 hp
      obtain ⟨F', I', rfl, hrest⟩ := hp.later (HB1.out.trans (HBX.out.mono HB1.out.size))
      have HQ := Lib.hid hrest
      clear hp hrest
      go_wp2
      go_ret2
      exact ⟨F', I', rfl, HQ.out⟩
end
end Go.Proofs.YteamnchoddegpaaGreatDoor
namespace Go.Proofs.YteamnchoddegpaaGreatDoor
open Go.RowKit Go.Maps
set_option maxHeartbeats 1600000
/-- A region, by its number, wherever it stands. -/
def regionIn (id : Nat) : Code → Option Code
  | .region i ops d => if i = id then some (.region i ops d) else none
  | .seq a b => (regionIn id a).or (regionIn id b)
  | .cond _ a b => (regionIn id a).or (regionIn id b)
  | .block _ a => regionIn id a
  | .loop a => regionIn id a
  | _ => none
noncomputable def regionOf (id : Nat) : Code := (Tryz.f85.body.bind (regionIn id)).getD .skip
section
variable {w : World} {xb ab : Nat}
set_option maxRecDepth 100000 in
theorem app_region20 {u2 u3 u4 u5 u6 u7 u8 u9 u11 u12 u13 u14 u15 u16 u17 u18 u19 u20 u21 u22 u23 u24 u25 u26 u27 u28 u29 u30 u31 u32 u33 u34 u35 u36 u37 u38 u39 u40 u41 u42 u43 u44 u45 u46 u47 u48 u49 u50 u51 u52 u53 u54 u55 u56 u57 u58 u59 u60 u61 u62 u63 u64 u65 u66 u67 u68 u69 u70 u71 u72 u73 u74 u75 u76 u77 u78 u79 u80 u81 u82 u83 u84 u85 u86 u87 u88 u89 u90 u91 u92 u93 u94 u95 u96 u97 u98 u99 u100 u101 u102 u103 u104 u105 u106 u107 u108 u109 u110 u111 u112 u113 u114 u115 u116 u117 u118 u119 u120 u121 u122 u123 u124 u125 u126 u127 u128 u129 u130 u131 u132 u133 u134 u135 u136 u137 u138 u139 u140 u141 u142 u143 u144 u145 u146 u147 u148 u149 u150 u151 u152 u153 u154 u155 u156 u157 u158 u159 u160 u161 u162 u163 u164 u165 u166 u167 u168 u169 u170 u171 u172 u173 u174 u175 u176 u177 u178 u179 u180 u181 u182 u183 u184 u185 u186 u187 u188 u189 u190 u191 u192 u193 u194 u195 u196 u197 u198 u199 u200 u201 u202 u203 u204 u205 u206 u207 u208 u209 u210 u211 u212 u213 u214 u215 u216 u217 u218 u219 u220 u221 u222 u223 u224 u225 u226 u227 u228 u229 u230 u231 u232 u233 u234 u235 u236 u237 u238 u239 u240 u241 u242 u243 u244 u245 u246 u247 u248 u249 u250 u251 u252 u253 : Value} {u0 u1 : Value} {Q : Exit → Act → World → Prop} {x y : Int} {m : Nat} (c : w.cell? ⟨xb, 2, none⟩ = some (.slice (some ⟨ab, 0, none⟩) 2 m)) (hm : 2 ≤ m) (a0 : w.cell? ⟨ab, 0, none⟩ = some (.int .i64 x)) (a1 : w.cell? ⟨ab, 1, none⟩ = some (.int .i64 y)) (f0 : w.frozen? ⟨ab, 0, none⟩ = false) (f1 : w.frozen? ⟨ab, 1, none⟩ = false)
    (hQ : ∀ v145 v146 v147 v148 v149 v150 v151 v152 v153 v154 v155 v156 v157 v158 v159 v160 v161 v162 v163 v164 v165 v166 : Value, Q .normal ⟨(List.toArray (u0 :: u1 :: u2 :: u3 :: u4 :: u5 :: u6 :: u7 :: u8 :: u9 :: .pointer (some ⟨xb, 0, none⟩) :: u11 :: u12 :: u13 :: u14 :: u15 :: u16 :: u17 :: u18 :: u19 :: u20 :: u21 :: u22 :: u23 :: u24 :: u25 :: u26 :: u27 :: u28 :: u29 :: u30 :: u31 :: u32 :: u33 :: u34 :: u35 :: u36 :: u37 :: u38 :: u39 :: u40 :: u41 :: u42 :: u43 :: u44 :: u45 :: u46 :: u47 :: u48 :: u49 :: u50 :: u51 :: u52 :: u53 :: u54 :: u55 :: u56 :: u57 :: u58 :: u59 :: u60 :: u61 :: u62 :: u63 :: u64 :: u65 :: u66 :: u67 :: u68 :: u69 :: u70 :: u71 :: u72 :: u73 :: u74 :: u75 :: u76 :: u77 :: u78 :: u79 :: u80 :: u81 :: u82 :: u83 :: u84 :: u85 :: u86 :: u87 :: u88 :: u89 :: u90 :: u91 :: u92 :: u93 :: u94 :: u95 :: u96 :: u97 :: u98 :: u99 :: u100 :: u101 :: u102 :: u103 :: u104 :: u105 :: u106 :: u107 :: u108 :: u109 :: u110 :: u111 :: u112 :: u113 :: u114 :: u115 :: u116 :: u117 :: u118 :: u119 :: u120 :: u121 :: u122 :: u123 :: u124 :: u125 :: u126 :: u127 :: u128 :: u129 :: u130 :: u131 :: u132 :: u133 :: u134 :: u135 :: u136 :: u137 :: u138 :: u139 :: u140 :: u141 :: u142 :: u143 :: u144 :: v145 :: v146 :: v147 :: v148 :: v149 :: v150 :: v151 :: v152 :: v153 :: v154 :: v155 :: v156 :: v157 :: v158 :: v159 :: v160 :: v161 :: v162 :: v163 :: v164 :: v165 :: v166 :: u167 :: u168 :: u169 :: u170 :: u171 :: u172 :: u173 :: u174 :: u175 :: u176 :: u177 :: u178 :: u179 :: u180 :: u181 :: u182 :: u183 :: u184 :: u185 :: u186 :: u187 :: u188 :: u189 :: u190 :: u191 :: u192 :: u193 :: u194 :: u195 :: u196 :: u197 :: u198 :: u199 :: u200 :: u201 :: u202 :: u203 :: u204 :: u205 :: u206 :: u207 :: u208 :: u209 :: u210 :: u211 :: u212 :: u213 :: u214 :: u215 :: u216 :: u217 :: u218 :: u219 :: u220 :: u221 :: u222 :: u223 :: u224 :: u225 :: u226 :: u227 :: u228 :: u229 :: u230 :: u231 :: u232 :: u233 :: u234 :: u235 :: u236 :: u237 :: u238 :: u239 :: u240 :: u241 :: u242 :: u243 :: u244 :: u245 :: u246 :: u247 :: u248 :: u249 :: u250 :: u251 :: u252 :: u253 :: [])), []⟩ ((w.setCell ⟨ab, 0, none⟩ (.int .i64 y)).setCell ⟨ab, 1, none⟩ (.int .i64 x)).drew) :
    Code.wp Tryz.prog (regionOf 20) Q ⟨(List.toArray (u0 :: u1 :: u2 :: u3 :: u4 :: u5 :: u6 :: u7 :: u8 :: u9 :: .pointer (some ⟨xb, 0, none⟩) :: u11 :: u12 :: u13 :: u14 :: u15 :: u16 :: u17 :: u18 :: u19 :: u20 :: u21 :: u22 :: u23 :: u24 :: u25 :: u26 :: u27 :: u28 :: u29 :: u30 :: u31 :: u32 :: u33 :: u34 :: u35 :: u36 :: u37 :: u38 :: u39 :: u40 :: u41 :: u42 :: u43 :: u44 :: u45 :: u46 :: u47 :: u48 :: u49 :: u50 :: u51 :: u52 :: u53 :: u54 :: u55 :: u56 :: u57 :: u58 :: u59 :: u60 :: u61 :: u62 :: u63 :: u64 :: u65 :: u66 :: u67 :: u68 :: u69 :: u70 :: u71 :: u72 :: u73 :: u74 :: u75 :: u76 :: u77 :: u78 :: u79 :: u80 :: u81 :: u82 :: u83 :: u84 :: u85 :: u86 :: u87 :: u88 :: u89 :: u90 :: u91 :: u92 :: u93 :: u94 :: u95 :: u96 :: u97 :: u98 :: u99 :: u100 :: u101 :: u102 :: u103 :: u104 :: u105 :: u106 :: u107 :: u108 :: u109 :: u110 :: u111 :: u112 :: u113 :: u114 :: u115 :: u116 :: u117 :: u118 :: u119 :: u120 :: u121 :: u122 :: u123 :: u124 :: u125 :: u126 :: u127 :: u128 :: u129 :: u130 :: u131 :: u132 :: u133 :: u134 :: u135 :: u136 :: u137 :: u138 :: u139 :: u140 :: u141 :: u142 :: u143 :: u144 :: u145 :: u146 :: u147 :: u148 :: u149 :: u150 :: u151 :: u152 :: u153 :: u154 :: u155 :: u156 :: u157 :: u158 :: u159 :: u160 :: u161 :: u162 :: u163 :: u164 :: u165 :: u166 :: u167 :: u168 :: u169 :: u170 :: u171 :: u172 :: u173 :: u174 :: u175 :: u176 :: u177 :: u178 :: u179 :: u180 :: u181 :: u182 :: u183 :: u184 :: u185 :: u186 :: u187 :: u188 :: u189 :: u190 :: u191 :: u192 :: u193 :: u194 :: u195 :: u196 :: u197 :: u198 :: u199 :: u200 :: u201 :: u202 :: u203 :: u204 :: u205 :: u206 :: u207 :: u208 :: u209 :: u210 :: u211 :: u212 :: u213 :: u214 :: u215 :: u216 :: u217 :: u218 :: u219 :: u220 :: u221 :: u222 :: u223 :: u224 :: u225 :: u226 :: u227 :: u228 :: u229 :: u230 :: u231 :: u232 :: u233 :: u234 :: u235 :: u236 :: u237 :: u238 :: u239 :: u240 :: u241 :: u242 :: u243 :: u244 :: u245 :: u246 :: u247 :: u248 :: u249 :: u250 :: u251 :: u252 :: u253 :: [])), []⟩ w := by
  have hm' : (2 : Int) ≤ (m : Int) := by omega
  have HQ := Lib.hid hQ
  clear hQ
  conv => arg 2; whnf
  go_still_tail 20, (by kernel_rfl)
  go_wp2
  exact HQ.out _ _ _ _ _ _ _ _ _ _ _ _ _ _ _ _ _ _ _ _ _ _
set_option maxRecDepth 100000 in
theorem app_region21 {u2 u3 u4 u5 u6 u7 u8 u9 u11 u12 u13 u14 u15 u16 u17 u18 u19 u20 u21 u22 u23 u24 u25 u26 u27 u28 u29 u30 u31 u32 u33 u34 u35 u36 u37 u38 u39 u40 u41 u42 u43 u44 u45 u46 u47 u48 u49 u50 u51 u52 u53 u54 u55 u56 u57 u58 u59 u60 u61 u62 u63 u64 u65 u66 u67 u68 u69 u70 u71 u72 u73 u74 u75 u76 u77 u78 u79 u80 u81 u82 u83 u84 u85 u86 u87 u88 u89 u90 u91 u92 u93 u94 u95 u96 u97 u98 u99 u100 u101 u102 u103 u104 u105 u106 u107 u108 u109 u110 u111 u112 u113 u114 u115 u116 u117 u118 u119 u120 u121 u122 u123 u124 u125 u126 u127 u128 u129 u130 u131 u132 u133 u134 u135 u136 u137 u138 u139 u140 u141 u142 u143 u144 u145 u146 u147 u148 u149 u150 u151 u152 u153 u154 u155 u156 u157 u158 u159 u160 u161 u162 u163 u164 u165 u166 u167 u168 u169 u170 u171 u172 u173 u174 u175 u176 u177 u178 u179 u180 u181 u182 u183 u184 u185 u186 u187 u188 u189 u190 u191 u192 u193 u194 u195 u196 u197 u198 u199 u200 u201 u202 u203 u204 u205 u206 u207 u208 u209 u210 u211 u212 u213 u214 u215 u216 u217 u218 u219 u220 u221 u222 u223 u224 u225 u226 u227 u228 u229 u230 u231 u232 u233 u234 u235 u236 u237 u238 u239 u240 u241 u242 u243 u244 u245 u246 u247 u248 u249 u250 u251 u252 u253 : Value} {u0 u1 : Value} {Q : Exit → Act → World → Prop} {x y : Nat} {m : Nat} (c : w.cell? ⟨xb, 3, none⟩ = some (.slice (some ⟨ab, 0, none⟩) 2 m)) (hm : 2 ≤ m) (a0 : w.cell? ⟨ab, 0, none⟩ = some (.int .u64 x)) (a1 : w.cell? ⟨ab, 1, none⟩ = some (.int .u64 y)) (f0 : w.frozen? ⟨ab, 0, none⟩ = false) (f1 : w.frozen? ⟨ab, 1, none⟩ = false)
    (hQ : ∀ v167 v168 v169 v170 v171 v172 v173 v174 v175 v176 v177 v178 v179 v180 v181 v182 v183 v184 v185 v186 v187 v188 : Value, Q .normal ⟨(List.toArray (u0 :: u1 :: u2 :: u3 :: u4 :: u5 :: u6 :: u7 :: u8 :: u9 :: .pointer (some ⟨xb, 0, none⟩) :: u11 :: u12 :: u13 :: u14 :: u15 :: u16 :: u17 :: u18 :: u19 :: u20 :: u21 :: u22 :: u23 :: u24 :: u25 :: u26 :: u27 :: u28 :: u29 :: u30 :: u31 :: u32 :: u33 :: u34 :: u35 :: u36 :: u37 :: u38 :: u39 :: u40 :: u41 :: u42 :: u43 :: u44 :: u45 :: u46 :: u47 :: u48 :: u49 :: u50 :: u51 :: u52 :: u53 :: u54 :: u55 :: u56 :: u57 :: u58 :: u59 :: u60 :: u61 :: u62 :: u63 :: u64 :: u65 :: u66 :: u67 :: u68 :: u69 :: u70 :: u71 :: u72 :: u73 :: u74 :: u75 :: u76 :: u77 :: u78 :: u79 :: u80 :: u81 :: u82 :: u83 :: u84 :: u85 :: u86 :: u87 :: u88 :: u89 :: u90 :: u91 :: u92 :: u93 :: u94 :: u95 :: u96 :: u97 :: u98 :: u99 :: u100 :: u101 :: u102 :: u103 :: u104 :: u105 :: u106 :: u107 :: u108 :: u109 :: u110 :: u111 :: u112 :: u113 :: u114 :: u115 :: u116 :: u117 :: u118 :: u119 :: u120 :: u121 :: u122 :: u123 :: u124 :: u125 :: u126 :: u127 :: u128 :: u129 :: u130 :: u131 :: u132 :: u133 :: u134 :: u135 :: u136 :: u137 :: u138 :: u139 :: u140 :: u141 :: u142 :: u143 :: u144 :: u145 :: u146 :: u147 :: u148 :: u149 :: u150 :: u151 :: u152 :: u153 :: u154 :: u155 :: u156 :: u157 :: u158 :: u159 :: u160 :: u161 :: u162 :: u163 :: u164 :: u165 :: u166 :: v167 :: v168 :: v169 :: v170 :: v171 :: v172 :: v173 :: v174 :: v175 :: v176 :: v177 :: v178 :: v179 :: v180 :: v181 :: v182 :: v183 :: v184 :: v185 :: v186 :: v187 :: v188 :: u189 :: u190 :: u191 :: u192 :: u193 :: u194 :: u195 :: u196 :: u197 :: u198 :: u199 :: u200 :: u201 :: u202 :: u203 :: u204 :: u205 :: u206 :: u207 :: u208 :: u209 :: u210 :: u211 :: u212 :: u213 :: u214 :: u215 :: u216 :: u217 :: u218 :: u219 :: u220 :: u221 :: u222 :: u223 :: u224 :: u225 :: u226 :: u227 :: u228 :: u229 :: u230 :: u231 :: u232 :: u233 :: u234 :: u235 :: u236 :: u237 :: u238 :: u239 :: u240 :: u241 :: u242 :: u243 :: u244 :: u245 :: u246 :: u247 :: u248 :: u249 :: u250 :: u251 :: u252 :: u253 :: [])), []⟩ ((w.setCell ⟨ab, 0, none⟩ (.int .u64 y)).setCell ⟨ab, 1, none⟩ (.int .u64 x)).drew) :
    Code.wp Tryz.prog (regionOf 21) Q ⟨(List.toArray (u0 :: u1 :: u2 :: u3 :: u4 :: u5 :: u6 :: u7 :: u8 :: u9 :: .pointer (some ⟨xb, 0, none⟩) :: u11 :: u12 :: u13 :: u14 :: u15 :: u16 :: u17 :: u18 :: u19 :: u20 :: u21 :: u22 :: u23 :: u24 :: u25 :: u26 :: u27 :: u28 :: u29 :: u30 :: u31 :: u32 :: u33 :: u34 :: u35 :: u36 :: u37 :: u38 :: u39 :: u40 :: u41 :: u42 :: u43 :: u44 :: u45 :: u46 :: u47 :: u48 :: u49 :: u50 :: u51 :: u52 :: u53 :: u54 :: u55 :: u56 :: u57 :: u58 :: u59 :: u60 :: u61 :: u62 :: u63 :: u64 :: u65 :: u66 :: u67 :: u68 :: u69 :: u70 :: u71 :: u72 :: u73 :: u74 :: u75 :: u76 :: u77 :: u78 :: u79 :: u80 :: u81 :: u82 :: u83 :: u84 :: u85 :: u86 :: u87 :: u88 :: u89 :: u90 :: u91 :: u92 :: u93 :: u94 :: u95 :: u96 :: u97 :: u98 :: u99 :: u100 :: u101 :: u102 :: u103 :: u104 :: u105 :: u106 :: u107 :: u108 :: u109 :: u110 :: u111 :: u112 :: u113 :: u114 :: u115 :: u116 :: u117 :: u118 :: u119 :: u120 :: u121 :: u122 :: u123 :: u124 :: u125 :: u126 :: u127 :: u128 :: u129 :: u130 :: u131 :: u132 :: u133 :: u134 :: u135 :: u136 :: u137 :: u138 :: u139 :: u140 :: u141 :: u142 :: u143 :: u144 :: u145 :: u146 :: u147 :: u148 :: u149 :: u150 :: u151 :: u152 :: u153 :: u154 :: u155 :: u156 :: u157 :: u158 :: u159 :: u160 :: u161 :: u162 :: u163 :: u164 :: u165 :: u166 :: u167 :: u168 :: u169 :: u170 :: u171 :: u172 :: u173 :: u174 :: u175 :: u176 :: u177 :: u178 :: u179 :: u180 :: u181 :: u182 :: u183 :: u184 :: u185 :: u186 :: u187 :: u188 :: u189 :: u190 :: u191 :: u192 :: u193 :: u194 :: u195 :: u196 :: u197 :: u198 :: u199 :: u200 :: u201 :: u202 :: u203 :: u204 :: u205 :: u206 :: u207 :: u208 :: u209 :: u210 :: u211 :: u212 :: u213 :: u214 :: u215 :: u216 :: u217 :: u218 :: u219 :: u220 :: u221 :: u222 :: u223 :: u224 :: u225 :: u226 :: u227 :: u228 :: u229 :: u230 :: u231 :: u232 :: u233 :: u234 :: u235 :: u236 :: u237 :: u238 :: u239 :: u240 :: u241 :: u242 :: u243 :: u244 :: u245 :: u246 :: u247 :: u248 :: u249 :: u250 :: u251 :: u252 :: u253 :: [])), []⟩ w := by
  have hm' : (2 : Int) ≤ (m : Int) := by omega
  have HQ := Lib.hid hQ
  clear hQ
  conv => arg 2; whnf
  go_still_tail 20, (by kernel_rfl)
  go_wp2
  exact HQ.out _ _ _ _ _ _ _ _ _ _ _ _ _ _ _ _ _ _ _ _ _ _
set_option maxRecDepth 100000 in
theorem app_region22 {u2 u3 u4 u5 u6 u7 u8 u9 u11 u12 u13 u14 u15 u16 u17 u18 u19 u20 u21 u22 u23 u24 u25 u26 u27 u28 u29 u30 u31 u32 u33 u34 u35 u36 u37 u38 u39 u40 u41 u42 u43 u44 u45 u46 u47 u48 u49 u50 u51 u52 u53 u54 u55 u56 u57 u58 u59 u60 u61 u62 u63 u64 u65 u66 u67 u68 u69 u70 u71 u72 u73 u74 u75 u76 u77 u78 u79 u80 u81 u82 u83 u84 u85 u86 u87 u88 u89 u90 u91 u92 u93 u94 u95 u96 u97 u98 u99 u100 u101 u102 u103 u104 u105 u106 u107 u108 u109 u110 u111 u112 u113 u114 u115 u116 u117 u118 u119 u120 u121 u122 u123 u124 u125 u126 u127 u128 u129 u130 u131 u132 u133 u134 u135 u136 u137 u138 u139 u140 u141 u142 u143 u144 u145 u146 u147 u148 u149 u150 u151 u152 u153 u154 u155 u156 u157 u158 u159 u160 u161 u162 u163 u164 u165 u166 u167 u168 u169 u170 u171 u172 u173 u174 u175 u176 u177 u178 u179 u180 u181 u182 u183 u184 u185 u186 u187 u188 u189 u190 u191 u192 u193 u194 u195 u196 u197 u198 u199 u200 u201 u202 u203 u204 u205 u206 u207 u208 u209 u210 u211 u212 u213 u214 u215 u216 u217 u218 u219 u220 u221 u222 u223 u224 u225 u226 u227 u228 u229 u230 u231 u232 u233 u234 u235 u236 u237 u238 u239 u240 u241 u242 u243 u244 u245 u246 u247 u248 u249 u250 u251 u252 u253 : Value} {u0 u1 : Value} {Q : Exit → Act → World → Prop} {x y : Bool} {m : Nat} (c : w.cell? ⟨xb, 4, none⟩ = some (.slice (some ⟨ab, 0, none⟩) 2 m)) (hm : 2 ≤ m) (a0 : w.cell? ⟨ab, 0, none⟩ = some (.bool x)) (a1 : w.cell? ⟨ab, 1, none⟩ = some (.bool y)) (f0 : w.frozen? ⟨ab, 0, none⟩ = false) (f1 : w.frozen? ⟨ab, 1, none⟩ = false)
    (hQ : ∀ v189 v190 v191 v192 v193 v194 v195 v196 v197 v198 v199 v200 v201 v202 v203 v204 v205 v206 v207 v208 v209 v210 : Value, Q .normal ⟨(List.toArray (u0 :: u1 :: u2 :: u3 :: u4 :: u5 :: u6 :: u7 :: u8 :: u9 :: .pointer (some ⟨xb, 0, none⟩) :: u11 :: u12 :: u13 :: u14 :: u15 :: u16 :: u17 :: u18 :: u19 :: u20 :: u21 :: u22 :: u23 :: u24 :: u25 :: u26 :: u27 :: u28 :: u29 :: u30 :: u31 :: u32 :: u33 :: u34 :: u35 :: u36 :: u37 :: u38 :: u39 :: u40 :: u41 :: u42 :: u43 :: u44 :: u45 :: u46 :: u47 :: u48 :: u49 :: u50 :: u51 :: u52 :: u53 :: u54 :: u55 :: u56 :: u57 :: u58 :: u59 :: u60 :: u61 :: u62 :: u63 :: u64 :: u65 :: u66 :: u67 :: u68 :: u69 :: u70 :: u71 :: u72 :: u73 :: u74 :: u75 :: u76 :: u77 :: u78 :: u79 :: u80 :: u81 :: u82 :: u83 :: u84 :: u85 :: u86 :: u87 :: u88 :: u89 :: u90 :: u91 :: u92 :: u93 :: u94 :: u95 :: u96 :: u97 :: u98 :: u99 :: u100 :: u101 :: u102 :: u103 :: u104 :: u105 :: u106 :: u107 :: u108 :: u109 :: u110 :: u111 :: u112 :: u113 :: u114 :: u115 :: u116 :: u117 :: u118 :: u119 :: u120 :: u121 :: u122 :: u123 :: u124 :: u125 :: u126 :: u127 :: u128 :: u129 :: u130 :: u131 :: u132 :: u133 :: u134 :: u135 :: u136 :: u137 :: u138 :: u139 :: u140 :: u141 :: u142 :: u143 :: u144 :: u145 :: u146 :: u147 :: u148 :: u149 :: u150 :: u151 :: u152 :: u153 :: u154 :: u155 :: u156 :: u157 :: u158 :: u159 :: u160 :: u161 :: u162 :: u163 :: u164 :: u165 :: u166 :: u167 :: u168 :: u169 :: u170 :: u171 :: u172 :: u173 :: u174 :: u175 :: u176 :: u177 :: u178 :: u179 :: u180 :: u181 :: u182 :: u183 :: u184 :: u185 :: u186 :: u187 :: u188 :: v189 :: v190 :: v191 :: v192 :: v193 :: v194 :: v195 :: v196 :: v197 :: v198 :: v199 :: v200 :: v201 :: v202 :: v203 :: v204 :: v205 :: v206 :: v207 :: v208 :: v209 :: v210 :: u211 :: u212 :: u213 :: u214 :: u215 :: u216 :: u217 :: u218 :: u219 :: u220 :: u221 :: u222 :: u223 :: u224 :: u225 :: u226 :: u227 :: u228 :: u229 :: u230 :: u231 :: u232 :: u233 :: u234 :: u235 :: u236 :: u237 :: u238 :: u239 :: u240 :: u241 :: u242 :: u243 :: u244 :: u245 :: u246 :: u247 :: u248 :: u249 :: u250 :: u251 :: u252 :: u253 :: [])), []⟩ ((w.setCell ⟨ab, 0, none⟩ (.bool y)).setCell ⟨ab, 1, none⟩ (.bool x)).drew) :
    Code.wp Tryz.prog (regionOf 22) Q ⟨(List.toArray (u0 :: u1 :: u2 :: u3 :: u4 :: u5 :: u6 :: u7 :: u8 :: u9 :: .pointer (some ⟨xb, 0, none⟩) :: u11 :: u12 :: u13 :: u14 :: u15 :: u16 :: u17 :: u18 :: u19 :: u20 :: u21 :: u22 :: u23 :: u24 :: u25 :: u26 :: u27 :: u28 :: u29 :: u30 :: u31 :: u32 :: u33 :: u34 :: u35 :: u36 :: u37 :: u38 :: u39 :: u40 :: u41 :: u42 :: u43 :: u44 :: u45 :: u46 :: u47 :: u48 :: u49 :: u50 :: u51 :: u52 :: u53 :: u54 :: u55 :: u56 :: u57 :: u58 :: u59 :: u60 :: u61 :: u62 :: u63 :: u64 :: u65 :: u66 :: u67 :: u68 :: u69 :: u70 :: u71 :: u72 :: u73 :: u74 :: u75 :: u76 :: u77 :: u78 :: u79 :: u80 :: u81 :: u82 :: u83 :: u84 :: u85 :: u86 :: u87 :: u88 :: u89 :: u90 :: u91 :: u92 :: u93 :: u94 :: u95 :: u96 :: u97 :: u98 :: u99 :: u100 :: u101 :: u102 :: u103 :: u104 :: u105 :: u106 :: u107 :: u108 :: u109 :: u110 :: u111 :: u112 :: u113 :: u114 :: u115 :: u116 :: u117 :: u118 :: u119 :: u120 :: u121 :: u122 :: u123 :: u124 :: u125 :: u126 :: u127 :: u128 :: u129 :: u130 :: u131 :: u132 :: u133 :: u134 :: u135 :: u136 :: u137 :: u138 :: u139 :: u140 :: u141 :: u142 :: u143 :: u144 :: u145 :: u146 :: u147 :: u148 :: u149 :: u150 :: u151 :: u152 :: u153 :: u154 :: u155 :: u156 :: u157 :: u158 :: u159 :: u160 :: u161 :: u162 :: u163 :: u164 :: u165 :: u166 :: u167 :: u168 :: u169 :: u170 :: u171 :: u172 :: u173 :: u174 :: u175 :: u176 :: u177 :: u178 :: u179 :: u180 :: u181 :: u182 :: u183 :: u184 :: u185 :: u186 :: u187 :: u188 :: u189 :: u190 :: u191 :: u192 :: u193 :: u194 :: u195 :: u196 :: u197 :: u198 :: u199 :: u200 :: u201 :: u202 :: u203 :: u204 :: u205 :: u206 :: u207 :: u208 :: u209 :: u210 :: u211 :: u212 :: u213 :: u214 :: u215 :: u216 :: u217 :: u218 :: u219 :: u220 :: u221 :: u222 :: u223 :: u224 :: u225 :: u226 :: u227 :: u228 :: u229 :: u230 :: u231 :: u232 :: u233 :: u234 :: u235 :: u236 :: u237 :: u238 :: u239 :: u240 :: u241 :: u242 :: u243 :: u244 :: u245 :: u246 :: u247 :: u248 :: u249 :: u250 :: u251 :: u252 :: u253 :: [])), []⟩ w := by
  have hm' : (2 : Int) ≤ (m : Int) := by omega
  have HQ := Lib.hid hQ
  clear hQ
  conv => arg 2; whnf
  go_still_tail 20, (by kernel_rfl)
  go_wp2
  exact HQ.out _ _ _ _ _ _ _ _ _ _ _ _ _ _ _ _ _ _ _ _ _ _
end
end Go.Proofs.YteamnchoddegpaaGreatDoor
namespace Go.Proofs.YteamnchoddegpaaGreatDoor
open Go.RowKit
set_option maxHeartbeats 400000
theorem commutes_any (o : Nat) (_h1 : o ≤ 21) (w : World) :
    Calls Tryz.prog 102 #[.int .u8 o] w fun e w' => e = .returned (.bool (decide (o = 4 ∨ o = 6 ∨ o = 9 ∨ o = 10 ∨ o = 11 ∨ o = 15 ∨ o = 16))) ∧ w = w' := by
  obtain ⟨B, hB⟩ : ∃ B, decide (o = 4 ∨ o = 6 ∨ o = 9 ∨ o = 10 ∨ o = 11 ∨ o = 15 ∨ o = 16) = B := ⟨_, rfl⟩
  rw [hB]
  have HB := Lib.hid hB
  clear hB
  by_cases g4 : o = 4
  · have q4 : ((o : Int) == 4) = true := by rw [beq_iff_eq]; omega
    obtain rfl : B = true := by rw [← HB.out]; exact decide_eq_true (by omega)
    clear g4
    go_enter Tryz.func102, Tryz.ntmps102
    go_wp2
    go_ret
    exact ⟨rfl, rfl⟩
  have q4 : ((o : Int) == 4) = false := by rw [beq_eq_false_iff_ne]; omega
  by_cases g6 : o = 6
  · have q6 : ((o : Int) == 6) = true := by rw [beq_iff_eq]; omega
    obtain rfl : B = true := by rw [← HB.out]; exact decide_eq_true (by omega)
    clear g4 g6
    go_enter Tryz.func102, Tryz.ntmps102
    go_wp2
    go_ret
    exact ⟨rfl, rfl⟩
  have q6 : ((o : Int) == 6) = false := by rw [beq_eq_false_iff_ne]; omega
  by_cases g9 : o = 9
  · have q9 : ((o : Int) == 9) = true := by rw [beq_iff_eq]; omega
    obtain rfl : B = true := by rw [← HB.out]; exact decide_eq_true (by omega)
    clear g4 g6 g9
    go_enter Tryz.func102, Tryz.ntmps102
    go_wp2
    go_ret
    exact ⟨rfl, rfl⟩
  have q9 : ((o : Int) == 9) = false := by rw [beq_eq_false_iff_ne]; omega
  by_cases g10 : o = 10
  · have q10 : ((o : Int) == 10) = true := by rw [beq_iff_eq]; omega
    obtain rfl : B = true := by rw [← HB.out]; exact decide_eq_true (by omega)
    clear g4 g6 g9 g10
    go_enter Tryz.func102, Tryz.ntmps102
    go_wp2
    go_ret
    exact ⟨rfl, rfl⟩
  have q10 : ((o : Int) == 10) = false := by rw [beq_eq_false_iff_ne]; omega
  by_cases g11 : o = 11
  · have q11 : ((o : Int) == 11) = true := by rw [beq_iff_eq]; omega
    obtain rfl : B = true := by rw [← HB.out]; exact decide_eq_true (by omega)
    clear g4 g6 g9 g10 g11
    go_enter Tryz.func102, Tryz.ntmps102
    go_wp2
    go_ret
    exact ⟨rfl, rfl⟩
  have q11 : ((o : Int) == 11) = false := by rw [beq_eq_false_iff_ne]; omega
  by_cases g15 : o = 15
  · have q15 : ((o : Int) == 15) = true := by rw [beq_iff_eq]; omega
    obtain rfl : B = true := by rw [← HB.out]; exact decide_eq_true (by omega)
    clear g4 g6 g9 g10 g11 g15
    go_enter Tryz.func102, Tryz.ntmps102
    go_wp2
    go_ret
    exact ⟨rfl, rfl⟩
  have q15 : ((o : Int) == 15) = false := by rw [beq_eq_false_iff_ne]; omega
  by_cases g16 : o = 16
  · have q16 : ((o : Int) == 16) = true := by rw [beq_iff_eq]; omega
    obtain rfl : B = true := by rw [← HB.out]; exact decide_eq_true (by omega)
    clear g4 g6 g9 g10 g11 g15 g16
    go_enter Tryz.func102, Tryz.ntmps102
    go_wp2
    go_ret
    exact ⟨rfl, rfl⟩
  have q16 : ((o : Int) == 16) = false := by rw [beq_eq_false_iff_ne]; omega
  obtain rfl : B = false := by rw [← HB.out]; exact decide_eq_false (by omega)
  clear g4 g6 g9 g10 g11 g15 g16
  go_enter Tryz.func102, Tryz.ntmps102
  go_wp2
  go_ret
  exact ⟨rfl, rfl⟩
end Go.Proofs.YteamnchoddegpaaGreatDoor
namespace Go.Proofs.YteamnchoddegpaaGreatDoor
open Go.RowKit Go.Maps
set_option maxHeartbeats 1600000
noncomputable def appRest19 : Code := (Tryz.f85.body.bind (tailAt 19)).getD .skip
/-- The things of an operator with its arguments. -/
def askThings (xb gb ab ca nb ib n o : Nat) (fa fn fi : Nat → Value) : List Thing :=
  [Thing.box xb 174 #[.pointer (some ⟨gb, 0, none⟩), .int .u8 o, .slice (some ⟨ab, 0, none⟩) n ca, .slice (some ⟨nb, 0, none⟩) n n, .slice (some ⟨ib, 0, none⟩) n n],
    Thing.fn ab 3 ca fa, Thing.fn nb 43 n fn, Thing.fn ib 4 n fi]
structure AskedL (w wr : World) (xb gb ab ca nb ib n : Nat) (L : List PNode) (o : Nat) (xs : List Int) : Prop where
  len : xs.length = n
  nlt : n ≤ 3
  ncap : n ≤ ca
  lab : ∃ fa fn fi : Nat → Value, (∀ i, i < n → fa i = .int .i64 (xs.getD i 0) ∧ fn i = .int .u64 (numD L (xs.getD i 0)) ∧ fi i = .bool (isNum L (xs.getD i 0))) ∧ Lab w wr (askThings xb gb ab ca nb ib n o fa fn fi)
section
variable {w wr w' : World} {xb gb ab ca nb ib n o : Nat} {L : List PNode} {xs : List Int} {fa fn fi : Nat → Value}
theorem AskedL.below (h : AskedL w wr xb gb ab ca nb ib n L o xs) : Below w.heap.size w wr := by
  obtain ⟨_, _, _, -, hl⟩ := h.lab; exact hl.below
theorem AskedL.later (h : AskedL w wr xb gb ab ca nb ib n L o xs) (hb : Below wr.heap.size wr w') : AskedL w w' xb gb ab ca nb ib n L o xs := by
  obtain ⟨_, _, _, hf, hl⟩ := h.lab
  exact ⟨h.len, h.nlt, h.ncap, _, _, _, hf, hl.later hb⟩
theorem ask_head (hl : Lab w wr (askThings xb gb ab ca nb ib n o fa fn fi)) : wr.cell? ⟨xb, 0, none⟩ = some (.pointer (some ⟨gb, 0, none⟩)) ∧ wr.cell? ⟨xb, 1, none⟩ = some (.int .u8 o) ∧ wr.cell? ⟨xb, 2, none⟩ = some (.slice (some ⟨ab, 0, none⟩) n ca) ∧ wr.cell? ⟨xb, 3, none⟩ = some (.slice (some ⟨nb, 0, none⟩) n n) ∧ wr.cell? ⟨xb, 4, none⟩ = some (.slice (some ⟨ib, 0, none⟩) n n) := by
  have b := hl.box1
  exact ⟨by rw [cell_of_row wr _ 0 _ _ _ b]; rfl, by rw [cell_of_row wr _ 1 _ _ _ b]; rfl, by rw [cell_of_row wr _ 2 _ _ _ b]; rfl, by rw [cell_of_row wr _ 3 _ _ _ b]; rfl, by rw [cell_of_row wr _ 4 _ _ _ b]; rfl⟩
theorem AskedL.asked (h : AskedL w wr xb gb ab ca nb ib n L o xs) : Asked wr xb gb ab ca nb ib n L o xs := by
  obtain ⟨fa, fn, fi, hf, hl⟩ := h.lab
  obtain ⟨c0, c1, c2, c3, c4⟩ := ask_head hl
  exact ⟨h.len, h.nlt, h.ncap, c0, c1, c2, c3, c4,
    fun i hi => by rw [hl.fn2.cell (Nat.lt_of_lt_of_le hi h.ncap), (hf i hi).1], fun i hi => by rw [hl.fn3.cell hi, (hf i hi).2.1], fun i hi => by rw [hl.fn4.cell hi, (hf i hi).2.2]⟩
theorem ask_set_a (hl : Lab w wr (askThings xb gb ab ca nb ib n o fa fn fi)) (i : Nat) (v : Value) : Lab w (wr.setCell ⟨ab, i, none⟩ v) (askThings xb gb ab ca nb ib n o (fun j => if j = i then v else fa j) fn fi) :=
  (hl.swap.set i v).swap
theorem ask_set_n (hl : Lab w wr (askThings xb gb ab ca nb ib n o fa fn fi)) (i : Nat) (v : Value) : Lab w (wr.setCell ⟨nb, i, none⟩ v) (askThings xb gb ab ca nb ib n o fa (fun j => if j = i then v else fn j) fi) :=
  (hl.rot3.set i v).rot3'
theorem ask_set_i (hl : Lab w wr (askThings xb gb ab ca nb ib n o fa fn fi)) (i : Nat) (v : Value) : Lab w (wr.setCell ⟨ib, i, none⟩ v) (askThings xb gb ab ca nb ib n o fa fn (fun j => if j = i then v else fi j)) :=
  (hl.rot4.set i v).rot4.rot4.rot4
theorem ask_cells (hl : Lab w wr (askThings xb gb ab ca nb ib n o fa fn fi)) {i : Nat} (hi : i < n) (hc : n ≤ ca) : wr.cell? ⟨ab, i, none⟩ = some (fa i) ∧ wr.cell? ⟨nb, i, none⟩ = some (fn i) ∧ wr.cell? ⟨ib, i, none⟩ = some (fi i) :=
  ⟨hl.fn2.cell (Nat.lt_of_lt_of_le hi hc), hl.fn3.cell hi, hl.fn4.cell hi⟩
end
section
variable {w wr : World} {base : Nat} {F I : List Nat} {gb W room : Nat} {L : List PNode} {xb ab ca nb ib n o : Nat} {xs : List Int}
/-- The rules' answer to arguments in their order. -/
def firstR (W room : Nat) (L : List PNode) (o : Nat) (ys : List Int) : List PNode × Nat × Nat := (firstA W L o (ys.getD 0 0) (ys.getD 1 0) (ys.getD 2 0) ys (rulesOf o)).res W room L
/-- Arguments in their order. -/
def ordA (L : List PNode) (o : Nat) : List Int → List Int
  | [x, y] => if swapA L o x y then [y, x] else [x, y]
  | xs => xs
set_option maxRecDepth 100000 in
theorem sapp_swap {u2 u3 u4 u5 u6 u7 u8 u9 u11 u12 u13 u14 u15 u16 u17 u18 u19 u20 u21 u22 u23 u24 u25 u26 u27 u28 u29 u30 u31 u32 u33 u34 u35 u36 u37 u38 u39 u40 u41 u42 u43 u44 u45 u46 u47 u48 u49 u50 u51 u52 u53 u54 u55 u56 u57 u58 u59 u60 u61 u62 u63 u64 u65 u66 u67 u68 u69 u70 u71 u72 u73 u74 u75 u76 u77 u78 u79 u80 u81 u82 u83 u84 u85 u86 u87 u88 u89 u90 u91 u92 u93 u94 u95 u96 u97 u98 u99 u100 u101 u102 u103 u104 u105 u106 u107 u108 u109 u110 u111 u112 u113 u114 u115 u116 u117 u118 u119 u120 u121 u122 u123 u124 u125 u126 u127 u128 u129 u130 u131 u132 u133 u134 u135 u136 u137 u138 u139 u140 u141 u142 u143 u144 u145 u146 u147 u148 u149 u150 u151 u152 u153 u154 u155 u156 u157 u158 u159 u160 u161 u162 u163 u164 u165 u166 u167 u168 u169 u170 u171 u172 u173 u174 u175 u176 u177 u178 u179 u180 u181 u182 u183 u184 u185 u186 u187 u188 u189 u190 u191 u192 u193 u194 u195 u196 u197 u198 u199 u200 u201 u202 u203 u204 u205 u206 u207 u208 u209 u210 u211 u212 u213 u214 u215 u216 u217 u218 u219 u220 u221 u222 u223 u224 u225 u226 u227 u228 u229 u230 u231 u232 u233 u234 u235 u236 u237 u238 u239 u240 u241 u242 u243 u244 u245 u246 u247 u248 u249 u250 u251 u252 u253 : Value} (h : Gr w base F I gb W room L) (ha : AskedL w wr xb gb ab ca nb ib n L o xs) (ho1 : 2 ≤ o) (ho2 : o ≤ 21) (hl : aryN o = n) (hys : ∀ t ∈ xs, (0 : Int) ≤ t ∧ t < (L.length : Int)) (hnn : ¬ ∀ t ∈ xs, isNum L t = true)
    (hrec : o = 11 → ∀ (x : Int) (w2 : World) (va : Value), 0 ≤ x → x < (L.length : Int) → isNum L x = false → SliceOf w2 .i64 va [x] → Gr w2 base F I gb W room L → Calls Tryz.prog 85 #[.pointer (some ⟨gb, 0, none⟩), .int .u8 2, va] w2 (GPost w2 base F I gb W room ((oneA L 2 x).res W room L))) :
    Code.wp Tryz.prog appRest19 (bodyPost Tryz.prog Tryz.f85 (GPost w base F I gb W room (firstR W room L o (ordA L o xs)))) ⟨(List.toArray (.pointer (some ⟨gb, 0, none⟩) :: .int .u8 o :: u2 :: u3 :: u4 :: u5 :: u6 :: u7 :: u8 :: u9 :: .pointer (some ⟨xb, 0, none⟩) :: u11 :: u12 :: u13 :: u14 :: u15 :: u16 :: u17 :: u18 :: u19 :: u20 :: u21 :: u22 :: u23 :: u24 :: u25 :: u26 :: u27 :: u28 :: u29 :: u30 :: u31 :: u32 :: u33 :: u34 :: u35 :: u36 :: u37 :: u38 :: u39 :: u40 :: u41 :: u42 :: u43 :: u44 :: u45 :: u46 :: u47 :: u48 :: u49 :: u50 :: u51 :: u52 :: u53 :: u54 :: u55 :: u56 :: u57 :: u58 :: u59 :: u60 :: u61 :: u62 :: u63 :: u64 :: u65 :: u66 :: u67 :: u68 :: u69 :: u70 :: u71 :: u72 :: u73 :: u74 :: u75 :: u76 :: u77 :: u78 :: u79 :: u80 :: u81 :: u82 :: u83 :: u84 :: u85 :: u86 :: u87 :: u88 :: u89 :: u90 :: u91 :: u92 :: u93 :: u94 :: u95 :: u96 :: u97 :: u98 :: u99 :: u100 :: u101 :: u102 :: u103 :: u104 :: u105 :: u106 :: u107 :: u108 :: u109 :: u110 :: u111 :: u112 :: u113 :: u114 :: u115 :: u116 :: u117 :: u118 :: u119 :: u120 :: u121 :: u122 :: u123 :: u124 :: u125 :: u126 :: u127 :: u128 :: u129 :: u130 :: u131 :: u132 :: u133 :: u134 :: u135 :: u136 :: u137 :: u138 :: u139 :: u140 :: u141 :: u142 :: u143 :: u144 :: u145 :: u146 :: u147 :: u148 :: u149 :: u150 :: u151 :: u152 :: u153 :: u154 :: u155 :: u156 :: u157 :: u158 :: u159 :: u160 :: u161 :: u162 :: u163 :: u164 :: u165 :: u166 :: u167 :: u168 :: u169 :: u170 :: u171 :: u172 :: u173 :: u174 :: u175 :: u176 :: u177 :: u178 :: u179 :: u180 :: u181 :: u182 :: u183 :: u184 :: u185 :: u186 :: u187 :: u188 :: u189 :: u190 :: u191 :: u192 :: u193 :: u194 :: u195 :: u196 :: u197 :: u198 :: u199 :: u200 :: u201 :: u202 :: u203 :: u204 :: u205 :: u206 :: u207 :: u208 :: u209 :: u210 :: u211 :: u212 :: u213 :: u214 :: u215 :: u216 :: u217 :: u218 :: u219 :: u220 :: u221 :: u222 :: u223 :: u224 :: u225 :: u226 :: u227 :: u228 :: u229 :: u230 :: u231 :: u232 :: u233 :: u234 :: u235 :: u236 :: u237 :: u238 :: u239 :: u240 :: u241 :: u242 :: u243 :: u244 :: u245 :: u246 :: u247 :: u248 :: u249 :: u250 :: u251 :: u252 :: u253 :: [])), []⟩ wr := by
  have HG := Lib.hid h; have HA := Lib.hid ha; have HYS := Lib.hid (And.intro hys hnn); have HREC := Lib.hid hrec; have HO := Lib.hid (And.intro ho1 (And.intro ho2 hl))
  clear h ha hys hnn hrec ho1 ho2 hl
  conv => arg 2; whnf
  refine wp_seq_k ?_
  intro K hK
  go_cut [10] (fun s10 wx => s10 = .pointer (some ⟨xb, 0, none⟩) ∧ AskedL w wx xb gb ab ca nb ib n L o (ordA L o xs))
  case first =>
    obtain ⟨fa, fn, fi, hf, hl⟩ := HA.out.lab
    have hlen := HA.out.len
    have hcap := HA.out.ncap
    have hcm := fun w' => commutes_any o HO.out.2.1 w'
    obtain ⟨c0, c1, c2, c3, c4⟩ := ask_head hl
    by_cases hc : commN o = true
    · have hcf : decide (o = 4 ∨ o = 6 ∨ o = 9 ∨ o = 10 ∨ o = 11 ∨ o = 15 ∨ o = 16) = true := hc
      have hn2 : n = 2 := by
        have h2 : aryN o = 2 := by
          have : o = 4 ∨ o = 6 ∨ o = 9 ∨ o = 10 ∨ o = 11 ∨ o = 15 ∨ o = 16 := of_decide_eq_true hcf
          rcases this with rfl | rfl | rfl | rfl | rfl | rfl | rfl <;> rfl
        rw [← h2]; exact HO.out.2.2.symm
      subst hn2
      obtain ⟨x, y, rfl⟩ : ∃ x y, xs = [x, y] := by
        match xs, hlen with
        | [x, y], _ => exact ⟨x, y, rfl⟩
      have q0 := ask_cells hl (i := 0) (by omega) hcap
      have q1 := ask_cells hl (i := 1) (by omega) hcap
      rw [(hf 0 (by omega)).1, (hf 0 (by omega)).2.1, (hf 0 (by omega)).2.2] at q0
      rw [(hf 1 (by omega)).1, (hf 1 (by omega)).2.1, (hf 1 (by omega)).2.2] at q1
      obtain ⟨a0, n0, i0⟩ := q0
      obtain ⟨a1, n1, i1⟩ := q1
      simp only [List.getD_cons_zero, List.getD_cons_succ] at a0 n0 i0 a1 n1 i1
      have hsw : swapA L o x y ↔ (isNum L x = true ∨ isNum L y = false ∧ y < x) := by unfold swapA; simp [hc]
      have hord : ordA L o [x, y] = if swapA L o x y then [y, x] else [x, y] := rfl
      rw [hcf] at hcm
      have HL := Lib.hid hl; have HCM := Lib.hid hcm; have HSW := Lib.hid hsw; have HORD := Lib.hid hord; have HF := Lib.hid hf; have HN := Lib.hid (And.intro n0 n1)
      clear hl hcm hf hlen hcf hord hc hsw n0 n1
      refine wp_seq_k ?_
      intro K2 hK2
      go_cut [144] (fun s144 wx => s144 = .bool (decide (swapA L o x y)) ∧ ∃ nq, wx = wr.drewN nq)
      case first =>
        generalize isNum L x = bx at *
        generalize isNum L y = by' at *
        cases bx with
        | true =>
          have hd : decide (swapA L o x y) = true := decide_eq_true (HSW.out.2 (.inl rfl))
          have HD := Lib.hid hd
          clear hd
          go_quiet ((go_at_call 102; exact Calls.quiet_of_same ((HCM.out _).mono fun _ _ h => ⟨h.1, h.2.symm⟩)))
          go_wp2
          go_meet
          exact ⟨by rw [HD.out], _, rfl⟩
        | false =>
          cases by' with
          | true =>
            have hd : decide (swapA L o x y) = false := decide_eq_false fun h => (HSW.out.1 h).elim (fun h => by cases h) (fun h => by cases h.1)
            have HD := Lib.hid hd
            clear hd
            go_quiet ((go_at_call 102; exact Calls.quiet_of_same ((HCM.out _).mono fun _ _ h => ⟨h.1, h.2.symm⟩)))
            go_wp2
            go_meet
            exact ⟨by rw [HD.out], _, rfl⟩
          | false =>
            by_cases hxy : y < x
            · have hd : decide (swapA L o x y) = true := decide_eq_true (HSW.out.2 (.inr ⟨rfl, hxy⟩))
              have HD := Lib.hid hd
              clear hd
              go_quiet ((go_at_call 102; exact Calls.quiet_of_same ((HCM.out _).mono fun _ _ h => ⟨h.1, h.2.symm⟩)))
              go_wp2
              go_meet
              exact ⟨by rw [HD.out], _, rfl⟩
            · have hd : decide (swapA L o x y) = false := decide_eq_false fun h => (HSW.out.1 h).elim (fun h => by cases h) (fun h => hxy h.2)
              have HD := Lib.hid hd
              clear hd
              go_quiet ((go_at_call 102; exact Calls.quiet_of_same ((HCM.out _).mono fun _ _ h => ⟨h.1, h.2.symm⟩)))
              go_wp2
              go_meet
              exact ⟨by rw [HD.out], _, rfl⟩
      case rest =>
        obtain ⟨rfl, nq, rfl⟩ := hcut
        refine hK2 _ _ ?_
        clear c0 c1 c2 c3 c4 a0 a1 i0 i1
        by_cases hsw : swapA L o x y
        · have hd : decide (swapA L o x y) = true := decide_eq_true hsw
          have hfin : ordA L o [x, y] = [y, x] := by rw [HORD.out, if_pos hsw]
          rw [hd]
          have HFIN := Lib.hid hfin
          clear hd hsw hfin
          have hl := HL.out.drewN nq
          go_upto_region 20 with fail
          refine wp_abs (fun w1 => Lab w w1 (askThings xb gb ab ca nb ib 2 o fa fn fi)) hl ?_
          clear hl
          rintro w1 hl
          obtain ⟨c0, c1, c2, c3, c4⟩ := ask_head hl
          obtain ⟨a0, -, -⟩ := ask_cells hl (i := 0) (by omega) hcap
          obtain ⟨a1, -, -⟩ := ask_cells hl (i := 1) (by omega) hcap
          rw [(HF.out 0 (by omega)).1] at a0
          rw [(HF.out 1 (by omega)).1] at a1
          simp only [List.getD_cons_zero, List.getD_cons_succ] at a0 a1
          have f0 := hl.fn2.frozen 0
          have f1 := hl.fn2.frozen 1
          have HL1 := Lib.hid hl
          clear hl c0 c1 c3 c4
          have hcap' : (2 : Int) ≤ (ca : Int) := by omega
          refine app_region20 c2 hcap a0 a1 f0 f1 ?_
          intro _ _ _ _ _ _ _ _ _ _ _ _ _ _ _ _ _ _ _ _ _ _
          have hl := ((ask_set_a (ask_set_a HL1.out 0 (.int .i64 y)) 1 (.int .i64 x))).later ((Below.refl _ _).drew)
          clear c2 a0 a1 f0 f1
          have HL2 := Lib.hid hl
          clear hl
          go_upto_region 21 with fail
          refine wp_abs (fun w2 => Lab w w2 (askThings xb gb ab ca nb ib 2 o (fun j => if j = 1 then .int .i64 x else if j = 0 then .int .i64 y else fa j) fn fi)) HL2.out ?_
          clear HL1 HL2
          rintro w2 hl
          obtain ⟨c0, c1, c2, c3, c4⟩ := ask_head hl
          obtain ⟨-, a0, -⟩ := ask_cells hl (i := 0) (by omega) hcap
          obtain ⟨-, a1, -⟩ := ask_cells hl (i := 1) (by omega) hcap
          rw [(HF.out 0 (by omega)).2.1] at a0
          rw [(HF.out 1 (by omega)).2.1] at a1
          simp only [List.getD_cons_zero, List.getD_cons_succ] at a0 a1
          have f0 := hl.fn3.frozen 0
          have f1 := hl.fn3.frozen 1
          have HL1 := Lib.hid hl
          clear hl c0 c1 c2 c4
          refine app_region21 c3 (by decide) a0 a1 f0 f1 ?_
          intro _ _ _ _ _ _ _ _ _ _ _ _ _ _ _ _ _ _ _ _ _ _
          have hl := ((ask_set_n (ask_set_n HL1.out 0 (.int .u64 (numD L y))) 1 (.int .u64 (numD L x)))).later ((Below.refl _ _).drew)
          clear c3 a0 a1 f0 f1
          have HL2 := Lib.hid hl
          clear hl
          go_upto_region 22 with fail
          refine wp_abs (fun w3 => Lab w w3 (askThings xb gb ab ca nb ib 2 o (fun j => if j = 1 then .int .i64 x else if j = 0 then .int .i64 y else fa j) (fun j => if j = 1 then .int .u64 (numD L x) else if j = 0 then .int .u64 (numD L y) else fn j) fi)) HL2.out ?_
          clear HL1 HL2
          rintro w3 hl
          obtain ⟨c0, c1, c2, c3, c4⟩ := ask_head hl
          obtain ⟨-, -, a0⟩ := ask_cells hl (i := 0) (by omega) hcap
          obtain ⟨-, -, a1⟩ := ask_cells hl (i := 1) (by omega) hcap
          rw [(HF.out 0 (by omega)).2.2] at a0
          rw [(HF.out 1 (by omega)).2.2] at a1
          simp only [List.getD_cons_zero, List.getD_cons_succ] at a0 a1
          have f0 := hl.fn4.frozen 0
          have f1 := hl.fn4.frozen 1
          have HL1 := Lib.hid hl
          clear hl c0 c1 c2 c3
          refine app_region22 c4 (by decide) a0 a1 f0 f1 ?_
          intro _ _ _ _ _ _ _ _ _ _ _ _ _ _ _ _ _ _ _ _ _ _
          have hl := ((ask_set_i (ask_set_i HL1.out 0 (.bool (isNum L y))) 1 (.bool (isNum L x)))).later ((Below.refl _ _).drew)
          clear c4 a0 a1 f0 f1
          have HL2 := Lib.hid hl
          clear hl
          go_wp2
          go_meet
          rw [HFIN.out]
          refine ⟨rfl, rfl, HA.out.nlt, HA.out.ncap, _, _, _, fun i hi => ?_, HL2.out⟩
          have : i = 0 ∨ i = 1 := by omega
          rcases this with rfl | rfl <;> exact ⟨rfl, rfl, rfl⟩
        · have hd : decide (swapA L o x y) = false := decide_eq_false hsw
          have hfin : ordA L o [x, y] = [x, y] := by rw [HORD.out, if_neg hsw]
          rw [hd]
          have HFIN := Lib.hid hfin
          clear hd hsw hfin
          go_wp2
          go_meet
          rw [HFIN.out]
          exact ⟨rfl, HA.out.later (below_drewN (Below.refl _ _) _)⟩
    · have hcf : decide (o = 4 ∨ o = 6 ∨ o = 9 ∨ o = 10 ∨ o = 11 ∨ o = 15 ∨ o = 16) = false := by
        unfold commN at hc; simpa using hc
      have hord : ordA L o xs = xs := by
        unfold ordA
        split
        · rw [if_neg (fun q => hc q.1)]
        · rfl
      rw [hcf] at hcm
      have HL := Lib.hid hl; have HCM := Lib.hid hcm; have HORD := Lib.hid hord
      clear hl hcm hf hlen hcf hord hc
      go_wp2
      go_quiet ((go_at_call 102; exact Calls.quiet_of_same ((HCM.out _).mono fun _ _ h => ⟨h.1, h.2.symm⟩)))
      go_wp2
      go_meet
      rw [HORD.out]
      exact ⟨rfl, HA.out.later (below_drewN (Below.refl _ _) _)⟩
  case rest =>
    obtain ⟨rfl, hcut⟩ := hcut
    refine hK _ _ ?_
    have hmem : ∀ t, t ∈ ordA L o xs ↔ t ∈ xs := by
      intro t
      unfold ordA
      split
      · split
        · simp [or_comm]
        · rfl
      · rfl
    exact sapp_rules hcut.below HG.out hcut.asked HO.out.1 HO.out.2.1 HO.out.2.2 (fun t ht => HYS.out.1 t ((hmem t).1 ht)) (fun h => HYS.out.2 fun t ht => h t ((hmem t).2 ht)) HREC.out
end
end Go.Proofs.YteamnchoddegpaaGreatDoor
