/- The reference's rules of operators with two arguments; App behind the numbers. -/
import Derived.Test.YtcpgiadhmmmafaaRSimpB
import Derived.Test.YtcpgiadhmmmafaaSimpO
import Derived.StillTailTactics
namespace Go.Proofs.Ytcpgiadhmmmafaa
open Go.RowKit Go.Maps
set_option maxHeartbeats 12800000

section
variable {w wr : World} {base : Nat} {F I : List Nat} {rb W room : Nat} {L : List PNode}
set_option maxRecDepth 100000 in
theorem rcomm_any (o : Nat) (h1 : 2 ≤ o) (h2 : o ≤ 21) (w : World) : Calls Try.prog 71 #[.int .u8 o] w fun e w' => e = .returned (.bool (commN o)) ∧ w = w' := by
  have hc : o = 2 ∨ o = 3 ∨ o = 4 ∨ o = 5 ∨ o = 6 ∨ o = 7 ∨ o = 8 ∨ o = 9 ∨ o = 10 ∨ o = 11 ∨ o = 12 ∨ o = 13 ∨ o = 14 ∨ o = 15 ∨ o = 16 ∨ o = 17 ∨ o = 18 ∨ o = 19 ∨ o = 20 ∨ o = 21 := by omega
  clear h1 h2
  rcases hc with rfl | rfl | rfl | rfl | rfl | rfl | rfl | rfl | rfl | rfl | rfl | rfl | rfl | rfl | rfl | rfl | rfl | rfl | rfl | rfl
  all_goals (go_enter Try.func71, Try.ntmps71; go_wp2; go_ret; exact ⟨rfl, rfl⟩)
theorem numOf_bool {t : Int} (c : Nat) : decide (numOf L t = some c) = (isNum L t && decide ((numD L t : Int) = (c : Int))) := by
  unfold isNum numD
  cases h : numOf L t with
  | none => simp
  | some d =>
    rw [Bool.eq_iff_iff]
    simp
    omega
set_option maxRecDepth 100000 in
theorem rtwo_rest {u4 u5 u6 u7 u8 u9 u10 u11 u20 u21 u22 u23 u24 u25 u26 u27 u28 u29 u30 u31 u32 u33 u34 u35 u36 u37 u38 u39 u40 u41 u42 u43 u44 u45 u46 u47 u48 u49 u50 u51 u52 u53 u54 u55 u56 u57 u58 u59 u60 u61 u62 u63 u64 u65 u66 u67 u68 u69 u70 u71 u72 u73 u74 u75 u76 u77 u78 u79 u80 u81 u82 u83 u84 u85 u86 u87 u88 u89 u90 u91 u92 u93 u94 u95 u96 u97 u98 u99 u100 u101 u102 u103 u104 u105 u106 u107 u108 u109 u110 u111 u112 u113 u114 u115 u116 u117 u118 u119 u120 u121 u122 u123 u124 u125 u126 u127 u128 u129 u130 u131 u132 u133 u134 u135 u136 u137 u138 u139 u140 u141 u142 u143 u144 u145 u146 u147 u148 u149 u150 u151 u152 u153 u154 u155 u156 u157 u158 u159 u160 u161 u162 u163 u164 u165 u166 u167 u168 u169 u170 u171 u172 u173 u174 u175 u176 u177 u178 u179 u180 u181 u182 u183 u184 u185 u186 u187 u188 u189 u190 u191 u192 u193 u194 u195 u196 u197 u198 : Value} {zero one all lf left equal big right : Bool} {o x y b M : Nat} (h : RGr w base F I rb W room L) (hM : M < 18446744073709551616) (hbig : big = (right && decide (W ≤ b)))
    (hrec : o = 11 → lf = false → ∀ (w2 : World) (va : Value), RGr w2 base F I rb W room L → SliceOf w2 .i64 va [(x : Int)] → Calls Try.prog 50 #[.pointer (some ⟨rb, 0, none⟩), .int .u8 2, va] w2 (RPost w2 base F I rb W room ((oneA L 2 x).res W room L)))
    (hz3 : all = true → lf = false) (ho1 : 4 ≤ o) (ho2 : o ≤ 20) :
    Code.wp Try.prog twoRest7 (bodyPost Try.prog Try.f73 (RPost w base F I rb W room ((twoB W L M o x y zero one all left equal big).res W room L))) ⟨(List.toArray (.pointer (some ⟨rb, 0, none⟩) :: .int .u8 o :: .int .i64 x :: .int .i64 y :: u4 :: u5 :: u6 :: u7 :: u8 :: u9 :: u10 :: u11 :: .int .u64 b :: .bool right :: .int .u64 M :: .bool zero :: .bool one :: .bool all :: .bool left :: .bool equal :: u20 :: u21 :: u22 :: u23 :: u24 :: u25 :: u26 :: u27 :: u28 :: u29 :: u30 :: u31 :: u32 :: u33 :: u34 :: u35 :: u36 :: u37 :: u38 :: u39 :: u40 :: u41 :: u42 :: u43 :: u44 :: u45 :: u46 :: u47 :: u48 :: u49 :: u50 :: u51 :: u52 :: u53 :: u54 :: u55 :: u56 :: u57 :: u58 :: u59 :: u60 :: u61 :: u62 :: u63 :: u64 :: u65 :: u66 :: u67 :: u68 :: u69 :: u70 :: u71 :: u72 :: u73 :: u74 :: u75 :: u76 :: u77 :: u78 :: u79 :: u80 :: u81 :: u82 :: u83 :: u84 :: u85 :: u86 :: u87 :: u88 :: u89 :: u90 :: u91 :: u92 :: u93 :: u94 :: u95 :: u96 :: u97 :: u98 :: u99 :: u100 :: u101 :: u102 :: u103 :: u104 :: u105 :: u106 :: u107 :: u108 :: u109 :: u110 :: u111 :: u112 :: u113 :: u114 :: u115 :: u116 :: u117 :: u118 :: u119 :: u120 :: u121 :: u122 :: u123 :: u124 :: u125 :: u126 :: u127 :: u128 :: u129 :: u130 :: u131 :: u132 :: u133 :: u134 :: u135 :: u136 :: u137 :: u138 :: u139 :: u140 :: u141 :: u142 :: u143 :: u144 :: u145 :: u146 :: u147 :: u148 :: u149 :: u150 :: u151 :: u152 :: u153 :: u154 :: u155 :: u156 :: u157 :: u158 :: u159 :: u160 :: u161 :: u162 :: u163 :: u164 :: u165 :: u166 :: u167 :: u168 :: u169 :: u170 :: u171 :: u172 :: u173 :: u174 :: u175 :: u176 :: u177 :: u178 :: u179 :: u180 :: u181 :: u182 :: u183 :: u184 :: u185 :: u186 :: u187 :: u188 :: u189 :: u190 :: u191 :: u192 :: u193 :: u194 :: u195 :: u196 :: u197 :: u198 :: [])), []⟩ w := by
  have hc : o = 4 ∨ o = 5 ∨ o = 6 ∨ o = 7 ∨ o = 8 ∨ o = 9 ∨ o = 10 ∨ o = 11 ∨ o = 12 ∨ o = 13 ∨ o = 14 ∨ o = 15 ∨ o = 16 ∨ o = 17 ∨ o = 18 ∨ o = 19 ∨ o = 20 := by omega
  rcases hc with rfl | rfl | rfl | rfl | rfl | rfl | rfl | rfl | rfl | rfl | rfl | rfl | rfl | rfl | rfl | rfl | rfl
  · exact rtwo_tail4 h hM hbig
  · exact rtwo_tail5 h hM hbig
  · exact rtwo_tail6 h hM hbig
  · exact rtwo_tail7 h hM hbig
  · exact rtwo_tail8 h hM hbig
  · exact rtwo_tail9 h hM hbig
  · exact rtwo_tail10 h hM hbig
  · exact rtwo_tail11 h hM hbig (fun hz => hrec rfl (hz3 hz))
  · exact rtwo_tail12 h hM hbig
  · exact rtwo_tail13 h hM hbig
  · exact rtwo_tail14 h hM hbig
  · exact rtwo_tail15 h hM hbig
  · exact rtwo_tail16 h hM hbig
  · exact rtwo_tail17 h hM hbig
  · exact rtwo_tail18 h hM hbig
  · exact rtwo_tail19 h hM hbig
  · exact rtwo_tail20 h hM hbig
set_option maxRecDepth 100000 in
theorem rtwo_any (h : RGr w base F I rb W room L) (o x y : Nat) (ho1 : 4 ≤ o) (ho2 : o ≤ 20) (hnn : ¬ (isNum L (x : Int) = true ∧ isNum L (y : Int) = true))
    (hrec : o = 11 → isNum L (x : Int) = false → ∀ (w2 : World) (va : Value), RGr w2 base F I rb W room L → SliceOf w2 .i64 va [(x : Int)] → Calls Try.prog 50 #[.pointer (some ⟨rb, 0, none⟩), .int .u8 2, va] w2 (RPost w2 base F I rb W room ((oneA L 2 x).res W room L))) :
    Calls Try.prog 73 #[.pointer (some ⟨rb, 0, none⟩), .int .u8 o, .int .i64 x, .int .i64 y] w (RPost w base F I rb W room ((twoA W L o x y).res W room L)) := by
  obtain ⟨a, cap, c0, -, -, hl⟩ := h.parts
  have hw1 := h.w1
  have hw2 := h.w2
  have hn1 := rnumber_any h (x : Int)
  have hn2 := rnumber_any h (y : Int)
  rw [twoA_twoB, numOf_bool, numOf_bool, numOf_bool, numOf_bool]
  have hM : 2 ^ W - 1 < 18446744073709551616 := by
    have : 2 ^ W ≤ 2 ^ 64 := Nat.pow_le_pow_right (by decide) hw2
    have := pow_pos2 W
    omega
  have hmk := rmask_any W hw1 hw2 w
  obtain ⟨M, hMM⟩ : ∃ M : Nat, 2 ^ W - 1 = M := ⟨_, rfl⟩
  rw [hMM] at hM hmk ⊢
  obtain ⟨big, hbig⟩ : ∃ big, decide (isNum L (y : Int) = true ∧ W ≤ numD L (y : Int)) = big := ⟨_, rfl⟩
  rw [hbig]
  have hbig' : big = (isNum L (y : Int) && decide (W ≤ numD L (y : Int))) := by
    rw [← hbig, Bool.eq_iff_iff]; simp
  generalize isNum L (y : Int) = right at *
  generalize isNum L (x : Int) = left at *
  generalize numD L (y : Int) = b at *
  generalize numD L (x : Int) = aa at *
  have HG := Lib.hid h; have HN1 := Lib.hid hn1; have HN2 := Lib.hid hn2; have HMK := Lib.hid hmk; have HM := Lib.hid hM; have HBIG := Lib.hid hbig'; have HREC := Lib.hid hrec; have HO := Lib.hid (And.intro ho1 ho2)
  have hz3 : (right && decide ((b : Int) = (M : Int))) = true → left = false := by
    intro h
    cases left with
    | false => rfl
    | true => exact absurd ⟨rfl, (Bool.and_eq_true_iff.1 h).1⟩ hnn
  have HZ3 := Lib.hid hz3
  clear h hn1 hn2 hmk hM hbig hbig' hrec hMM hw1 hw2 hl ho1 ho2 hz3 hnn
  go_enter Try.func73, Try.ntmps73
  go_upto_region 2 with (go_at_call 32; refine HN1.out.mono ?_; rintro e w2 ⟨rfl, rfl⟩)
  clear HN1
  go_upto_region 3 with (go_at_call 32; refine HN2.out.mono ?_; rintro e w2 ⟨rfl, rfl⟩)
  clear HN2
  go_upto_region 4 with (go_at_call 88; refine HMK.out.mono ?_; rintro e w2 ⟨rfl, rfl⟩)
  go_cut [15, 16, 17] (fun s15 s16 s17 wx => s15 = .bool (right && decide ((b : Int) = ((0 : Nat) : Int))) ∧ s16 = .bool (right && decide ((b : Int) = ((1 : Nat) : Int))) ∧ s17 = .bool (right && decide ((b : Int) = (M : Int))) ∧ wx = w)
  case first =>
    cases right with
    | true => go_wp2; go_meet; exact ⟨rfl, rfl, rfl, rfl⟩
    | false => go_wp2; go_meet; exact ⟨rfl, rfl, rfl, rfl⟩
  case rest =>
    obtain ⟨rfl, rfl, rfl, rfl⟩ := hcut
    rename_i K hK
    refine hK _ _ ?_
    generalize (right && decide ((b : Int) = ((0 : Nat) : Int))) = z1
    generalize (right && decide ((b : Int) = ((1 : Nat) : Int))) = z2
    have hz3 := HZ3.out
    clear HZ3
    generalize (right && decide ((b : Int) = (M : Int))) = z3 at *
    go_upto_region 5 with fail
    go_cut [18] (fun s18 wx => s18 = .bool (left && decide ((aa : Int) = ((0 : Nat) : Int))) ∧ wx = wc)
    case first =>
      cases left with
      | true => go_wp2; go_meet; exact ⟨rfl, rfl⟩
      | false => go_wp2; go_meet; exact ⟨rfl, rfl⟩
    case rest =>
      obtain ⟨rfl, rfl⟩ := hcut
      rename_i K2 hK2
      refine hK2 _ _ ?_
      generalize (left && decide ((aa : Int) = ((0 : Nat) : Int))) = z4
      go_upto_region 6 with fail
      go_cut [19] (fun s19 wx => s19 = .bool (decide ((x : Int) = (y : Int))) ∧ wx = wc)
      case first =>
        go_wp2
        go_meet
        exact ⟨rfl, rfl⟩
      case rest =>
        obtain ⟨rfl, rfl⟩ := hcut
        rename_i K3 hK3
        refine hK3 _ _ ?_
        exact rtwo_rest HG.out HM.out HBIG.out (fun h => HREC.out h) hz3 HO.out.1 HO.out.2
end
end Go.Proofs.Ytcpgiadhmmmafaa
