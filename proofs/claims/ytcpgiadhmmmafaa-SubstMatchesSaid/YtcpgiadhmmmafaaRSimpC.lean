/- The reference's rules of operators with two arguments; App behind the numbers. The reference's simple terms: App behind the numbers. The reference's simple terms: App. -/
import Derived.Test.YtcpgiadhmmmafaaRSimpA
import Derived.Test.YtcpgiadhmmmafaaSimpO
import Derived.Test.YtcpgiadhmmmafaaRefX
import Derived.StillTailTactics
import Derived.BigRegion
import Derived.Deep.RegionHeld3
namespace Go.Proofs.Ytcpgiadhmmmafaa
open Go.RowKit Go.Maps
set_option maxHeartbeats 12800000

section
variable {w wr : World} {base : Nat} {F I : List Nat} {rb W room : Nat} {L : List PNode}
set_option maxRecDepth 100000 in
theorem rcomm_any (o : Nat) (h1 : 2 ≤ o) (h2 : o ≤ 21) (w : World) : Calls Try.prog 71 #[.int .u8 o] w fun e w' => e = .returned (.bool (commN o)) ∧ w = w' := by
  have hc : o = 2 ∨ o = 3 ∨ o = 4 ∨ o = 5 ∨ o = 6 ∨ o = 7 ∨ o = 8 ∨ o = 9 ∨ o = 10 ∨ o = 11 ∨ o = 12 ∨ o = 13 ∨ o = 14 ∨ o = 15 ∨ o = 16 ∨ o = 17 ∨ o = 18 ∨ o = 19 ∨ o = 20 ∨ o = 21 := by omega
  clear h1 h2
  rcases hc with rfl | rfl | rfl | rfl | rfl | rfl | rfl | rfl | rfl | rfl | rfl | rfl | rfl | rfl | rfl | rfl | rfl | rfl | rfl | rfl
  all_goals (go_enter Try.func71, Try.ntmps71; go_wp2; go_ret; exact ⟨rfl, rfl⟩)
theorem numOf_bool {t : Int} (c : Nat) : decide (numOf L t = some c) = (isNum L t && decide ((numD L t : Int) = (c : Int))) := by
  unfold isNum numD
  cases h : numOf L t with
  | none => simp
  | some d =>
    rw [Bool.eq_iff_iff]
    simp
    omega
set_option maxRecDepth 100000 in
theorem rtwo_rest {u4 u5 u6 u7 u8 u9 u10 u11 u20 u21 u22 u23 u24 u25 u26 u27 u28 u29 u30 u31 u32 u33 u34 u35 u36 u37 u38 u39 u40 u41 u42 u43 u44 u45 u46 u47 u48 u49 u50 u51 u52 u53 u54 u55 u56 u57 u58 u59 u60 u61 u62 u63 u64 u65 u66 u67 u68 u69 u70 u71 u72 u73 u74 u75 u76 u77 u78 u79 u80 u81 u82 u83 u84 u85 u86 u87 u88 u89 u90 u91 u92 u93 u94 u95 u96 u97 u98 u99 u100 u101 u102 u103 u104 u105 u106 u107 u108 u109 u110 u111 u112 u113 u114 u115 u116 u117 u118 u119 u120 u121 u122 u123 u124 u125 u126 u127 u128 u129 u130 u131 u132 u133 u134 u135 u136 u137 u138 u139 u140 u141 u142 u143 u144 u145 u146 u147 u148 u149 u150 u151 u152 u153 u154 u155 u156 u157 u158 u159 u160 u161 u162 u163 u164 u165 u166 u167 u168 u169 u170 u171 u172 u173 u174 u175 u176 u177 u178 u179 u180 u181 u182 u183 u184 u185 u186 u187 u188 u189 u190 u191 u192 u193 u194 u195 u196 u197 u198 : Value} {zero one all lf left equal big right : Bool} {o x y b M : Nat} (h : RGr w base F I rb W room L) (hM : M < 18446744073709551616) (hbig : big = (right && decide (W ≤ b)))
    (hrec : o = 11 → lf = false → ∀ (w2 : World) (va : Value), RGr w2 base F I rb W room L → SliceOf w2 .i64 va [(x : Int)] → Calls Try.prog 50 #[.pointer (some ⟨rb, 0, none⟩), .int .u8 2, va] w2 (RPost w2 base F I rb W room ((oneA L 2 x).res W room L)))
    (hz3 : all = true → lf = false) (ho1 : 4 ≤ o) (ho2 : o ≤ 20) :
    Code.wp Try.prog twoRest7 (bodyPost Try.prog Try.f73 (RPost w base F I rb W room ((twoB W L M o x y zero one all left equal big).res W room L))) ⟨(List.toArray (.pointer (some ⟨rb, 0, none⟩) :: .int .u8 o :: .int .i64 x :: .int .i64 y :: u4 :: u5 :: u6 :: u7 :: u8 :: u9 :: u10 :: u11 :: .int .u64 b :: .bool right :: .int .u64 M :: .bool zero :: .bool one :: .bool all :: .bool left :: .bool equal :: u20 :: u21 :: u22 :: u23 :: u24 :: u25 :: u26 :: u27 :: u28 :: u29 :: u30 :: u31 :: u32 :: u33 :: u34 :: u35 :: u36 :: u37 :: u38 :: u39 :: u40 :: u41 :: u42 :: u43 :: u44 :: u45 :: u46 :: u47 :: u48 :: u49 :: u50 :: u51 :: u52 :: u53 :: u54 :: u55 :: u56 :: u57 :: u58 :: u59 :: u60 :: u61 :: u62 :: u63 :: u64 :: u65 :: u66 :: u67 :: u68 :: u69 :: u70 :: u71 :: u72 :: u73 :: u74 :: u75 :: u76 :: u77 :: u78 :: u79 :: u80 :: u81 :: u82 :: u83 :: u84 :: u85 :: u86 :: u87 :: u88 :: u89 :: u90 :: u91 :: u92 :: u93 :: u94 :: u95 :: u96 :: u97 :: u98 :: u99 :: u100 :: u101 :: u102 :: u103 :: u104 :: u105 :: u106 :: u107 :: u108 :: u109 :: u110 :: u111 :: u112 :: u113 :: u114 :: u115 :: u116 :: u117 :: u118 :: u119 :: u120 :: u121 :: u122 :: u123 :: u124 :: u125 :: u126 :: u127 :: u128 :: u129 :: u130 :: u131 :: u132 :: u133 :: u134 :: u135 :: u136 :: u137 :: u138 :: u139 :: u140 :: u141 :: u142 :: u143 :: u144 :: u145 :: u146 :: u147 :: u148 :: u149 :: u150 :: u151 :: u152 :: u153 :: u154 :: u155 :: u156 :: u157 :: u158 :: u159 :: u160 :: u161 :: u162 :: u163 :: u164 :: u165 :: u166 :: u167 :: u168 :: u169 :: u170 :: u171 :: u172 :: u173 :: u174 :: u175 :: u176 :: u177 :: u178 :: u179 :: u180 :: u181 :: u182 :: u183 :: u184 :: u185 :: u186 :: u187 :: u188 :: u189 :: u190 :: u191 :: u192 :: u193 :: u194 :: u195 :: u196 :: u197 :: u198 :: [])), []⟩ w := by
  have hc : o = 4 ∨ o = 5 ∨ o = 6 ∨ o = 7 ∨ o = 8 ∨ o = 9 ∨ o = 10 ∨ o = 11 ∨ o = 12 ∨ o = 13 ∨ o = 14 ∨ o = 15 ∨ o = 16 ∨ o = 17 ∨ o = 18 ∨ o = 19 ∨ o = 20 := by omega
  rcases hc with rfl | rfl | rfl | rfl | rfl | rfl | rfl | rfl | rfl | rfl | rfl | rfl | rfl | rfl | rfl | rfl | rfl
  · exact rtwo_tail4 h hM hbig
  · exact rtwo_tail5 h hM hbig
  · exact rtwo_tail6 h hM hbig
  · exact rtwo_tail7 h hM hbig
  · exact rtwo_tail8 h hM hbig
  · exact rtwo_tail9 h hM hbig
  · exact rtwo_tail10 h hM hbig
  · exact rtwo_tail11 h hM hbig (fun hz => hrec rfl (hz3 hz))
  · exact rtwo_tail12 h hM hbig
  · exact rtwo_tail13 h hM hbig
  · exact rtwo_tail14 h hM hbig
  · exact rtwo_tail15 h hM hbig
  · exact rtwo_tail16 h hM hbig
  · exact rtwo_tail17 h hM hbig
  · exact rtwo_tail18 h hM hbig
  · exact rtwo_tail19 h hM hbig
  · exact rtwo_tail20 h hM hbig
set_option maxRecDepth 100000 in
theorem rtwo_any (h : RGr w base F I rb W room L) (o x y : Nat) (ho1 : 4 ≤ o) (ho2 : o ≤ 20) (hnn : ¬ (isNum L (x : Int) = true ∧ isNum L (y : Int) = true))
    (hrec : o = 11 → isNum L (x : Int) = false → ∀ (w2 : World) (va : Value), RGr w2 base F I rb W room L → SliceOf w2 .i64 va [(x : Int)] → Calls Try.prog 50 #[.pointer (some ⟨rb, 0, none⟩), .int .u8 2, va] w2 (RPost w2 base F I rb W room ((oneA L 2 x).res W room L))) :
    Calls Try.prog 73 #[.pointer (some ⟨rb, 0, none⟩), .int .u8 o, .int .i64 x, .int .i64 y] w (RPost w base F I rb W room ((twoA W L o x y).res W room L)) := by
  obtain ⟨a, cap, c0, -, -, hl⟩ := h.parts
  have hw1 := h.w1
  have hw2 := h.w2
  have hn1 := rnumber_any h (x : Int)
  have hn2 := rnumber_any h (y : Int)
  rw [twoA_twoB, numOf_bool, numOf_bool, numOf_bool, numOf_bool]
  have hM : 2 ^ W - 1 < 18446744073709551616 := by
    have : 2 ^ W ≤ 2 ^ 64 := Nat.pow_le_pow_right (by decide) hw2
    have := pow_pos2 W
    omega
  have hmk := rmask_any W hw1 hw2 w
  obtain ⟨M, hMM⟩ : ∃ M : Nat, 2 ^ W - 1 = M := ⟨_, rfl⟩
  rw [hMM] at hM hmk ⊢
  obtain ⟨big, hbig⟩ : ∃ big, decide (isNum L (y : Int) = true ∧ W ≤ numD L (y : Int)) = big := ⟨_, rfl⟩
  rw [hbig]
  have hbig' : big = (isNum L (y : Int) && decide (W ≤ numD L (y : Int))) := by
    rw [← hbig, Bool.eq_iff_iff]; simp
  generalize isNum L (y : Int) = right at *
  generalize isNum L (x : Int) = left at *
  generalize numD L (y : Int) = b at *
  generalize numD L (x : Int) = aa at *
  have HG := Lib.hid h; have HN1 := Lib.hid hn1; have HN2 := Lib.hid hn2; have HMK := Lib.hid hmk; have HM := Lib.hid hM; have HBIG := Lib.hid hbig'; have HREC := Lib.hid hrec; have HO := Lib.hid (And.intro ho1 ho2)
  have hz3 : (right && decide ((b : Int) = (M : Int))) = true → left = false := by
    intro h
    cases left with
    | false => rfl
    | true => exact absurd ⟨rfl, (Bool.and_eq_true_iff.1 h).1⟩ hnn
  have HZ3 := Lib.hid hz3
  clear h hn1 hn2 hmk hM hbig hbig' hrec hMM hw1 hw2 hl ho1 ho2 hz3 hnn
  go_enter Try.func73, Try.ntmps73
  go_upto_region 2 with (go_at_call 32; refine HN1.out.mono ?_; rintro e w2 ⟨rfl, rfl⟩)
  clear HN1
  go_upto_region 3 with (go_at_call 32; refine HN2.out.mono ?_; rintro e w2 ⟨rfl, rfl⟩)
  clear HN2
  go_upto_region 4 with (go_at_call 88; refine HMK.out.mono ?_; rintro e w2 ⟨rfl, rfl⟩)
  go_cut [15, 16, 17] (fun s15 s16 s17 wx => s15 = .bool (right && decide ((b : Int) = ((0 : Nat) : Int))) ∧ s16 = .bool (right && decide ((b : Int) = ((1 : Nat) : Int))) ∧ s17 = .bool (right && decide ((b : Int) = (M : Int))) ∧ wx = w)
  case first =>
    cases right with
    | true => go_wp2; go_meet; exact ⟨rfl, rfl, rfl, rfl⟩
    | false => go_wp2; go_meet; exact ⟨rfl, rfl, rfl, rfl⟩
  case rest =>
    obtain ⟨rfl, rfl, rfl, rfl⟩ := hcut
    rename_i K hK
    refine hK _ _ ?_
    generalize (right && decide ((b : Int) = ((0 : Nat) : Int))) = z1
    generalize (right && decide ((b : Int) = ((1 : Nat) : Int))) = z2
    have hz3 := HZ3.out
    clear HZ3
    generalize (right && decide ((b : Int) = (M : Int))) = z3 at *
    go_upto_region 5 with fail
    go_cut [18] (fun s18 wx => s18 = .bool (left && decide ((aa : Int) = ((0 : Nat) : Int))) ∧ wx = wc)
    case first =>
      cases left with
      | true => go_wp2; go_meet; exact ⟨rfl, rfl⟩
      | false => go_wp2; go_meet; exact ⟨rfl, rfl⟩
    case rest =>
      obtain ⟨rfl, rfl⟩ := hcut
      rename_i K2 hK2
      refine hK2 _ _ ?_
      generalize (left && decide ((aa : Int) = ((0 : Nat) : Int))) = z4
      go_upto_region 6 with fail
      go_cut [19] (fun s19 wx => s19 = .bool (decide ((x : Int) = (y : Int))) ∧ wx = wc)
      case first =>
        go_wp2
        go_meet
        exact ⟨rfl, rfl⟩
      case rest =>
        obtain ⟨rfl, rfl⟩ := hcut
        rename_i K3 hK3
        refine hK3 _ _ ?_
        exact rtwo_rest HG.out HM.out HBIG.out (fun h => HREC.out h) hz3 HO.out.1 HO.out.2
end
end Go.Proofs.Ytcpgiadhmmmafaa
namespace Go.Proofs.Ytcpgiadhmmmafaa
open Go.RowKit Go.Maps
set_option maxHeartbeats 1600000

noncomputable def rappRest14 : Code := (Try.f50.body.bind (tailR 14)).getD .skip
noncomputable def rappRest20 : Code := (Try.f50.body.bind (tailR 20)).getD .skip
noncomputable def rappRegion19 : Code := (Try.f50.body.bind (regionIn 19)).getD .skip
section
variable {w wr : World} {base : Nat} {F I : List Nat} {rb W room : Nat} {L : List PNode}
theorem cell_touch {w w' : World} {b i : Nat} {v : Value} (ht : Touch F w w') (hl : b < w.heap.size) (hb : b ∉ F) (hc : w.cell? ⟨b, i, none⟩ = some v) : w'.cell? ⟨b, i, none⟩ = some v := by
  rw [← hc]; unfold World.cell?; rw [ht.block b hl hb]
set_option maxRecDepth 100000 in
theorem rapp_region19 {u0 u1 u3 u4 u5 u6 u7 u8 u9 u10 u11 u12 u13 u14 u15 u16 u17 u18 u19 u20 u21 u22 u23 u24 u25 u26 u27 u28 u29 u30 u31 u32 u33 u34 u35 u36 u37 u38 u39 u40 u41 u42 u43 u44 u45 u46 u47 u48 u49 u50 u51 u52 u53 u54 u55 u56 u57 u58 u59 u60 u61 u62 u63 u64 u65 u66 u67 u68 u69 u70 u71 u72 u73 u74 u75 u76 u77 u78 u79 u80 u81 u82 u83 u84 u85 u86 u87 u88 u89 u90 u91 u92 u93 u94 u95 u96 u97 u98 u99 u100 u101 u102 u103 u104 u105 u106 u107 u108 u109 u110 u111 u112 u113 u114 u115 u116 u117 u118 u119 u120 u121 u122 u123 u124 u125 u126 u127 u128 u129 u130 u131 u132 u133 u134 u135 u136 u137 u138 u139 u140 u141 u142 u143 u144 u145 u146 u147 : Value} {Q : Exit → Act → World → Prop} {x y : Int} {g m : Nat} (hm : 2 ≤ m) (a0 : w.cell? ⟨g, 0, none⟩ = some (.int .i64 x)) (a1 : w.cell? ⟨g, 1, none⟩ = some (.int .i64 y)) (f0 : w.frozen? ⟨g, 0, none⟩ = false) (f1 : w.frozen? ⟨g, 1, none⟩ = false)
    (hQ : ∀ v100 v101 v102 v103 v104 v105 v106 v107 v108 v109 : Value, Q .normal ⟨(List.toArray (u0 :: u1 :: .slice (some ⟨g, 0, none⟩) 2 m :: u3 :: u4 :: u5 :: u6 :: u7 :: u8 :: u9 :: u10 :: u11 :: u12 :: u13 :: u14 :: u15 :: u16 :: u17 :: u18 :: u19 :: u20 :: u21 :: u22 :: u23 :: u24 :: u25 :: u26 :: u27 :: u28 :: u29 :: u30 :: u31 :: u32 :: u33 :: u34 :: u35 :: u36 :: u37 :: u38 :: u39 :: u40 :: u41 :: u42 :: u43 :: u44 :: u45 :: u46 :: u47 :: u48 :: u49 :: u50 :: u51 :: u52 :: u53 :: u54 :: u55 :: u56 :: u57 :: u58 :: u59 :: u60 :: u61 :: u62 :: u63 :: u64 :: u65 :: u66 :: u67 :: u68 :: u69 :: u70 :: u71 :: u72 :: u73 :: u74 :: u75 :: u76 :: u77 :: u78 :: u79 :: u80 :: u81 :: u82 :: u83 :: u84 :: u85 :: u86 :: u87 :: u88 :: u89 :: u90 :: u91 :: u92 :: u93 :: u94 :: u95 :: u96 :: u97 :: u98 :: u99 :: v100 :: v101 :: v102 :: v103 :: v104 :: v105 :: v106 :: v107 :: v108 :: v109 :: u110 :: u111 :: u112 :: u113 :: u114 :: u115 :: u116 :: u117 :: u118 :: u119 :: u120 :: u121 :: u122 :: u123 :: u124 :: u125 :: u126 :: u127 :: u128 :: u129 :: u130 :: u131 :: u132 :: u133 :: u134 :: u135 :: u136 :: u137 :: u138 :: u139 :: u140 :: u141 :: u142 :: u143 :: u144 :: u145 :: u146 :: u147 :: [])), []⟩ ((w.setCell ⟨g, 0, none⟩ (.int .i64 y)).setCell ⟨g, 1, none⟩ (.int .i64 x)).drew) :
    Code.wp Try.prog rappRegion19 Q ⟨(List.toArray (u0 :: u1 :: .slice (some ⟨g, 0, none⟩) 2 m :: u3 :: u4 :: u5 :: u6 :: u7 :: u8 :: u9 :: u10 :: u11 :: u12 :: u13 :: u14 :: u15 :: u16 :: u17 :: u18 :: u19 :: u20 :: u21 :: u22 :: u23 :: u24 :: u25 :: u26 :: u27 :: u28 :: u29 :: u30 :: u31 :: u32 :: u33 :: u34 :: u35 :: u36 :: u37 :: u38 :: u39 :: u40 :: u41 :: u42 :: u43 :: u44 :: u45 :: u46 :: u47 :: u48 :: u49 :: u50 :: u51 :: u52 :: u53 :: u54 :: u55 :: u56 :: u57 :: u58 :: u59 :: u60 :: u61 :: u62 :: u63 :: u64 :: u65 :: u66 :: u67 :: u68 :: u69 :: u70 :: u71 :: u72 :: u73 :: u74 :: u75 :: u76 :: u77 :: u78 :: u79 :: u80 :: u81 :: u82 :: u83 :: u84 :: u85 :: u86 :: u87 :: u88 :: u89 :: u90 :: u91 :: u92 :: u93 :: u94 :: u95 :: u96 :: u97 :: u98 :: u99 :: u100 :: u101 :: u102 :: u103 :: u104 :: u105 :: u106 :: u107 :: u108 :: u109 :: u110 :: u111 :: u112 :: u113 :: u114 :: u115 :: u116 :: u117 :: u118 :: u119 :: u120 :: u121 :: u122 :: u123 :: u124 :: u125 :: u126 :: u127 :: u128 :: u129 :: u130 :: u131 :: u132 :: u133 :: u134 :: u135 :: u136 :: u137 :: u138 :: u139 :: u140 :: u141 :: u142 :: u143 :: u144 :: u145 :: u146 :: u147 :: [])), []⟩ w := by
  have hm' : (2 : Int) ≤ (m : Int) := by omega
  have HQ := Lib.hid hQ
  clear hQ
  conv => arg 2; whnf
  go_region
  go_wp2
  exact HQ.out _ _ _ _ _ _ _ _ _ _
set_option maxRecDepth 100000 in
theorem rapp_two {u3 u4 u5 u6 u7 u8 u9 u10 u11 u12 u13 u14 u15 u16 u17 u18 u19 u20 u21 u22 u23 u24 u25 u26 u27 u28 u29 u30 u31 u32 u33 u34 u35 u36 u37 u38 u39 u40 u41 u42 u43 u44 u45 u46 u47 u48 u49 u50 u51 u52 u53 u54 u55 u56 u57 u58 u59 u60 u61 u62 u63 u64 u65 u66 u67 u68 u69 u70 u71 u72 u73 u74 u75 u76 u77 u78 u79 u80 u81 u82 u83 u84 u85 u86 u87 u88 u89 u90 u91 u92 u93 u94 u95 u96 u97 u98 u99 u100 u101 u102 u103 u104 u105 u106 u107 u108 u109 u110 u111 u112 u113 u114 u115 u116 u117 u118 u119 u120 u121 u122 u123 u124 u125 u126 u127 u128 u129 u130 u131 u132 u133 u134 u135 u136 u137 u138 u139 u140 u141 u142 u143 u144 u145 u146 u147 : Value} (hb : Below w.heap.size w wr) (h : RGr w base F I rb W room L) {o x y g m : Nat} (ho1 : 4 ≤ o) (ho2 : o ≤ 20) (_hm : 2 ≤ m) (hg1 : w.heap.size ≤ g) (hg2 : g < wr.heap.size) (d0 : wr.cell? ⟨g, 0, none⟩ = some (.int .i64 x)) (d1 : wr.cell? ⟨g, 1, none⟩ = some (.int .i64 y)) (hnn : ¬ (isNum L (x : Int) = true ∧ isNum L (y : Int) = true))
    (hrec : o = 11 → isNum L (x : Int) = false → ∀ (w2 : World) (va : Value), RGr w2 base F I rb W room L → SliceOf w2 .i64 va [(x : Int)] → Calls Try.prog 50 #[.pointer (some ⟨rb, 0, none⟩), .int .u8 2, va] w2 (RPost w2 base F I rb W room ((oneA L 2 x).res W room L))) :
    Code.wp Try.prog rappRest20 (bodyPost Try.prog Try.f50 (RPost w base F I rb W room ((twoA W L o x y).res W room L))) ⟨(List.toArray (.pointer (some ⟨rb, 0, none⟩) :: .int .u8 o :: .slice (some ⟨g, 0, none⟩) 2 m :: u3 :: u4 :: u5 :: u6 :: u7 :: u8 :: u9 :: u10 :: u11 :: u12 :: u13 :: u14 :: u15 :: u16 :: u17 :: u18 :: u19 :: u20 :: u21 :: u22 :: u23 :: u24 :: u25 :: u26 :: u27 :: u28 :: u29 :: u30 :: u31 :: u32 :: u33 :: u34 :: u35 :: u36 :: u37 :: u38 :: u39 :: u40 :: u41 :: u42 :: u43 :: u44 :: u45 :: u46 :: u47 :: u48 :: u49 :: u50 :: u51 :: u52 :: u53 :: u54 :: u55 :: u56 :: u57 :: u58 :: u59 :: u60 :: u61 :: u62 :: u63 :: u64 :: u65 :: u66 :: u67 :: u68 :: u69 :: u70 :: u71 :: u72 :: u73 :: u74 :: u75 :: u76 :: u77 :: u78 :: u79 :: u80 :: u81 :: u82 :: u83 :: u84 :: u85 :: u86 :: u87 :: u88 :: u89 :: u90 :: u91 :: u92 :: u93 :: u94 :: u95 :: u96 :: u97 :: u98 :: u99 :: u100 :: u101 :: u102 :: u103 :: u104 :: u105 :: u106 :: u107 :: u108 :: u109 :: u110 :: u111 :: u112 :: u113 :: u114 :: u115 :: u116 :: u117 :: u118 :: u119 :: u120 :: u121 :: u122 :: u123 :: u124 :: u125 :: u126 :: u127 :: u128 :: u129 :: u130 :: u131 :: u132 :: u133 :: u134 :: u135 :: u136 :: u137 :: u138 :: u139 :: u140 :: u141 :: u142 :: u143 :: u144 :: u145 :: u146 :: u147 :: [])), []⟩ wr := by
  have hb2 := hb.trans (((Below.refl wr.heap.size wr).drew).mono hb.size)
  have hc := rtwo_any (h.later hb2) o x y ho1 ho2 hnn hrec
  have hgF : g ∉ F := fun hm => by have := h.lt g hm; omega
  have HB := Lib.hid hb2; have HC := Lib.hid hc
  clear hb hb2 h hc hrec ho1 ho2 hnn
  conv => arg 2; whnf
  go_upto_region 24 with fail
  go_region_held3 (fun w' => w'.cell? ⟨g, 0, none⟩ = some (.int .i64 x) ∧ w'.cell? ⟨g, 1, none⟩ = some (.int .i64 y)) (first | exact ⟨d0, d1⟩ | exact ⟨by assumption, by assumption⟩ | go_keep | trivial)
    (first | (go_at_call 73; refine HC.out.mono ?_; intro e w4 hp; have ht : Touch F wr.drew w4 := (by obtain ⟨_, _, _, _, q, _⟩ := hp; exact q); have m0 := cell_touch ht hg2 hgF d0; have m1 := cell_touch ht hg2 hgF d1; skip; obtain ⟨F', I', rfl, hq⟩ := hp.later HB.out))
  all_goals go_wp2
  all_goals go_ret2
  all_goals exact ⟨F', I', rfl, hq⟩
set_option maxRecDepth 100000 in
theorem rapp_three {u3 u4 u5 u6 u7 u8 u9 u10 u11 u12 u13 u14 u15 u16 u17 u18 u19 u20 u21 u22 u23 u24 u25 u26 u27 u28 u29 u30 u31 u32 u33 u34 u35 u36 u37 u38 u39 u40 u41 u42 u43 u44 u45 u46 u47 u48 u49 u50 u51 u52 u53 u54 u55 u56 u57 u58 u59 u60 u61 u62 u63 u64 u65 u66 u67 u68 u69 u70 u71 u72 u73 u74 u75 u76 u77 u78 u79 u80 u81 u82 u83 u84 u85 u86 u87 u88 u89 u90 u91 u92 u93 u94 u95 u96 u97 u98 u99 u100 u101 u102 u103 u104 u105 u106 u107 u108 u109 u110 u111 u112 u113 u114 u115 u116 u117 u118 u119 u120 u121 u122 u123 u124 u125 u126 u127 u128 u129 u130 u131 u132 u133 u134 u135 u136 u137 u138 u139 u140 u141 u142 u143 u144 u145 u146 u147 : Value} (hb : Below w.heap.size w wr) (h : RGr w base F I rb W room L) {o x y z g m : Nat} (_hm : 3 ≤ m) (hg1 : w.heap.size ≤ g) (hg2 : g < wr.heap.size) (d0 : wr.cell? ⟨g, 0, none⟩ = some (.int .i64 x)) (d1 : wr.cell? ⟨g, 1, none⟩ = some (.int .i64 y)) (d2 : wr.cell? ⟨g, 2, none⟩ = some (.int .i64 z)) :
    Code.wp Try.prog rappRest20 (bodyPost Try.prog Try.f50 (RPost w base F I rb W room ((threeA L x y z).res W room L))) ⟨(List.toArray (.pointer (some ⟨rb, 0, none⟩) :: .int .u8 o :: .slice (some ⟨g, 0, none⟩) 3 m :: u3 :: u4 :: u5 :: u6 :: u7 :: u8 :: u9 :: u10 :: u11 :: u12 :: u13 :: u14 :: u15 :: u16 :: u17 :: u18 :: u19 :: u20 :: u21 :: u22 :: u23 :: u24 :: u25 :: u26 :: u27 :: u28 :: u29 :: u30 :: u31 :: u32 :: u33 :: u34 :: u35 :: u36 :: u37 :: u38 :: u39 :: u40 :: u41 :: u42 :: u43 :: u44 :: u45 :: u46 :: u47 :: u48 :: u49 :: u50 :: u51 :: u52 :: u53 :: u54 :: u55 :: u56 :: u57 :: u58 :: u59 :: u60 :: u61 :: u62 :: u63 :: u64 :: u65 :: u66 :: u67 :: u68 :: u69 :: u70 :: u71 :: u72 :: u73 :: u74 :: u75 :: u76 :: u77 :: u78 :: u79 :: u80 :: u81 :: u82 :: u83 :: u84 :: u85 :: u86 :: u87 :: u88 :: u89 :: u90 :: u91 :: u92 :: u93 :: u94 :: u95 :: u96 :: u97 :: u98 :: u99 :: u100 :: u101 :: u102 :: u103 :: u104 :: u105 :: u106 :: u107 :: u108 :: u109 :: u110 :: u111 :: u112 :: u113 :: u114 :: u115 :: u116 :: u117 :: u118 :: u119 :: u120 :: u121 :: u122 :: u123 :: u124 :: u125 :: u126 :: u127 :: u128 :: u129 :: u130 :: u131 :: u132 :: u133 :: u134 :: u135 :: u136 :: u137 :: u138 :: u139 :: u140 :: u141 :: u142 :: u143 :: u144 :: u145 :: u146 :: u147 :: [])), []⟩ wr := by
  have hb2 := hb.trans (((Below.refl wr.heap.size wr).drew).mono hb.size)
  have hc := rthree_any (h.later hb2) x y z
  have hgF : g ∉ F := fun hm => by have := h.lt g hm; omega
  have HB := Lib.hid hb2; have HC := Lib.hid hc
  clear hb hb2 h hc
  conv => arg 2; whnf
  go_upto_region 25 with fail
  go_region_held3 (fun w' => w'.cell? ⟨g, 0, none⟩ = some (.int .i64 x) ∧ w'.cell? ⟨g, 1, none⟩ = some (.int .i64 y) ∧ w'.cell? ⟨g, 2, none⟩ = some (.int .i64 z)) (first | exact ⟨d0, d1, d2⟩ | exact ⟨by assumption, by assumption, by assumption⟩ | go_keep | trivial)
    (first | (go_at_call 74; refine HC.out.mono ?_; intro e w4 hp; have ht : Touch F wr.drew w4 := (by obtain ⟨_, _, _, _, q, _⟩ := hp; exact q); have m0 := cell_touch ht hg2 hgF d0; have m1 := cell_touch ht hg2 hgF d1; have m2 := cell_touch ht hg2 hgF d2; obtain ⟨F', I', rfl, hq⟩ := hp.later HB.out))
  all_goals go_wp2
  all_goals go_ret2
  all_goals exact ⟨F', I', rfl, hq⟩
/-- What the copy of the arguments holds. -/
theorem copy_row {w wr : World} {v : Value} {xs : List Int} (h : OwnInts wr w.heap.size 3 .i64 v xs) (h0 : xs.length ≠ 0) : ∃ g c f, v = .slice (some ⟨g, 0, none⟩) xs.length c ∧ xs.length ≤ c ∧ w.heap.size ≤ g ∧ wr.rowIs g 3 c f ∧ ∀ i, i < xs.length → f i = .int .i64 (xs.getD i 0) := by
  obtain ⟨a, m, c, rfl⟩ := h.val
  obtain ⟨g, f, rfl, rfl, hg, hc, hrow, hf⟩ := row_of_owns h h0
  exact ⟨g, c, f, rfl, hc, hg, hrow, hf⟩
set_option maxRecDepth 100000 in
theorem rapp_tail1 {u3 u4 u5 u6 u7 u8 u9 u10 u11 u12 u13 u14 u15 u16 u17 u18 u19 u20 u21 u22 u23 u24 u25 u26 u27 u28 u29 u30 u31 u32 u33 u34 u35 u36 u37 u38 u39 u40 u41 u42 u43 u44 u45 u46 u47 u48 u49 u50 u51 u52 u53 u54 u55 u56 u57 u58 u59 u60 u61 u62 u63 u64 u65 u66 u67 u68 u69 u70 u71 u72 u73 u74 u75 u76 u77 u78 u79 u80 u81 u82 u83 u84 u85 u86 u87 u88 u89 u90 u91 u92 u93 u94 u95 u96 u97 u98 u99 u100 u101 u102 u103 u104 u105 u106 u107 u108 u109 u110 u111 u112 u113 u114 u115 u116 u117 u118 u119 u120 u121 u122 u123 u124 u125 u126 u127 u128 u129 u130 u131 u132 u133 u134 u135 u136 u137 u138 u139 u140 u141 u142 u143 u144 u145 u146 u147 : Value} (hb : Below w.heap.size w wr) (h : RGr w base F I rb W room L) {o x cap : Nat} {a : Option Addr} (ho : o = 2 ∨ o = 3) (hx : x < L.length) (hv : SliceOf wr .i64 (.slice a 1 cap) [(x : Int)]) :
    Code.wp Try.prog rappRest14 (bodyPost Try.prog Try.f50 (RPost w base F I rb W room ((oneA L o x).res W room L))) ⟨(List.toArray (.pointer (some ⟨rb, 0, none⟩) :: .int .u8 o :: .slice a 1 cap :: u3 :: u4 :: u5 :: u6 :: u7 :: u8 :: u9 :: u10 :: u11 :: u12 :: u13 :: u14 :: u15 :: u16 :: u17 :: u18 :: u19 :: u20 :: u21 :: u22 :: u23 :: u24 :: u25 :: u26 :: u27 :: u28 :: u29 :: u30 :: u31 :: u32 :: u33 :: u34 :: u35 :: u36 :: u37 :: u38 :: u39 :: u40 :: u41 :: u42 :: u43 :: u44 :: u45 :: u46 :: u47 :: u48 :: u49 :: u50 :: u51 :: u52 :: u53 :: u54 :: u55 :: u56 :: u57 :: u58 :: u59 :: u60 :: u61 :: u62 :: u63 :: u64 :: u65 :: u66 :: u67 :: u68 :: u69 :: u70 :: u71 :: u72 :: u73 :: u74 :: u75 :: u76 :: u77 :: u78 :: u79 :: u80 :: u81 :: u82 :: u83 :: u84 :: u85 :: u86 :: u87 :: u88 :: u89 :: u90 :: u91 :: u92 :: u93 :: u94 :: u95 :: u96 :: u97 :: u98 :: u99 :: u100 :: u101 :: u102 :: u103 :: u104 :: u105 :: u106 :: u107 :: u108 :: u109 :: u110 :: u111 :: u112 :: u113 :: u114 :: u115 :: u116 :: u117 :: u118 :: u119 :: u120 :: u121 :: u122 :: u123 :: u124 :: u125 :: u126 :: u127 :: u128 :: u129 :: u130 :: u131 :: u132 :: u133 :: u134 :: u135 :: u136 :: u137 :: u138 :: u139 :: u140 :: u141 :: u142 :: u143 :: u144 :: u145 :: u146 :: u147 :: [])), []⟩ wr := by
  have hcm := fun w' => rcomm_any o (by omega) (by omega) w'
  rw [show commN o = false by rcases ho with rfl | rfl <;> rfl] at hcm
  have HB := Lib.hid hb; have HG := Lib.hid h; have HV := Lib.hid hv; have HO := Lib.hid (And.intro ho hx); have HCM := Lib.hid hcm
  clear hb h hv ho hx hcm
  conv => arg 2; whnf
  go_wp2_with fail
  go_at_call 70
  refine (copyInts_any [(x : Int)] _ wr HV.out (by simp)).mono ?_
  rintro e w1 ⟨v1, rfl, hv1, hb1⟩
  obtain ⟨g, c, f, rfl, hc, hg, hrow, hf⟩ := copy_row hv1 (by simp)
  have d0 := hrow.cell (i := 0) (by simp at hc; omega)
  rw [hf 0 (by simp)] at d0
  have hb2 := HB.out.trans (hb1.mono HB.out.size)
  have HC := Lib.hid (rone_any (HG.out.later hb2) o x HO.out.1 HO.out.2)
  have HB2 := Lib.hid hb2
  have hc1 : 1 ≤ c := hc
  clear hv1 hb1 hb2 hrow hf hg hc
  go_wp2_with (first | (go_at_call 71; refine (HCM.out _).mono ?_; rintro e w2 ⟨rfl, rfl⟩))
  go_at_call 72
  refine HC.out.mono ?_
  intro e w4 hp
  obtain ⟨F', I', rfl, hrest⟩ := hp.later HB2.out
  have HQ := Lib.hid hrest
  clear hp hrest
  go_wp2
  go_ret2
  exact ⟨F', I', rfl, HQ.out⟩
set_option maxRecDepth 100000 in
theorem rapp_tail3 {u3 u4 u5 u6 u7 u8 u9 u10 u11 u12 u13 u14 u15 u16 u17 u18 u19 u20 u21 u22 u23 u24 u25 u26 u27 u28 u29 u30 u31 u32 u33 u34 u35 u36 u37 u38 u39 u40 u41 u42 u43 u44 u45 u46 u47 u48 u49 u50 u51 u52 u53 u54 u55 u56 u57 u58 u59 u60 u61 u62 u63 u64 u65 u66 u67 u68 u69 u70 u71 u72 u73 u74 u75 u76 u77 u78 u79 u80 u81 u82 u83 u84 u85 u86 u87 u88 u89 u90 u91 u92 u93 u94 u95 u96 u97 u98 u99 u100 u101 u102 u103 u104 u105 u106 u107 u108 u109 u110 u111 u112 u113 u114 u115 u116 u117 u118 u119 u120 u121 u122 u123 u124 u125 u126 u127 u128 u129 u130 u131 u132 u133 u134 u135 u136 u137 u138 u139 u140 u141 u142 u143 u144 u145 u146 u147 : Value} (hb : Below w.heap.size w wr) (h : RGr w base F I rb W room L) {x y z cap : Nat} {a : Option Addr} (hv : SliceOf wr .i64 (.slice a 3 cap) [(x : Int), y, z]) :
    Code.wp Try.prog rappRest14 (bodyPost Try.prog Try.f50 (RPost w base F I rb W room ((threeA L x y z).res W room L))) ⟨(List.toArray (.pointer (some ⟨rb, 0, none⟩) :: .int .u8 21 :: .slice a 3 cap :: u3 :: u4 :: u5 :: u6 :: u7 :: u8 :: u9 :: u10 :: u11 :: u12 :: u13 :: u14 :: u15 :: u16 :: u17 :: u18 :: u19 :: u20 :: u21 :: u22 :: u23 :: u24 :: u25 :: u26 :: u27 :: u28 :: u29 :: u30 :: u31 :: u32 :: u33 :: u34 :: u35 :: u36 :: u37 :: u38 :: u39 :: u40 :: u41 :: u42 :: u43 :: u44 :: u45 :: u46 :: u47 :: u48 :: u49 :: u50 :: u51 :: u52 :: u53 :: u54 :: u55 :: u56 :: u57 :: u58 :: u59 :: u60 :: u61 :: u62 :: u63 :: u64 :: u65 :: u66 :: u67 :: u68 :: u69 :: u70 :: u71 :: u72 :: u73 :: u74 :: u75 :: u76 :: u77 :: u78 :: u79 :: u80 :: u81 :: u82 :: u83 :: u84 :: u85 :: u86 :: u87 :: u88 :: u89 :: u90 :: u91 :: u92 :: u93 :: u94 :: u95 :: u96 :: u97 :: u98 :: u99 :: u100 :: u101 :: u102 :: u103 :: u104 :: u105 :: u106 :: u107 :: u108 :: u109 :: u110 :: u111 :: u112 :: u113 :: u114 :: u115 :: u116 :: u117 :: u118 :: u119 :: u120 :: u121 :: u122 :: u123 :: u124 :: u125 :: u126 :: u127 :: u128 :: u129 :: u130 :: u131 :: u132 :: u133 :: u134 :: u135 :: u136 :: u137 :: u138 :: u139 :: u140 :: u141 :: u142 :: u143 :: u144 :: u145 :: u146 :: u147 :: [])), []⟩ wr := by
  have hcm := fun w' => rcomm_any 21 (by omega) (by omega) w'
  rw [show commN 21 = false from rfl] at hcm
  have HB := Lib.hid hb; have HG := Lib.hid h; have HV := Lib.hid hv; have HCM := Lib.hid hcm
  clear hb h hv hcm
  conv => arg 2; whnf
  go_wp2_with fail
  go_at_call 70
  refine (copyInts_any [(x : Int), y, z] _ wr HV.out (by simp)).mono ?_
  rintro e w1 ⟨v1, rfl, hv1, hb1⟩
  obtain ⟨g, c, f, rfl, hc, hg, hrow, hf⟩ := copy_row hv1 (by simp)
  have hc3 : 3 ≤ c := hc
  have d0 := hrow.cell (i := 0) (by omega)
  have d1 := hrow.cell (i := 1) (by omega)
  have d2 := hrow.cell (i := 2) (by omega)
  rw [hf 0 (by simp)] at d0
  rw [hf 1 (by simp)] at d1
  rw [hf 2 (by simp)] at d2
  have hb2 := HB.out.trans (hb1.mono HB.out.size)
  have HD := Lib.hid (And.intro d0 (And.intro d1 d2))
  have HB2 := Lib.hid hb2
  have HGG := Lib.hid (And.intro (Nat.le_trans HB.out.size hg) hrow.lt)
  clear hv1 hb1 hb2 hrow hf hg hc d0 d1 d2
  go_upto_region 15 with fail
  rename_i K20 h20 K15 h15
  have H20 := Lib.hid h20
  clear h20
  go_wp2_with (first | (go_at_call 71; refine (HCM.out _).mono ?_; rintro e w2 ⟨rfl, rfl⟩))
  refine H20.out _ _ ?_
  exact rapp_three HB2.out HG.out hc3 HGG.out.1 HGG.out.2 HD.out.1 HD.out.2.1 HD.out.2.2
set_option maxRecDepth 100000 in
theorem rapp_tail2 {u3 u4 u5 u6 u7 u8 u9 u10 u11 u12 u13 u14 u15 u16 u17 u18 u19 u20 u21 u22 u23 u24 u25 u26 u27 u28 u29 u30 u31 u32 u33 u34 u35 u36 u37 u38 u39 u40 u41 u42 u43 u44 u45 u46 u47 u48 u49 u50 u51 u52 u53 u54 u55 u56 u57 u58 u59 u60 u61 u62 u63 u64 u65 u66 u67 u68 u69 u70 u71 u72 u73 u74 u75 u76 u77 u78 u79 u80 u81 u82 u83 u84 u85 u86 u87 u88 u89 u90 u91 u92 u93 u94 u95 u96 u97 u98 u99 u100 u101 u102 u103 u104 u105 u106 u107 u108 u109 u110 u111 u112 u113 u114 u115 u116 u117 u118 u119 u120 u121 u122 u123 u124 u125 u126 u127 u128 u129 u130 u131 u132 u133 u134 u135 u136 u137 u138 u139 u140 u141 u142 u143 u144 u145 u146 u147 : Value} (hb : Below w.heap.size w wr) (h : RGr w base F I rb W room L) {o x y cap : Nat} {a : Option Addr} (ho1 : 4 ≤ o) (ho2 : o ≤ 20) (hv : SliceOf wr .i64 (.slice a 2 cap) [(x : Int), y]) (hnn : ¬ (isNum L (x : Int) = true ∧ isNum L (y : Int) = true))
    (hrec : o = 11 → ∀ (x : Nat), x < L.length → isNum L (x : Int) = false → ∀ (w2 : World) (va : Value), RGr w2 base F I rb W room L → SliceOf w2 .i64 va [(x : Int)] → Calls Try.prog 50 #[.pointer (some ⟨rb, 0, none⟩), .int .u8 2, va] w2 (RPost w2 base F I rb W room ((oneA L 2 x).res W room L))) (hx : x < L.length) (hy : y < L.length) :
    Code.wp Try.prog rappRest14 (bodyPost Try.prog Try.f50 (RPost w base F I rb W room ((if swapA L o x y then twoA W L o y x else twoA W L o x y).res W room L))) ⟨(List.toArray (.pointer (some ⟨rb, 0, none⟩) :: .int .u8 o :: .slice a 2 cap :: u3 :: u4 :: u5 :: u6 :: u7 :: u8 :: u9 :: u10 :: u11 :: u12 :: u13 :: u14 :: u15 :: u16 :: u17 :: u18 :: u19 :: u20 :: u21 :: u22 :: u23 :: u24 :: u25 :: u26 :: u27 :: u28 :: u29 :: u30 :: u31 :: u32 :: u33 :: u34 :: u35 :: u36 :: u37 :: u38 :: u39 :: u40 :: u41 :: u42 :: u43 :: u44 :: u45 :: u46 :: u47 :: u48 :: u49 :: u50 :: u51 :: u52 :: u53 :: u54 :: u55 :: u56 :: u57 :: u58 :: u59 :: u60 :: u61 :: u62 :: u63 :: u64 :: u65 :: u66 :: u67 :: u68 :: u69 :: u70 :: u71 :: u72 :: u73 :: u74 :: u75 :: u76 :: u77 :: u78 :: u79 :: u80 :: u81 :: u82 :: u83 :: u84 :: u85 :: u86 :: u87 :: u88 :: u89 :: u90 :: u91 :: u92 :: u93 :: u94 :: u95 :: u96 :: u97 :: u98 :: u99 :: u100 :: u101 :: u102 :: u103 :: u104 :: u105 :: u106 :: u107 :: u108 :: u109 :: u110 :: u111 :: u112 :: u113 :: u114 :: u115 :: u116 :: u117 :: u118 :: u119 :: u120 :: u121 :: u122 :: u123 :: u124 :: u125 :: u126 :: u127 :: u128 :: u129 :: u130 :: u131 :: u132 :: u133 :: u134 :: u135 :: u136 :: u137 :: u138 :: u139 :: u140 :: u141 :: u142 :: u143 :: u144 :: u145 :: u146 :: u147 :: [])), []⟩ wr := by
  obtain ⟨A, hA⟩ : ∃ A, (if swapA L o (x : Int) y then twoA W L o y x else twoA W L o x y) = A := ⟨_, rfl⟩
  rw [hA]
  have HA := Lib.hid hA
  clear hA
  have hcm := fun w' => rcomm_any o (by omega) (by omega) w'
  have hsw : swapA L o x y ↔ commN o = true ∧ (isNum L (x : Int) = true ∨ isNum L (y : Int) = false ∧ (y : Int) < x) := Iff.rfl
  have HB := Lib.hid hb; have HG := Lib.hid h; have HV := Lib.hid hv; have HCM := Lib.hid hcm; have HREC := Lib.hid hrec; have HO := Lib.hid (And.intro ho1 (And.intro ho2 (And.intro hx (And.intro hy hnn)))); have HSW := Lib.hid hsw
  clear hb h hv hcm hrec ho1 ho2 hx hy hnn hsw
  conv => arg 2; whnf
  go_wp2_with fail
  go_at_call 70
  refine (copyInts_any [(x : Int), y] _ wr HV.out (by simp)).mono ?_
  rintro e w1 ⟨v1, rfl, hv1, hb1⟩
  obtain ⟨g, c, f, rfl, hc, hg, hrow, hf⟩ := copy_row hv1 (by simp)
  have hc2 : 2 ≤ c := hc
  have d0 := hrow.cell (i := 0) (by omega)
  have d1 := hrow.cell (i := 1) (by omega)
  have f0 := hrow.frozen 0
  have f1 := hrow.frozen 1
  rw [hf 0 (by simp)] at d0
  rw [hf 1 (by simp)] at d1
  simp only [List.getD_cons_zero, List.getD_cons_succ] at d0 d1
  have hb2 := HB.out.trans (hb1.mono HB.out.size)
  have HL := Lib.hid ((Lab.nil HB.out).new_fn hb1 hrow hg)
  have HD := Lib.hid (And.intro d0 (And.intro d1 (And.intro f0 f1)))
  have HB2 := Lib.hid hb2
  have HGG := Lib.hid (And.intro (Nat.le_trans HB.out.size hg) hrow.lt)
  have HN1 := Lib.hid (rnumber_any (HG.out.later hb2) (x : Int)); have HN2 := Lib.hid (rnumber_any (HG.out.later hb2) (y : Int))
  clear hv1 hb1 hb2 hrow hf hg hc f0 f1
  go_upto_region 15 with fail
  rename_i K20 h20 K15 h15
  have H20 := Lib.hid h20
  clear h20
  cases hcb : commN o with
  | false =>
    rw [hcb] at HCM
    have hns : ¬ swapA L o x y := fun hs => by have := (HSW.out.1 hs).1; rw [hcb] at this; cases this
    have hA := HA.out
    rw [if_neg hns] at hA
    subst hA
    clear hns hcb HSW d0 d1
    go_wp2_with (first | (go_at_call 71; refine (HCM.out _).mono ?_; rintro e w2 ⟨rfl, rfl⟩))
    refine H20.out _ _ ?_
    exact rapp_two HB2.out HG.out HO.out.1 HO.out.2.1 hc2 HGG.out.1 HGG.out.2 HD.out.1 HD.out.2.1 HO.out.2.2.2.2 (fun ho hn => HREC.out ho x HO.out.2.2.1 hn)
  | true =>
    rw [hcb] at HCM
    have hsw2 : swapA L o x y ↔ (isNum L (x : Int) = true ∨ isNum L (y : Int) = false ∧ (y : Int) < x) := HSW.out.trans ⟨fun h => h.2, fun h => ⟨hcb, h⟩⟩
    have HSW2 := Lib.hid hsw2
    clear hsw2 HSW hcb
    obtain ⟨nx, hnx⟩ : ∃ nx, isNum L (x : Int) = nx := ⟨_, rfl⟩
    obtain ⟨ny, hny⟩ : ∃ ny, isNum L (y : Int) = ny := ⟨_, rfl⟩
    rw [hnx] at HN1 HSW2
    rw [hny] at HN2 HSW2
    have HNX := Lib.hid (And.intro hnx hny)
    clear hnx hny
    generalize numD L (x : Int) = qx at *
    generalize numD L (y : Int) = qy at *
    go_upto_region 17 with (first | (go_at_call 71; refine (HCM.out _).mono ?_; rintro e w2 ⟨rfl, rfl⟩) | (go_at_call 32; refine HN1.out.mono ?_; rintro e w2 ⟨rfl, rfl⟩))
    clear HN1
    go_upto_region 18 with (go_at_call 32; refine HN2.out.mono ?_; rintro e w2 ⟨rfl, rfl⟩)
    clear HN2
    go_cut [99] (fun s99 wx => s99 = .bool (decide (swapA L o x y)) ∧ ∃ nq, wx = w1.drewN nq)
    case first =>
      cases nx with
      | true =>
        have hd : decide (swapA L o x y) = true := decide_eq_true (HSW2.out.2 (.inl rfl))
        have HD2 := Lib.hid hd
        clear hd
        go_quiet (fail)
        go_wp2
        go_meet
        exact ⟨by rw [HD2.out], _, rfl⟩
      | false =>
        cases ny with
        | true =>
          have hd : decide (swapA L o x y) = false := decide_eq_false fun h => (HSW2.out.1 h).elim (fun h => by cases h) (fun h => by cases h.1)
          have HD2 := Lib.hid hd
          clear hd
          go_quiet (fail)
          go_wp2
          go_meet
          exact ⟨by rw [HD2.out], _, rfl⟩
        | false =>
          by_cases hxy : (y : Int) < x
          · have hd : decide (swapA L o x y) = true := decide_eq_true (HSW2.out.2 (.inr ⟨rfl, hxy⟩))
            have HD2 := Lib.hid hd
            clear hd
            go_quiet (fail)
            go_wp2
            go_meet
            exact ⟨by rw [HD2.out], _, rfl⟩
          · have hd : decide (swapA L o x y) = false := decide_eq_false fun h => (HSW2.out.1 h).elim (fun h => by cases h) (fun h => hxy h.2)
            have HD2 := Lib.hid hd
            clear hd
            go_quiet (fail)
            go_wp2
            go_meet
            exact ⟨by rw [HD2.out], _, rfl⟩
    case rest =>
      obtain ⟨rfl, nq, rfl⟩ := hcut
      clear d0 d1
      have hb3 := HB2.out.trans ((below_drewN (Below.refl w1.heap.size w1) nq).mono HB2.out.size)
      by_cases hsw : swapA L o x y
      · have hA := HA.out
        rw [if_pos hsw] at hA
        subst hA
        rw [decide_eq_true hsw]
        have HB3 := Lib.hid hb3
        clear hsw hb3
        go_upto_region 19 with fail
        refine rapp_region19 hc2 HD.out.1 HD.out.2.1 HD.out.2.2.1 HD.out.2.2.2 ?_
        intro _ _ _ _ _ _ _ _ _ _
        have hl := ((((HL.out.drewN nq).set 0 (.int .i64 y)).set 1 (.int .i64 x))).drew1
        have e0 := hl.fn1.cell (i := 0) (by omega)
        have e1 := hl.fn1.cell (i := 1) (by omega)
        simp only [if_true, Nat.zero_ne_one, if_false] at e0 e1
        have hb4 := hl.below
        have hgl : g < _ := hl.fn1.lt
        go_wp2
        refine H20.out _ _ ?_
        exact rapp_two hb4 HG.out HO.out.1 HO.out.2.1 hc2 HGG.out.1 hgl e0 e1 (fun h => HO.out.2.2.2.2 ⟨h.2, h.1⟩) (fun ho hn => HREC.out ho y HO.out.2.2.2.1 hn)
      · have hA := HA.out
        rw [if_neg hsw] at hA
        subst hA
        rw [decide_eq_false hsw]
        have HB3 := Lib.hid hb3
        clear hsw hb3
        go_wp2
        refine H20.out _ _ ?_
        exact rapp_two HB3.out HG.out HO.out.1 HO.out.2.1 hc2 HGG.out.1 HGG.out.2 HD.out.1 HD.out.2.1 HO.out.2.2.2.2 (fun ho hn => HREC.out ho x HO.out.2.2.1 hn)
end
end Go.Proofs.Ytcpgiadhmmmafaa
namespace Go.Proofs.Ytcpgiadhmmmafaa
open Go.RowKit Go.Maps
set_option maxHeartbeats 1600000

section
variable {w wr : World} {base : Nat} {F I : List Nat} {rb W room : Nat} {L : List PNode}
/-- The numbers among terms. -/
def numsOf (L : List PNode) (xs : List Int) : List Int := xs.filterMap fun t => (numOf L t).map fun q : Nat => (q : Int)
theorem numsOf_len (xs : List Int) : (numsOf L xs).length ≤ xs.length := List.length_filterMap_le _ _
theorem numsOf_snoc {xs : List Int} {k : Nat} {t : Int} (h : xs[k]? = some t) : numsOf L (xs.take (k + 1)) = numsOf L (xs.take k) ++ (if isNum L t = true then [(numD L t : Int)] else []) := by
  rw [← take_snoc' h]
  unfold numsOf isNum numD
  rw [List.filterMap_append]
  congr 1
  cases hn : numOf L t with
  | none => simp [hn]
  | some q => simp [hn]
theorem numsOf_all {xs : List Int} (h : ∀ t ∈ xs, isNum L t = true) : numsOf L xs = xs.map fun t => (numD L t : Int) := by
  induction xs with
  | nil => rfl
  | cons t xs ih =>
    have h1 := isNum_some (h t (by simp))
    unfold numsOf
    rw [List.filterMap_cons, h1]
    show (numD L t : Int) :: numsOf L xs = _
    rw [ih fun u hu => h u (by simp [hu])]
    rfl
theorem numsOf_full {xs : List Int} : (numsOf L xs).length = xs.length ↔ ∀ t ∈ xs, isNum L t = true := by
  constructor
  · intro h
    induction xs with
    | nil => intro t ht; cases ht
    | cons t xs ih =>
      have hl := numsOf_len (L := L) xs
      cases hn : numOf L t with
      | none =>
        exfalso
        unfold numsOf at h
        rw [List.filterMap_cons, hn] at h
        simp only [Option.map_none] at h
        have : (numsOf L xs).length = (t :: xs).length := h
        simp at this
        omega
      | some q =>
        have h2 : (numsOf L xs).length = xs.length := by
          unfold numsOf at h ⊢
          rw [List.filterMap_cons, hn] at h
          simpa using h
        intro u hu
        rcases List.mem_cons.1 hu with rfl | hu
        · unfold isNum; rw [hn]; rfl
        · exact ih h2 u hu
  · intro h; rw [numsOf_all h, List.length_map]
theorem numsOf_u64 (hw : WFL L) (xs : List Int) : U64s (numsOf L xs) := by
  intro v hv
  unfold numsOf at hv
  obtain ⟨t, _, ht⟩ := List.mem_filterMap.1 hv
  obtain ⟨q, hq, rfl⟩ := Option.map_eq_some_iff.1 ht
  have := numD_lt hw t
  unfold numD at this
  rw [hq] at this
  simp at this
  omega
theorem ary1 {o : Nat} (h1 : 2 ≤ o) (h : aryN o = 1) : o = 2 ∨ o = 3 := by
  unfold aryN at h
  rw [if_neg (by omega)] at h
  split at h
  · omega
  · split at h <;> omega
theorem ary2 {o : Nat} (h1 : 2 ≤ o) (h2 : o ≤ 21) (h : aryN o = 2) : 4 ≤ o ∧ o ≤ 20 := by
  unfold aryN at h
  rw [if_neg (by omega)] at h
  split at h
  · omega
  · split at h <;> omega
theorem ary3 {o : Nat} (h1 : 2 ≤ o) (h2 : o ≤ 21) (h : aryN o = 3) : o = 21 := by
  unfold aryN at h
  rw [if_neg (by omega)] at h
  split at h
  · omega
  · split at h <;> omega
set_option maxRecDepth 100000 in
theorem rsapp_core (h : RGr w base F I rb W room L) (o : Nat) (ho1 : 2 ≤ o) (ho2 : o ≤ 21) (xs : List Int) (va : Value) (hv : SliceOf w .i64 va xs) (hl : aryN o = xs.length) (hin : ∀ a ∈ xs, (0 : Int) ≤ a ∧ a < (L.length : Int))
    (hrec : o = 11 → ∀ (x : Nat), x < L.length → isNum L (x : Int) = false → ∀ (w2 : World) (va : Value), RGr w2 base F I rb W room L → SliceOf w2 .i64 va [(x : Int)] → Calls Try.prog 50 #[.pointer (some ⟨rb, 0, none⟩), .int .u8 2, va] w2 (RPost w2 base F I rb W room ((oneA L 2 x).res W room L))) :
    Calls Try.prog 50 #[.pointer (some ⟨rb, 0, none⟩), .int .u8 o, va] w (RPost w base F I rb W room ((simpA W L o xs).res W room L)) := by
  have hmay := rmay_any h o (by omega) xs va hv
  have hm0 : mayR L o xs = 0 := by
    unfold mayR
    rw [if_pos ⟨ho2, aryN_pos ho1, hl⟩, if_pos hin]
  rw [hm0] at hmay
  obtain ⟨R, hR⟩ : ∃ R, (simpA W L o xs).res W room L = R := ⟨_, rfl⟩
  rw [hR]
  obtain ⟨a, n, cap, rfl, hna, -⟩ := hv.parts
  have hn3 : n ≤ 3 := by have := aryN_le o; omega
  have HMAY := Lib.hid hmay; have HG := Lib.hid h; have HV := Lib.hid hv; have HR := Lib.hid hR; have HREC := Lib.hid hrec; have HO := Lib.hid (And.intro ho1 (And.intro ho2 (And.intro hl (And.intro hin hna))))
  clear hmay h hv hR hrec ho1 ho2 hl hin hm0 hna
  go_enter Try.func50, Try.ntmps50
  go_upto_region 4 with (go_at_call 68; refine HMAY.out.mono ?_; rintro e w2 ⟨rfl, rfl⟩)
  go_wp2
  go_loopw [9, 10] (fun v i wx => ∃ k : Nat, k ≤ n ∧ i = .int .i64 k ∧ OwnInts wx w.heap.size 22 .u64 v (numsOf L (xs.take k)) ∧ Below w.heap.size w wx) (fun _ i _ => n - (intOf i).toNat)
  case atStart => exact ⟨0, by omega, rfl, OwnInts.nil _ _ _ _, Below.refl _ _⟩
  case round =>
    obtain ⟨k, hk, rfl, hown, hbr⟩ := hrel
    have HBR := Lib.hid hbr; have HOWN := Lib.hid hown
    have hlen3 : (numsOf L (xs.take k)).length ≤ 1000000000 := by have := numsOf_len (L := L) (xs.take k); have := List.length_take_le k xs; omega
    clear hbr
    by_cases hlt : k < n
    · obtain ⟨b, off, t, rfl, hc, ht⟩ := SliceOf.parts' (HV.out.below HBR.out) hlt
      have HT := Lib.hid ht
      have hnum := rnumber_any (HG.out.later HBR.out) t
      have hsn := numsOf_snoc (L := L) ht
      have HSN := Lib.hid hsn
      clear ht hsn
      obtain ⟨nt, hnt⟩ : ∃ nt, isNum L t = nt := ⟨_, rfl⟩
      rw [hnt] at hnum HSN
      generalize numD L t = q at *
      have HNUM := Lib.hid hnum
      have hbs := HBR.out.size
      clear hnum hnt
      cases nt with
      | true =>
        go_wp2_with (first | (go_at_call 32; refine HNUM.out.mono ?_; rintro e w2 ⟨rfl, rfl⟩) | (at_builtin; refine wpList_append1_int 88 22 .u64 w.heap.size _ _ (numsOf L (xs.take k)) (q : Int) 8 hown _ _ rfl rfl Try.underlying88 Try.infoU64 (by decide) rfl rfl hlen3 hbs ?_; intro v' w' hown' hb' hv'))
        go_roundw
        case rel => exact ⟨k + 1, by omega, by go_num, by rw [HSN.out]; simpa using hown', HBR.out.trans hb'⟩
        case measure => simp [intOf]; omega
      | false =>
        clear hown
        go_wp2_with (first | (go_at_call 32; refine HNUM.out.mono ?_; rintro e w2 ⟨rfl, rfl⟩))
        go_roundw
        case rel => exact ⟨k + 1, by omega, by go_num, by rw [HSN.out, if_neg (by decide), List.append_nil]; exact HOWN.out, HBR.out⟩
        case measure => simp [intOf]; omega
    · obtain rfl : k = n := by omega
      go_upto_region 11 with fail
      rename_i K14 h14 K11 h11
      have H14 := Lib.hid h14
      clear h14
      rw [List.take_of_length_le (by rw [HO.out.2.2.2.2]; exact Nat.le_refl _)] at hown hlen3
      obtain ⟨a9, m9, c9, rfl⟩ := hown.val
      have hm9 : m9 = (numsOf L xs).length := by
        obtain ⟨a', n', c', e', hl', -⟩ := (OwnInts.slice hown)
        simp only [Value.slice.injEq] at e'
        omega
      have HOW := Lib.hid hown; have HM9 := Lib.hid hm9
      clear hown HOWN hm9 hlen3
      by_cases hall : ∀ t ∈ xs, isNum L t = true
      · have hmn : m9 = k := by rw [HM9.out, numsOf_full.2 hall, HO.out.2.2.2.2]
        subst hmn
        have heq : ((m9 : Int) == (m9 : Int)) = true := by simp
        have hap := rapply_any (o : Int) (W : Int) (by omega) (by have := HO.out.2.1; omega) _ _ wr (OwnInts.slice HOW.out) (numsOf_u64 HG.out.wf xs) (by have := numsOf_len (L := L) xs; have := HO.out.2.2.2.2; omega)
        have hb := wI_bounds (o : Int) (W : Int) (numsOf L xs) (by have := HG.out.w1; omega) (by have := HG.out.w2; omega)
        rw [Int.toNat_natCast] at hb
        have hp := pow_le64 HG.out.w2
        have hRR : R = constR W room L (wI o W (numsOf L xs)).toNat := by
          rw [← HR.out, numsOf_all hall]
          unfold simpA
          rw [if_pos hall]
          rfl
        obtain ⟨v, hv⟩ := Int.eq_ofNat_of_zero_le hb.1
        rw [hv] at hap hb hRR
        rw [Int.toNat_natCast] at hRR
        subst hRR
        obtain ⟨fw, fc, c0, -, -, -⟩ := (HG.out.later HBR.out).parts
        have HAP := Lib.hid hap; have HC := Lib.hid (rconst_any (HG.out.later HBR.out) v (by omega))
        clear hap hb hp hv hall hlt
        go_wp2_with (first | (go_at_call 69; refine HAP.out.mono ?_; rintro e w2 ⟨rfl, rfl⟩))
        go_at_call 64
        refine HC.out.mono ?_
        intro e w4 hp
        obtain ⟨F', I', rfl, hrest⟩ := hp.later HBR.out
        have HQ := Lib.hid hrest
        clear hp hrest
        go_wp2
        go_ret2
        exact ⟨F', I', rfl, HQ.out⟩
      · have hmn : m9 ≠ k := fun e => hall (numsOf_full.1 (by rw [← HM9.out, e, HO.out.2.2.2.2]))
        have heq : ((m9 : Int) == (k : Int)) = false := by rw [beq_eq_false_iff_ne]; omega
        have hRR : (simpA W L o xs).res W room L = R := HR.out
        unfold simpA at hRR
        rw [if_neg hall] at hRR
        have HVR := Lib.hid (HV.out.below HBR.out)
        have HALL := Lib.hid hall
        clear hmn hall
        go_wp2
        refine H14.out _ _ ?_
        obtain ⟨ho1, ho2, hl, hin, hna⟩ := HO.out
        have hsh : (∃ x, xs = [x]) ∨ (∃ x y, xs = [x, y]) ∨ ∃ x y z, xs = [x, y, z] := by
          have h1 := aryN_pos ho1
          have h2 := aryN_le o
          match xs with
          | [] => simp at hl; omega
          | [x] => exact .inl ⟨x, rfl⟩
          | [x, y] => exact .inr (.inl ⟨x, y, rfl⟩)
          | [x, y, z] => exact .inr (.inr ⟨x, y, z, rfl⟩)
          | _ :: _ :: _ :: _ :: _ => simp at hl; omega
        rcases hsh with ⟨x, rfl⟩ | ⟨x, y, rfl⟩ | ⟨x, y, z, rfl⟩
        · have hx := hin x (by simp)
          obtain ⟨x, rfl⟩ := Int.eq_ofNat_of_zero_le hx.1
          obtain rfl : k = 1 := hna.symm
          rw [← hRR]
          exact rapp_tail1 HBR.out HG.out (ary1 ho1 hl) (by omega) HVR.out
        · have hx := hin x (by simp)
          have hy := hin y (by simp)
          obtain ⟨x, rfl⟩ := Int.eq_ofNat_of_zero_le hx.1
          obtain ⟨y, rfl⟩ := Int.eq_ofNat_of_zero_le hy.1
          obtain rfl : k = 2 := hna.symm
          rw [← hRR]
          have ho := ary2 ho1 ho2 hl
          exact rapp_tail2 HBR.out HG.out ho.1 ho.2 HVR.out (fun hh => HALL.out fun t ht => by
            rcases List.mem_cons.1 ht with rfl | ht
            · exact hh.1
            · obtain rfl := List.mem_singleton.1 ht; exact hh.2) HREC.out (by omega) (by omega)
        · have hx := hin x (by simp)
          have hy := hin y (by simp)
          have hz := hin z (by simp)
          obtain ⟨x, rfl⟩ := Int.eq_ofNat_of_zero_le hx.1
          obtain ⟨y, rfl⟩ := Int.eq_ofNat_of_zero_le hy.1
          obtain ⟨z, rfl⟩ := Int.eq_ofNat_of_zero_le hz.1
          obtain rfl : k = 3 := hna.symm
          rw [← hRR]
          obtain rfl := ary3 ho1 ho2 hl
          exact rapp_tail3 HBR.out HG.out HVR.out
/-- not of a term that is no number. -/
theorem rsapp_nots (x : Nat) (hx : x < L.length) (hn : isNum L (x : Int) = false) (w2 : World) (va : Value) (h : RGr w2 base F I rb W room L) (hv : SliceOf w2 .i64 va [(x : Int)]) :
    Calls Try.prog 50 #[.pointer (some ⟨rb, 0, none⟩), .int .u8 2, va] w2 (RPost w2 base F I rb W room ((oneA L 2 x).res W room L)) := by
  have hc := rsapp_core h 2 (by decide) (by decide) [(x : Int)] va hv rfl (by intro a ha; obtain rfl := List.mem_singleton.1 ha; omega) (fun e => by cases e)
  have e : simpA W L 2 [(x : Int)] = oneA L 2 x := by
    unfold simpA
    rw [if_neg (fun q => by rw [q (x : Int) (by simp)] at hn; cases hn)]
  rw [e] at hc
  exact hc
set_option maxRecDepth 100000 in
theorem rsapp_any (h : RGr w base F I rb W room L) (o : Nat) (ho : o ≤ 255) (xs : List Int) (va : Value) (hv : SliceOf w .i64 va xs) :
    Calls Try.prog 50 #[.pointer (some ⟨rb, 0, none⟩), .int .u8 o, va] w (RPost w base F I rb W room (simpR W room L o xs)) := by
  by_cases hc : o ≤ 21 ∧ aryN o ≠ 0 ∧ aryN o = xs.length
  · by_cases hin : ∀ a ∈ xs, (0 : Int) ≤ a ∧ a < (L.length : Int)
    · have ho1 : 2 ≤ o := by
        rcases Nat.lt_or_ge o 2 with h2 | h2
        · exact absurd (by unfold aryN; rw [if_pos (by omega)]) hc.2.1
        · exact h2
      rw [simpR_in ho1 hc.1 hc.2.2 hin]
      exact rsapp_core h o ho1 hc.1 xs va hv hc.2.2 hin (fun _ => rsapp_nots)
    · have hmay := rmay_any h o ho xs va hv
      have e1 : mayR L o xs = 3 := by unfold mayR; rw [if_pos hc, if_neg hin]
      have e2 : simpR W room L o xs = (L, 0, 3) := by unfold simpR; rw [if_pos hc, if_neg hin]
      rw [e1] at hmay
      rw [e2]
      obtain ⟨a, n, cap, rfl, -, -⟩ := hv.parts
      have HM := Lib.hid hmay; have HG := Lib.hid h
      clear hmay h hv hc hin e1 e2
      go_enter Try.func50, Try.ntmps50
      go_wp2_with (go_at_call 68; refine HM.out.mono ?_; rintro e w2 ⟨rfl, rfl⟩)
      go_ret2
      exact RPost.same HG.out (Below.refl _ _) 0 3
  · have hmay := rmay_any h o ho xs va hv
    have e1 : mayR L o xs = 2 := by unfold mayR; rw [if_neg hc]
    have e2 : simpR W room L o xs = (L, 0, 2) := by unfold simpR; rw [if_neg hc]
    rw [e1] at hmay
    rw [e2]
    obtain ⟨a, n, cap, rfl, -, -⟩ := hv.parts
    have HM := Lib.hid hmay; have HG := Lib.hid h
    clear hmay h hv hc e1 e2
    go_enter Try.func50, Try.ntmps50
    go_wp2_with (go_at_call 68; refine HM.out.mono ?_; rintro e w2 ⟨rfl, rfl⟩)
    go_ret2
    exact RPost.same HG.out (Below.refl _ _) 0 2
end
end Go.Proofs.Ytcpgiadhmmmafaa
