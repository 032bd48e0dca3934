/- WordRing: the loop of what distributes. -/
import Derived.Test.YtpboinmmhlgdaaaRingB
namespace Go.Proofs.Ytpboinmmhlgdaaa
open Go.RowKit
set_option maxHeartbeats 3200000

set_option maxRecDepth 100000 in
theorem ring_rest13 {u0 u4 u5 u6 u7 u8 u10 u11 u12 u13 u14 u15 u16 u17 u18 u19 u20 u21 u22 u23 u24 u25 u26 u27 u28 u29 u30 u31 u32 u33 u34 u35 u36 u37 u38 u39 u40 u41 u42 u43 u44 u45 u46 u47 u48 u49 u50 u51 u52 u53 u54 u55 u56 u57 u58 u59 u60 u61 u62 u63 u64 u65 u66 u67 u68 u69 u70 u71 u72 u73 u74 u75 u76 u77 u78 u79 u80 u81 u82 u83 u84 u85 u86 u87 u88 u89 u90 u91 u92 u93 u94 u95 u96 u97 u98 u99 u100 u101 u102 u103 u104 u105 u106 u107 u108 u109 u110 u111 u112 u113 u114 u115 u116 u117 u118 u119 u120 u121 u122 u123 u124 u125 u126 u127 u128 u129 u130 u131 u132 u133 u134 u135 u136 u137 u138 u139 u140 u141 u142 u143 u144 u145 u146 u147 u148 u149 u150 u151 u152 u153 u154 u155 u156 u157 u158 u159 u160 u161 u162 u163 u164 u165 u166 u167 u168 u169 u170 u171 u172 u173 u174 u175 u176 u177 u178 u179 u180 u181 u182 : Value} {w wc : World} {cb W X Y Z : Nat} (hb0 : Below w.heap.size w wc) (hc0 : CC cb W wc) (h1 : 1 ≤ W) (h2 : W ≤ 64) (hx : U64N X) (hy : U64N Y) (hz : U64N Z) :
    Code.wp Try.prog (ringRest 13) (bodyPost Try.prog Try.f3 fun e w' => e = .returned (.bool true) ∧ Below w.heap.size w w') ⟨(List.toArray (u0 :: .int .u64 X :: .int .u64 Y :: .int .u64 Z :: u4 :: u5 :: u6 :: u7 :: u8 :: .pointer (some ⟨cb, 0, none⟩) :: u10 :: u11 :: u12 :: u13 :: u14 :: u15 :: u16 :: u17 :: u18 :: u19 :: u20 :: u21 :: u22 :: u23 :: u24 :: u25 :: u26 :: u27 :: u28 :: u29 :: u30 :: u31 :: u32 :: u33 :: u34 :: u35 :: u36 :: u37 :: u38 :: u39 :: u40 :: u41 :: u42 :: u43 :: u44 :: u45 :: u46 :: u47 :: u48 :: u49 :: u50 :: u51 :: u52 :: u53 :: u54 :: u55 :: u56 :: u57 :: u58 :: u59 :: u60 :: u61 :: u62 :: u63 :: u64 :: u65 :: u66 :: u67 :: u68 :: u69 :: u70 :: u71 :: u72 :: u73 :: u74 :: u75 :: u76 :: u77 :: u78 :: u79 :: u80 :: u81 :: u82 :: u83 :: u84 :: u85 :: u86 :: u87 :: u88 :: u89 :: u90 :: u91 :: u92 :: u93 :: u94 :: u95 :: u96 :: u97 :: u98 :: u99 :: u100 :: u101 :: u102 :: u103 :: u104 :: u105 :: u106 :: u107 :: u108 :: u109 :: u110 :: u111 :: u112 :: u113 :: u114 :: u115 :: u116 :: u117 :: u118 :: u119 :: u120 :: u121 :: u122 :: u123 :: u124 :: u125 :: u126 :: u127 :: u128 :: u129 :: u130 :: u131 :: u132 :: u133 :: u134 :: u135 :: u136 :: u137 :: u138 :: u139 :: u140 :: u141 :: u142 :: u143 :: u144 :: u145 :: u146 :: u147 :: u148 :: u149 :: u150 :: u151 :: u152 :: u153 :: u154 :: u155 :: u156 :: u157 :: u158 :: u159 :: u160 :: u161 :: u162 :: u163 :: u164 :: u165 :: u166 :: u167 :: u168 :: u169 :: u170 :: u171 :: u172 :: u173 :: u174 :: u175 :: u176 :: u177 :: u178 :: u179 :: u180 :: u181 :: u182 :: [])), []⟩ wc := by
  have HB3 := Lib.hid hb0; have HC3 := Lib.hid hc0
  clear hb0 hc0
  conv => arg 2; whnf
  obtain ⟨pb, hpb⟩ : ∃ pb, wc.heap.size = pb := ⟨_, rfl⟩
  go_upto_block 4 with fail
  have HPB := Lib.hid hpb
  clear hpb
  refine wp_name (fun w3 => Below wc.heap.size wc w3 ∧ w3.heap[pb]? = some (.cells #[.int .u8 6, .int .u8 4, .int .u8 9, .int .u8 10, .int .u8 9, .int .u8 11, .int .u8 10, .int .u8 9] 28 (0, 0))) ⟨below_new _ _, by rw [← HPB.out]; exact heap_alloc_new _ _⟩ ?_
  rintro w3 ⟨hb3, hx3⟩
  have hops : ∀ k, k < 4 → ∃ o p : Nat, w3.cell? ⟨pb, k * 2, none⟩ = some (.int .u8 o) ∧ w3.cell? ⟨pb, k * 2 + 1, none⟩ = some (.int .u8 p) ∧ (o = 6 ∧ p = 4 ∨ o = 9 ∧ p = 10 ∨ o = 9 ∧ p = 11 ∨ o = 10 ∧ p = 9) := by
    intro k hk
    have hc : k = 0 ∨ k = 1 ∨ k = 2 ∨ k = 3 := by omega
    rcases hc with rfl | rfl | rfl | rfl
    · exact ⟨6, 4, by rw [cell_of_row w3 pb _ _ _ _ hx3]; rfl, by rw [cell_of_row w3 pb _ _ _ _ hx3]; rfl, by omega⟩
    · exact ⟨9, 10, by rw [cell_of_row w3 pb _ _ _ _ hx3]; rfl, by rw [cell_of_row w3 pb _ _ _ _ hx3]; rfl, by omega⟩
    · exact ⟨9, 11, by rw [cell_of_row w3 pb _ _ _ _ hx3]; rfl, by rw [cell_of_row w3 pb _ _ _ _ hx3]; rfl, by omega⟩
    · exact ⟨10, 9, by rw [cell_of_row w3 pb _ _ _ _ hx3]; rfl, by rw [cell_of_row w3 pb _ _ _ _ hx3]; rfl, by omega⟩
  have HOPT := Lib.hid hops; have HB4 := Lib.hid (HB3.out.trans (hb3.mono HB3.out.size)); have HC4 := Lib.hid (HC3.out.later hb3)
  clear hops hb3 hx3
  go_cut [14] (fun _ wx => Below w3.heap.size w3 wx)
  case first =>
    go_wp2
    go_loopw [14] (fun i wr => ∃ k : Nat, k ≤ 4 ∧ i = .int .i64 k ∧ Below w3.heap.size w3 wr) (fun i _ => 4 - (intOf i).toNat)
    case atStart => exact ⟨0, by omega, rfl, Below.refl _ _⟩
    case round =>
      obtain ⟨k, hk, rfl, hbr⟩ := hrel
      by_cases hlt : k < 4
      · obtain ⟨o, p, hc, hd, ho⟩ := HOPT.out k hlt
        replace hc := cell_later hbr hc
        replace hd := cell_later hbr hd
        have HCR := Lib.hid (HC4.out.later hbr); have HBR := Lib.hid hbr; have HO := Lib.hid ho
        have HC := Lib.hid (And.intro hc hd)
        have HE : (((wm W o X (wm W p Y Z) : Nat) : Int) != ((wm W p (wm W o X Y) (wm W o X Z) : Nat) : Int)) = false := by rw [m_distr W o p X Y Z h1 ho]; simp
        clear hbr ho
        have HH := Held.none wr
        have HR : Reach wr wr := Below.refl _ _
        have HOK : 4 ≤ o ∧ o ≤ 20 := by have := HO.out; omega
        have HPK : 4 ≤ p ∧ p ≤ 20 := by have := HO.out; omega
        have HH1 := Lib.hid hc; have HD1 := Lib.hid hd
        clear hc hd HH HR
        go_upto_region 17 with fail
        refine ring_region17 (o := o) (p := p) ⟨HCR.out, h1, h2, HOK, HPK, hx, hy, hz, HE⟩ hlt HH1.out HD1.out ?_
        intro _ _ _ _ _ _ _ _ _ _ _ _ _ _ _ _ _ _ _ _ _ _ _ _ _ _ _ _ _ _ _ _ _ _ _ _ _ _ _ _ _ _ _ _ _ _ _ wk HR
        go_wp2
        go_roundw
        case rel => exact ⟨k + 1, by omega, by go_num, HBR.out.trans (HR.mono HBR.out.size)⟩
        case measure => simp [intOf]; omega
      · obtain rfl : k = 4 := by omega
        go_wp2
        go_meet
        exact hbr
  case rest =>
    have HB5 := Lib.hid (HB4.out.trans (hcut.mono HB4.out.size)); have HC5 := Lib.hid (HC4.out.later hcut)
    exact (show ∀ (a : Act) (w : World), Code.wp Try.prog (ringRest 19) _ a w → _ by assumption) _ _ (ring_rest19 HB5.out HC5.out h1 h2 hx)
end Go.Proofs.Ytpboinmmhlgdaaa
