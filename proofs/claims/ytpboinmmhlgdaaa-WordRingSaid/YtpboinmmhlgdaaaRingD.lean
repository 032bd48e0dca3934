/- WordRing: the loop of what is associative. -/
import Derived.Test.YtpboinmmhlgdaaaRingC
namespace Go.Proofs.Ytpboinmmhlgdaaa
open Go.RowKit
set_option maxHeartbeats 3200000

set_option maxRecDepth 100000 in
set_option maxHeartbeats 200000000 in
theorem ring_rest7 {u0 u4 u5 u6 u7 u8 u10 u11 u12 u13 u14 u15 u16 u17 u18 u19 u20 u21 u22 u23 u24 u25 u26 u27 u28 u29 u30 u31 u32 u33 u34 u35 u36 u37 u38 u39 u40 u41 u42 u43 u44 u45 u46 u47 u48 u49 u50 u51 u52 u53 u54 u55 u56 u57 u58 u59 u60 u61 u62 u63 u64 u65 u66 u67 u68 u69 u70 u71 u72 u73 u74 u75 u76 u77 u78 u79 u80 u81 u82 u83 u84 u85 u86 u87 u88 u89 u90 u91 u92 u93 u94 u95 u96 u97 u98 u99 u100 u101 u102 u103 u104 u105 u106 u107 u108 u109 u110 u111 u112 u113 u114 u115 u116 u117 u118 u119 u120 u121 u122 u123 u124 u125 u126 u127 u128 u129 u130 u131 u132 u133 u134 u135 u136 u137 u138 u139 u140 u141 u142 u143 u144 u145 u146 u147 u148 u149 u150 u151 u152 u153 u154 u155 u156 u157 u158 u159 u160 u161 u162 u163 u164 u165 u166 u167 u168 u169 u170 u171 u172 u173 u174 u175 u176 u177 u178 u179 u180 u181 u182 : Value} {w wc : World} {cb W X Y Z : Nat} (hb0 : Below w.heap.size w wc) (hc0 : CC cb W wc) (h1 : 1 ≤ W) (h2 : W ≤ 64) (hx : U64N X) (hy : U64N Y) (hz : U64N Z) :
    Code.wp Try.prog (ringRest 7) (bodyPost Try.prog Try.f3 fun e w' => e = .returned (.bool true) ∧ Below w.heap.size w w') ⟨(List.toArray (u0 :: .int .u64 X :: .int .u64 Y :: .int .u64 Z :: u4 :: u5 :: u6 :: u7 :: u8 :: .pointer (some ⟨cb, 0, none⟩) :: u10 :: u11 :: u12 :: u13 :: u14 :: u15 :: u16 :: u17 :: u18 :: u19 :: u20 :: u21 :: u22 :: u23 :: u24 :: u25 :: u26 :: u27 :: u28 :: u29 :: u30 :: u31 :: u32 :: u33 :: u34 :: u35 :: u36 :: u37 :: u38 :: u39 :: u40 :: u41 :: u42 :: u43 :: u44 :: u45 :: u46 :: u47 :: u48 :: u49 :: u50 :: u51 :: u52 :: u53 :: u54 :: u55 :: u56 :: u57 :: u58 :: u59 :: u60 :: u61 :: u62 :: u63 :: u64 :: u65 :: u66 :: u67 :: u68 :: u69 :: u70 :: u71 :: u72 :: u73 :: u74 :: u75 :: u76 :: u77 :: u78 :: u79 :: u80 :: u81 :: u82 :: u83 :: u84 :: u85 :: u86 :: u87 :: u88 :: u89 :: u90 :: u91 :: u92 :: u93 :: u94 :: u95 :: u96 :: u97 :: u98 :: u99 :: u100 :: u101 :: u102 :: u103 :: u104 :: u105 :: u106 :: u107 :: u108 :: u109 :: u110 :: u111 :: u112 :: u113 :: u114 :: u115 :: u116 :: u117 :: u118 :: u119 :: u120 :: u121 :: u122 :: u123 :: u124 :: u125 :: u126 :: u127 :: u128 :: u129 :: u130 :: u131 :: u132 :: u133 :: u134 :: u135 :: u136 :: u137 :: u138 :: u139 :: u140 :: u141 :: u142 :: u143 :: u144 :: u145 :: u146 :: u147 :: u148 :: u149 :: u150 :: u151 :: u152 :: u153 :: u154 :: u155 :: u156 :: u157 :: u158 :: u159 :: u160 :: u161 :: u162 :: u163 :: u164 :: u165 :: u166 :: u167 :: u168 :: u169 :: u170 :: u171 :: u172 :: u173 :: u174 :: u175 :: u176 :: u177 :: u178 :: u179 :: u180 :: u181 :: u182 :: [])), []⟩ wc := by
  have HB1 := Lib.hid hb0; have HC1 := Lib.hid hc0
  clear hb0 hc0
  conv => arg 2; whnf
  obtain ⟨ob, hob⟩ : ∃ ob, wc.heap.size = ob := ⟨_, rfl⟩
  go_upto_block 2 with fail
  have HOB := Lib.hid hob
  clear hob
  refine wp_name (fun w1 => Below wc.heap.size wc w1 ∧ w1.heap[ob]? = some (.cells #[.int .u8 4, .int .u8 6, .int .u8 9, .int .u8 10, .int .u8 11] 5 (0, 0))) ⟨below_new _ _, by rw [← HOB.out]; exact heap_alloc_new _ _⟩ ?_
  rintro w1 ⟨hb1, hx1⟩
  have hops : ∀ k, k < 5 → ∃ o : Nat, w1.cell? ⟨ob, k, none⟩ = some (.int .u8 o) ∧ (o = 4 ∨ o = 6 ∨ o = 9 ∨ o = 10 ∨ o = 11) := by
    intro k hk
    have hc : k = 0 ∨ k = 1 ∨ k = 2 ∨ k = 3 ∨ k = 4 := by omega
    rcases hc with rfl | rfl | rfl | rfl | rfl
    · exact ⟨4, by rw [cell_of_row w1 ob _ _ _ _ hx1]; rfl, by omega⟩
    · exact ⟨6, by rw [cell_of_row w1 ob _ _ _ _ hx1]; rfl, by omega⟩
    · exact ⟨9, by rw [cell_of_row w1 ob _ _ _ _ hx1]; rfl, by omega⟩
    · exact ⟨10, by rw [cell_of_row w1 ob _ _ _ _ hx1]; rfl, by omega⟩
    · exact ⟨11, by rw [cell_of_row w1 ob _ _ _ _ hx1]; rfl, by omega⟩
  have HOPS := Lib.hid hops; have HB2 := Lib.hid (HB1.out.trans (hb1.mono HB1.out.size)); have HC2 := Lib.hid (HC1.out.later hb1)
  clear hops hb1 hx1
  go_cut [12] (fun _ wx => Below w1.heap.size w1 wx)
  case first =>
    go_wp2
    go_loopw [12] (fun i wr => ∃ k : Nat, k ≤ 5 ∧ i = .int .i64 k ∧ Below w1.heap.size w1 wr) (fun i _ => 5 - (intOf i).toNat)
    case atStart => exact ⟨0, by omega, rfl, Below.refl _ _⟩
    case round =>
      obtain ⟨k, hk, rfl, hbr⟩ := hrel
      by_cases hlt : k < 5
      · obtain ⟨o, hc, ho⟩ := HOPS.out k hlt
        replace hc := cell_later hbr hc
        have HCR := Lib.hid (HC2.out.later hbr); have HBR := Lib.hid hbr; have HO := Lib.hid ho
        have HC := Lib.hid hc
        have HE : (((wm W o (wm W o X Y) Z : Nat) : Int) != ((wm W o X (wm W o Y Z) : Nat) : Int)) = false := by rw [m_assoc W o X Y Z h1 ho]; simp
        clear hbr ho
        have HH := Held.none wr
        have HR : Reach wr wr := Below.refl _ _
        have HOK : 4 ≤ o ∧ o ≤ 20 := by have := HO.out; omega
        go_wp2
        go_region_held3 (fun w' => w'.cell? ⟨ob, k, none⟩ = some (.int .u8 o)) (first | with_reducible exact HC.out | (refine cell_later (show Reach wr _ from ?_) HC.out; repeat (with_reducible (first | exact HR | refine Reach.alloc ?_ _ | refine Reach.drew ?_))))
          (first | (go_at_call 6; (with_reducible apply of_arm' HCR.out h1 h2 HH HR HOK); (case al => (repeat' (with_reducible (first | exact Al2.nil | apply Al2.drew | apply Al2.push | apply Al2.push0 | apply Al2.push1 | assumption | exact u64_wm h1 h2)))); (case hm => (simp only [List.cons_append, List.nil_append, al_size, dr_size]; with_reducible (first | exact mhd | exact mtl mhd | exact mtl (mtl mhd) | exact mtl (mtl (mtl mhd)) | exact mtl (mtl (mtl (mtl mhd))) | exact mtl (mtl (mtl (mtl (mtl mhd))))))); intro wk HH HR))
        all_goals (as_aux_lemma => go_wp2; go_roundw; (case rel => exact ⟨k + 1, by omega, by go_num, HBR.out.trans (HR.mono HBR.out.size)⟩); (case measure => simp [intOf]; omega))
      · obtain rfl : k = 5 := by omega
        go_wp2
        go_meet
        exact hbr
  case rest =>
    have HB3 := Lib.hid (HB2.out.trans (hcut.mono HB2.out.size)); have HC3 := Lib.hid (HC2.out.later hcut)
    exact (show ∀ (a : Act) (w : World), Code.wp Try.prog (ringRest 13) _ a w → _ by assumption) _ _ (ring_rest13 HB3.out HC3.out h1 h2 hx hy hz)
end Go.Proofs.Ytpboinmmhlgdaaa
