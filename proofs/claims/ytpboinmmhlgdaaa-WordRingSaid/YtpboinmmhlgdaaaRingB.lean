/- WordRing: the end. -/
import Derived.Test.YtpboinmmhlgdaaaRingS
namespace Go.Proofs.Ytpboinmmhlgdaaa
open Go.RowKit
set_option maxHeartbeats 3200000

def headAt : Code → Option Nat
  | .region i _ _ => some i
  | .seq a _ => headAt a
  | _ => none
def tailAt (id : Nat) : Code → Option Code
  | .seq a b => if headAt a = some id then some (.seq a b) else tailAt id b
  | _ => none
noncomputable def ringRest (id : Nat) : Code := (Try.f3.body.bind (tailAt id)).getD .skip
set_option maxRecDepth 100000 in
theorem ring_rest19 {u0 u2 u3 u4 u5 u6 u7 u8 u10 u11 u12 u13 u14 u15 u16 u17 u18 u19 u20 u21 u22 u23 u24 u25 u26 u27 u28 u29 u30 u31 u32 u33 u34 u35 u36 u37 u38 u39 u40 u41 u42 u43 u44 u45 u46 u47 u48 u49 u50 u51 u52 u53 u54 u55 u56 u57 u58 u59 u60 u61 u62 u63 u64 u65 u66 u67 u68 u69 u70 u71 u72 u73 u74 u75 u76 u77 u78 u79 u80 u81 u82 u83 u84 u85 u86 u87 u88 u89 u90 u91 u92 u93 u94 u95 u96 u97 u98 u99 u100 u101 u102 u103 u104 u105 u106 u107 u108 u109 u110 u111 u112 u113 u114 u115 u116 u117 u118 u119 u120 u121 u122 u123 u124 u125 u126 u127 u128 u129 u130 u131 u132 u133 u134 u135 u136 u137 u138 u139 u140 u141 u142 u143 u144 u145 u146 u147 u148 u149 u150 u151 u152 u153 u154 u155 u156 u157 u158 u159 u160 u161 u162 u163 u164 u165 u166 u167 u168 u169 u170 u171 u172 u173 u174 u175 u176 u177 u178 u179 u180 u181 u182 : Value} {w wc : World} {cb W X : Nat} (hb0 : Below w.heap.size w wc) (hc0 : CC cb W wc) (h1 : 1 ≤ W) (h2 : W ≤ 64) (hx : U64N X) :
    Code.wp Try.prog (ringRest 19) (bodyPost Try.prog Try.f3 fun e w' => e = .returned (.bool true) ∧ Below w.heap.size w w') ⟨(List.toArray (u0 :: .int .u64 X :: u2 :: u3 :: u4 :: u5 :: u6 :: u7 :: u8 :: .pointer (some ⟨cb, 0, none⟩) :: u10 :: u11 :: u12 :: u13 :: u14 :: u15 :: u16 :: u17 :: u18 :: u19 :: u20 :: u21 :: u22 :: u23 :: u24 :: u25 :: u26 :: u27 :: u28 :: u29 :: u30 :: u31 :: u32 :: u33 :: u34 :: u35 :: u36 :: u37 :: u38 :: u39 :: u40 :: u41 :: u42 :: u43 :: u44 :: u45 :: u46 :: u47 :: u48 :: u49 :: u50 :: u51 :: u52 :: u53 :: u54 :: u55 :: u56 :: u57 :: u58 :: u59 :: u60 :: u61 :: u62 :: u63 :: u64 :: u65 :: u66 :: u67 :: u68 :: u69 :: u70 :: u71 :: u72 :: u73 :: u74 :: u75 :: u76 :: u77 :: u78 :: u79 :: u80 :: u81 :: u82 :: u83 :: u84 :: u85 :: u86 :: u87 :: u88 :: u89 :: u90 :: u91 :: u92 :: u93 :: u94 :: u95 :: u96 :: u97 :: u98 :: u99 :: u100 :: u101 :: u102 :: u103 :: u104 :: u105 :: u106 :: u107 :: u108 :: u109 :: u110 :: u111 :: u112 :: u113 :: u114 :: u115 :: u116 :: u117 :: u118 :: u119 :: u120 :: u121 :: u122 :: u123 :: u124 :: u125 :: u126 :: u127 :: u128 :: u129 :: u130 :: u131 :: u132 :: u133 :: u134 :: u135 :: u136 :: u137 :: u138 :: u139 :: u140 :: u141 :: u142 :: u143 :: u144 :: u145 :: u146 :: u147 :: u148 :: u149 :: u150 :: u151 :: u152 :: u153 :: u154 :: u155 :: u156 :: u157 :: u158 :: u159 :: u160 :: u161 :: u162 :: u163 :: u164 :: u165 :: u166 :: u167 :: u168 :: u169 :: u170 :: u171 :: u172 :: u173 :: u174 :: u175 :: u176 :: u177 :: u178 :: u179 :: u180 :: u181 :: u182 :: [])), []⟩ wc := by
  have HB5 := Lib.hid hb0; have HC5 := Lib.hid hc0
  clear hb0 hc0
  conv => arg 2; whnf
  obtain ⟨t, ht⟩ : ∃ t, X % 2 ^ W = t := ⟨_, rfl⟩
  have EA := Lib.hid (show wm W (Int.toNat 4) X 0 = t from (m_add0 W X).trans ht)
  have EB := Lib.hid (show wm W (Int.toNat 6) X 1 = t from (m_mul1 W X h1).trans ht)
  have EC := Lib.hid (show wm W (Int.toNat 11) X X = 0 from m_xorx W X)
  have ED := Lib.hid (show wm W (Int.toNat 10) X 0 = t from (m_or0 W X).trans ht)
  have HT := Lib.hid (trim_b cb W h1 h2 X (by omega) (by unfold U64N at hx; omega) wc HC5.out)
  rw [Int.toNat_natCast, ht] at HT
  have HTT := Lib.hid ht
  clear ht
  go_upto_block 6 with (go_at_call 7; refine HT.out.mono ?_; rintro e wr ⟨rfl, hbr⟩; have HBR := Lib.hid hbr; have HCR := Lib.hid (HC5.out.later hbr); have HH := Held.none wr; have HR : Reach wr wr := Below.refl _ _; clear hbr)
  go_wp2_with (first | (go_at_call 6; (with_reducible apply of_armJ HCR.out h1 h2 HH HR); (case ho => exact ⟨by decide, by decide, rfl⟩); (case al => (repeat' (with_reducible (first | exact Al2.nil | apply Al2.drew | apply Al2.push | apply Al2.push0 | apply Al2.push1 | assumption | exact u64_wm h1 h2)))); (case hm => (simp only [List.cons_append, List.nil_append, al_size, dr_size]; with_reducible (first | exact mhd | exact mtl mhd | exact mtl (mtl mhd) | exact mtl (mtl (mtl mhd)) | exact mtl (mtl (mtl (mtl mhd))) | exact mtl (mtl (mtl (mtl (mtl mhd))))))); (case hq => with_reducible (first | exact EA.out | exact EB.out | exact EC.out | exact ED.out)); intro wk HH HR; have hcc := (HCR.out.later (show Below wr.heap.size wr wk from HR)).c1) | (go_at_call 8; refine (known_b _).mono ?_; rintro e w8 ⟨rfl, hb8⟩))
  go_ret
  exact ⟨rfl, (HB5.out.trans (HBR.out.mono HB5.out.size)).trans ((HR.later hb8).mono (Nat.le_trans HB5.out.size HBR.out.size))⟩
end Go.Proofs.Ytpboinmmhlgdaaa
