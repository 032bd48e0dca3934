/- TwinAll: the lists are made. -/
import Derived.Test.YtmfendfpjpbhdaaDoorAllP
import Derived.Deep.RegionHeld3
namespace Go.Proofs.YtmfendfpjpbhdaaDoor
open Go.RowKit Go.Maps
set_option maxHeartbeats 3200000

section
variable {w0 wq wr w' : World} {ts : List Thing}
set_option maxRecDepth 100000 in
theorem all_region14 {u0 u1 u2 u4 u5 u6 u7 u8 u9 u10 u11 u12 u13 u14 u15 u16 u17 u18 u19 u20 u21 u22 u23 u24 u25 u26 u27 u28 u29 u30 u31 u32 u33 u34 u35 u36 u37 u38 u39 u40 u41 u42 u43 u44 u45 u46 u47 u48 u49 u50 u51 u52 u53 u54 u55 u56 u57 u58 u59 u60 u61 u62 u63 u64 u65 u66 u67 u68 u69 u70 u71 u72 u73 u74 u75 u76 u77 u78 u79 u80 u81 u82 u83 u84 u85 u86 u87 u88 u89 u90 u91 u92 u93 u94 u95 u96 u97 u98 u99 u100 u101 u102 u103 u104 u105 u106 u107 u108 u109 u110 u111 u112 u113 u114 u115 u116 u117 u118 u119 u120 u121 u122 u123 u124 u125 u126 u127 u128 u129 u130 u131 u132 u133 u134 u135 u136 u137 u138 u139 u140 u141 u142 u143 u144 u145 u146 u147 u148 u149 u150 u151 u152 u153 u154 u155 u156 u157 u158 u159 u160 u161 u162 u163 u164 u165 u166 u167 u168 u169 u170 u171 u172 u173 u174 u175 u176 u177 u178 u179 u180 u181 u182 u183 u184 u185 u186 u187 u188 u189 u190 u191 u192 u193 u194 u195 u196 u197 u198 u199 u200 u201 u202 u203 u204 u205 u206 u207 u208 u209 u210 u211 u212 u213 u214 u215 u216 u217 u218 u219 u220 u221 u222 u223 u224 : Value} {Q : Exit → Act → World → Prop} {N co : Nat} {ao : Option Addr} (hN : N ≤ 32) (h : Lab wq wr ts)
    (hQ : ∀ ga gb v93 v94 v95 v96 v97 v98 w3, Lab wq w3 (Thing.row 36 1 (.slice (some ⟨gb, 0, none⟩) N N) N (List.replicate N (Value.slice none 0 0)) :: Thing.row 36 1 (.slice (some ⟨ga, 0, none⟩) N N) N (List.replicate N (Value.slice none 0 0)) :: ts) → Q .normal ⟨(List.toArray (u0 :: u1 :: u2 :: .slice ao N co :: u4 :: u5 :: u6 :: u7 :: u8 :: u9 :: u10 :: u11 :: u12 :: u13 :: u14 :: u15 :: u16 :: u17 :: .slice (some ⟨ga, 0, none⟩) N N :: .slice (some ⟨gb, 0, none⟩) N N :: u20 :: u21 :: u22 :: u23 :: u24 :: u25 :: u26 :: u27 :: u28 :: u29 :: u30 :: u31 :: u32 :: u33 :: u34 :: u35 :: u36 :: u37 :: u38 :: u39 :: u40 :: u41 :: u42 :: u43 :: u44 :: u45 :: u46 :: u47 :: u48 :: u49 :: u50 :: u51 :: u52 :: u53 :: u54 :: u55 :: u56 :: u57 :: u58 :: u59 :: u60 :: u61 :: u62 :: u63 :: u64 :: u65 :: u66 :: u67 :: u68 :: u69 :: u70 :: u71 :: u72 :: u73 :: u74 :: u75 :: u76 :: u77 :: u78 :: u79 :: u80 :: u81 :: u82 :: u83 :: u84 :: u85 :: u86 :: u87 :: u88 :: u89 :: u90 :: u91 :: u92 :: v93 :: v94 :: v95 :: v96 :: v97 :: v98 :: u99 :: u100 :: u101 :: u102 :: u103 :: u104 :: u105 :: u106 :: u107 :: u108 :: u109 :: u110 :: u111 :: u112 :: u113 :: u114 :: u115 :: u116 :: u117 :: u118 :: u119 :: u120 :: u121 :: u122 :: u123 :: u124 :: u125 :: u126 :: u127 :: u128 :: u129 :: u130 :: u131 :: u132 :: u133 :: u134 :: u135 :: u136 :: u137 :: u138 :: u139 :: u140 :: u141 :: u142 :: u143 :: u144 :: u145 :: u146 :: u147 :: u148 :: u149 :: u150 :: u151 :: u152 :: u153 :: u154 :: u155 :: u156 :: u157 :: u158 :: u159 :: u160 :: u161 :: u162 :: u163 :: u164 :: u165 :: u166 :: u167 :: u168 :: u169 :: u170 :: u171 :: u172 :: u173 :: u174 :: u175 :: u176 :: u177 :: u178 :: u179 :: u180 :: u181 :: u182 :: u183 :: u184 :: u185 :: u186 :: u187 :: u188 :: u189 :: u190 :: u191 :: u192 :: u193 :: u194 :: u195 :: u196 :: u197 :: u198 :: u199 :: u200 :: u201 :: u202 :: u203 :: u204 :: u205 :: u206 :: u207 :: u208 :: u209 :: u210 :: u211 :: u212 :: u213 :: u214 :: u215 :: u216 :: u217 :: u218 :: u219 :: u220 :: u221 :: u222 :: u223 :: u224 :: [])), []⟩ w3) :
    Code.wp Tryd.prog (allRegion 14) Q ⟨(List.toArray (u0 :: u1 :: u2 :: .slice ao N co :: u4 :: u5 :: u6 :: u7 :: u8 :: u9 :: u10 :: u11 :: u12 :: u13 :: u14 :: u15 :: u16 :: u17 :: u18 :: u19 :: u20 :: u21 :: u22 :: u23 :: u24 :: u25 :: u26 :: u27 :: u28 :: u29 :: u30 :: u31 :: u32 :: u33 :: u34 :: u35 :: u36 :: u37 :: u38 :: u39 :: u40 :: u41 :: u42 :: u43 :: u44 :: u45 :: u46 :: u47 :: u48 :: u49 :: u50 :: u51 :: u52 :: u53 :: u54 :: u55 :: u56 :: u57 :: u58 :: u59 :: u60 :: u61 :: u62 :: u63 :: u64 :: u65 :: u66 :: u67 :: u68 :: u69 :: u70 :: u71 :: u72 :: u73 :: u74 :: u75 :: u76 :: u77 :: u78 :: u79 :: u80 :: u81 :: u82 :: u83 :: u84 :: u85 :: u86 :: u87 :: u88 :: u89 :: u90 :: u91 :: u92 :: u93 :: u94 :: u95 :: u96 :: u97 :: u98 :: u99 :: u100 :: u101 :: u102 :: u103 :: u104 :: u105 :: u106 :: u107 :: u108 :: u109 :: u110 :: u111 :: u112 :: u113 :: u114 :: u115 :: u116 :: u117 :: u118 :: u119 :: u120 :: u121 :: u122 :: u123 :: u124 :: u125 :: u126 :: u127 :: u128 :: u129 :: u130 :: u131 :: u132 :: u133 :: u134 :: u135 :: u136 :: u137 :: u138 :: u139 :: u140 :: u141 :: u142 :: u143 :: u144 :: u145 :: u146 :: u147 :: u148 :: u149 :: u150 :: u151 :: u152 :: u153 :: u154 :: u155 :: u156 :: u157 :: u158 :: u159 :: u160 :: u161 :: u162 :: u163 :: u164 :: u165 :: u166 :: u167 :: u168 :: u169 :: u170 :: u171 :: u172 :: u173 :: u174 :: u175 :: u176 :: u177 :: u178 :: u179 :: u180 :: u181 :: u182 :: u183 :: u184 :: u185 :: u186 :: u187 :: u188 :: u189 :: u190 :: u191 :: u192 :: u193 :: u194 :: u195 :: u196 :: u197 :: u198 :: u199 :: u200 :: u201 :: u202 :: u203 :: u204 :: u205 :: u206 :: u207 :: u208 :: u209 :: u210 :: u211 :: u212 :: u213 :: u214 :: u215 :: u216 :: u217 :: u218 :: u219 :: u220 :: u221 :: u222 :: u223 :: u224 :: [])), []⟩ wr := by
  have hmk : ∀ w, (Instr.makeSlice 38 (.int .i64 (N : Int)) (.int .i64 (N : Int))).run Tryd.prog w = .ok (.slice (some ⟨w.heap.size, 0, none⟩) N N) (w.alloc (.cells (madeCells #[.slice none 0 0] N) 36)) :=
    run_make_row' (P := Tryd.prog) 38 36 (.slice none 0 0) 24 Tryd.underlying38 Tryd.infoNums rfl .i64 .i64 N (by omega) (by omega)
  have hN2 : N ≤ maxLen := by unfold maxLen; omega
  have HL := Lib.hid h; have HQ := Lib.hid hQ
  clear h hQ hN
  have hM : ∀ wx (t2 : List Thing), Lab wq wx t2 → Lab wq (wx.alloc (.cells (madeCells #[.slice none 0 0] N) 36)) (Thing.row 36 1 (.slice (some ⟨wx.heap.size, 0, none⟩) N N) N (List.replicate N (Value.slice none 0 0)) :: t2) := fun wx t2 h => h.make_row N 36 _ hN2
  have HM := Lib.hid hM
  clear hM hN2
  conv => arg 2; whnf
  refine wp_region_noPanic ?_
  go_region_held3 (fun _ => True) (trivial) (fail)
  all_goals refine NoPanic.normal ?_
  all_goals
    have hl2 := (HM.out _ _ (HM.out _ _ HL.out)).drew1
    rw [World.size_alloc] at hl2
    first | exact HQ.out _ _ _ _ _ _ _ _ _ hl2 | exact HQ.out _ _ _ _ _ _ _ _ _ hl2.swap
theorem all_open {N ga gb ca cb c : Nat} {vsx vsy : List Value} {X Y : List (List Int)} {T : Thing} (h : Lab wq wr [T, Thing.lists .u64 44 36 (.slice (some ⟨ga, 0, none⟩) N ca) vsx X, Thing.lists .u64 44 36 (.slice (some ⟨gb, 0, none⟩) N cb) vsy Y]) (hx : vsx.length = N) (hy : vsy.length = N) (hc : c < N) :
    Lab wq wr (innerT .u64 44 vsx X c :: Thing.row 36 1 (.slice (some ⟨ga, 0, none⟩) N ca) N vsx :: innerT .u64 44 vsy Y c :: Thing.row 36 1 (.slice (some ⟨gb, 0, none⟩) N cb) N vsy :: [restT .u64 44 vsx X c, restT .u64 44 vsy Y c, T]) := by
  have h1 := Lab.lists_open (c := c) (by omega) h.swap
  have h2 := Lab.lists_open (c := c) (by omega) h1.rot5
  rw [hx, hy] at h2
  exact h2.rotG7.rot4.rotG7.rot5.rot5.rotG7.rotG7
theorem all_shut {N ga gb ca cb c : Nat} {vsx vsy : List Value} {X Y : List (List Int)} {T : Thing} {ux uy : Value} {xs ys : List Int} (hx : vsx.length = N) (hy : vsy.length = N) (hX : X.length = N) (hY : Y.length = N) (hc : c < N)
    (h : Lab wq wr (Thing.numsK .u64 44 ux xs :: Thing.row 36 1 (.slice (some ⟨ga, 0, none⟩) N ca) N (vsx.set c ux) :: Thing.numsK .u64 44 uy ys :: Thing.row 36 1 (.slice (some ⟨gb, 0, none⟩) N cb) N (vsy.set c uy) :: [restT .u64 44 vsx X c, restT .u64 44 vsy Y c, T])) :
    Lab wq wr [T, Thing.lists .u64 44 36 (.slice (some ⟨ga, 0, none⟩) N ca) (vsx.set c ux) (X.set c xs), Thing.lists .u64 44 36 (.slice (some ⟨gb, 0, none⟩) N cb) (vsy.set c uy) (Y.set c ys)] := by
  have h0 := h.rotG7.rotG7.rot6.rot6.rotG7.rotG7.rotG7
  subst hx
  have h1 := Lab.lists_shut hc hX h0
  have h2 := h1.rot5.swap.rot5.rot5.rot5
  rw [← hy] at h2
  have h3 := Lab.lists_shut (by omega) (by omega) h2
  rw [hy] at h3
  exact h3.swap.rot3
theorem Lab.nums_set {k : IntKind} {E g c n : Nat} {xs : List Int} (hl : xs.length = n) (h : Lab wq wr (Thing.numsK k E (.slice (some ⟨g, 0, none⟩) n c) xs :: ts)) (j : Nat) (x : Int) : Lab wq (wr.setCell ⟨g, j, none⟩ (.int k x)) (Thing.numsK k E (.slice (some ⟨g, 0, none⟩) n c) (xs.set j x) :: ts) := by
  unfold Thing.numsK at h ⊢
  rw [hl] at h
  have := h.row_set j (.int k x)
  rw [List.length_set, hl, List.map_set]
  exact this
theorem Lab.nums_cell {k : IntKind} {E g c n j : Nat} {xs : List Int} (hl : xs.length = n) (h : Lab wq wr (Thing.numsK k E (.slice (some ⟨g, 0, none⟩) n c) xs :: ts)) (hj : j < n) : ∃ x, wr.cell? ⟨g, j, none⟩ = some (.int k x) ∧ wr.frozen? ⟨g, j, none⟩ = false := by
  unfold Thing.numsK at h
  rw [hl] at h
  have := row_cellAt h.head hj
  rw [List.getElem?_map, List.getElem?_eq_getElem (by omega)] at this
  exact ⟨_, this⟩
theorem Lab.nums_some {k : IntKind} {E c n : Nat} {a : Option Addr} {xs : List Int} (hl : xs.length = n) (h : Lab wq wr (Thing.numsK k E (.slice a n c) xs :: ts)) (h0 : 0 < n) : ∃ g, a = some ⟨g, 0, none⟩ := by
  unfold Thing.numsK at h
  rw [hl] at h
  exact row_some h.head h0
def lenV : Value → Nat
  | .slice _ n _ => n
  | _ => 0
end
end Go.Proofs.YtmfendfpjpbhdaaDoor
