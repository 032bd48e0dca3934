/- SimpNames. -/
import Derived.Test.YtcpgiadhmmmafaaSimpS
import Derived.Test.YtcpgiadhmmmafaaSimpP
namespace Go.Proofs.Ytcpgiadhmmmafaa
open Go.RowKit Go.Maps
set_option maxHeartbeats 6400000

def exN (k : Nat) : List PNode := exM ++ ([(7, 0, [0, 2]), (14, 0, [0, 5]), (17, 0, [2, 1]), (4, 0, [0, 1])] : List PNode).take k
def exN5 : List PNode := exN 4 ++ [(6, 0, [0, 2])]
def exN6 : List PNode := exN 4 ++ [(6, 0, [0, 2]), (5, 0, [1, 2])]
def exL3 : List PNode := exN 4 ++ [(6, 0, [0, 2]), (5, 0, [1, 2]), (4, 0, [11, 12])]
noncomputable def namesRest11 : Code := (Try.f5.body.bind (tailAt 11)).getD .skip
noncomputable def namesRest4 : Code := (Try.f5.body.bind (tailAt 4)).getD .skip
theorem nm_i0 : simpR 2 1048576 exM 5 [0, 0] = (exM, 2, 0) := by decide
theorem nm_i1 : simpR 2 1048576 exM 2 [6] = (exM, 0, 0) := by decide
theorem nm_i2 : simpR 2 1048576 exM 6 [3, 1] = (exM, 1, 0) := by decide
theorem nm_i3 : simpR 2 1048576 exM 12 [0, 4] = (exM, 2, 0) := by decide
theorem nm_i4 : simpR 2 1048576 exM 18 [2, 1] = (exM, 3, 0) := by decide
theorem nm_i5 : simpR 2 1048576 exM 21 [4, 0, 1] = (exM, 0, 0) := by decide
theorem nm_i6 : simpR 2 1048576 exM 21 [2, 0, 1] = (exM, 1, 0) := by decide
theorem nm_a0 : appR 1048576 (exN 0) 7 [0, 2] = (exN 1, 7, 0) := by decide
theorem nm_s0 : simpR 2 1048576 (exN 1) 7 [0, 2] = (exN 1, 7, 0) := by decide
theorem nm_a1 : appR 1048576 (exN 1) 14 [0, 5] = (exN 2, 8, 0) := by decide
theorem nm_s1 : simpR 2 1048576 (exN 2) 14 [0, 5] = (exN 2, 8, 0) := by decide
theorem nm_a2 : appR 1048576 (exN 2) 17 [2, 1] = (exN 3, 9, 0) := by decide
theorem nm_s2 : simpR 2 1048576 (exN 3) 17 [2, 1] = (exN 3, 9, 0) := by decide
theorem nm_a3 : appR 1048576 (exN 3) 4 [0, 1] = (exN 4, 10, 0) := by decide
theorem nm_s3 : simpR 2 1048576 (exN 4) 4 [0, 1] = (exN 4, 10, 0) := by decide
theorem nm_s4 : simpR 2 1048576 (exN 4) 4 [1, 0] = (exN 4, 10, 0) := by decide
theorem nm_b0 : appR 1048576 (exN 4) 6 [0, 2] = (exN5, 11, 0) := by decide
theorem nm_b1 : appR 1048576 exN5 5 [1, 2] = (exN6, 12, 0) := by decide
theorem nm_b2 : appR 1048576 exN6 4 [11, 12] = (exL3, 13, 0) := by decide
theorem nm_z0 : simpleR 2 1048576 exL3 13 = (exL3, 1, 0) := by decide
theorem nm_z1 : simpR 2 1048576 exL3 4 [0] = (exL3, 0, 2) := by decide
theorem nm_z2 : simpR 2 1048576 exL3 0 [] = (exL3, 0, 2) := by decide
theorem nm_z3 : simpR 2 1048576 exL3 2 [999] = (exL3, 0, 3) := by decide
theorem nm_z4 : simpleR 2 1048576 exL3 999 = (exL3, 0, 3) := by decide
theorem nm_n0 : numD exL3 5 = 3 ∧ isNum exL3 5 = true := by decide
theorem nm_n1 : numD exL3 0 = 0 ∧ isNum exL3 0 = false := by decide
theorem nm_n2 : numD exL3 (-1) = 0 ∧ isNum exL3 (-1) = false := by decide
section
variable {w wr : World} {F I : List Nat} {gb q : Nat}
set_option maxRecDepth 100000 in
theorem names_rest11 {u2 u3 u4 u5 u6 u7 u8 u9 u10 u11 u12 u13 u14 u15 u16 u17 u18 u19 u20 u21 u22 u23 u24 u25 u26 u27 u28 u29 u30 u31 u32 u33 u34 u35 u36 u37 u38 u39 u40 u41 u42 u43 u44 u45 u46 u47 u48 u49 u50 u51 u52 u53 u54 u55 u56 u57 u58 u59 u60 u61 u62 u63 u64 u65 u66 u67 u68 u69 u70 u71 u72 u73 u74 u75 u76 u77 u78 u79 u80 u81 u82 u83 u84 u85 u86 u87 u88 u89 u90 u91 u92 u93 u94 u95 u96 u97 u98 u99 u100 u101 u102 u103 u104 u105 u106 u107 u108 u109 u110 u111 u112 u113 u114 u115 u116 u117 u118 u119 u120 u121 u122 u123 u124 u125 u126 u127 u128 u129 u130 u131 u132 u133 u134 u135 u136 u137 u138 u139 u140 u141 u142 u143 u144 u145 u146 u147 u148 u149 u150 u151 u152 u153 u154 u155 u156 u157 u158 u159 u160 u161 u162 u163 u164 u165 u166 u167 u168 u169 u170 u171 u172 u173 u174 u175 u176 u177 u178 u179 u180 u181 u182 u183 u184 u185 u186 u187 u188 u189 u190 u191 u192 u193 u194 u195 u196 u197 u198 u199 u200 u201 u202 u203 u204 u205 u206 u207 u208 u209 u210 u211 u212 u213 u214 u215 u216 u217 u218 u219 u220 u221 u222 u223 u224 u225 u226 u227 u228 u229 u230 u231 u232 u233 u234 u235 u236 u237 u238 u239 u240 u241 u242 u243 u244 u245 u246 u247 u248 u249 u250 u251 u252 u253 u254 u255 u256 u257 u258 u259 u260 u261 u262 u263 u264 u265 u266 u267 u268 u269 u270 u271 u272 u273 u274 u275 u276 u277 u278 u279 u280 u281 u282 u283 u284 u285 u286 u287 u288 u289 u290 u291 u292 u293 u294 u295 u296 u297 u298 u299 u300 u301 u302 u303 u304 u305 u306 u307 u308 u309 u310 u311 u312 u313 u314 u315 u316 u317 u318 u319 u320 u321 u322 u323 u324 u325 u326 u327 u328 u329 u330 u331 u332 u333 u334 u335 u336 u337 u338 u339 u340 u341 u342 u343 u344 u345 u346 u347 u348 u349 : Value} {u0 : Value} (h : Lab w wr [Thing.graph F I gb 2 1048576 (exN 4), Thing.box q 56 #[.pointer (some ⟨gb, 0, none⟩), .int .i64 2, .int .i64 3, .int .i64 4, .int .i64 5, .int .i64 0, .int .i64 1, .int .i64 6]]) :
    Code.wp Try.prog namesRest11 (bodyPost Try.prog Try.f5 fun e w' => e = .returned (.bool true) ∧ Below w.heap.size w w') ⟨(List.toArray (u0 :: .pointer (some ⟨q, 0, none⟩) :: u2 :: u3 :: u4 :: u5 :: u6 :: u7 :: u8 :: u9 :: u10 :: u11 :: u12 :: u13 :: u14 :: u15 :: u16 :: u17 :: u18 :: u19 :: u20 :: u21 :: u22 :: u23 :: u24 :: u25 :: u26 :: u27 :: u28 :: u29 :: u30 :: u31 :: u32 :: u33 :: u34 :: u35 :: u36 :: u37 :: u38 :: u39 :: u40 :: u41 :: u42 :: u43 :: u44 :: u45 :: u46 :: u47 :: u48 :: u49 :: u50 :: u51 :: u52 :: u53 :: u54 :: u55 :: u56 :: u57 :: u58 :: u59 :: u60 :: u61 :: u62 :: u63 :: u64 :: u65 :: u66 :: u67 :: u68 :: u69 :: u70 :: u71 :: u72 :: u73 :: u74 :: u75 :: u76 :: u77 :: u78 :: u79 :: u80 :: u81 :: u82 :: u83 :: u84 :: u85 :: u86 :: u87 :: u88 :: u89 :: u90 :: u91 :: u92 :: u93 :: u94 :: u95 :: u96 :: u97 :: u98 :: u99 :: u100 :: u101 :: u102 :: u103 :: u104 :: u105 :: u106 :: u107 :: u108 :: u109 :: u110 :: u111 :: u112 :: u113 :: u114 :: u115 :: u116 :: u117 :: u118 :: u119 :: u120 :: u121 :: u122 :: u123 :: u124 :: u125 :: u126 :: u127 :: u128 :: u129 :: u130 :: u131 :: u132 :: u133 :: u134 :: u135 :: u136 :: u137 :: u138 :: u139 :: u140 :: u141 :: u142 :: u143 :: u144 :: u145 :: u146 :: u147 :: u148 :: u149 :: u150 :: u151 :: u152 :: u153 :: u154 :: u155 :: u156 :: u157 :: u158 :: u159 :: u160 :: u161 :: u162 :: u163 :: u164 :: u165 :: u166 :: u167 :: u168 :: u169 :: u170 :: u171 :: u172 :: u173 :: u174 :: u175 :: u176 :: u177 :: u178 :: u179 :: u180 :: u181 :: u182 :: u183 :: u184 :: u185 :: u186 :: u187 :: u188 :: u189 :: u190 :: u191 :: u192 :: u193 :: u194 :: u195 :: u196 :: u197 :: u198 :: u199 :: u200 :: u201 :: u202 :: u203 :: u204 :: u205 :: u206 :: u207 :: u208 :: u209 :: u210 :: u211 :: u212 :: u213 :: u214 :: u215 :: u216 :: u217 :: u218 :: u219 :: u220 :: u221 :: u222 :: u223 :: u224 :: u225 :: u226 :: u227 :: u228 :: u229 :: u230 :: u231 :: u232 :: u233 :: u234 :: u235 :: u236 :: u237 :: u238 :: u239 :: u240 :: u241 :: u242 :: u243 :: u244 :: u245 :: u246 :: u247 :: u248 :: u249 :: u250 :: u251 :: u252 :: u253 :: u254 :: u255 :: u256 :: u257 :: u258 :: u259 :: u260 :: u261 :: u262 :: u263 :: u264 :: u265 :: u266 :: u267 :: u268 :: u269 :: u270 :: u271 :: u272 :: u273 :: u274 :: u275 :: u276 :: u277 :: u278 :: u279 :: u280 :: u281 :: u282 :: u283 :: u284 :: u285 :: u286 :: u287 :: u288 :: u289 :: u290 :: u291 :: u292 :: u293 :: u294 :: u295 :: u296 :: u297 :: u298 :: u299 :: u300 :: u301 :: u302 :: u303 :: u304 :: u305 :: u306 :: u307 :: u308 :: u309 :: u310 :: u311 :: u312 :: u313 :: u314 :: u315 :: u316 :: u317 :: u318 :: u319 :: u320 :: u321 :: u322 :: u323 :: u324 :: u325 :: u326 :: u327 :: u328 :: u329 :: u330 :: u331 :: u332 :: u333 :: u334 :: u335 :: u336 :: u337 :: u338 :: u339 :: u340 :: u341 :: u342 :: u343 :: u344 :: u345 :: u346 :: u347 :: u348 :: u349 :: [])), []⟩ wr := by
  have H0 := Lib.hid h
  obtain ⟨g0, g1, g2, g3, g4, g5, g6, g7, -⟩ := cells8 h.box2
  clear h
  conv => arg 2; whnf
  go_wp2_with fail
  go_at_call 29
  refine (app_any (H0.out.later (below_new _ _)).gr 6 (by decide) [0, 2] _ (sliceOf_new wr .i64 3 [0, 2] 2)).mono ?_
  intro e v1 hp
  obtain ⟨F1, I1, rfl, h1⟩ := (H0.out.later (below_new _ _)).gpost hp
  rw [nm_b0] at h1 ⊢
  clear hp
  clear g0 g1 g2 g3 g4 g5 g6 g7
  obtain ⟨g0, g1, g2, g3, g4, g5, g6, g7, -⟩ := cells8 h1.box2
  have H1 := Lib.hid h1; clear h1
  go_wp2_with fail
  go_at_call 29
  refine (app_any (H1.out.later (below_new _ _)).gr 5 (by decide) [1, 2] _ (sliceOf_new v1 .i64 3 [1, 2] 2)).mono ?_
  intro e v2 hp
  obtain ⟨F2, I2, rfl, h2⟩ := (H1.out.later (below_new _ _)).gpost hp
  rw [nm_b1] at h2 ⊢
  clear hp
  clear g0 g1 g2 g3 g4 g5 g6 g7
  obtain ⟨g0, g1, g2, g3, g4, g5, g6, g7, -⟩ := cells8 h2.box2
  have H2 := Lib.hid h2; clear h2
  go_wp2_with fail
  go_at_call 29
  refine (app_any (H2.out.later (below_new _ _)).gr 4 (by decide) [11, 12] _ (sliceOf_new v2 .i64 3 [11, 12] 2)).mono ?_
  intro e v3 hp
  obtain ⟨F3, I3, rfl, h3⟩ := (H2.out.later (below_new _ _)).gpost hp
  rw [nm_b2] at h3 ⊢
  clear hp
  clear g0 g1 g2 g3 g4 g5 g6 g7
  obtain ⟨g0, g1, g2, g3, g4, g5, g6, g7, -⟩ := cells8 h3.box2
  have H3 := Lib.hid h3; clear h3
  go_wp2_with fail
  go_at_call 30
  refine (H3.out.simple 13 nm_z0).mono ?_
  rintro e v4 ⟨F4, I4, rfl, h4⟩
  clear g0 g1 g2 g3 g4 g5 g6 g7
  obtain ⟨g0, g1, g2, g3, g4, g5, g6, g7, -⟩ := cells8 h4.box2
  have H4 := Lib.hid h4; clear h4
  go_wp2_with fail
  go_at_call 31
  refine (number_any H4.out.gr 5).mono ?_
  rintro e v5 ⟨rfl, hb⟩
  have h5 := H4.out.later hb
  clear hb
  rw [nm_n0.1, nm_n0.2]
  clear g0 g1 g2 g3 g4 g5 g6 g7
  obtain ⟨g0, g1, g2, g3, g4, g5, g6, g7, -⟩ := cells8 h5.box2
  have H5 := Lib.hid h5; clear h5
  go_wp2_with fail
  go_at_call 31
  refine (number_any H5.out.gr 0).mono ?_
  rintro e v6 ⟨rfl, hb⟩
  have h6 := H5.out.later hb
  clear hb
  rw [nm_n1.1, nm_n1.2]
  clear g0 g1 g2 g3 g4 g5 g6 g7
  obtain ⟨g0, g1, g2, g3, g4, g5, g6, g7, -⟩ := cells8 h6.box2
  have H6 := Lib.hid h6; clear h6
  go_wp2_with fail
  go_at_call 31
  refine (number_any H6.out.gr (-1)).mono ?_
  rintro e v7 ⟨rfl, hb⟩
  have h7 := H6.out.later hb
  clear hb
  rw [nm_n2.1, nm_n2.2]
  clear g0 g1 g2 g3 g4 g5 g6 g7
  obtain ⟨g0, g1, g2, g3, g4, g5, g6, g7, -⟩ := cells8 h7.box2
  have H7 := Lib.hid h7; clear h7
  go_wp2_with fail
  go_at_call 31
  refine (number_nil _ 0).mono ?_
  rintro e v8 ⟨rfl, hb⟩
  have h8 := H7.out.later hb
  clear hb
  clear g0 g1 g2 g3 g4 g5 g6 g7
  obtain ⟨g0, g1, g2, g3, g4, g5, g6, g7, -⟩ := cells8 h8.box2
  have H8 := Lib.hid h8; clear h8
  go_wp2_with fail
  go_at_call 26
  refine (sapp_any (H8.out.later (below_new _ _)).gr 4 (by decide) [0] _ (sliceOf_new v8 .i64 3 [0] 1)).mono ?_
  intro e v9 hp
  obtain ⟨F9, I9, rfl, h9⟩ := (H8.out.later (below_new _ _)).gpost hp
  rw [nm_z1] at h9 ⊢
  clear hp
  clear g0 g1 g2 g3 g4 g5 g6 g7
  obtain ⟨g0, g1, g2, g3, g4, g5, g6, g7, -⟩ := cells8 h9.box2
  have H9 := Lib.hid h9; clear h9
  go_wp2_with fail
  go_at_call 26
  refine (sapp_any H9.out.gr 0 (by decide) [] _ (sliceOf_nil v9 .i64)).mono ?_
  intro e v10 hp
  obtain ⟨F10, I10, rfl, h10⟩ := H9.out.gpost hp
  rw [nm_z2] at h10 ⊢
  clear hp
  clear g0 g1 g2 g3 g4 g5 g6 g7
  obtain ⟨g0, g1, g2, g3, g4, g5, g6, g7, -⟩ := cells8 h10.box2
  have H10 := Lib.hid h10; clear h10
  go_wp2_with fail
  go_at_call 26
  refine (sapp_any (H10.out.later (below_new _ _)).gr 2 (by decide) [999] _ (sliceOf_new v10 .i64 3 [999] 1)).mono ?_
  intro e v11 hp
  obtain ⟨F11, I11, rfl, h11⟩ := (H10.out.later (below_new _ _)).gpost hp
  rw [nm_z3] at h11 ⊢
  clear hp
  clear g0 g1 g2 g3 g4 g5 g6 g7
  obtain ⟨g0, g1, g2, g3, g4, g5, g6, g7, -⟩ := cells8 h11.box2
  have H11 := Lib.hid h11; clear h11
  go_wp2_with fail
  go_at_call 30
  refine (H11.out.simple 999 nm_z4).mono ?_
  rintro e v12 ⟨F12, I12, rfl, h12⟩
  clear g0 g1 g2 g3 g4 g5 g6 g7
  obtain ⟨g0, g1, g2, g3, g4, g5, g6, g7, -⟩ := cells8 h12.box2
  have H12 := Lib.hid h12; clear h12
  go_wp2_with fail
  go_at_call 26
  refine (sapp_nil _ 99 _).mono ?_
  rintro e v13 ⟨rfl, rfl⟩
  have h13 := H12.out
  clear g0 g1 g2 g3 g4 g5 g6 g7
  obtain ⟨g0, g1, g2, g3, g4, g5, g6, g7, -⟩ := cells8 h13.box2
  have H13 := Lib.hid h13; clear h13
  go_wp2_with fail
  go_at_call 30
  refine (simple_nil _ 0).mono ?_
  rintro e v14 ⟨rfl, rfl⟩
  have h14 := H13.out
  clear g0 g1 g2 g3 g4 g5 g6 g7
  obtain ⟨g0, g1, g2, g3, g4, g5, g6, g7, -⟩ := cells8 h14.box2
  have H14 := Lib.hid h14; clear h14
  go_wp2_with fail
  go_at_call 22
  refine (H14.out.awake12).mono ?_
  rintro e vE ⟨rfl, hE⟩
  have HE := Lib.hid hE; clear hE
  go_wp2
  go_ret
  exact ⟨rfl, HE.out⟩
theorem cells_row {b j : Nat} {arr : Array Value} {t : TypeId} {v : Value} (h : wr.heap[b]? = some (.cells arr t (0, 0))) (hv : arr[j]? = some v) : wr.cell? ⟨b, j, none⟩ = some v := by
  rw [cell_of_row wr b j _ _ _ h]; exact hv
set_option maxRecDepth 100000 in
theorem names_rest4 {u2 u3 u4 u5 u6 u7 u8 u9 u10 u11 u12 u13 u14 u15 u16 u17 u18 u19 u20 u21 u22 u23 u24 u25 u26 u27 u28 u29 u30 u31 u32 u33 u34 u35 u36 u37 u38 u39 u40 u41 u42 u43 u44 u45 u46 u47 u48 u49 u50 u51 u52 u53 u54 u55 u56 u57 u58 u59 u60 u61 u62 u63 u64 u65 u66 u67 u68 u69 u70 u71 u72 u73 u74 u75 u76 u77 u78 u79 u80 u81 u82 u83 u84 u85 u86 u87 u88 u89 u90 u91 u92 u93 u94 u95 u96 u97 u98 u99 u100 u101 u102 u103 u104 u105 u106 u107 u108 u109 u110 u111 u112 u113 u114 u115 u116 u117 u118 u119 u120 u121 u122 u123 u124 u125 u126 u127 u128 u129 u130 u131 u132 u133 u134 u135 u136 u137 u138 u139 u140 u141 u142 u143 u144 u145 u146 u147 u148 u149 u150 u151 u152 u153 u154 u155 u156 u157 u158 u159 u160 u161 u162 u163 u164 u165 u166 u167 u168 u169 u170 u171 u172 u173 u174 u175 u176 u177 u178 u179 u180 u181 u182 u183 u184 u185 u186 u187 u188 u189 u190 u191 u192 u193 u194 u195 u196 u197 u198 u199 u200 u201 u202 u203 u204 u205 u206 u207 u208 u209 u210 u211 u212 u213 u214 u215 u216 u217 u218 u219 u220 u221 u222 u223 u224 u225 u226 u227 u228 u229 u230 u231 u232 u233 u234 u235 u236 u237 u238 u239 u240 u241 u242 u243 u244 u245 u246 u247 u248 u249 u250 u251 u252 u253 u254 u255 u256 u257 u258 u259 u260 u261 u262 u263 u264 u265 u266 u267 u268 u269 u270 u271 u272 u273 u274 u275 u276 u277 u278 u279 u280 u281 u282 u283 u284 u285 u286 u287 u288 u289 u290 u291 u292 u293 u294 u295 u296 u297 u298 u299 u300 u301 u302 u303 u304 u305 u306 u307 u308 u309 u310 u311 u312 u313 u314 u315 u316 u317 u318 u319 u320 u321 u322 u323 u324 u325 u326 u327 u328 u329 u330 u331 u332 u333 u334 u335 u336 u337 u338 u339 u340 u341 u342 u343 u344 u345 u346 u347 u348 u349 : Value} {u0 : Value} (h : Lab w wr [Thing.graph F I gb 2 1048576 exM, Thing.box q 56 #[.pointer (some ⟨gb, 0, none⟩), .int .i64 2, .int .i64 3, .int .i64 4, .int .i64 5, .int .i64 0, .int .i64 1, .int .i64 6]]) :
    Code.wp Try.prog namesRest4 (bodyPost Try.prog Try.f5 fun e w' => e = .returned (.bool true) ∧ Below w.heap.size w w') ⟨(List.toArray (u0 :: .pointer (some ⟨q, 0, none⟩) :: u2 :: u3 :: u4 :: u5 :: u6 :: u7 :: u8 :: u9 :: u10 :: u11 :: u12 :: u13 :: u14 :: u15 :: u16 :: u17 :: u18 :: u19 :: u20 :: u21 :: u22 :: u23 :: u24 :: u25 :: u26 :: u27 :: u28 :: u29 :: u30 :: u31 :: u32 :: u33 :: u34 :: u35 :: u36 :: u37 :: u38 :: u39 :: u40 :: u41 :: u42 :: u43 :: u44 :: u45 :: u46 :: u47 :: u48 :: u49 :: u50 :: u51 :: u52 :: u53 :: u54 :: u55 :: u56 :: u57 :: u58 :: u59 :: u60 :: u61 :: u62 :: u63 :: u64 :: u65 :: u66 :: u67 :: u68 :: u69 :: u70 :: u71 :: u72 :: u73 :: u74 :: u75 :: u76 :: u77 :: u78 :: u79 :: u80 :: u81 :: u82 :: u83 :: u84 :: u85 :: u86 :: u87 :: u88 :: u89 :: u90 :: u91 :: u92 :: u93 :: u94 :: u95 :: u96 :: u97 :: u98 :: u99 :: u100 :: u101 :: u102 :: u103 :: u104 :: u105 :: u106 :: u107 :: u108 :: u109 :: u110 :: u111 :: u112 :: u113 :: u114 :: u115 :: u116 :: u117 :: u118 :: u119 :: u120 :: u121 :: u122 :: u123 :: u124 :: u125 :: u126 :: u127 :: u128 :: u129 :: u130 :: u131 :: u132 :: u133 :: u134 :: u135 :: u136 :: u137 :: u138 :: u139 :: u140 :: u141 :: u142 :: u143 :: u144 :: u145 :: u146 :: u147 :: u148 :: u149 :: u150 :: u151 :: u152 :: u153 :: u154 :: u155 :: u156 :: u157 :: u158 :: u159 :: u160 :: u161 :: u162 :: u163 :: u164 :: u165 :: u166 :: u167 :: u168 :: u169 :: u170 :: u171 :: u172 :: u173 :: u174 :: u175 :: u176 :: u177 :: u178 :: u179 :: u180 :: u181 :: u182 :: u183 :: u184 :: u185 :: u186 :: u187 :: u188 :: u189 :: u190 :: u191 :: u192 :: u193 :: u194 :: u195 :: u196 :: u197 :: u198 :: u199 :: u200 :: u201 :: u202 :: u203 :: u204 :: u205 :: u206 :: u207 :: u208 :: u209 :: u210 :: u211 :: u212 :: u213 :: u214 :: u215 :: u216 :: u217 :: u218 :: u219 :: u220 :: u221 :: u222 :: u223 :: u224 :: u225 :: u226 :: u227 :: u228 :: u229 :: u230 :: u231 :: u232 :: u233 :: u234 :: u235 :: u236 :: u237 :: u238 :: u239 :: u240 :: u241 :: u242 :: u243 :: u244 :: u245 :: u246 :: u247 :: u248 :: u249 :: u250 :: u251 :: u252 :: u253 :: u254 :: u255 :: u256 :: u257 :: u258 :: u259 :: u260 :: u261 :: u262 :: u263 :: u264 :: u265 :: u266 :: u267 :: u268 :: u269 :: u270 :: u271 :: u272 :: u273 :: u274 :: u275 :: u276 :: u277 :: u278 :: u279 :: u280 :: u281 :: u282 :: u283 :: u284 :: u285 :: u286 :: u287 :: u288 :: u289 :: u290 :: u291 :: u292 :: u293 :: u294 :: u295 :: u296 :: u297 :: u298 :: u299 :: u300 :: u301 :: u302 :: u303 :: u304 :: u305 :: u306 :: u307 :: u308 :: u309 :: u310 :: u311 :: u312 :: u313 :: u314 :: u315 :: u316 :: u317 :: u318 :: u319 :: u320 :: u321 :: u322 :: u323 :: u324 :: u325 :: u326 :: u327 :: u328 :: u329 :: u330 :: u331 :: u332 :: u333 :: u334 :: u335 :: u336 :: u337 :: u338 :: u339 :: u340 :: u341 :: u342 :: u343 :: u344 :: u345 :: u346 :: u347 :: u348 :: u349 :: [])), []⟩ wr := by
  have H0 := Lib.hid h
  obtain ⟨g0, g1, g2, g3, g4, g5, g6, g7, -⟩ := cells8 h.box2
  clear h
  conv => arg 2; whnf
  refine wp_seq_k ?_
  intro K hK
  go_cut [1] (fun s1 wx => s1 = .pointer (some ⟨q, 0, none⟩) ∧ ∃ F I, Lab w wx [Thing.graph F I gb 2 1048576 (exN 4), Thing.box q 56 #[.pointer (some ⟨gb, 0, none⟩), .int .i64 2, .int .i64 3, .int .i64 4, .int .i64 5, .int .i64 0, .int .i64 1, .int .i64 6]])
  case rest =>
    obtain ⟨rfl, F2, I2, hl⟩ := hcut
    refine hK _ _ ?_
    exact names_rest11 hl
  case first =>
    clear hK
    obtain ⟨lb, hlb⟩ : ∃ lb, wr.heap.size = lb := ⟨_, rfl⟩
    have h2 := H0.out.alloc #[.int .u8 7, .int .i64 0, .int .i64 2, .int .u8 14, .int .i64 0, .int .i64 5, .int .u8 17, .int .i64 2, .int .i64 1, .int .u8 4, .int .i64 0, .int .i64 1] 59
    rw [hlb] at h2
    have H2 := Lib.hid h2.rot3'; clear h2 H0
    go_upto_block 0 with fail
    clear hlb g0 g1 g2 g3 g4 g5 g6 g7
    refine wp_abs (fun wx => Lab w wx [Thing.graph F I gb 2 1048576 exM, Thing.box q 56 #[.pointer (some ⟨gb, 0, none⟩), .int .i64 2, .int .i64 3, .int .i64 4, .int .i64 5, .int .i64 0, .int .i64 1, .int .i64 6], Thing.box lb 59 #[.int .u8 7, .int .i64 0, .int .i64 2, .int .u8 14, .int .i64 0, .int .i64 5, .int .u8 17, .int .i64 2, .int .i64 1, .int .u8 4, .int .i64 0, .int .i64 1]]) H2.out ?_
    clear H2
    rintro w2 h2
    have H2 := Lib.hid h2; clear h2
    go_wp2
    go_loopw [150] (fun i wx => ∃ k : Nat, k ≤ 4 ∧ i = .int .i64 k ∧ ∃ F I, Lab w wx [Thing.graph F I gb 2 1048576 (exN k), Thing.box q 56 #[.pointer (some ⟨gb, 0, none⟩), .int .i64 2, .int .i64 3, .int .i64 4, .int .i64 5, .int .i64 0, .int .i64 1, .int .i64 6], Thing.box lb 59 #[.int .u8 7, .int .i64 0, .int .i64 2, .int .u8 14, .int .i64 0, .int .i64 5, .int .u8 17, .int .i64 2, .int .i64 1, .int .u8 4, .int .i64 0, .int .i64 1]]) (fun i _ => 4 - (intOf i).toNat)
    case atStart => exact ⟨0, by omega, rfl, F, I, H2.out⟩
    case round =>
      obtain ⟨k, hk, rfl, F4, I4, h4⟩ := hrel
      clear H2
      have hc : k = 0 ∨ k = 1 ∨ k = 2 ∨ k = 3 ∨ k = 4 := by omega
      rcases hc with rfl | rfl | rfl | rfl | rfl
      · obtain ⟨g0, g1, g2, g3, g4, g5, g6, g7, -⟩ := cells8 h4.box2
        have e0 := cells_row (j := 0) h4.box3 rfl
        have e1 := cells_row (j := 1) h4.box3 rfl
        have e2 := cells_row (j := 2) h4.box3 rfl
        obtain ⟨xb, hxb⟩ : ∃ xb, wr.heap.size = xb := ⟨_, rfl⟩
        have h5 := h4.alloc #[.int .u8 7, .int .i64 0, .int .i64 2] 59
        rw [hxb] at h5
        have H5 := Lib.hid h5.swap; clear h5 h4 hk
        go_upto_region 7 with fail
        clear hxb g0 g1 g2 g3 g4 g5 g6 g7 e0 e1 e2
        refine wp_abs (fun wx => Lab w wx [Thing.graph F4 I4 gb 2 1048576 (exN 0), Thing.box xb 59 #[.int .u8 7, .int .i64 0, .int .i64 2], Thing.box q 56 #[.pointer (some ⟨gb, 0, none⟩), .int .i64 2, .int .i64 3, .int .i64 4, .int .i64 5, .int .i64 0, .int .i64 1, .int .i64 6], Thing.box lb 59 #[.int .u8 7, .int .i64 0, .int .i64 2, .int .u8 14, .int .i64 0, .int .i64 5, .int .u8 17, .int .i64 2, .int .i64 1, .int .u8 4, .int .i64 0, .int .i64 1]]) H5.out ?_
        clear H5
        rintro w5 h5
        obtain ⟨g0, g1, g2, g3, g4, g5, g6, g7, -⟩ := cells8 h5.box3
        obtain ⟨e0, e1, e2⟩ := cells3 h5.box2
        have H5 := Lib.hid h5; clear h5
        go_wp2_with fail
        go_at_call 29
        refine (app_any (H5.out.later (below_new _ _)).gr 7 (by decide) [0, 2] _ (sliceOf_new w5 .i64 3 [0, 2] 2)).mono ?_
        intro e w6 hp
        obtain ⟨F6, I6, rfl, h6⟩ := (H5.out.later (below_new _ _)).gpost hp
        rw [nm_a0] at h6 ⊢
        clear hp g0 g1 g2 g3 g4 g5 g6 g7 e0 e1 e2
        obtain ⟨g0, g1, g2, g3, g4, g5, g6, g7, -⟩ := cells8 h6.box3
        obtain ⟨e0, e1, e2⟩ := cells3 h6.box2
        have H6 := Lib.hid h6; clear h6
        go_wp2_with fail
        go_at_call 28
        refine ((H6.out.later (below_new _ _)).is12 2 3 4 5 0 1 6 7 7 (by decide) [0, 2] _ (sliceOf_new w6 .i64 3 [0, 2] 2) nm_s0 (B := true) (by decide)).mono ?_
        rintro e w7 ⟨F7, I7, rfl, h7⟩
        clear g0 g1 g2 g3 g4 g5 g6 g7 e0 e1 e2
        obtain ⟨g0, g1, g2, g3, g4, g5, g6, g7, -⟩ := cells8 h7.box3
        obtain ⟨e0, e1, e2⟩ := cells3 h7.box2
        have H7 := Lib.hid h7; clear h7
        go_wp2_with fail
        go_at_call 25
        refine (commutes_any 7 (by decide) _).mono ?_
        rintro e w8 ⟨rfl, rfl⟩
        go_wp2
        go_roundw
        case rel => exact ⟨1, by omega, by go_num, F7, I7, H7.out.swap.drop⟩
        case measure => simp [intOf]
      · obtain ⟨g0, g1, g2, g3, g4, g5, g6, g7, -⟩ := cells8 h4.box2
        have e0 := cells_row (j := 3) h4.box3 rfl
        have e1 := cells_row (j := 4) h4.box3 rfl
        have e2 := cells_row (j := 5) h4.box3 rfl
        obtain ⟨xb, hxb⟩ : ∃ xb, wr.heap.size = xb := ⟨_, rfl⟩
        have h5 := h4.alloc #[.int .u8 14, .int .i64 0, .int .i64 5] 59
        rw [hxb] at h5
        have H5 := Lib.hid h5.swap; clear h5 h4 hk
        go_upto_region 7 with fail
        clear hxb g0 g1 g2 g3 g4 g5 g6 g7 e0 e1 e2
        refine wp_abs (fun wx => Lab w wx [Thing.graph F4 I4 gb 2 1048576 (exN 1), Thing.box xb 59 #[.int .u8 14, .int .i64 0, .int .i64 5], Thing.box q 56 #[.pointer (some ⟨gb, 0, none⟩), .int .i64 2, .int .i64 3, .int .i64 4, .int .i64 5, .int .i64 0, .int .i64 1, .int .i64 6], Thing.box lb 59 #[.int .u8 7, .int .i64 0, .int .i64 2, .int .u8 14, .int .i64 0, .int .i64 5, .int .u8 17, .int .i64 2, .int .i64 1, .int .u8 4, .int .i64 0, .int .i64 1]]) H5.out ?_
        clear H5
        rintro w5 h5
        obtain ⟨g0, g1, g2, g3, g4, g5, g6, g7, -⟩ := cells8 h5.box3
        obtain ⟨e0, e1, e2⟩ := cells3 h5.box2
        have H5 := Lib.hid h5; clear h5
        go_wp2_with fail
        go_at_call 29
        refine (app_any (H5.out.later (below_new _ _)).gr 14 (by decide) [0, 5] _ (sliceOf_new w5 .i64 3 [0, 5] 2)).mono ?_
        intro e w6 hp
        obtain ⟨F6, I6, rfl, h6⟩ := (H5.out.later (below_new _ _)).gpost hp
        rw [nm_a1] at h6 ⊢
        clear hp g0 g1 g2 g3 g4 g5 g6 g7 e0 e1 e2
        obtain ⟨g0, g1, g2, g3, g4, g5, g6, g7, -⟩ := cells8 h6.box3
        obtain ⟨e0, e1, e2⟩ := cells3 h6.box2
        have H6 := Lib.hid h6; clear h6
        go_wp2_with fail
        go_at_call 28
        refine ((H6.out.later (below_new _ _)).is12 2 3 4 5 0 1 6 8 14 (by decide) [0, 5] _ (sliceOf_new w6 .i64 3 [0, 5] 2) nm_s1 (B := true) (by decide)).mono ?_
        rintro e w7 ⟨F7, I7, rfl, h7⟩
        clear g0 g1 g2 g3 g4 g5 g6 g7 e0 e1 e2
        obtain ⟨g0, g1, g2, g3, g4, g5, g6, g7, -⟩ := cells8 h7.box3
        obtain ⟨e0, e1, e2⟩ := cells3 h7.box2
        have H7 := Lib.hid h7; clear h7
        go_wp2_with fail
        go_at_call 25
        refine (commutes_any 14 (by decide) _).mono ?_
        rintro e w8 ⟨rfl, rfl⟩
        go_wp2
        go_roundw
        case rel => exact ⟨2, by omega, by go_num, F7, I7, H7.out.swap.drop⟩
        case measure => simp [intOf]
      · obtain ⟨g0, g1, g2, g3, g4, g5, g6, g7, -⟩ := cells8 h4.box2
        have e0 := cells_row (j := 6) h4.box3 rfl
        have e1 := cells_row (j := 7) h4.box3 rfl
        have e2 := cells_row (j := 8) h4.box3 rfl
        obtain ⟨xb, hxb⟩ : ∃ xb, wr.heap.size = xb := ⟨_, rfl⟩
        have h5 := h4.alloc #[.int .u8 17, .int .i64 2, .int .i64 1] 59
        rw [hxb] at h5
        have H5 := Lib.hid h5.swap; clear h5 h4 hk
        go_upto_region 7 with fail
        clear hxb g0 g1 g2 g3 g4 g5 g6 g7 e0 e1 e2
        refine wp_abs (fun wx => Lab w wx [Thing.graph F4 I4 gb 2 1048576 (exN 2), Thing.box xb 59 #[.int .u8 17, .int .i64 2, .int .i64 1], Thing.box q 56 #[.pointer (some ⟨gb, 0, none⟩), .int .i64 2, .int .i64 3, .int .i64 4, .int .i64 5, .int .i64 0, .int .i64 1, .int .i64 6], Thing.box lb 59 #[.int .u8 7, .int .i64 0, .int .i64 2, .int .u8 14, .int .i64 0, .int .i64 5, .int .u8 17, .int .i64 2, .int .i64 1, .int .u8 4, .int .i64 0, .int .i64 1]]) H5.out ?_
        clear H5
        rintro w5 h5
        obtain ⟨g0, g1, g2, g3, g4, g5, g6, g7, -⟩ := cells8 h5.box3
        obtain ⟨e0, e1, e2⟩ := cells3 h5.box2
        have H5 := Lib.hid h5; clear h5
        go_wp2_with fail
        go_at_call 29
        refine (app_any (H5.out.later (below_new _ _)).gr 17 (by decide) [2, 1] _ (sliceOf_new w5 .i64 3 [2, 1] 2)).mono ?_
        intro e w6 hp
        obtain ⟨F6, I6, rfl, h6⟩ := (H5.out.later (below_new _ _)).gpost hp
        rw [nm_a2] at h6 ⊢
        clear hp g0 g1 g2 g3 g4 g5 g6 g7 e0 e1 e2
        obtain ⟨g0, g1, g2, g3, g4, g5, g6, g7, -⟩ := cells8 h6.box3
        obtain ⟨e0, e1, e2⟩ := cells3 h6.box2
        have H6 := Lib.hid h6; clear h6
        go_wp2_with fail
        go_at_call 28
        refine ((H6.out.later (below_new _ _)).is12 2 3 4 5 0 1 6 9 17 (by decide) [2, 1] _ (sliceOf_new w6 .i64 3 [2, 1] 2) nm_s2 (B := true) (by decide)).mono ?_
        rintro e w7 ⟨F7, I7, rfl, h7⟩
        clear g0 g1 g2 g3 g4 g5 g6 g7 e0 e1 e2
        obtain ⟨g0, g1, g2, g3, g4, g5, g6, g7, -⟩ := cells8 h7.box3
        obtain ⟨e0, e1, e2⟩ := cells3 h7.box2
        have H7 := Lib.hid h7; clear h7
        go_wp2_with fail
        go_at_call 25
        refine (commutes_any 17 (by decide) _).mono ?_
        rintro e w8 ⟨rfl, rfl⟩
        go_wp2
        go_roundw
        case rel => exact ⟨3, by omega, by go_num, F7, I7, H7.out.swap.drop⟩
        case measure => simp [intOf]
      · obtain ⟨g0, g1, g2, g3, g4, g5, g6, g7, -⟩ := cells8 h4.box2
        have e0 := cells_row (j := 9) h4.box3 rfl
        have e1 := cells_row (j := 10) h4.box3 rfl
        have e2 := cells_row (j := 11) h4.box3 rfl
        obtain ⟨xb, hxb⟩ : ∃ xb, wr.heap.size = xb := ⟨_, rfl⟩
        have h5 := h4.alloc #[.int .u8 4, .int .i64 0, .int .i64 1] 59
        rw [hxb] at h5
        have H5 := Lib.hid h5.swap; clear h5 h4 hk
        go_upto_region 7 with fail
        clear hxb g0 g1 g2 g3 g4 g5 g6 g7 e0 e1 e2
        refine wp_abs (fun wx => Lab w wx [Thing.graph F4 I4 gb 2 1048576 (exN 3), Thing.box xb 59 #[.int .u8 4, .int .i64 0, .int .i64 1], Thing.box q 56 #[.pointer (some ⟨gb, 0, none⟩), .int .i64 2, .int .i64 3, .int .i64 4, .int .i64 5, .int .i64 0, .int .i64 1, .int .i64 6], Thing.box lb 59 #[.int .u8 7, .int .i64 0, .int .i64 2, .int .u8 14, .int .i64 0, .int .i64 5, .int .u8 17, .int .i64 2, .int .i64 1, .int .u8 4, .int .i64 0, .int .i64 1]]) H5.out ?_
        clear H5
        rintro w5 h5
        obtain ⟨g0, g1, g2, g3, g4, g5, g6, g7, -⟩ := cells8 h5.box3
        obtain ⟨e0, e1, e2⟩ := cells3 h5.box2
        have H5 := Lib.hid h5; clear h5
        go_wp2_with fail
        go_at_call 29
        refine (app_any (H5.out.later (below_new _ _)).gr 4 (by decide) [0, 1] _ (sliceOf_new w5 .i64 3 [0, 1] 2)).mono ?_
        intro e w6 hp
        obtain ⟨F6, I6, rfl, h6⟩ := (H5.out.later (below_new _ _)).gpost hp
        rw [nm_a3] at h6 ⊢
        clear hp g0 g1 g2 g3 g4 g5 g6 g7 e0 e1 e2
        obtain ⟨g0, g1, g2, g3, g4, g5, g6, g7, -⟩ := cells8 h6.box3
        obtain ⟨e0, e1, e2⟩ := cells3 h6.box2
        have H6 := Lib.hid h6; clear h6
        go_wp2_with fail
        go_at_call 28
        refine ((H6.out.later (below_new _ _)).is12 2 3 4 5 0 1 6 10 4 (by decide) [0, 1] _ (sliceOf_new w6 .i64 3 [0, 1] 2) nm_s3 (B := true) (by decide)).mono ?_
        rintro e w7 ⟨F7, I7, rfl, h7⟩
        clear g0 g1 g2 g3 g4 g5 g6 g7 e0 e1 e2
        obtain ⟨g0, g1, g2, g3, g4, g5, g6, g7, -⟩ := cells8 h7.box3
        obtain ⟨e0, e1, e2⟩ := cells3 h7.box2
        have H7 := Lib.hid h7; clear h7
        go_wp2_with fail
        go_at_call 25
        refine (commutes_any 4 (by decide) _).mono ?_
        rintro e w8 ⟨rfl, rfl⟩
        go_wp2_with fail
        go_at_call 28
        refine ((H7.out.later (below_new _ _)).is12 2 3 4 5 0 1 6 10 4 (by decide) [1, 0] _ (sliceOf_new w7 .i64 3 [1, 0] 2) nm_s4 (B := true) (by decide)).mono ?_
        rintro e w9 ⟨F7, I7, rfl, h7⟩
        have H7 := Lib.hid h7; clear h7
        go_wp2
        go_roundw
        case rel => exact ⟨4, by omega, by go_num, F7, I7, H7.out.swap.drop⟩
        case measure => simp [intOf]
      · have H4 := Lib.hid h4; clear h4
        go_wp2
        go_meet
        exact ⟨rfl, F4, I4, H4.out.rot3.drop⟩
end
end Go.Proofs.Ytcpgiadhmmmafaa
