/- SimpNames, whole. -/
import Derived.Test.YtcpgiadhmmmafaaSimpU
namespace Go.Proofs.Ytcpgiadhmmmafaa
open Go.RowKit Go.Maps
set_option maxHeartbeats 6400000

noncomputable def namesRest2 : Code := (Try.f5.body.bind (tailAt 2)).getD .skip
set_option maxRecDepth 100000 in
theorem names_rest2 {w wr : World} {F I : List Nat} {gb q : Nat} {u2 u3 u4 u5 u6 u7 u8 u9 u10 u11 u12 u13 u14 u15 u16 u17 u18 u19 u20 u21 u22 u23 u24 u25 u26 u27 u28 u29 u30 u31 u32 u33 u34 u35 u36 u37 u38 u39 u40 u41 u42 u43 u44 u45 u46 u47 u48 u49 u50 u51 u52 u53 u54 u55 u56 u57 u58 u59 u60 u61 u62 u63 u64 u65 u66 u67 u68 u69 u70 u71 u72 u73 u74 u75 u76 u77 u78 u79 u80 u81 u82 u83 u84 u85 u86 u87 u88 u89 u90 u91 u92 u93 u94 u95 u96 u97 u98 u99 u100 u101 u102 u103 u104 u105 u106 u107 u108 u109 u110 u111 u112 u113 u114 u115 u116 u117 u118 u119 u120 u121 u122 u123 u124 u125 u126 u127 u128 u129 u130 u131 u132 u133 u134 u135 u136 u137 u138 u139 u140 u141 u142 u143 u144 u145 u146 u147 u148 u149 u150 u151 u152 u153 u154 u155 u156 u157 u158 u159 u160 u161 u162 u163 u164 u165 u166 u167 u168 u169 u170 u171 u172 u173 u174 u175 u176 u177 u178 u179 u180 u181 u182 u183 u184 u185 u186 u187 u188 u189 u190 u191 u192 u193 u194 u195 u196 u197 u198 u199 u200 u201 u202 u203 u204 u205 u206 u207 u208 u209 u210 u211 u212 u213 u214 u215 u216 u217 u218 u219 u220 u221 u222 u223 u224 u225 u226 u227 u228 u229 u230 u231 u232 u233 u234 u235 u236 u237 u238 u239 u240 u241 u242 u243 u244 u245 u246 u247 u248 u249 u250 u251 u252 u253 u254 u255 u256 u257 u258 u259 u260 u261 u262 u263 u264 u265 u266 u267 u268 u269 u270 u271 u272 u273 u274 u275 u276 u277 u278 u279 u280 u281 u282 u283 u284 u285 u286 u287 u288 u289 u290 u291 u292 u293 u294 u295 u296 u297 u298 u299 u300 u301 u302 u303 u304 u305 u306 u307 u308 u309 u310 u311 u312 u313 u314 u315 u316 u317 u318 u319 u320 u321 u322 u323 u324 u325 u326 u327 u328 u329 u330 u331 u332 u333 u334 u335 u336 u337 u338 u339 u340 u341 u342 u343 u344 u345 u346 u347 u348 u349 : Value} {u0 : Value} (h : Lab w wr [Thing.graph F I gb 2 1048576 exM, Thing.box q 56 #[.pointer (some ⟨gb, 0, none⟩), .int .i64 2, .int .i64 3, .int .i64 4, .int .i64 5, .int .i64 0, .int .i64 1, .int .i64 6]]) :
    Code.wp Try.prog namesRest2 (bodyPost Try.prog Try.f5 fun e w' => e = .returned (.bool true) ∧ Below w.heap.size w w') ⟨(List.toArray (u0 :: .pointer (some ⟨q, 0, none⟩) :: u2 :: u3 :: u4 :: u5 :: u6 :: u7 :: u8 :: u9 :: u10 :: u11 :: u12 :: u13 :: u14 :: u15 :: u16 :: u17 :: u18 :: u19 :: u20 :: u21 :: u22 :: u23 :: u24 :: u25 :: u26 :: u27 :: u28 :: u29 :: u30 :: u31 :: u32 :: u33 :: u34 :: u35 :: u36 :: u37 :: u38 :: u39 :: u40 :: u41 :: u42 :: u43 :: u44 :: u45 :: u46 :: u47 :: u48 :: u49 :: u50 :: u51 :: u52 :: u53 :: u54 :: u55 :: u56 :: u57 :: u58 :: u59 :: u60 :: u61 :: u62 :: u63 :: u64 :: u65 :: u66 :: u67 :: u68 :: u69 :: u70 :: u71 :: u72 :: u73 :: u74 :: u75 :: u76 :: u77 :: u78 :: u79 :: u80 :: u81 :: u82 :: u83 :: u84 :: u85 :: u86 :: u87 :: u88 :: u89 :: u90 :: u91 :: u92 :: u93 :: u94 :: u95 :: u96 :: u97 :: u98 :: u99 :: u100 :: u101 :: u102 :: u103 :: u104 :: u105 :: u106 :: u107 :: u108 :: u109 :: u110 :: u111 :: u112 :: u113 :: u114 :: u115 :: u116 :: u117 :: u118 :: u119 :: u120 :: u121 :: u122 :: u123 :: u124 :: u125 :: u126 :: u127 :: u128 :: u129 :: u130 :: u131 :: u132 :: u133 :: u134 :: u135 :: u136 :: u137 :: u138 :: u139 :: u140 :: u141 :: u142 :: u143 :: u144 :: u145 :: u146 :: u147 :: u148 :: u149 :: u150 :: u151 :: u152 :: u153 :: u154 :: u155 :: u156 :: u157 :: u158 :: u159 :: u160 :: u161 :: u162 :: u163 :: u164 :: u165 :: u166 :: u167 :: u168 :: u169 :: u170 :: u171 :: u172 :: u173 :: u174 :: u175 :: u176 :: u177 :: u178 :: u179 :: u180 :: u181 :: u182 :: u183 :: u184 :: u185 :: u186 :: u187 :: u188 :: u189 :: u190 :: u191 :: u192 :: u193 :: u194 :: u195 :: u196 :: u197 :: u198 :: u199 :: u200 :: u201 :: u202 :: u203 :: u204 :: u205 :: u206 :: u207 :: u208 :: u209 :: u210 :: u211 :: u212 :: u213 :: u214 :: u215 :: u216 :: u217 :: u218 :: u219 :: u220 :: u221 :: u222 :: u223 :: u224 :: u225 :: u226 :: u227 :: u228 :: u229 :: u230 :: u231 :: u232 :: u233 :: u234 :: u235 :: u236 :: u237 :: u238 :: u239 :: u240 :: u241 :: u242 :: u243 :: u244 :: u245 :: u246 :: u247 :: u248 :: u249 :: u250 :: u251 :: u252 :: u253 :: u254 :: u255 :: u256 :: u257 :: u258 :: u259 :: u260 :: u261 :: u262 :: u263 :: u264 :: u265 :: u266 :: u267 :: u268 :: u269 :: u270 :: u271 :: u272 :: u273 :: u274 :: u275 :: u276 :: u277 :: u278 :: u279 :: u280 :: u281 :: u282 :: u283 :: u284 :: u285 :: u286 :: u287 :: u288 :: u289 :: u290 :: u291 :: u292 :: u293 :: u294 :: u295 :: u296 :: u297 :: u298 :: u299 :: u300 :: u301 :: u302 :: u303 :: u304 :: u305 :: u306 :: u307 :: u308 :: u309 :: u310 :: u311 :: u312 :: u313 :: u314 :: u315 :: u316 :: u317 :: u318 :: u319 :: u320 :: u321 :: u322 :: u323 :: u324 :: u325 :: u326 :: u327 :: u328 :: u329 :: u330 :: u331 :: u332 :: u333 :: u334 :: u335 :: u336 :: u337 :: u338 :: u339 :: u340 :: u341 :: u342 :: u343 :: u344 :: u345 :: u346 :: u347 :: u348 :: u349 :: [])), []⟩ wr := by
  have H2 := Lib.hid h
  obtain ⟨g0, g1, g2, g3, g4, g5, g6, g7, -⟩ := cells8 h.box2
  clear h
  conv => arg 2; whnf
  refine wp_seq_k ?_
  intro K hK
  go_cut [1] (fun s1 wx => s1 = .pointer (some ⟨q, 0, none⟩) ∧ ∃ F I, Lab w wx [Thing.graph F I gb 2 1048576 exM, Thing.box q 56 #[.pointer (some ⟨gb, 0, none⟩), .int .i64 2, .int .i64 3, .int .i64 4, .int .i64 5, .int .i64 0, .int .i64 1, .int .i64 6]])
  case rest =>
    obtain ⟨rfl, F2, I2, hl⟩ := hcut
    refine hK _ _ ?_
    exact names_rest4 hl
  case first =>
    clear hK
    go_wp2_with fail
    go_at_call 28
    refine ((H2.out.later (below_new _ _)).is12 2 3 4 5 0 1 6 2 5 (by decide) [0, 0] _ (sliceOf_new wr .i64 3 [0, 0] 2) nm_i0 (B := true) (by decide)).mono ?_
    rintro e v0 ⟨F5, I5, rfl, h5⟩
    clear g0 g1 g2 g3 g4 g5 g6 g7
    obtain ⟨g0, g1, g2, g3, g4, g5, g6, g7, -⟩ := cells8 h5.box2
    have H5 := Lib.hid h5; clear h5
    go_wp2_with fail
    go_at_call 28
    refine ((H5.out.later (below_new _ _)).is12 2 3 4 5 0 1 6 0 2 (by decide) [6] _ (sliceOf_new v0 .i64 3 [6] 1) nm_i1 (B := true) (by decide)).mono ?_
    rintro e v1 ⟨F6, I6, rfl, h6⟩
    clear g0 g1 g2 g3 g4 g5 g6 g7
    obtain ⟨g0, g1, g2, g3, g4, g5, g6, g7, -⟩ := cells8 h6.box2
    have H6 := Lib.hid h6; clear h6
    go_wp2_with fail
    go_at_call 28
    refine ((H6.out.later (below_new _ _)).is12 2 3 4 5 0 1 6 1 6 (by decide) [3, 1] _ (sliceOf_new v1 .i64 3 [3, 1] 2) nm_i2 (B := true) (by decide)).mono ?_
    rintro e v2 ⟨F7, I7, rfl, h7⟩
    clear g0 g1 g2 g3 g4 g5 g6 g7
    obtain ⟨g0, g1, g2, g3, g4, g5, g6, g7, -⟩ := cells8 h7.box2
    have H7 := Lib.hid h7; clear h7
    go_wp2_with fail
    go_at_call 28
    refine ((H7.out.later (below_new _ _)).is12 2 3 4 5 0 1 6 2 12 (by decide) [0, 4] _ (sliceOf_new v2 .i64 3 [0, 4] 2) nm_i3 (B := true) (by decide)).mono ?_
    rintro e v3 ⟨F8, I8, rfl, h8⟩
    clear g0 g1 g2 g3 g4 g5 g6 g7
    obtain ⟨g0, g1, g2, g3, g4, g5, g6, g7, -⟩ := cells8 h8.box2
    have H8 := Lib.hid h8; clear h8
    go_wp2_with fail
    go_at_call 28
    refine ((H8.out.later (below_new _ _)).is12 2 3 4 5 0 1 6 3 18 (by decide) [2, 1] _ (sliceOf_new v3 .i64 3 [2, 1] 2) nm_i4 (B := true) (by decide)).mono ?_
    rintro e v4 ⟨F9, I9, rfl, h9⟩
    clear g0 g1 g2 g3 g4 g5 g6 g7
    obtain ⟨g0, g1, g2, g3, g4, g5, g6, g7, -⟩ := cells8 h9.box2
    have H9 := Lib.hid h9; clear h9
    go_wp2_with fail
    go_at_call 28
    refine ((H9.out.later (below_new _ _)).is12 2 3 4 5 0 1 6 0 21 (by decide) [4, 0, 1] _ (sliceOf_new v4 .i64 3 [4, 0, 1] 3) nm_i5 (B := true) (by decide)).mono ?_
    rintro e v5 ⟨F10, I10, rfl, h10⟩
    clear g0 g1 g2 g3 g4 g5 g6 g7
    obtain ⟨g0, g1, g2, g3, g4, g5, g6, g7, -⟩ := cells8 h10.box2
    have H10 := Lib.hid h10; clear h10
    go_wp2_with fail
    go_at_call 28
    refine ((H10.out.later (below_new _ _)).is12 2 3 4 5 0 1 6 1 21 (by decide) [2, 0, 1] _ (sliceOf_new v5 .i64 3 [2, 0, 1] 3) nm_i6 (B := true) (by decide)).mono ?_
    rintro e v6 ⟨F11, I11, rfl, h11⟩
    clear g0 g1 g2 g3 g4 g5 g6 g7
    obtain ⟨g0, g1, g2, g3, g4, g5, g6, g7, -⟩ := cells8 h11.box2
    have H11 := Lib.hid h11; clear h11
    go_wp2
    go_meet
    exact ⟨rfl, F11, I11, H11.out⟩
set_option maxRecDepth 100000 in
theorem simpNames_walk (w : World) : Calls Try.prog 5 #[] w fun e w' => e = .returned (.bool true) ∧ Below w.heap.size w w' := by
  have H0 := Lib.hid (Lab.nil (Below.refl w.heap.size w))
  go_enter Try.func5, Try.ntmps5
  go_upto_region 1 with fail
  rename_i K hK
  have HK := Lib.hid hK
  clear hK
  go_wp2_with fail
  go_at_call 27
  refine H0.out.made12.mono ?_
  rintro e w1 ⟨gb, F, I, rfl, h1⟩
  have h2 := h1.alloc #[.pointer (some ⟨gb, 0, none⟩), .int .i64 2, .int .i64 3, .int .i64 4, .int .i64 5, .int .i64 0, .int .i64 1, .int .i64 6] 56
  have H2 := Lib.hid h2.swap; clear h1 h2
  go_wp2
  refine HK.out _ _ ?_
  exact names_rest2 H2.out
end Go.Proofs.Ytcpgiadhmmmafaa
