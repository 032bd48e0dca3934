/- FlS, FlT: joined by wip/bundle.py. -/
import Derived.Test.YtiklidgcmheofaaGreatDoorB1
import Derived.Test.YtiklidgcmheofaaGreatDoorB2
import Derived.Test.YtiklidgcmheofaaGreatDoorB3
import Derived.Test.YtiklidgcmheofaaGreatDoorB4
import Derived.Test.YtiklidgcmheofaaGreatDoorB5
import Derived.Test.YtiklidgcmheofaaGreatDoorB6
import Derived.Test.YtiklidgcmheofaaGreatDoorB7
import Derived.Test.YtiklidgcmheofaaGreatDoorB8
import Derived.Test.YtiklidgcmheofaaGreatDoorB9
import Derived.Test.YtiklidgcmheofaaGreatDoorB14
import Derived.Test.YtiklidgcmheofaaGreatDoorB15
import Derived.Test.YtiklidgcmheofaaGreatDoorB16
import Derived.Test.YtiklidgcmheofaaGreatDoorB17
import Derived.Test.YtiklidgcmheofaaGreatDoorB21
import Derived.BigGuardPart
import Derived.BigQuiet
namespace Go.Proofs.YtiklidgcmheofaaGreatDoor
open Go.RowKit Go.Maps
set_option maxHeartbeats 12800000
noncomputable def rcheckRest (id : Nat) : Code := (Tryz.f17.body.bind (tailAt id)).getD .skip
section
variable {w wr : World} {W R : Int} {ch st : List ByteArray} {ars : List Int} {cs : List CodeD} {a1 a2 a3 a4 : Option Addr} {nc ns na nk c1 c2 c3 c4 p : Nat} {P : Prop}
/-- What makes an instruction valid, once it has a kind. -/
theorem instr_iff (c : CodeD) : InstrOk W R na nc ns nk c ↔ (FieldOk c ∧ ((c.k ≠ 1 → c.o = 0) ∧ (kD c.k = true → 0 ≤ c.d ∧ c.d < R) ∧ (kD c.k = false → c.d = 0) ∧ (decide (kN c.k ≠ 0) = true → 0 ≤ c.n ∧ c.n < mostR na nc ns nk c.k) ∧ (decide (kN c.k ≠ 0) = false → c.n = 0)) ∧ refB W R c.ar c.an (kA c.k) = true ∧ refB W R c.br c.bn (hasB2 c.k c.o) = true) := by
  unfold InstrOk FieldOk mostR
  have hm : kN c.k = 0 → mostN na nc ns nk (kN c.k) = 1 := fun h => by rw [h]; rfl
  constructor
  · rintro ⟨h1, h2, h3, h4, h5⟩
    refine ⟨⟨by omega, fun h => by omega⟩, ⟨fun h => by omega, fun h => ?_, fun h => ?_, fun h => ?_, fun h => ?_⟩, h4, h5⟩
    · rcases h3 with ⟨-, h3⟩ | ⟨h3, -⟩
      · exact h3
      · rw [h] at h3; cases h3
    · rcases h3 with ⟨h3, -⟩ | ⟨-, h3⟩
      · rw [h] at h3; cases h3
      · exact h3
    · rw [if_neg (by simpa using h)]; exact h2
    · have h0 : kN c.k = 0 := by simpa using h
      rw [hm h0] at h2
      omega
  · rintro ⟨⟨h1, h2⟩, ⟨h3, h4, h5, h6, h7⟩, h8, h9⟩
    refine ⟨?_, ?_, ?_, h8, h9⟩
    · by_cases hk : c.k = 1
      · exact .inl ⟨hk, h2 hk⟩
      · exact .inr ⟨hk, h1, h3 hk⟩
    · by_cases h0 : kN c.k = 0
      · have := h7 (by simpa using h0)
        rw [hm h0]; omega
      · have := h6 (by simpa using h0)
        rwa [if_neg h0] at this
    · cases hd : kD c.k with
      | true => exact .inl ⟨rfl, h4 hd⟩
      | false => exact .inr ⟨rfl, h5 hd⟩
theorem FlIn.rref (h : FlIn w W R ch st ars cs a1 a2 a3 a4 nc ns na nk c1 c2 c3 c4 P) (r : Int) (q : Nat) (hq : q < 18446744073709551616) (has : Bool) (wx : World) :
    Calls Tryz.prog 38 #[.agg #[.int .i64 W, .int .i64 R, .slice a1 nc c1, .slice a2 ns c2, .slice a3 na c3, .slice a4 nk c4], .agg #[.int .i64 r, .int .u64 q], .bool has] wx fun e w' => e = .returned (.bool (refB W R r q has)) ∧ Below wx.heap.size wx w' :=
  ref_any ⟨W, R, ch, st, ars, cs⟩ _ _ _ _ h.wid.1.1 h.wid.1.2 r q hq has wx
theorem FlIn.rfields (_h : FlIn w W R ch st ars cs a1 a2 a3 a4 nc ns na nk c1 c2 c3 c4 P) {c : CodeD} (hc : c.Ok) (wx : World) :
    Calls Tryz.prog 37 #[.agg #[.int .i64 W, .int .i64 R, .slice a1 nc c1, .slice a2 ns c2, .slice a3 na c3, .slice a4 nk c4], c.val] wx (FieldsPost (FieldOk c) (kD c.k) (decide (kN c.k ≠ 0)) (kA c.k) (hasB2 c.k c.o) (mostR na nc ns nk c.k) wx) :=
  fields_any ⟨W, R, ch, st, ars, cs⟩ c hc
noncomputable def rcheckRegion : Code := (Tryz.f17.body.bind (regionIn 13)).getD .skip
set_option maxRecDepth 100000 in
/-- The great condition, where the fields are as they should be. -/
theorem rcheck_pos {u0 u2 u3 u4 u8 u9 u10 u11 u12 u13 u14 u15 u16 u17 u18 u19 u20 u21 u22 u23 u24 u25 u26 u27 u28 u29 u30 u31 u32 u33 u34 u35 u36 u37 u38 u39 u40 u41 u42 u43 u44 u45 u46 u47 u48 u49 u50 u51 u52 u53 u54 u55 u56 u57 u58 u59 u60 u61 u62 u63 u64 u65 u66 u67 u68 u69 u70 u71 u72 u73 u74 u75 u76 u77 u78 u79 u80 u81 u82 u83 u84 u85 u86 u87 u88 u89 u90 u91 u92 u93 u94 u95 u96 u97 u98 u99 u100 u101 u102 u103 u104 u105 u106 u107 u108 u109 u110 u111 u112 u113 u114 u115 u116 u117 u118 u119 u120 u121 u122 u123 u124 u125 u126 u127 u128 u129 u130 u131 u132 u133 u134 u135 u136 u137 u138 u139 u140 u141 u142 u143 u144 u145 u146 u147 u148 u149 u150 u151 u152 u153 u154 u155 u156 u157 u158 u159 u160 u161 u162 u163 u164 u165 u166 u167 u168 u169 u170 u171 u172 u173 u174 u175 u176 u177 u178 u179 u180 u181 u182 u183 u184 u185 u186 u187 u188 u189 u190 u191 u192 : Value} {Q : Exit → Act → World → Prop} {c : CodeD} {g pu : Nat} {bD bN bA bB rA rB : Bool} {m : Int}
    (hra : ∀ wx, Calls Tryz.prog 38 #[.agg #[.int .i64 W, .int .i64 R, .slice a1 nc c1, .slice a2 ns c2, .slice a3 na c3, .slice a4 nk c4], .agg #[.int .i64 c.ar, .int .u64 c.an], .bool bA] wx fun e w' => e = .returned (.bool rA) ∧ Below wx.heap.size wx w')
    (hrb : ∀ wx, Calls Tryz.prog 38 #[.agg #[.int .i64 W, .int .i64 R, .slice a1 nc c1, .slice a2 ns c2, .slice a3 na c3, .slice a4 nk c4], .agg #[.int .i64 c.br, .int .u64 c.bn], .bool bB] wx fun e w' => e = .returned (.bool rB) ∧ Below wx.heap.size wx w')
    (hii : InstrOk W R na nc ns nk c ↔ ((c.k ≠ 1 → c.o = 0) ∧ (bD = true → 0 ≤ c.d ∧ c.d < R) ∧ (bD = false → c.d = 0) ∧ (bN = true → 0 ≤ c.n ∧ c.n < m) ∧ (bN = false → c.n = 0)) ∧ rA = true ∧ rB = true)
    (hx : FBx w wr p #[.int .i64 W, .int .i64 R, .slice a1 nc c1, .slice a2 ns c2, .slice a3 na c3, .slice a4 nk c4]) (hc : wr.heap[g]? = some (.cells #[.int .u8 c.k, .int .u8 c.o, .int .i64 c.d, .int .i64 c.n, .int .i64 c.ar, .int .u64 c.an, .int .i64 c.br, .int .u64 c.bn] 83 (0, 0))) (hu : wr.heap[pu]? = some (.cells #[.bool bD, .bool bN, .bool bA, .bool bB, .int .i64 m] 85 (0, 0)))
    (hQ : ∀ (v96 v97 v98 v99 v100 v101 v102 v103 v104 v105 v106 v107 v108 v109 v110 v111 v112 v113 v114 v115 v116 v117 v118 v119 v120 v121 v122 v123 v124 v125 v126 v127 v128 v129 v130 v131 v132 v133 v134 v135 v136 v137 v138 v139 v140 v141 v142 v143 v144 v145 v146 v147 v148 v149 v150 v151 v152 v153 v154 v155 v156 v157 v158 v159 v160 v161 v162 v163 v164 v165 v166 v167 v168 v169 v170 v171 v172 v173 v174 v175 v176 : Value) (bad : Bool) (w' : World), (bad = false ↔ InstrOk W R na nc ns nk c) → FBx w w' p #[.int .i64 W, .int .i64 R, .slice a1 nc c1, .slice a2 ns c2, .slice a3 na c3, .slice a4 nk c4] → Q .normal ⟨(List.toArray (u0 :: .pointer (some ⟨p, 0, none⟩) :: u2 :: u3 :: u4 :: .pointer (some ⟨g, 0, none⟩) :: .pointer (some ⟨pu, 0, none⟩) :: .bool true :: u8 :: u9 :: u10 :: u11 :: u12 :: u13 :: u14 :: u15 :: u16 :: u17 :: u18 :: u19 :: u20 :: u21 :: u22 :: u23 :: u24 :: u25 :: u26 :: u27 :: u28 :: u29 :: u30 :: u31 :: u32 :: u33 :: u34 :: u35 :: u36 :: u37 :: u38 :: u39 :: u40 :: u41 :: u42 :: u43 :: u44 :: u45 :: u46 :: u47 :: u48 :: u49 :: u50 :: u51 :: u52 :: u53 :: u54 :: u55 :: u56 :: u57 :: u58 :: u59 :: u60 :: u61 :: u62 :: u63 :: u64 :: u65 :: u66 :: u67 :: u68 :: u69 :: u70 :: u71 :: u72 :: u73 :: u74 :: u75 :: u76 :: u77 :: u78 :: u79 :: u80 :: u81 :: u82 :: u83 :: u84 :: u85 :: u86 :: u87 :: u88 :: u89 :: u90 :: u91 :: u92 :: u93 :: u94 :: u95 :: v96 :: v97 :: v98 :: v99 :: v100 :: v101 :: v102 :: v103 :: v104 :: v105 :: v106 :: v107 :: v108 :: v109 :: v110 :: v111 :: v112 :: v113 :: v114 :: v115 :: v116 :: v117 :: v118 :: v119 :: v120 :: v121 :: v122 :: v123 :: v124 :: v125 :: v126 :: v127 :: v128 :: v129 :: v130 :: v131 :: v132 :: v133 :: v134 :: v135 :: v136 :: v137 :: v138 :: v139 :: v140 :: v141 :: v142 :: v143 :: v144 :: v145 :: v146 :: v147 :: v148 :: v149 :: v150 :: v151 :: v152 :: v153 :: v154 :: v155 :: v156 :: v157 :: v158 :: v159 :: v160 :: v161 :: v162 :: v163 :: v164 :: v165 :: v166 :: v167 :: v168 :: v169 :: v170 :: v171 :: v172 :: v173 :: v174 :: v175 :: v176 :: .bool bad :: u178 :: u179 :: u180 :: u181 :: u182 :: u183 :: u184 :: u185 :: u186 :: u187 :: u188 :: u189 :: u190 :: u191 :: u192 :: [])), []⟩ w')
    (hV : (c.k ≠ 1 → c.o = 0) ∧ (bD = true → 0 ≤ c.d ∧ c.d < R) ∧ (bD = false → c.d = 0) ∧ (bN = true → 0 ≤ c.n ∧ c.n < m) ∧ (bN = false → c.n = 0)) :
    Code.wp Tryz.prog rcheckRegion Q ⟨(List.toArray (u0 :: .pointer (some ⟨p, 0, none⟩) :: u2 :: u3 :: u4 :: .pointer (some ⟨g, 0, none⟩) :: .pointer (some ⟨pu, 0, none⟩) :: .bool true :: u8 :: u9 :: u10 :: u11 :: u12 :: u13 :: u14 :: u15 :: u16 :: u17 :: u18 :: u19 :: u20 :: u21 :: u22 :: u23 :: u24 :: u25 :: u26 :: u27 :: u28 :: u29 :: u30 :: u31 :: u32 :: u33 :: u34 :: u35 :: u36 :: u37 :: u38 :: u39 :: u40 :: u41 :: u42 :: u43 :: u44 :: u45 :: u46 :: u47 :: u48 :: u49 :: u50 :: u51 :: u52 :: u53 :: u54 :: u55 :: u56 :: u57 :: u58 :: u59 :: u60 :: u61 :: u62 :: u63 :: u64 :: u65 :: u66 :: u67 :: u68 :: u69 :: u70 :: u71 :: u72 :: u73 :: u74 :: u75 :: u76 :: u77 :: u78 :: u79 :: u80 :: u81 :: u82 :: u83 :: u84 :: u85 :: u86 :: u87 :: u88 :: u89 :: u90 :: u91 :: u92 :: u93 :: u94 :: u95 :: u96 :: u97 :: u98 :: u99 :: u100 :: u101 :: u102 :: u103 :: u104 :: u105 :: u106 :: u107 :: u108 :: u109 :: u110 :: u111 :: u112 :: u113 :: u114 :: u115 :: u116 :: u117 :: u118 :: u119 :: u120 :: u121 :: u122 :: u123 :: u124 :: u125 :: u126 :: u127 :: u128 :: u129 :: u130 :: u131 :: u132 :: u133 :: u134 :: u135 :: u136 :: u137 :: u138 :: u139 :: u140 :: u141 :: u142 :: u143 :: u144 :: u145 :: u146 :: u147 :: u148 :: u149 :: u150 :: u151 :: u152 :: u153 :: u154 :: u155 :: u156 :: u157 :: u158 :: u159 :: u160 :: u161 :: u162 :: u163 :: u164 :: u165 :: u166 :: u167 :: u168 :: u169 :: u170 :: u171 :: u172 :: u173 :: u174 :: u175 :: u176 :: u177 :: u178 :: u179 :: u180 :: u181 :: u182 :: u183 :: u184 :: u185 :: u186 :: u187 :: u188 :: u189 :: u190 :: u191 :: u192 :: [])), []⟩ wr := by
  have HRA := Lib.hid hra; have HRB := Lib.hid hrb; have HII := Lib.hid hii; have HX := Lib.hid hx; have HC := Lib.hid hc; have HU := Lib.hid hu; have HQ := Lib.hid hQ
  have HV := Lib.hid hV
  obtain ⟨v1, v2, v3, v4, v5⟩ := hV
  clear hra hrb hii hx hc hu hQ
  have hd : (bD = true ∧ decide (c.d < 0) = false ∧ decide (R ≤ c.d) = false) ∨ (bD = false ∧ (c.d != 0) = false) := by
    cases bD with
    | true => exact .inl ⟨rfl, decide_eq_false (by have := v2 rfl; omega), decide_eq_false (by have := v2 rfl; omega)⟩
    | false => exact .inr ⟨rfl, by rw [bne_eq_false_iff_eq]; exact v3 rfl⟩
  have hn : (bN = true ∧ decide (c.n < 0) = false ∧ decide (m ≤ c.n) = false) ∨ (bN = false ∧ (c.n != 0) = false) := by
    cases bN with
    | true => exact .inl ⟨rfl, decide_eq_false (by have := v4 rfl; omega), decide_eq_false (by have := v4 rfl; omega)⟩
    | false => exact .inr ⟨rfl, by rw [bne_eq_false_iff_eq]; exact v5 rfl⟩
  have hk : ((c.k : Int) != 1) = false ∨ (((c.k : Int) != 1) = true ∧ ((c.o : Int) != 0) = false) := by
    by_cases h : c.k = 1
    · exact .inl (by rw [bne_eq_false_iff_eq]; omega)
    · exact .inr ⟨by rw [bne_iff_ne]; omega, by rw [bne_eq_false_iff_eq]; have := v1 h; omega⟩
  clear v1 v2 v3 v4 v5
  conv => arg 2; whnf
  conv => arg 2; arg 2; simp only [List.append_eq, List.cons_append, List.nil_append]
  have q0 := cell_of_cells HX.out.f (i := 0) rfl
  have q1 := cell_of_cells HX.out.f (i := 1) rfl
  have q2 := cell_of_cells HX.out.f (i := 2) rfl
  have q3 := cell_of_cells HX.out.f (i := 3) rfl
  have q4 := cell_of_cells HX.out.f (i := 4) rfl
  have q5 := cell_of_cells HX.out.f (i := 5) rfl
  have e0 := cell_of_cells HC.out (i := 0) rfl
  have e1 := cell_of_cells HC.out (i := 1) rfl
  have e2 := cell_of_cells HC.out (i := 2) rfl
  have e3 := cell_of_cells HC.out (i := 3) rfl
  have e4 := cell_of_cells HC.out (i := 4) rfl
  have e5 := cell_of_cells HC.out (i := 5) rfl
  have e6 := cell_of_cells HC.out (i := 6) rfl
  have e7 := cell_of_cells HC.out (i := 7) rfl
  have z0 := cell_of_cells HU.out (i := 0) rfl
  have z1 := cell_of_cells HU.out (i := 1) rfl
  have z2 := cell_of_cells HU.out (i := 2) rfl
  have z3 := cell_of_cells HU.out (i := 3) rfl
  have z4 := cell_of_cells HU.out (i := 4) rfl
  rcases hd with ⟨rfl, d1, d2⟩ | ⟨rfl, d1⟩ <;> rcases hn with ⟨rfl, n1, n2⟩ | ⟨rfl, n1⟩ <;> rcases hk with k1 | ⟨k1, k2⟩
  all_goals
    go_wp2_with fail
    go_at_call 38
    refine (HRA.out _).mono ?_
    rintro e w7 ⟨rfl, hb7⟩
    clear q0 q1 q2 q3 q4 q5 e0 e1 e2 e3 e4 e5 e6 e7 z0 z1 z2 z3 z4
    replace HX := Lib.hid (HX.out.later hb7)
    replace HC := Lib.hid ((hb7.block g (Array.getElem?_eq_some_iff.1 HC.out).1).trans HC.out)
    replace HU := Lib.hid ((hb7.block pu (Array.getElem?_eq_some_iff.1 HU.out).1).trans HU.out)
    clear hb7
    cases rA with
    | false =>
      go_wp2
      exact HQ.out _ _ _ _ _ _ _ _ _ _ _ _ _ _ _ _ _ _ _ _ _ _ _ _ _ _ _ _ _ _ _ _ _ _ _ _ _ _ _ _ _ _ _ _ _ _ _ _ _ _ _ _ _ _ _ _ _ _ _ _ _ _ _ _ _ _ _ _ _ _ _ _ _ _ _ _ _ _ _ _ _ true _ ⟨(by intro h; cases h), fun h => by cases (HII.out.1 h).2.1⟩ HX.out
    | true =>
      have q0 := cell_of_cells HX.out.f (i := 0) rfl
      have q1 := cell_of_cells HX.out.f (i := 1) rfl
      have q2 := cell_of_cells HX.out.f (i := 2) rfl
      have q3 := cell_of_cells HX.out.f (i := 3) rfl
      have q4 := cell_of_cells HX.out.f (i := 4) rfl
      have q5 := cell_of_cells HX.out.f (i := 5) rfl
      have e0 := cell_of_cells HC.out (i := 0) rfl
      have e1 := cell_of_cells HC.out (i := 1) rfl
      have e2 := cell_of_cells HC.out (i := 2) rfl
      have e3 := cell_of_cells HC.out (i := 3) rfl
      have e4 := cell_of_cells HC.out (i := 4) rfl
      have e5 := cell_of_cells HC.out (i := 5) rfl
      have e6 := cell_of_cells HC.out (i := 6) rfl
      have e7 := cell_of_cells HC.out (i := 7) rfl
      have z0 := cell_of_cells HU.out (i := 0) rfl
      have z1 := cell_of_cells HU.out (i := 1) rfl
      have z2 := cell_of_cells HU.out (i := 2) rfl
      have z3 := cell_of_cells HU.out (i := 3) rfl
      have z4 := cell_of_cells HU.out (i := 4) rfl
      go_wp2_with fail
      go_at_call 38
      refine (HRB.out _).mono ?_
      rintro e w8 ⟨rfl, hb8⟩
      clear q0 q1 q2 q3 q4 q5 e0 e1 e2 e3 e4 e5 e6 e7 z0 z1 z2 z3 z4
      replace HX := Lib.hid (HX.out.later hb8)
      clear hb8 HC HU
      cases rB with
      | false =>
        go_wp2
        exact HQ.out _ _ _ _ _ _ _ _ _ _ _ _ _ _ _ _ _ _ _ _ _ _ _ _ _ _ _ _ _ _ _ _ _ _ _ _ _ _ _ _ _ _ _ _ _ _ _ _ _ _ _ _ _ _ _ _ _ _ _ _ _ _ _ _ _ _ _ _ _ _ _ _ _ _ _ _ _ _ _ _ _ true _ ⟨(by intro h; cases h), fun h => by cases (HII.out.1 h).2.2⟩ HX.out
      | true =>
        go_wp2
        exact HQ.out _ _ _ _ _ _ _ _ _ _ _ _ _ _ _ _ _ _ _ _ _ _ _ _ _ _ _ _ _ _ _ _ _ _ _ _ _ _ _ _ _ _ _ _ _ _ _ _ _ _ _ _ _ _ _ _ _ _ _ _ _ _ _ _ _ _ _ _ _ _ _ _ _ _ _ _ _ _ _ _ _ false _ ⟨fun _ => HII.out.2 ⟨HV.out, by simp, by simp⟩, fun _ => by simp⟩ HX.out
set_option maxRecDepth 100000 in
/-- The great condition, where a field is not as it should be. -/
theorem rcheck_neg {u0 u2 u3 u4 u8 u9 u10 u11 u12 u13 u14 u15 u16 u17 u18 u19 u20 u21 u22 u23 u24 u25 u26 u27 u28 u29 u30 u31 u32 u33 u34 u35 u36 u37 u38 u39 u40 u41 u42 u43 u44 u45 u46 u47 u48 u49 u50 u51 u52 u53 u54 u55 u56 u57 u58 u59 u60 u61 u62 u63 u64 u65 u66 u67 u68 u69 u70 u71 u72 u73 u74 u75 u76 u77 u78 u79 u80 u81 u82 u83 u84 u85 u86 u87 u88 u89 u90 u91 u92 u93 u94 u95 u96 u97 u98 u99 u100 u101 u102 u103 u104 u105 u106 u107 u108 u109 u110 u111 u112 u113 u114 u115 u116 u117 u118 u119 u120 u121 u122 u123 u124 u125 u126 u127 u128 u129 u130 u131 u132 u133 u134 u135 u136 u137 u138 u139 u140 u141 u142 u143 u144 u145 u146 u147 u148 u149 u150 u151 u152 u153 u154 u155 u156 u157 u158 u159 u160 u161 u162 u163 u164 u165 u166 u167 u168 u169 u170 u171 u172 u173 u174 u175 u176 u177 u178 u179 u180 u181 u182 u183 u184 u185 u186 u187 u188 u189 u190 u191 u192 : Value} {Q : Exit → Act → World → Prop} {c : CodeD} {g pu : Nat} {bD bN bA bB rA rB : Bool} {m : Int}
    (_hra : ∀ wx, Calls Tryz.prog 38 #[.agg #[.int .i64 W, .int .i64 R, .slice a1 nc c1, .slice a2 ns c2, .slice a3 na c3, .slice a4 nk c4], .agg #[.int .i64 c.ar, .int .u64 c.an], .bool bA] wx fun e w' => e = .returned (.bool rA) ∧ Below wx.heap.size wx w')
    (_hrb : ∀ wx, Calls Tryz.prog 38 #[.agg #[.int .i64 W, .int .i64 R, .slice a1 nc c1, .slice a2 ns c2, .slice a3 na c3, .slice a4 nk c4], .agg #[.int .i64 c.br, .int .u64 c.bn], .bool bB] wx fun e w' => e = .returned (.bool rB) ∧ Below wx.heap.size wx w')
    (hii : InstrOk W R na nc ns nk c ↔ ((c.k ≠ 1 → c.o = 0) ∧ (bD = true → 0 ≤ c.d ∧ c.d < R) ∧ (bD = false → c.d = 0) ∧ (bN = true → 0 ≤ c.n ∧ c.n < m) ∧ (bN = false → c.n = 0)) ∧ rA = true ∧ rB = true)
    (hx : FBx w wr p #[.int .i64 W, .int .i64 R, .slice a1 nc c1, .slice a2 ns c2, .slice a3 na c3, .slice a4 nk c4]) (hc : wr.heap[g]? = some (.cells #[.int .u8 c.k, .int .u8 c.o, .int .i64 c.d, .int .i64 c.n, .int .i64 c.ar, .int .u64 c.an, .int .i64 c.br, .int .u64 c.bn] 83 (0, 0))) (hu : wr.heap[pu]? = some (.cells #[.bool bD, .bool bN, .bool bA, .bool bB, .int .i64 m] 85 (0, 0)))
    (hQ : ∀ (v96 v97 v98 v99 v100 v101 v102 v103 v104 v105 v106 v107 v108 v109 v110 v111 v112 v113 v114 v115 v116 v117 v118 v119 v120 v121 v122 v123 v124 v125 v126 v127 v128 v129 v130 v131 v132 v133 v134 v135 v136 v137 v138 v139 v140 v141 v142 v143 v144 v145 v146 v147 v148 v149 v150 v151 v152 v153 v154 v155 v156 v157 v158 v159 v160 v161 v162 v163 v164 v165 v166 v167 v168 v169 v170 v171 v172 v173 v174 v175 v176 : Value) (bad : Bool) (w' : World), (bad = false ↔ InstrOk W R na nc ns nk c) → FBx w w' p #[.int .i64 W, .int .i64 R, .slice a1 nc c1, .slice a2 ns c2, .slice a3 na c3, .slice a4 nk c4] → Q .normal ⟨(List.toArray (u0 :: .pointer (some ⟨p, 0, none⟩) :: u2 :: u3 :: u4 :: .pointer (some ⟨g, 0, none⟩) :: .pointer (some ⟨pu, 0, none⟩) :: .bool true :: u8 :: u9 :: u10 :: u11 :: u12 :: u13 :: u14 :: u15 :: u16 :: u17 :: u18 :: u19 :: u20 :: u21 :: u22 :: u23 :: u24 :: u25 :: u26 :: u27 :: u28 :: u29 :: u30 :: u31 :: u32 :: u33 :: u34 :: u35 :: u36 :: u37 :: u38 :: u39 :: u40 :: u41 :: u42 :: u43 :: u44 :: u45 :: u46 :: u47 :: u48 :: u49 :: u50 :: u51 :: u52 :: u53 :: u54 :: u55 :: u56 :: u57 :: u58 :: u59 :: u60 :: u61 :: u62 :: u63 :: u64 :: u65 :: u66 :: u67 :: u68 :: u69 :: u70 :: u71 :: u72 :: u73 :: u74 :: u75 :: u76 :: u77 :: u78 :: u79 :: u80 :: u81 :: u82 :: u83 :: u84 :: u85 :: u86 :: u87 :: u88 :: u89 :: u90 :: u91 :: u92 :: u93 :: u94 :: u95 :: v96 :: v97 :: v98 :: v99 :: v100 :: v101 :: v102 :: v103 :: v104 :: v105 :: v106 :: v107 :: v108 :: v109 :: v110 :: v111 :: v112 :: v113 :: v114 :: v115 :: v116 :: v117 :: v118 :: v119 :: v120 :: v121 :: v122 :: v123 :: v124 :: v125 :: v126 :: v127 :: v128 :: v129 :: v130 :: v131 :: v132 :: v133 :: v134 :: v135 :: v136 :: v137 :: v138 :: v139 :: v140 :: v141 :: v142 :: v143 :: v144 :: v145 :: v146 :: v147 :: v148 :: v149 :: v150 :: v151 :: v152 :: v153 :: v154 :: v155 :: v156 :: v157 :: v158 :: v159 :: v160 :: v161 :: v162 :: v163 :: v164 :: v165 :: v166 :: v167 :: v168 :: v169 :: v170 :: v171 :: v172 :: v173 :: v174 :: v175 :: v176 :: .bool bad :: u178 :: u179 :: u180 :: u181 :: u182 :: u183 :: u184 :: u185 :: u186 :: u187 :: u188 :: u189 :: u190 :: u191 :: u192 :: [])), []⟩ w')
    (hV : ¬ ((c.k ≠ 1 → c.o = 0) ∧ (bD = true → 0 ≤ c.d ∧ c.d < R) ∧ (bD = false → c.d = 0) ∧ (bN = true → 0 ≤ c.n ∧ c.n < m) ∧ (bN = false → c.n = 0))) :
    Code.wp Tryz.prog rcheckRegion Q ⟨(List.toArray (u0 :: .pointer (some ⟨p, 0, none⟩) :: u2 :: u3 :: u4 :: .pointer (some ⟨g, 0, none⟩) :: .pointer (some ⟨pu, 0, none⟩) :: .bool true :: u8 :: u9 :: u10 :: u11 :: u12 :: u13 :: u14 :: u15 :: u16 :: u17 :: u18 :: u19 :: u20 :: u21 :: u22 :: u23 :: u24 :: u25 :: u26 :: u27 :: u28 :: u29 :: u30 :: u31 :: u32 :: u33 :: u34 :: u35 :: u36 :: u37 :: u38 :: u39 :: u40 :: u41 :: u42 :: u43 :: u44 :: u45 :: u46 :: u47 :: u48 :: u49 :: u50 :: u51 :: u52 :: u53 :: u54 :: u55 :: u56 :: u57 :: u58 :: u59 :: u60 :: u61 :: u62 :: u63 :: u64 :: u65 :: u66 :: u67 :: u68 :: u69 :: u70 :: u71 :: u72 :: u73 :: u74 :: u75 :: u76 :: u77 :: u78 :: u79 :: u80 :: u81 :: u82 :: u83 :: u84 :: u85 :: u86 :: u87 :: u88 :: u89 :: u90 :: u91 :: u92 :: u93 :: u94 :: u95 :: u96 :: u97 :: u98 :: u99 :: u100 :: u101 :: u102 :: u103 :: u104 :: u105 :: u106 :: u107 :: u108 :: u109 :: u110 :: u111 :: u112 :: u113 :: u114 :: u115 :: u116 :: u117 :: u118 :: u119 :: u120 :: u121 :: u122 :: u123 :: u124 :: u125 :: u126 :: u127 :: u128 :: u129 :: u130 :: u131 :: u132 :: u133 :: u134 :: u135 :: u136 :: u137 :: u138 :: u139 :: u140 :: u141 :: u142 :: u143 :: u144 :: u145 :: u146 :: u147 :: u148 :: u149 :: u150 :: u151 :: u152 :: u153 :: u154 :: u155 :: u156 :: u157 :: u158 :: u159 :: u160 :: u161 :: u162 :: u163 :: u164 :: u165 :: u166 :: u167 :: u168 :: u169 :: u170 :: u171 :: u172 :: u173 :: u174 :: u175 :: u176 :: u177 :: u178 :: u179 :: u180 :: u181 :: u182 :: u183 :: u184 :: u185 :: u186 :: u187 :: u188 :: u189 :: u190 :: u191 :: u192 :: [])), []⟩ wr := by
  have HII := Lib.hid hii; have HX := Lib.hid hx; have HC := Lib.hid hc; have HU := Lib.hid hu; have HQ := Lib.hid hQ; have HV := Lib.hid hV
  clear _hra _hrb hii hx hc hu hQ hV
  conv => arg 2; whnf
  conv => arg 2; arg 2; simp only [List.append_eq, List.cons_append, List.nil_append]
  have q0 := cell_of_cells HX.out.f (i := 0) rfl
  have q1 := cell_of_cells HX.out.f (i := 1) rfl
  have q2 := cell_of_cells HX.out.f (i := 2) rfl
  have q3 := cell_of_cells HX.out.f (i := 3) rfl
  have q4 := cell_of_cells HX.out.f (i := 4) rfl
  have q5 := cell_of_cells HX.out.f (i := 5) rfl
  have e0 := cell_of_cells HC.out (i := 0) rfl
  have e1 := cell_of_cells HC.out (i := 1) rfl
  have e2 := cell_of_cells HC.out (i := 2) rfl
  have e3 := cell_of_cells HC.out (i := 3) rfl
  have e4 := cell_of_cells HC.out (i := 4) rfl
  have e5 := cell_of_cells HC.out (i := 5) rfl
  have e6 := cell_of_cells HC.out (i := 6) rfl
  have e7 := cell_of_cells HC.out (i := 7) rfl
  have z0 := cell_of_cells HU.out (i := 0) rfl
  have z1 := cell_of_cells HU.out (i := 1) rfl
  have z2 := cell_of_cells HU.out (i := 2) rfl
  have z3 := cell_of_cells HU.out (i := 3) rfl
  have z4 := cell_of_cells HU.out (i := 4) rfl
  cases bD <;> cases bN
  all_goals
    go_wp2_with fail
    all_goals
      first
        | exact HQ.out _ _ _ _ _ _ _ _ _ _ _ _ _ _ _ _ _ _ _ _ _ _ _ _ _ _ _ _ _ _ _ _ _ _ _ _ _ _ _ _ _ _ _ _ _ _ _ _ _ _ _ _ _ _ _ _ _ _ _ _ _ _ _ _ _ _ _ _ _ _ _ _ _ _ _ _ _ _ _ _ _ true _ ⟨(by intro h; cases h), fun h => absurd (HII.out.1 h).1 HV.out⟩ HX.out
        | (exfalso
           apply HV.out
           refine ⟨fun _ => ?_, fun _ => ?_, fun _ => ?_, fun _ => ?_, fun _ => ?_⟩ <;> first | omega | (exfalso; simp at *; done))
set_option maxRecDepth 100000 in
theorem rcheck_rest8 {u0 u2 u3 u4 u5 u6 u7 u8 u9 u10 u11 u12 u13 u14 u15 u16 u17 u18 u19 u20 u21 u22 u23 u24 u25 u26 u27 u28 u29 u30 u31 u32 u33 u34 u35 u36 u37 u38 u39 u40 u41 u42 u43 u44 u45 u46 u47 u48 u49 u50 u51 u52 u53 u54 u55 u56 u57 u58 u59 u60 u61 u62 u63 u64 u65 u66 u67 u68 u69 u70 u71 u72 u73 u74 u75 u76 u77 u78 u79 u80 u81 u82 u83 u84 u85 u86 u87 u88 u89 u90 u91 u92 u93 u94 u95 u96 u97 u98 u99 u100 u101 u102 u103 u104 u105 u106 u107 u108 u109 u110 u111 u112 u113 u114 u115 u116 u117 u118 u119 u120 u121 u122 u123 u124 u125 u126 u127 u128 u129 u130 u131 u132 u133 u134 u135 u136 u137 u138 u139 u140 u141 u142 u143 u144 u145 u146 u147 u148 u149 u150 u151 u152 u153 u154 u155 u156 u157 u158 u159 u160 u161 u162 u163 u164 u165 u166 u167 u168 u169 u170 u171 u172 u173 u174 u175 u176 u177 u178 u179 u180 u181 u182 u183 u184 u185 u186 u187 u188 u189 u190 u191 u192 : Value} (hin : FlIn w W R ch st ars cs a1 a2 a3 a4 nc ns na nk c1 c2 c3 c4 P) (hx : FBx w wr p #[.int .i64 W, .int .i64 R, .slice a1 nc c1, .slice a2 ns c2, .slice a3 na c3, .slice a4 nk c4]) (hars : ∀ n ∈ ars, 1 ≤ n ∧ n ≤ 64) :
    Code.wp Tryz.prog (rcheckRest 8) (bodyPost Tryz.prog Tryz.f17 (ErrPost P w)) ⟨(List.toArray (u0 :: .pointer (some ⟨p, 0, none⟩) :: u2 :: u3 :: u4 :: u5 :: u6 :: u7 :: u8 :: u9 :: u10 :: u11 :: u12 :: u13 :: u14 :: u15 :: u16 :: u17 :: u18 :: u19 :: u20 :: u21 :: u22 :: u23 :: u24 :: u25 :: u26 :: u27 :: u28 :: u29 :: u30 :: u31 :: u32 :: u33 :: u34 :: u35 :: u36 :: u37 :: u38 :: u39 :: u40 :: u41 :: u42 :: u43 :: u44 :: u45 :: u46 :: u47 :: u48 :: u49 :: u50 :: u51 :: u52 :: u53 :: u54 :: u55 :: u56 :: u57 :: u58 :: u59 :: u60 :: u61 :: u62 :: u63 :: u64 :: u65 :: u66 :: u67 :: u68 :: u69 :: u70 :: u71 :: u72 :: u73 :: u74 :: u75 :: u76 :: u77 :: u78 :: u79 :: u80 :: u81 :: u82 :: u83 :: u84 :: u85 :: u86 :: u87 :: u88 :: u89 :: u90 :: u91 :: u92 :: u93 :: u94 :: u95 :: u96 :: u97 :: u98 :: u99 :: u100 :: u101 :: u102 :: u103 :: u104 :: u105 :: u106 :: u107 :: u108 :: u109 :: u110 :: u111 :: u112 :: u113 :: u114 :: u115 :: u116 :: u117 :: u118 :: u119 :: u120 :: u121 :: u122 :: u123 :: u124 :: u125 :: u126 :: u127 :: u128 :: u129 :: u130 :: u131 :: u132 :: u133 :: u134 :: u135 :: u136 :: u137 :: u138 :: u139 :: u140 :: u141 :: u142 :: u143 :: u144 :: u145 :: u146 :: u147 :: u148 :: u149 :: u150 :: u151 :: u152 :: u153 :: u154 :: u155 :: u156 :: u157 :: u158 :: u159 :: u160 :: u161 :: u162 :: u163 :: u164 :: u165 :: u166 :: u167 :: u168 :: u169 :: u170 :: u171 :: u172 :: u173 :: u174 :: u175 :: u176 :: u177 :: u178 :: u179 :: u180 :: u181 :: u182 :: u183 :: u184 :: u185 :: u186 :: u187 :: u188 :: u189 :: u190 :: u191 :: u192 :: [])), []⟩ wr := by
  have bk := hin.few.2.2
  have HI := Lib.hid hin; have HX := Lib.hid hx; have HA := Lib.hid hars
  clear hin hx hars
  conv => arg 2; whnf
  go_wp2
  go_loopw [4] (fun i wx => ∃ j : Nat, j ≤ nk ∧ i = .int .i64 j ∧ (∀ c ∈ cs.take j, InstrOk W R na nc ns nk c) ∧ FBx w wx p #[.int .i64 W, .int .i64 R, .slice a1 nc c1, .slice a2 ns c2, .slice a3 na c3, .slice a4 nk c4]) (fun i _ => nk - (intOf i).toNat)
  case atStart => exact ⟨0, Nat.zero_le _, rfl, by simp, HX.out⟩
  case round =>
    obtain ⟨j, hj, rfl, hcj, hbx⟩ := hrel
    replace HX := Lib.hid hbx
    obtain ⟨ak, n', cap', e, hl', hm', hx⟩ := HI.out.of.codes.later hbx.below
    simp only [Value.slice.injEq] at e
    obtain ⟨rfl, rfl, rfl⟩ := e
    have HCJ := Lib.hid hcj
    clear hcj hbx
    by_cases hlt : j < nk
    · obtain ⟨b, off, c, rfl, hck, hcok, d0, d1, d2, d3, d4, d5, d6, d7⟩ := hx j hlt
      have HCK := Lib.hid (And.intro hck hcok)
      have hlt' : (j : Int) < (nk : Int) := by omega
      have j0 : (0 : Int) ≤ (j : Int) := by omega
      clear hx hck hcok hl' hm'
      have q0 := cell_of_cells HX.out.f (i := 0) rfl
      have q1 := cell_of_cells HX.out.f (i := 1) rfl
      have q2 := cell_of_cells HX.out.f (i := 2) rfl
      have q3 := cell_of_cells HX.out.f (i := 3) rfl
      have q4 := cell_of_cells HX.out.f (i := 4) rfl
      have q5 := cell_of_cells HX.out.f (i := 5) rfl
      go_upto_region 12 with fail
      refine wp_abs (fun wx => FBx w wx p #[.int .i64 W, .int .i64 R, .slice a1 nc c1, .slice a2 ns c2, .slice a3 na c3, .slice (some ⟨b, off, none⟩) nk c4] ∧ wx.heap[wr.heap.size]? = some (.cells #[.int .u8 c.k, .int .u8 c.o, .int .i64 c.d, .int .i64 c.n, .int .i64 c.ar, .int .u64 c.an, .int .i64 c.br, .int .u64 c.bn] 83 (0, 0))) ⟨HX.out.later (below_new _ _), heap_alloc_new _ _⟩ ?_
      rintro w2 ⟨hx2, hcb⟩
      obtain ⟨g, hg⟩ : ∃ g, wr.heap.size = g := ⟨_, rfl⟩
      rw [hg] at hcb
      clear q0 q1 q2 q3 q4 q5 d0 d1 d2 d3 d4 d5 d6 d7
      replace HX := Lib.hid hx2
      have HCB := Lib.hid hcb
      clear hx2
      have q0 := cell_of_cells HX.out.f (i := 0) rfl
      have q1 := cell_of_cells HX.out.f (i := 1) rfl
      have q2 := cell_of_cells HX.out.f (i := 2) rfl
      have q3 := cell_of_cells HX.out.f (i := 3) rfl
      have q4 := cell_of_cells HX.out.f (i := 4) rfl
      have q5 := cell_of_cells HX.out.f (i := 5) rfl
      have e0 := cell_of_cells hcb (i := 0) rfl
      have e1 := cell_of_cells hcb (i := 1) rfl
      have e2 := cell_of_cells hcb (i := 2) rfl
      have e3 := cell_of_cells hcb (i := 3) rfl
      have e4 := cell_of_cells hcb (i := 4) rfl
      have e5 := cell_of_cells hcb (i := 5) rfl
      have e6 := cell_of_cells hcb (i := 6) rfl
      have e7 := cell_of_cells hcb (i := 7) rfl
      have hfl := HI.out.rfields HCK.out.2 w2
      unfold CodeD.val at hfl
      have HFL := Lib.hid hfl
      clear hfl hcb
      go_wp2_with fail
      go_at_call 37
      refine HFL.out.mono ?_
      rintro e w5 ⟨hb5, he⟩
      clear q0 q1 q2 q3 q4 q5 e0 e1 e2 e3 e4 e5 e6 e7 HFL
      replace HX := Lib.hid (HX.out.later hb5)
      have hcb := (hb5.block g (Array.getElem?_eq_some_iff.1 HCB.out).1).trans HCB.out
      clear hb5 hg HCB
      rcases he with ⟨hok, rfl⟩ | ⟨hbad, y0, y1, y2, y3, y4, rfl⟩
      · obtain ⟨m, hm⟩ : ∃ m, mostR na nc ns nk c.k = m := ⟨_, rfl⟩
        obtain ⟨bD, hbD⟩ : ∃ b, kD c.k = b := ⟨_, rfl⟩
        obtain ⟨bN, hbN⟩ : ∃ b, decide (kN c.k ≠ 0) = b := ⟨_, rfl⟩
        obtain ⟨bA, hbA⟩ : ∃ b, kA c.k = b := ⟨_, rfl⟩
        obtain ⟨bB, hbB⟩ : ∃ b, hasB2 c.k c.o = b := ⟨_, rfl⟩
        have hii := instr_iff (W := W) (R := R) (na := na) (nc := nc) (ns := ns) (nk := nk) c
        have hra := HI.out.rref c.ar c.an HCK.out.2.2.2.1 (kA c.k)
        have hrb := HI.out.rref c.br c.bn HCK.out.2.2.2.2 (hasB2 c.k c.o)
        rw [hm, hbD, hbN, hbA, hbB] at hii ⊢
        rw [hbA] at hra
        rw [hbB] at hrb
        obtain ⟨rA, hrA⟩ : ∃ b, refB W R c.ar c.an bA = b := ⟨_, rfl⟩
        obtain ⟨rB, hrB⟩ : ∃ b, refB W R c.br c.bn bB = b := ⟨_, rfl⟩
        rw [hrA, hrB] at hii
        rw [hrA] at hra
        rw [hrB] at hrb
        have HRA := Lib.hid hra; have HRB := Lib.hid hrb
        have hno : ¬ InstrOk W R na nc ns nk c → ¬ P := fun h1 h => h1 (by
          have h1 := (HI.out.iff.2 h).codes c (List.mem_of_getElem? HCK.out.1)
          have h2 := HI.out.lens
          simp only at h1
          rwa [h2.1, h2.2.1, h2.2.2.1, h2.2.2.2] at h1)
        have HNO := Lib.hid hno
        have HII := Lib.hid (show InstrOk W R na nc ns nk c ↔ (((c.k ≠ 1 → c.o = 0) ∧ (bD = true → 0 ≤ c.d ∧ c.d < R) ∧ (bD = false → c.d = 0) ∧ (bN = true → 0 ≤ c.n ∧ c.n < m) ∧ (bN = false → c.n = 0)) ∧ rA = true ∧ rB = true) from ⟨fun h => (hii.1 h).2, fun h => hii.2 ⟨hok, h⟩⟩)
        clear hm hbD hbN hbA hbB hii hra hrb hrA hrB hno hok
        go_upto_region 13 with fail
        refine wp_abs (fun wx => FBx w wx p #[.int .i64 W, .int .i64 R, .slice a1 nc c1, .slice a2 ns c2, .slice a3 na c3, .slice (some ⟨b, off, none⟩) nk c4] ∧ wx.heap[g]? = some (.cells #[.int .u8 c.k, .int .u8 c.o, .int .i64 c.d, .int .i64 c.n, .int .i64 c.ar, .int .u64 c.an, .int .i64 c.br, .int .u64 c.bn] 83 (0, 0)) ∧ wx.heap[w5.heap.size]? = some (.cells #[.bool bD, .bool bN, .bool bA, .bool bB, .int .i64 m] 85 (0, 0))) ⟨HX.out.later (below_new _ _), ((below_new w5 _).block g (Array.getElem?_eq_some_iff.1 hcb).1).trans hcb, heap_alloc_new _ _⟩ ?_
        rintro w6 ⟨hx6, hc6, hu6⟩
        obtain ⟨pu, hpu⟩ : ∃ pu, w5.heap.size = pu := ⟨_, rfl⟩
        rw [hpu] at hu6
        replace HX := Lib.hid hx6
        have HC := Lib.hid hc6; have HU := Lib.hid hu6
        clear hx6 hc6 hu6 hcb
        simp only [hpu]
        clear hpu
        have HNB := Lib.hid (show ¬ InstrOk W R na nc ns nk c → ¬ P from HNO.out)
        by_cases hV : (c.k ≠ 1 → c.o = 0) ∧ (bD = true → 0 ≤ c.d ∧ c.d < R) ∧ (bD = false → c.d = 0) ∧ (bN = true → 0 ≤ c.n ∧ c.n < m) ∧ (bN = false → c.n = 0)
        · refine rcheck_pos HRA.out HRB.out HII.out HX.out HC.out HU.out ?_ hV
          intro v96 v97 v98 v99 v100 v101 v102 v103 v104 v105 v106 v107 v108 v109 v110 v111 v112 v113 v114 v115 v116 v117 v118 v119 v120 v121 v122 v123 v124 v125 v126 v127 v128 v129 v130 v131 v132 v133 v134 v135 v136 v137 v138 v139 v140 v141 v142 v143 v144 v145 v146 v147 v148 v149 v150 v151 v152 v153 v154 v155 v156 v157 v158 v159 v160 v161 v162 v163 v164 v165 v166 v167 v168 v169 v170 v171 v172 v173 v174 v175 v176 bad w9 hbd hx9
          replace HX := Lib.hid hx9
          have HBD := Lib.hid hbd
          clear hx9 hbd hV HC HU HRA HRB
          cases bad with
          | true =>
            go_wp2
            go_ret
            exact ErrPost.bad (HNB.out (fun h => by cases HBD.out.2 h)) HX.out.below
          | false =>
            go_wp2
            refine ⟨⟨j + 1, by omega, by go_num, fun x hxm => ?_, HX.out⟩, by simp [intOf]; omega⟩
            rw [List.take_add_one, HCK.out.1] at hxm
            rcases List.mem_append.1 hxm with hxm | hxm
            · exact HCJ.out x hxm
            · obtain rfl : x = c := by simpa using hxm
              exact HBD.out.1 (by simp)
        · refine rcheck_neg HRA.out HRB.out HII.out HX.out HC.out HU.out ?_ hV
          intro v96 v97 v98 v99 v100 v101 v102 v103 v104 v105 v106 v107 v108 v109 v110 v111 v112 v113 v114 v115 v116 v117 v118 v119 v120 v121 v122 v123 v124 v125 v126 v127 v128 v129 v130 v131 v132 v133 v134 v135 v136 v137 v138 v139 v140 v141 v142 v143 v144 v145 v146 v147 v148 v149 v150 v151 v152 v153 v154 v155 v156 v157 v158 v159 v160 v161 v162 v163 v164 v165 v166 v167 v168 v169 v170 v171 v172 v173 v174 v175 v176 bad w9 hbd hx9
          replace HX := Lib.hid hx9
          have HBD := Lib.hid (show bad = true from by cases bad with | true => rfl | false => exact absurd (HII.out.1 (hbd.1 rfl)).1 hV)
          have HN := Lib.hid (HNB.out (fun h => hV (HII.out.1 h).1))
          obtain rfl := HBD.out
          clear hx9 hbd hV HC HU HRA HRB
          go_wp2
          go_ret
          exact ErrPost.bad HN.out HX.out.below
      · have HNO := Lib.hid (fun (h : P) => by
          have h1 := (HI.out.iff.2 h).codes c (List.mem_of_getElem? HCK.out.1)
          exact hbad ((instr_iff c).1 h1).1)
        clear hbad hcb
        go_upto_region 13 with fail
        conv => arg 2; arg 2; simp only [List.append_eq, List.cons_append, List.nil_append]
        go_wp2
        go_ret
        exact ErrPost.bad HNO.out (HX.out.later (below_new _ _)).below
    · obtain rfl : j = nk := by omega
      rw [List.take_of_length_le (by have := HI.out.lens; omega)] at HCJ
      have hfew := HI.out.few
      obtain ⟨b, off, c, rfl, hck, hcok, d0, -⟩ := hx (j - 1) (by omega)
      obtain ⟨m, rfl⟩ : ∃ m, j = m + 1 := ⟨j - 1, by omega⟩
      rw [Nat.add_sub_cancel] at hck d0
      have HCK := Lib.hid (And.intro hck hcok)
      have m0 : (m : Int) < ((m + 1 : Nat) : Int) := by omega
      have m1 : (0 : Int) ≤ (m : Int) := by omega
      have m2 : m + 1 ≤ 4096 := hfew.2.2
      have HM := Lib.hid hl'
      clear hx hck hcok hl' hm' hfew
      have q0 := cell_of_cells HX.out.f (i := 0) rfl
      have q1 := cell_of_cells HX.out.f (i := 1) rfl
      have q2 := cell_of_cells HX.out.f (i := 2) rfl
      have q3 := cell_of_cells HX.out.f (i := 3) rfl
      have q4 := cell_of_cells HX.out.f (i := 4) rfl
      have q5 := cell_of_cells HX.out.f (i := 5) rfl
      have hlast : ∀ c', cs[cs.length - 1]? = some c' → c' = c := fun c' h => by
        have h2 := HI.out.lens.2.2.2
        rw [h2, Nat.add_sub_cancel, HCK.out.1] at h
        exact (Option.some.inj h).symm
      have HLA := Lib.hid hlast
      clear hlast
      have hfin : (c.k = 9 ∨ c.k = 7) → P := fun hk => HI.out.iff.1 ⟨HI.out.wid.1, HI.out.wid.2, HI.out.names.1, HI.out.names.2, by have := HI.out.lens; have := HI.out.few; show ars.length ≤ 32; omega, by have := HI.out.lens; have := HI.out.few; show 1 ≤ cs.length ∧ cs.length ≤ 4096; omega, HA.out, fun c' hc' => by
        have h2 := HI.out.lens
        simp only
        rw [h2.1, h2.2.1, h2.2.2.1, h2.2.2.2]
        exact HCJ.out c' hc', fun c' h => by rw [HLA.out c' h]; exact hk⟩
      have hbad : ¬ (c.k = 9 ∨ c.k = 7) → ¬ P := fun hk h => hk ((HI.out.iff.2 h).last c (by have h2 := HI.out.lens.2.2.2; show cs[cs.length - 1]? = some c; rw [h2, Nat.add_sub_cancel]; exact HCK.out.1))
      have HFIN := Lib.hid (And.intro hfin hbad)
      clear hfin hbad
      obtain ⟨kk, hkk⟩ : ∃ kk, c.k = kk := ⟨_, rfl⟩
      rw [hkk] at d0 HFIN
      clear hkk
      by_cases h9 : kk = 9
      · have g1 : ((kk : Int) != 9) = false := by rw [bne_eq_false_iff_eq]; omega
        have H9 := Lib.hid h9
        clear h9
        go_wp2
        go_ret
        exact ErrPost.good (HFIN.out.1 (.inl H9.out)) HX.out.below
      · have g1 : ((kk : Int) != 9) = true := by rw [bne_iff_ne]; omega
        by_cases h7 : kk = 7
        · have g2 : ((kk : Int) != 7) = false := by rw [bne_eq_false_iff_eq]; omega
          have H7 := Lib.hid h7
          clear h9 h7
          go_wp2
          go_ret
          exact ErrPost.good (HFIN.out.1 (.inr H7.out)) HX.out.below
        · have g2 : ((kk : Int) != 7) = true := by rw [bne_iff_ne]; omega
          have HNO := Lib.hid (HFIN.out.2 (by omega))
          clear h9 h7
          go_wp2
          go_ret
          exact ErrPost.bad HNO.out HX.out.below
end
end Go.Proofs.YtiklidgcmheofaaGreatDoor
namespace Go.Proofs.YtiklidgcmheofaaGreatDoor
open Go.RowKit Go.Maps
set_option maxHeartbeats 12800000
section
variable {w wr : World} {W R : Int} {ch st : List ByteArray} {ars : List Int} {cs : List CodeD} {a1 a2 a3 a4 : Option Addr} {nc ns na nk c1 c2 c3 c4 p : Nat} {P : Prop}
set_option maxRecDepth 100000 in
theorem rcheck_rest3 {u0 u2 u3 u4 u5 u6 u7 u8 u9 u10 u11 u12 u13 u14 u15 u16 u17 u18 u19 u20 u21 u22 u23 u24 u25 u26 u27 u28 u29 u30 u31 u32 u33 u34 u35 u36 u37 u38 u39 u40 u41 u42 u43 u44 u45 u46 u47 u48 u49 u50 u51 u52 u53 u54 u55 u56 u57 u58 u59 u60 u61 u62 u63 u64 u65 u66 u67 u68 u69 u70 u71 u72 u73 u74 u75 u76 u77 u78 u79 u80 u81 u82 u83 u84 u85 u86 u87 u88 u89 u90 u91 u92 u93 u94 u95 u96 u97 u98 u99 u100 u101 u102 u103 u104 u105 u106 u107 u108 u109 u110 u111 u112 u113 u114 u115 u116 u117 u118 u119 u120 u121 u122 u123 u124 u125 u126 u127 u128 u129 u130 u131 u132 u133 u134 u135 u136 u137 u138 u139 u140 u141 u142 u143 u144 u145 u146 u147 u148 u149 u150 u151 u152 u153 u154 u155 u156 u157 u158 u159 u160 u161 u162 u163 u164 u165 u166 u167 u168 u169 u170 u171 u172 u173 u174 u175 u176 u177 u178 u179 u180 u181 u182 u183 u184 u185 u186 u187 u188 u189 u190 u191 u192 : Value} (hin : FlIn w W R ch st ars cs a1 a2 a3 a4 nc ns na nk c1 c2 c3 c4 P) (hx : FBx w wr p #[.int .i64 W, .int .i64 R, .slice a1 nc c1, .slice a2 ns c2, .slice a3 na c3, .slice a4 nk c4]) :
    Code.wp Tryz.prog (rcheckRest 3) (bodyPost Tryz.prog Tryz.f17 (ErrPost P w)) ⟨(List.toArray (u0 :: .pointer (some ⟨p, 0, none⟩) :: u2 :: u3 :: u4 :: u5 :: u6 :: u7 :: u8 :: u9 :: u10 :: u11 :: u12 :: u13 :: u14 :: u15 :: u16 :: u17 :: u18 :: u19 :: u20 :: u21 :: u22 :: u23 :: u24 :: u25 :: u26 :: u27 :: u28 :: u29 :: u30 :: u31 :: u32 :: u33 :: u34 :: u35 :: u36 :: u37 :: u38 :: u39 :: u40 :: u41 :: u42 :: u43 :: u44 :: u45 :: u46 :: u47 :: u48 :: u49 :: u50 :: u51 :: u52 :: u53 :: u54 :: u55 :: u56 :: u57 :: u58 :: u59 :: u60 :: u61 :: u62 :: u63 :: u64 :: u65 :: u66 :: u67 :: u68 :: u69 :: u70 :: u71 :: u72 :: u73 :: u74 :: u75 :: u76 :: u77 :: u78 :: u79 :: u80 :: u81 :: u82 :: u83 :: u84 :: u85 :: u86 :: u87 :: u88 :: u89 :: u90 :: u91 :: u92 :: u93 :: u94 :: u95 :: u96 :: u97 :: u98 :: u99 :: u100 :: u101 :: u102 :: u103 :: u104 :: u105 :: u106 :: u107 :: u108 :: u109 :: u110 :: u111 :: u112 :: u113 :: u114 :: u115 :: u116 :: u117 :: u118 :: u119 :: u120 :: u121 :: u122 :: u123 :: u124 :: u125 :: u126 :: u127 :: u128 :: u129 :: u130 :: u131 :: u132 :: u133 :: u134 :: u135 :: u136 :: u137 :: u138 :: u139 :: u140 :: u141 :: u142 :: u143 :: u144 :: u145 :: u146 :: u147 :: u148 :: u149 :: u150 :: u151 :: u152 :: u153 :: u154 :: u155 :: u156 :: u157 :: u158 :: u159 :: u160 :: u161 :: u162 :: u163 :: u164 :: u165 :: u166 :: u167 :: u168 :: u169 :: u170 :: u171 :: u172 :: u173 :: u174 :: u175 :: u176 :: u177 :: u178 :: u179 :: u180 :: u181 :: u182 :: u183 :: u184 :: u185 :: u186 :: u187 :: u188 :: u189 :: u190 :: u191 :: u192 :: [])), []⟩ wr := by
  have bk := hin.few.1
  have har := hin.of.arrays.laterF hx.below
  have HI := Lib.hid hin; have HX := Lib.hid hx; have HAR := Lib.hid har
  clear hin hx har
  conv => arg 2; whnf
  have q0 := cell_of_cells HX.out.f (i := 0) rfl
  have q1 := cell_of_cells HX.out.f (i := 1) rfl
  have q2 := cell_of_cells HX.out.f (i := 2) rfl
  have q3 := cell_of_cells HX.out.f (i := 3) rfl
  have q4 := cell_of_cells HX.out.f (i := 4) rfl
  have q5 := cell_of_cells HX.out.f (i := 5) rfl
  refine wp_seq_k ?_
  intro K1 hK1
  go_cut [3] (fun _ wx => (∀ n ∈ ars, 1 ≤ n ∧ n ≤ 64) ∧ wr = wx)
  case first =>
    go_wp2
    go_loop [3] (fun i => ∃ k : Nat, k ≤ na ∧ i = .int .i64 k ∧ ∀ n ∈ ars.take k, 1 ≤ n ∧ n ≤ 64) (fun i => na - (intOf i).toNat)
    case atStart => exact ⟨0, Nat.zero_le _, rfl, by simp⟩
    case round =>
      obtain ⟨k, hk, rfl, ha⟩ := hrel
      by_cases hlt : k < na
      · obtain ⟨a', n', c', e, hl', hx⟩ := HAR.out
        simp only [Value.slice.injEq] at e
        obtain ⟨rfl, rfl, rfl⟩ := e
        obtain ⟨b, off, rfl, hc⟩ := hx k hlt
        obtain ⟨x, hxk⟩ : ∃ x, ars[k]? = some x := ⟨_, List.getElem?_eq_getElem (by omega)⟩
        have ex : ars.getD k 0 = x := by rw [List.getD_eq_getElem?_getD, hxk]; rfl
        rw [ex] at hc
        have HXK := Lib.hid hxk; have HA := Lib.hid ha
        have hlt' : (k : Int) < (na : Int) := by omega
        have k0 : (0 : Int) ≤ (k : Int) := by omega
        clear hx hxk ha ex hl'
        by_cases hv : 1 ≤ x ∧ x ≤ 64
        · have j1 : decide (x < 1) = false := decide_eq_false (by omega)
          have j2 : decide ((64 : Int) < x) = false := decide_eq_false (by omega)
          have HV := Lib.hid hv
          clear hv
          go_wp2
          refine ⟨⟨k + 1, by omega, by go_num, fun n hn => ?_⟩, by simp [intOf]; omega⟩
          rw [List.take_add_one, HXK.out] at hn
          rcases List.mem_append.1 hn with hn | hn
          · exact HA.out n hn
          · obtain rfl : n = x := by simpa using hn
            exact HV.out
        · have HNO := Lib.hid (fun (h : P) => hv ((HI.out.iff.2 h).arrays x (List.mem_of_getElem? HXK.out)))
          have HV := Lib.hid hv
          clear hv
          go_wp2
          all_goals
            first
              | (go_ret
                 exact ErrPost.bad HNO.out HX.out.below)
              | (exfalso
                 have := HV.out
                 omega)
      · obtain rfl : k = na := by omega
        rw [List.take_of_length_le (by have := HI.out.lens; omega)] at ha
        have HA := Lib.hid ha
        clear ha
        go_wp2
        go_meet
        exact ⟨HA.out, rfl⟩
  obtain ⟨hars, rfl⟩ := hcut
  refine hK1 _ _ ?_
  exact rcheck_rest8 HI.out HX.out hars
end
set_option maxRecDepth 100000 in
theorem rcheck25_any {w : World} (f : FlatD) (v1 v2 v3 v4 : Value) (hf : FlatOf w f v1 v2 v3 v4) (hT : ShpOk w) :
    Calls Tryz.prog 17 #[.agg #[.int .i64 f.W, .int .i64 f.R, v1, v2, v3, v4]] w (ErrPost (FlatOk f) w) := by
  have hn1 := fun (wx : World) (hb : Below w.heap.size w wx) => rnames_any (hf.chans.later hb)
  have hn2 := fun (wx : World) (hb : Below w.heap.size w wx) => rnames_any (hf.sites.later hb)
  have HF := Lib.hid hf
  have HT := Lib.hid hT
  obtain ⟨a1, nc, c1, rfl, hl1, -⟩ := hf.chans
  obtain ⟨a2, ns, c2, rfl, hl2, -⟩ := hf.sites
  obtain ⟨a3, na, c3, rfl, hl3, -⟩ := hf.arrays.parts
  obtain ⟨a4, nk, c4, rfl, hl4, hm4, -⟩ := hf.codes
  have hin := fun (wx : World) (hb : Below w.heap.size w wx) (c : CodeD) (hc : c.Ok) (h1 : 1 ≤ f.W) (h2 : f.W ≤ 64) => finstr_any (a1 := a1) (a2 := a2) (a3 := a3) (a4 := a4) (nc := nc) (ns := ns) (na := na) (nk := nk) (c1 := c1) (c2 := c2) (c3 := c3) (c4 := c4) f h1 h2 c hc (hT.later hb)
  have HIN := Lib.hid hin
  have HN1 := Lib.hid hn1; have HN2 := Lib.hid hn2
  have HLL := Lib.hid (And.intro hl1 (And.intro hl2 (And.intro hl3 (And.intro hl4 hm4))))
  have HX0 := Lib.hid (FBx.mk (w := w) (p := w.heap.size) (fa := #[.int .i64 f.W, .int .i64 f.R, .slice a1 nc c1, .slice a2 ns c2, .slice a3 na c3, .slice a4 nk c4]) (Below.alloc (Below.refl w.heap.size w) (Nat.le_refl _) _) (heap_alloc_new w _))
  obtain ⟨W, R, ch, st, ars, cs⟩ := f
  simp only at HN1 HN2 HLL HIN HF HX0 ⊢
  obtain ⟨P, hP⟩ : ∃ P, FlatOk ⟨W, R, ch, st, ars, cs⟩ = P := ⟨_, rfl⟩
  rw [hP]
  have HP := Lib.hid (show FlatOk ⟨W, R, ch, st, ars, cs⟩ ↔ P by rw [hP])
  clear hf hT hn1 hn2 hin hl1 hl2 hl3 hl4 hm4 hP
  by_cases hWR : (1 ≤ W ∧ W ≤ 64) ∧ (0 ≤ R ∧ R ≤ 2097152)
  · obtain ⟨⟨w1, w2⟩, r1, r2⟩ := hWR
    have HWR := Lib.hid (And.intro (And.intro w1 w2) (And.intro r1 r2))
    have g1 : decide (W < 1) = false := decide_eq_false (by omega)
    have g2 : decide ((64 : Int) < W) = false := decide_eq_false (by omega)
    have g3 : decide (R < 0) = false := decide_eq_false (by omega)
    have g4 : decide ((2097152 : Int) < R) = false := decide_eq_false (by omega)
    clear w1 w2 r1 r2
    cases hb1 : namesB ch with
    | false =>
      simp only [hb1] at HN1
      have HB := Lib.hid hb1
      clear hb1
      go_enter Tryz.func17, Tryz.ntmps17
      go_wp2_with fail
      go_at_call 36
      refine (HN1.out _ HX0.out.below).mono ?_
      rintro e w5 ⟨rfl, hb5⟩
      have HX := Lib.hid (HX0.out.later hb5)
      clear hb5
      go_wp2
      go_ret
      exact ErrPost.bad (fun h => by have := (HP.out.2 h).chans; simp only [HB.out] at this; cases this) HX.out.below
    | true =>
      simp only [hb1] at HN1
      have HB1 := Lib.hid hb1
      clear hb1
      cases hb2 : namesB st with
      | false =>
        simp only [hb2] at HN2
        have HB := Lib.hid hb2
        clear hb2
        go_enter Tryz.func17, Tryz.ntmps17
        go_wp2_with fail
        go_at_call 36
        refine (HN1.out _ HX0.out.below).mono ?_
        rintro e w5 ⟨rfl, hb5⟩
        have HX := Lib.hid (HX0.out.later hb5)
        clear hb5
        have q0 := cell_of_cells HX.out.f (i := 0) rfl
        have q1 := cell_of_cells HX.out.f (i := 1) rfl
        have q2 := cell_of_cells HX.out.f (i := 2) rfl
        have q3 := cell_of_cells HX.out.f (i := 3) rfl
        have q4 := cell_of_cells HX.out.f (i := 4) rfl
        have q5 := cell_of_cells HX.out.f (i := 5) rfl
        go_wp2_with fail
        go_at_call 36
        refine (HN2.out _ HX.out.below).mono ?_
        rintro e w6 ⟨rfl, hb6⟩
        clear q0 q1 q2 q3 q4 q5
        replace HX := Lib.hid (HX.out.later hb6)
        clear hb6
        go_wp2
        go_ret
        exact ErrPost.bad (fun h => by have := (HP.out.2 h).sites; simp only [HB.out] at this; cases this) HX.out.below
      | true =>
        simp only [hb2] at HN2
        have HB2 := Lib.hid hb2
        clear hb2
        go_enter Tryz.func17, Tryz.ntmps17
        go_wp2_with fail
        go_at_call 36
        refine (HN1.out _ HX0.out.below).mono ?_
        rintro e w5 ⟨rfl, hb5⟩
        have HX := Lib.hid (HX0.out.later hb5)
        clear hb5
        have q0 := cell_of_cells HX.out.f (i := 0) rfl
        have q1 := cell_of_cells HX.out.f (i := 1) rfl
        have q2 := cell_of_cells HX.out.f (i := 2) rfl
        have q3 := cell_of_cells HX.out.f (i := 3) rfl
        have q4 := cell_of_cells HX.out.f (i := 4) rfl
        have q5 := cell_of_cells HX.out.f (i := 5) rfl
        go_wp2_with fail
        go_at_call 36
        refine (HN2.out _ HX.out.below).mono ?_
        rintro e w6 ⟨rfl, hb6⟩
        clear q0 q1 q2 q3 q4 q5
        replace HX := Lib.hid (HX.out.later hb6)
        clear hb6
        have q0 := cell_of_cells HX.out.f (i := 0) rfl
        have q1 := cell_of_cells HX.out.f (i := 1) rfl
        have q2 := cell_of_cells HX.out.f (i := 2) rfl
        have q3 := cell_of_cells HX.out.f (i := 3) rfl
        have q4 := cell_of_cells HX.out.f (i := 4) rfl
        have q5 := cell_of_cells HX.out.f (i := 5) rfl
        by_cases hn : na ≤ 32 ∧ 1 ≤ nk ∧ nk ≤ 4096
        · obtain ⟨n1, n2, n3⟩ := hn
          have HNN := Lib.hid (And.intro n1 (And.intro n2 n3))
          have k1 : decide ((32 : Int) < (na : Int)) = false := decide_eq_false (by omega)
          have k2 : decide ((nk : Int) < 1) = false := decide_eq_false (by omega)
          have k3 : decide ((4096 : Int) < (nk : Int)) = false := decide_eq_false (by omega)
          clear n1 n2 n3
          have hfi : FlIn w W R ch st ars cs a1 a2 a3 a4 nc ns na nk c1 c2 c3 c4 P := ⟨HF.out, HT.out, HWR.out, ⟨HB1.out, HB2.out⟩, by have := HLL.out; omega, HNN.out, HP.out⟩
          have HFI := Lib.hid hfi
          clear hfi
          go_upto_if 56 with fail
          go_cut [2] (fun s2 wx => w6 = wx)
          case first =>
            go_wp2
            go_meet
            rfl
          case rest =>
            obtain rfl := hcut
            exact (show ∀ (a : Act) (w : World), Code.wp Tryz.prog (rcheckRest 3) _ a w → _ by assumption) _ _ (rcheck_rest3 HFI.out HX.out)
        · have hn' : ¬ FlatOk ⟨W, R, ch, st, ars, cs⟩ := fun h => hn (by have h1 := h.na; have h2 := h.nk; have h3 := HLL.out; simp only at h1 h2; omega)
          have HNO := Lib.hid (fun h => hn' (HP.out.2 h)); have HNN := Lib.hid hn
          clear hn hn'
          go_wp2
          all_goals
            first
              | (go_ret
                 exact ErrPost.bad HNO.out HX.out.below)
              | (exfalso
                 have := HNN.out
                 omega)
  · have hno : ¬ FlatOk ⟨W, R, ch, st, ars, cs⟩ := fun h => hWR ⟨h.W, h.R⟩
    have HNO := Lib.hid (fun h => hno (HP.out.2 h)); have HWR := Lib.hid hWR
    clear hno hWR
    go_enter Tryz.func17, Tryz.ntmps17
    go_wp2_with fail
    all_goals
      first
        | (go_ret
           exact ErrPost.bad HNO.out HX0.out.below)
        | (exfalso
           have := HWR.out
           omega)
end Go.Proofs.YtiklidgcmheofaaGreatDoor
