/- TwinAll: the drawn region that appends to a row of each list. Printed by wip/gentwinall.py. -/
import Derived.Test.YtmfendfpjpbhdaaDoorTwinV
namespace Go.Proofs.YtmfendfpjpbhdaaDoor
open Go.RowKit Go.Maps
set_option maxHeartbeats 3200000

noncomputable def allRegion (id : Nat) : Code := (Tryd.f5.body.bind (regionBy id)).getD .skip
def AllT (ga gb c : Nat) (sa sb : Value) (w : World) : Prop := w.cell? ⟨ga, c, none⟩ = some sa ∧ w.cell? ⟨gb, c, none⟩ = some sb
section
variable {w0 wq wr w' : World} {ts : List Thing}
/-- One value, which lies in a box, is appended to a list of one's own. -/
theorem run_append_box {ao : Option Addr} {c m sb : Nat} {cells : List Value} {u : Value} (T ty E bytes : Nat) (z : Value)
    (h : Lab w0 wr (Thing.row E 1 (.slice ao m c) m cells :: Thing.box sb E #[u] :: ts)) (hu : u.oneCell' = true)
    (ht : Tryd.prog.underlying T = some (.slice E)) (hi : (Tryd.prog.info? E).map (fun i => (i.zero, i.size, i.bytes)) = some (some z, 1, bytes)) (hz : z.cells.size = 1) (hbt : bytes ≤ 1000) (hn : m ≤ 999999999) :
    ∃ a' c' w', (Builtin.append_ #[T, T] ty #[.slice ao m c, .slice (some ⟨sb, 0, none⟩) 1 1]).run Tryd.prog wr = .ok (.slice a' (m + 1) c') w' ∧ Lab w0 w' (Thing.row E 1 (.slice a' (m + 1) c') (m + 1) (cells ++ [u]) :: Thing.box sb E #[u] :: ts) := by
  have hown : wr.ownsRow 0 E 1 (.slice ao m c) m cells := h.head
  have hsrc : SrcOf wr (.slice (some ⟨sb, 0, none⟩) 1 1) 1 1 [u] := by
    refine ⟨_, _, rfl, rfl, fun _ => ⟨_, rfl, fun j v hv => ?_⟩⟩
    rw [Go.WideShapes.add_plain, Nat.zero_add, cell_of_row _ sb j _ _ _ h.box2, ← hv]
    simp
  have h1 : ∀ v ∈ [u], v.oneCell' = true := by intro v hv; simp at hv; rw [hv]; exact hu
  obtain ⟨v', w', hr, h2, h3⟩ := run_append_src (P := Tryd.prog) wr 0 T ty E 1 bytes z ht hi hz (by decide) hbt _ _ m 1 _ [u] hown hsrc h1 (by omega) (Nat.zero_le _)
  have blk := append_block (P := Tryd.prog) (T := T) (ty := ty) (bytes := bytes) (z := z) ht hi hbt hown hsrc h1 (by decide) (by omega) hr
  obtain ⟨a', c', rfl⟩ : ∃ a' c', v' = .slice a' (m + 1) c' := by
    rcases h2.2 with ⟨_, h0⟩ | ⟨g, cap, cur, rfl, _⟩
    · omega
    · exact ⟨_, _, rfl⟩
  refine ⟨a', c', w', hr, ?_⟩
  refine h.turn (s' := Thing.row E 1 (.slice a' (m + 1) c') (m + 1) (cells ++ [u])) ⟨h3.os, h3.tape, h3.output, h3.size, fun b hb hn => h3.block b hb (fun e => hn (by simp [Thing.row, ← e]))⟩ h2 (fun k hk => ?_) (fun k hk => by simp [Thing.row] at hk) (fun k hk => ?_)
  · have hk' : (Value.slice a' (m + 1) c').ownBlock = some k := by simpa [Thing.row] using hk
    exact (blk k hk').imp (fun e => by simp [Thing.row, e]) id
  · rcases hk with hk | hk
    · exact (World.ownsRow.lt h2 k (by simpa [Thing.row] using hk)).2
    · simp [Thing.row] at hk
theorem all_T {ga gb na nb ca cb c : Nat} {sa sb : Value} {vsa vsb : List Value} (ha : vsa[c]? = some sa) (hb : vsb[c]? = some sb) (hca : c < na) (hcb : c < nb)
    (h : Lab wq wr (Thing.row 36 1 (.slice (some ⟨ga, 0, none⟩) na ca) na vsa :: Thing.row 36 1 (.slice (some ⟨gb, 0, none⟩) nb cb) nb vsb :: ts)) : AllT ga gb c sa sb wr :=
  ⟨by rw [World.ownsRow.cellAt h.head c (by omega), ha], by rw [World.ownsRow.cellAt h.second c (by omega), hb]⟩
set_option maxRecDepth 100000 in
theorem all_region28 {u6 u7 u8 u9 u10 u11 u24 u25 u26 u27 u28 u29 u30 u31 u32 u33 u34 u35 u36 u37 u38 u39 u40 u41 u42 u43 u44 u45 u46 u47 u48 u49 u50 u51 u52 u53 u54 u55 u56 u57 u58 u59 u60 u61 u62 u63 u64 u65 u66 u67 u68 u69 u70 u71 u72 u73 u74 u75 u76 u77 u78 u79 u80 u81 u82 u83 u84 u85 u86 u87 u88 u89 u90 u91 u92 u93 u94 u95 u96 u97 u98 u99 u100 u101 u102 u103 u104 u105 u106 u107 u108 u109 u110 u111 u112 u113 u114 u115 u116 u117 u118 u119 u120 u121 u122 u123 u124 u125 u126 u127 u128 u129 u130 u131 u132 u133 u134 u135 u136 u137 u138 u139 u140 u141 u142 u143 u144 u145 u146 u147 u148 u149 u150 u151 u152 u153 u154 u155 u156 u157 u158 u159 u160 u161 u162 u163 u164 u165 u166 u167 u168 u169 u170 u171 u172 u173 u174 u175 u176 u177 u178 u179 u180 u181 u182 u183 u184 u185 u186 u187 u188 u189 u190 u191 u192 u193 u194 u195 u196 u197 u198 u199 u200 u201 u202 u203 u204 u205 u206 u207 u208 u209 u210 u211 u212 u213 u214 u215 u216 u217 u218 u219 u220 u221 u222 u223 u224 : Value} {Q : Exit → Act → World → Prop} {z0 z1 z2 z3 z4 z5 z12 z13 z14 z15 z16 z17 z21 : Value} {ga gb na nb ca cb c ma mb cca ccb : Nat} {xv yv : Int} {aa ab : Option Addr} {vsa vsb ca0 cb0 : List Value}
    (hma : ma ≤ 999999999) (hmb : mb ≤ 999999999) (ha : vsa[c]? = some (.slice aa ma cca)) (hb : vsb[c]? = some (.slice ab mb ccb)) (hca : c < na) (hcb : c < nb)
    (h : Lab wq wr (Thing.row 44 1 (.slice aa ma cca) ma ca0 :: Thing.row 36 1 (.slice (some ⟨ga, 0, none⟩) na ca) na vsa :: Thing.row 44 1 (.slice ab mb ccb) mb cb0 :: Thing.row 36 1 (.slice (some ⟨gb, 0, none⟩) nb cb) nb vsb :: ts))
    (hQ : ∀ aa' cca' ab' ccb' v145 v146 v147 v148 v149 v150 v151 v152 v153 v154 v155 v156 v157 v158 v159 v160 v161 v162 v163 v164 w3, Lab wq w3 (Thing.row 44 1 (.slice aa' (ma + 1) cca') (ma + 1) (ca0 ++ [.int .u64 xv]) :: Thing.row 36 1 (.slice (some ⟨ga, 0, none⟩) na ca) na (vsa.set c (.slice aa' (ma + 1) cca')) :: Thing.row 44 1 (.slice ab' (mb + 1) ccb') (mb + 1) (cb0 ++ [.int .u64 yv]) :: Thing.row 36 1 (.slice (some ⟨gb, 0, none⟩) nb cb) nb (vsb.set c (.slice ab' (mb + 1) ccb')) :: ts) → Q .normal ⟨(List.toArray (z0 :: z1 :: z2 :: z3 :: z4 :: z5 :: u6 :: u7 :: u8 :: u9 :: u10 :: u11 :: z12 :: z13 :: z14 :: z15 :: z16 :: z17 :: .slice (some ⟨ga, 0, none⟩) na ca :: .slice (some ⟨gb, 0, none⟩) nb cb :: .int .i64 c :: z21 :: .int .u64 xv :: .int .u64 yv :: u24 :: u25 :: u26 :: u27 :: u28 :: u29 :: u30 :: u31 :: u32 :: u33 :: u34 :: u35 :: u36 :: u37 :: u38 :: u39 :: u40 :: u41 :: u42 :: u43 :: u44 :: u45 :: u46 :: u47 :: u48 :: u49 :: u50 :: u51 :: u52 :: u53 :: u54 :: u55 :: u56 :: u57 :: u58 :: u59 :: u60 :: u61 :: u62 :: u63 :: u64 :: u65 :: u66 :: u67 :: u68 :: u69 :: u70 :: u71 :: u72 :: u73 :: u74 :: u75 :: u76 :: u77 :: u78 :: u79 :: u80 :: u81 :: u82 :: u83 :: u84 :: u85 :: u86 :: u87 :: u88 :: u89 :: u90 :: u91 :: u92 :: u93 :: u94 :: u95 :: u96 :: u97 :: u98 :: u99 :: u100 :: u101 :: u102 :: u103 :: u104 :: u105 :: u106 :: u107 :: u108 :: u109 :: u110 :: u111 :: u112 :: u113 :: u114 :: u115 :: u116 :: u117 :: u118 :: u119 :: u120 :: u121 :: u122 :: u123 :: u124 :: u125 :: u126 :: u127 :: u128 :: u129 :: u130 :: u131 :: u132 :: u133 :: u134 :: u135 :: u136 :: u137 :: u138 :: u139 :: u140 :: u141 :: u142 :: u143 :: u144 :: v145 :: v146 :: v147 :: v148 :: v149 :: v150 :: v151 :: v152 :: v153 :: v154 :: v155 :: v156 :: v157 :: v158 :: v159 :: v160 :: v161 :: v162 :: v163 :: v164 :: u165 :: u166 :: u167 :: u168 :: u169 :: u170 :: u171 :: u172 :: u173 :: u174 :: u175 :: u176 :: u177 :: u178 :: u179 :: u180 :: u181 :: u182 :: u183 :: u184 :: u185 :: u186 :: u187 :: u188 :: u189 :: u190 :: u191 :: u192 :: u193 :: u194 :: u195 :: u196 :: u197 :: u198 :: u199 :: u200 :: u201 :: u202 :: u203 :: u204 :: u205 :: u206 :: u207 :: u208 :: u209 :: u210 :: u211 :: u212 :: u213 :: u214 :: u215 :: u216 :: u217 :: u218 :: u219 :: u220 :: u221 :: u222 :: u223 :: u224 :: [])), []⟩ w3) :
    Code.wp Tryd.prog (allRegion 28) Q ⟨(List.toArray (z0 :: z1 :: z2 :: z3 :: z4 :: z5 :: u6 :: u7 :: u8 :: u9 :: u10 :: u11 :: z12 :: z13 :: z14 :: z15 :: z16 :: z17 :: .slice (some ⟨ga, 0, none⟩) na ca :: .slice (some ⟨gb, 0, none⟩) nb cb :: .int .i64 c :: z21 :: .int .u64 xv :: .int .u64 yv :: u24 :: u25 :: u26 :: u27 :: u28 :: u29 :: u30 :: u31 :: u32 :: u33 :: u34 :: u35 :: u36 :: u37 :: u38 :: u39 :: u40 :: u41 :: u42 :: u43 :: u44 :: u45 :: u46 :: u47 :: u48 :: u49 :: u50 :: u51 :: u52 :: u53 :: u54 :: u55 :: u56 :: u57 :: u58 :: u59 :: u60 :: u61 :: u62 :: u63 :: u64 :: u65 :: u66 :: u67 :: u68 :: u69 :: u70 :: u71 :: u72 :: u73 :: u74 :: u75 :: u76 :: u77 :: u78 :: u79 :: u80 :: u81 :: u82 :: u83 :: u84 :: u85 :: u86 :: u87 :: u88 :: u89 :: u90 :: u91 :: u92 :: u93 :: u94 :: u95 :: u96 :: u97 :: u98 :: u99 :: u100 :: u101 :: u102 :: u103 :: u104 :: u105 :: u106 :: u107 :: u108 :: u109 :: u110 :: u111 :: u112 :: u113 :: u114 :: u115 :: u116 :: u117 :: u118 :: u119 :: u120 :: u121 :: u122 :: u123 :: u124 :: u125 :: u126 :: u127 :: u128 :: u129 :: u130 :: u131 :: u132 :: u133 :: u134 :: u135 :: u136 :: u137 :: u138 :: u139 :: u140 :: u141 :: u142 :: u143 :: u144 :: u145 :: u146 :: u147 :: u148 :: u149 :: u150 :: u151 :: u152 :: u153 :: u154 :: u155 :: u156 :: u157 :: u158 :: u159 :: u160 :: u161 :: u162 :: u163 :: u164 :: u165 :: u166 :: u167 :: u168 :: u169 :: u170 :: u171 :: u172 :: u173 :: u174 :: u175 :: u176 :: u177 :: u178 :: u179 :: u180 :: u181 :: u182 :: u183 :: u184 :: u185 :: u186 :: u187 :: u188 :: u189 :: u190 :: u191 :: u192 :: u193 :: u194 :: u195 :: u196 :: u197 :: u198 :: u199 :: u200 :: u201 :: u202 :: u203 :: u204 :: u205 :: u206 :: u207 :: u208 :: u209 :: u210 :: u211 :: u212 :: u213 :: u214 :: u215 :: u216 :: u217 :: u218 :: u219 :: u220 :: u221 :: u222 :: u223 :: u224 :: [])), []⟩ wr := by
  have c0 : (0 : Int) ≤ (c : Int) := by omega
  have c1 : (c : Int) < (na : Int) := by omega
  have c2 : (c : Int) < (nb : Int) := by omega
  have HL := Lib.hid h.drew1; have HQ := Lib.hid hQ; have HA := Lib.hid (And.intro (And.intro ha hca) (And.intro hb hcb)); have HM := Lib.hid (And.intro hma hmb)
  clear h hQ ha hb hma hmb hca hcb
  have HT : Hid ((AllT ga gb c (.slice aa ma cca) (.slice ab mb ccb)) wr.drew) := Lib.hid (all_T HA.out.1.1 HA.out.2.1 HA.out.1.2 HA.out.2.2 HL.out.rot4.rot3)
  conv => arg 2; whnf
  refine wp_region_noPanic ?_
  refine wp_region_any (by kernel_rfl) (wpAny_of_T (S := SUpto (AllT ga gb c (.slice aa ma cca) (.slice ab mb ccb)) 19 [7, 14]) _ _ _ _ ?_)
  have hS : SUpto (AllT ga gb c (.slice aa ma cca) (.slice ab mb ccb)) 19 [7, 14] (Array.replicate 22 false) wr.drew := .inr ⟨rfl, HT.out⟩
  refine wpAnyT_takeU (i := 0) (oi := { dst := some 145, op := Go.Op.move (Go.Operand.tmp 18), type := 38, pos := "outright.go:86", after := #[], guard := none }) (v := ?v0) rfl (by kernel_rfl) (by kernel_rfl) (by kernel_rfl) (by decide) (fun h => absurd h (by decide)) (fun _ _ _ h => h) (Or.inl ⟨by rfl, ?hy0⟩) hS (fun hS => ?rest0)
  case hy0 =>
    intro w hSw
    clear hSw
    go_simp
    with_reducible rfl
  try simp only [Act.put, List.setIfInBounds_toArray, List.set_cons_zero, List.set_cons_succ]
  refine wpAnyT_takeU (i := 1) (oi := { dst := some 146, op := Go.Op.move (Go.Operand.tmp 20), type := 3, pos := "outright.go:86", after := #[], guard := none }) (v := ?v1) rfl (by kernel_rfl) (by kernel_rfl) (by kernel_rfl) (by decide) (fun h => absurd h (by decide)) (fun _ _ _ h => h) (Or.inl ⟨by rfl, ?hy1⟩) hS (fun hS => ?rest1)
  case hy1 =>
    intro w hSw
    clear hSw
    go_simp
    with_reducible rfl
  try simp only [Act.put, List.setIfInBounds_toArray, List.set_cons_zero, List.set_cons_succ]
  refine wpAnyT_takeU (i := 2) (oi := { dst := some 147, op := Go.Op.move (Go.Operand.tmp 19), type := 38, pos := "outright.go:86", after := #[{ on := 19, ground := Go.Ground.gcOnly Go.Departure.lateStores }], guard := none }) (v := ?v2) rfl (by kernel_rfl) (by kernel_rfl) (by kernel_rfl) (by decide) (fun h => absurd h (by decide)) (fun _ _ _ h => h) (Or.inl ⟨by rfl, ?hy2⟩) hS (fun hS => ?rest2)
  case hy2 =>
    intro w hSw
    clear hSw
    go_simp
    with_reducible rfl
  try simp only [Act.put, List.setIfInBounds_toArray, List.set_cons_zero, List.set_cons_succ]
  refine wpAnyT_takeU (i := 3) (oi := { dst := some 148, op := Go.Op.move (Go.Operand.tmp 20), type := 3, pos := "outright.go:86", after := #[{ on := 19, ground := Go.Ground.gcOnly Go.Departure.lateStores }], guard := none }) (v := ?v3) rfl (by kernel_rfl) (by kernel_rfl) (by kernel_rfl) (by decide) (fun h => absurd h (by decide)) (fun _ _ _ h => h) (Or.inl ⟨by rfl, ?hy3⟩) hS (fun hS => ?rest3)
  case hy3 =>
    intro w hSw
    clear hSw
    go_simp
    with_reducible rfl
  try simp only [Act.put, List.setIfInBounds_toArray, List.set_cons_zero, List.set_cons_succ]
  refine wpAnyT_takeU (i := 4) (oi := { dst := some 149, op := Go.Op.move (Go.Operand.tmp 18), type := 38, pos := "outright.go:86", after := #[], guard := none }) (v := ?v4) rfl (by kernel_rfl) (by kernel_rfl) (by kernel_rfl) (by decide) (fun h => absurd h (by decide)) (fun _ _ _ h => h) (Or.inl ⟨by rfl, ?hy4⟩) hS (fun hS => ?rest4)
  case hy4 =>
    intro w hSw
    clear hSw
    go_simp
    with_reducible rfl
  try simp only [Act.put, List.setIfInBounds_toArray, List.set_cons_zero, List.set_cons_succ]
  refine wpAnyT_takeU (i := 5) (oi := { dst := some 150, op := Go.Op.move (Go.Operand.tmp 20), type := 3, pos := "outright.go:86", after := #[], guard := none }) (v := ?v5) rfl (by kernel_rfl) (by kernel_rfl) (by kernel_rfl) (by decide) (fun h => absurd h (by decide)) (fun _ _ _ h => h) (Or.inl ⟨by rfl, ?hy5⟩) hS (fun hS => ?rest5)
  case hy5 =>
    intro w hSw
    clear hSw
    go_simp
    with_reducible rfl
  try simp only [Act.put, List.setIfInBounds_toArray, List.set_cons_zero, List.set_cons_succ]
  refine wpAnyT_takeU (i := 6) (oi := { dst := some 151, op := Go.Op.indexAddr 38 (Go.Operand.tmp 149) (Go.Operand.tmp 150), type := 0, pos := "outright.go:86", after := #[{ on := 4, ground := Go.Ground.data }, { on := 5, ground := Go.Ground.data }], guard := none }) (v := ?v6) rfl (by kernel_rfl) (by kernel_rfl) (by kernel_rfl) (by decide) (fun h => absurd h (by decide)) (fun _ _ _ h => h) (Or.inl ⟨by rfl, ?hy6⟩) hS (fun hS => ?rest6)
  case hy6 =>
    intro w hSw
    clear hSw
    go_simp
    with_reducible rfl
  try simp only [Act.put, List.setIfInBounds_toArray, List.set_cons_zero, List.set_cons_succ]
  refine wpAnyT_takeU (i := 7) (oi := { dst := some 152, op := Go.Op.load 36 (Go.Operand.tmp 151), type := 36, pos := "outright.go:86", after := #[{ on := 6, ground := Go.Ground.data }], guard := none }) (v := ?v7) rfl (by kernel_rfl) (by kernel_rfl) (by kernel_rfl) (by decide) (fun _ => by kernel_rfl) (fun _ _ _ h => h) (Or.inl ⟨by rfl, ?hy7⟩) hS (fun hS => ?rest7)
  case hy7 =>
    intro w hSw
    obtain ⟨f0, f1⟩ := hSw (by decide)
    clear hSw
    go_simp
    with_reducible rfl
  try simp only [Act.put, List.setIfInBounds_toArray, List.set_cons_zero, List.set_cons_succ]
  refine wpAnyT_takeU (i := 8) (oi := { dst := some 153, op := Go.Op.move (Go.Operand.tmp 22), type := 44, pos := "outright.go:86", after := #[], guard := none }) (v := ?v8) rfl (by kernel_rfl) (by kernel_rfl) (by kernel_rfl) (by decide) (fun h => absurd h (by decide)) (fun _ _ _ h => h) (Or.inl ⟨by rfl, ?hy8⟩) hS (fun hS => ?rest8)
  case hy8 =>
    intro w hSw
    clear hSw
    go_simp
    with_reducible rfl
  try simp only [Act.put, List.setIfInBounds_toArray, List.set_cons_zero, List.set_cons_succ]
  refine wpAnyT_takeU (i := 11) (oi := { dst := some 156, op := Go.Op.move (Go.Operand.tmp 19), type := 38, pos := "outright.go:86", after := #[], guard := none }) (v := ?v11) rfl (by kernel_rfl) (by kernel_rfl) (by kernel_rfl) (by decide) (fun h => absurd h (by decide)) (fun _ _ _ h => h) (Or.inl ⟨by rfl, ?hy11⟩) hS (fun hS => ?rest11)
  case hy11 =>
    intro w hSw
    clear hSw
    go_simp
    with_reducible rfl
  try simp only [Act.put, List.setIfInBounds_toArray, List.set_cons_zero, List.set_cons_succ]
  refine wpAnyT_takeU (i := 12) (oi := { dst := some 157, op := Go.Op.move (Go.Operand.tmp 20), type := 3, pos := "outright.go:86", after := #[], guard := none }) (v := ?v12) rfl (by kernel_rfl) (by kernel_rfl) (by kernel_rfl) (by decide) (fun h => absurd h (by decide)) (fun _ _ _ h => h) (Or.inl ⟨by rfl, ?hy12⟩) hS (fun hS => ?rest12)
  case hy12 =>
    intro w hSw
    clear hSw
    go_simp
    with_reducible rfl
  try simp only [Act.put, List.setIfInBounds_toArray, List.set_cons_zero, List.set_cons_succ]
  refine wpAnyT_takeU (i := 13) (oi := { dst := some 158, op := Go.Op.indexAddr 38 (Go.Operand.tmp 156) (Go.Operand.tmp 157), type := 0, pos := "outright.go:86", after := #[{ on := 11, ground := Go.Ground.data }, { on := 12, ground := Go.Ground.data }], guard := none }) (v := ?v13) rfl (by kernel_rfl) (by kernel_rfl) (by kernel_rfl) (by decide) (fun h => absurd h (by decide)) (fun _ _ _ h => h) (Or.inl ⟨by rfl, ?hy13⟩) hS (fun hS => ?rest13)
  case hy13 =>
    intro w hSw
    clear hSw
    go_simp
    with_reducible rfl
  try simp only [Act.put, List.setIfInBounds_toArray, List.set_cons_zero, List.set_cons_succ]
  refine wpAnyT_takeU (i := 14) (oi := { dst := some 159, op := Go.Op.load 36 (Go.Operand.tmp 158), type := 36, pos := "outright.go:86", after := #[{ on := 13, ground := Go.Ground.data }], guard := none }) (v := ?v14) rfl (by kernel_rfl) (by kernel_rfl) (by kernel_rfl) (by decide) (fun _ => by kernel_rfl) (fun _ _ _ h => h) (Or.inl ⟨by rfl, ?hy14⟩) hS (fun hS => ?rest14)
  case hy14 =>
    intro w hSw
    obtain ⟨f0, f1⟩ := hSw (by decide)
    clear hSw
    go_simp
    with_reducible rfl
  try simp only [Act.put, List.setIfInBounds_toArray, List.set_cons_zero, List.set_cons_succ]
  refine wpAnyT_takeU (i := 15) (oi := { dst := some 160, op := Go.Op.move (Go.Operand.tmp 23), type := 44, pos := "outright.go:86", after := #[], guard := none }) (v := ?v15) rfl (by kernel_rfl) (by kernel_rfl) (by kernel_rfl) (by decide) (fun h => absurd h (by decide)) (fun _ _ _ h => h) (Or.inl ⟨by rfl, ?hy15⟩) hS (fun hS => ?rest15)
  case hy15 =>
    intro w hSw
    clear hSw
    go_simp
    with_reducible rfl
  try simp only [Act.put, List.setIfInBounds_toArray, List.set_cons_zero, List.set_cons_succ]
  change wpAnyT _ _ _ _ _ _ _ _ wr.drew
  clear hS
  generalize wr.drew = wc at HL HT ⊢
  refine wpAnyT_two (i := 9) (j := 16) (o := { dst := some 154, op := Go.Op.buildSlice 36 1 #[(0, Go.Operand.tmp 153)], type := 36, pos := "outright.go:86", after := #[{ on := 8, ground := Go.Ground.data }], guard := none }) (o' := { dst := some 161, op := Go.Op.buildSlice 36 1 #[(0, Go.Operand.tmp 160)], type := 36, pos := "outright.go:86", after := #[{ on := 15, ground := Go.Ground.data }], guard := none }) (by kernel_rfl) rfl rfl (fun K hK => ?_) (fun K hK => ?_)
  · go_simp
    have HL := Lib.hid (Lab.alloc HL.out #[.int .u64 xv] 44)
    obtain ⟨sa, hg⟩ : ∃ sa, wc.heap.size = sa := ⟨_, rfl⟩
    rw [hg] at HL ⊢
    have HT : Hid ((AllT ga gb c (.slice aa ma cca) (.slice ab mb ccb)) (wc.alloc (.cells #[.int .u64 xv] 44))) := Lib.hid (all_T HA.out.1.1 HA.out.2.1 HA.out.1.2 HA.out.2.2 HL.out.rot5.rot4)
    refine hK.out _ _ (.inr ⟨rfl, HT.out⟩) (fun hS => ?_)
    clear hK K hS hg
    generalize wc.alloc (.cells #[.int .u64 xv] 44) = wx1_9 at HL HT ⊢
    try simp only [Act.put, List.setIfInBounds_toArray, List.set_cons_zero, List.set_cons_succ]
    refine wpAnyT_two (i := 10) (j := 16) (o := { dst := some 155, op := Go.Op.call { callee := Go.Callee.builtin Go.Builtin.append, args := #[Go.Operand.tmp 152, Go.Operand.tmp 154], argTypes := #[36, 36] }, type := 36, pos := "outright.go:86", after := #[{ on := 7, ground := Go.Ground.data }, { on := 9, ground := Go.Ground.data }], guard := none }) (o' := { dst := some 161, op := Go.Op.buildSlice 36 1 #[(0, Go.Operand.tmp 160)], type := 36, pos := "outright.go:86", after := #[{ on := 15, ground := Go.Ground.data }], guard := none }) (by kernel_rfl) rfl rfl (fun K hK => ?_) (fun K hK => ?_)
    · obtain ⟨aa', cca', wx2_10, hr, hl2⟩ := run_append_box 36 36 44 8 (.int .u64 0) HL.out.swap (u := .int .u64 xv) rfl Tryd.underlying36 Tryd.infoU64 rfl (by decide) (by have := HM.out; omega)
      clear HL HT
      have HL := Lib.hid hl2
      have HT : Hid ((AllT ga gb c (.slice aa ma cca) (.slice ab mb ccb)) wx2_10) := Lib.hid (all_T HA.out.1.1 HA.out.2.1 HA.out.1.2 HA.out.2.2 HL.out.rot5.rot4)
      clear hl2
      refine step_append_is (P := Tryd.prog) rfl _ _ 36 rfl _ _ rfl rfl _ _ hr ?_
      refine hK.out _ _ (.inr ⟨rfl, HT.out⟩) (fun hS => ?_)
      clear hK K hr hS
      try simp only [Act.put, List.setIfInBounds_toArray, List.set_cons_zero, List.set_cons_succ]
      refine wpAnyT_one (i := 16) (o := { dst := some 161, op := Go.Op.buildSlice 36 1 #[(0, Go.Operand.tmp 160)], type := 36, pos := "outright.go:86", after := #[{ on := 15, ground := Go.Ground.data }], guard := none }) (by kernel_rfl) rfl (fun K hK => ?_)
      go_simp
      have HL := Lib.hid (Lab.alloc HL.out #[.int .u64 yv] 44)
      obtain ⟨sb, hg⟩ : ∃ sb, wx2_10.heap.size = sb := ⟨_, rfl⟩
      rw [hg] at HL ⊢
      have HT : Hid ((AllT ga gb c (.slice aa ma cca) (.slice ab mb ccb)) (wx2_10.alloc (.cells #[.int .u64 yv] 44))) := Lib.hid (all_T HA.out.1.1 HA.out.2.1 HA.out.1.2 HA.out.2.2 HL.out.rot6.rot5)
      refine hK.out _ _ (.inr ⟨rfl, HT.out⟩) (fun hS => ?_)
      clear hK K hS hg
      generalize wx2_10.alloc (.cells #[.int .u64 yv] 44) = wx3_16 at HL HT ⊢
      try simp only [Act.put, List.setIfInBounds_toArray, List.set_cons_zero, List.set_cons_succ]
      refine wpAnyT_one (i := 17) (o := { dst := some 162, op := Go.Op.call { callee := Go.Callee.builtin Go.Builtin.append, args := #[Go.Operand.tmp 159, Go.Operand.tmp 161], argTypes := #[36, 36] }, type := 36, pos := "outright.go:86", after := #[{ on := 14, ground := Go.Ground.data }, { on := 16, ground := Go.Ground.data }, { on := 10, ground := Go.Ground.chain }], guard := none }) (by kernel_rfl) rfl (fun K hK => ?_)
      obtain ⟨ab', ccb', wx4_17, hr, hl2⟩ := run_append_box 36 36 44 8 (.int .u64 0) HL.out.rot5 (u := .int .u64 yv) rfl Tryd.underlying36 Tryd.infoU64 rfl (by decide) (by have := HM.out; omega)
      clear HL HT
      have HL := Lib.hid hl2
      have HT : Hid ((AllT ga gb c (.slice aa ma cca) (.slice ab mb ccb)) wx4_17) := Lib.hid (all_T HA.out.1.1 HA.out.2.1 HA.out.1.2 HA.out.2.2 HL.out.rot6.rot6)
      clear hl2
      refine step_append_is (P := Tryd.prog) rfl _ _ 36 rfl _ _ rfl rfl _ _ hr ?_
      refine hK.out _ _ (.inr ⟨rfl, HT.out⟩) (fun hS => ?_)
      clear hK K hr
      try simp only [Act.put, List.setIfInBounds_toArray, List.set_cons_zero, List.set_cons_succ]
      refine wpAnyT_takeU (i := 18) (oi := { dst := some 163, op := Go.Op.indexAddr 38 (Go.Operand.tmp 145) (Go.Operand.tmp 146), type := 0, pos := "outright.go:86", after := #[{ on := 0, ground := Go.Ground.data }, { on := 1, ground := Go.Ground.data }, { on := 0, ground := Go.Ground.phase }, { on := 1, ground := Go.Ground.phase }, { on := 2, ground := Go.Ground.textOnly Go.Departure.lateStores }, { on := 3, ground := Go.Ground.textOnly Go.Departure.lateStores }, { on := 4, ground := Go.Ground.phase }, { on := 5, ground := Go.Ground.phase }, { on := 6, ground := Go.Ground.phase }, { on := 7, ground := Go.Ground.phase }, { on := 8, ground := Go.Ground.phase }, { on := 9, ground := Go.Ground.phase }, { on := 10, ground := Go.Ground.phase }, { on := 11, ground := Go.Ground.textOnly Go.Departure.lateStores }, { on := 12, ground := Go.Ground.textOnly Go.Departure.lateStores }, { on := 13, ground := Go.Ground.textOnly Go.Departure.lateStoresUnsure }, { on := 14, ground := Go.Ground.phase }, { on := 15, ground := Go.Ground.textOnly Go.Departure.lateStores }, { on := 16, ground := Go.Ground.textOnly Go.Departure.lateStoresUnsure }, { on := 17, ground := Go.Ground.phase }], guard := none }) (v := ?v18wx417) rfl (by kernel_rfl) (by kernel_rfl) (by kernel_rfl) (by decide) (fun h => absurd h (by decide)) (fun _ _ _ h => h) (Or.inl ⟨by rfl, ?hy18wx417⟩) hS (fun hS => ?rest18wx417)
      case hy18wx417 =>
        intro w hSw
        clear hSw
        go_simp
        with_reducible rfl
      try simp only [Act.put, List.setIfInBounds_toArray, List.set_cons_zero, List.set_cons_succ]
      have hza := (row_cellAt HL.out.rot5.head HA.out.1.2).2
      have hca := (row_cellAt HL.out.rot5.head HA.out.1.2).1
      rw [HA.out.1.1] at hca
      refine wpAnyT_one (i := 19) (o := { dst := none, op := Go.Op.store 36 (Go.Operand.tmp 163) (Go.Operand.tmp 155), type := 0, pos := "outright.go:86", after := #[{ on := 18, ground := Go.Ground.data }, { on := 10, ground := Go.Ground.data }, { on := 17, ground := Go.Ground.chain }, { on := 0, ground := Go.Ground.phase }, { on := 1, ground := Go.Ground.phase }, { on := 2, ground := Go.Ground.textOnly Go.Departure.lateStores }, { on := 3, ground := Go.Ground.textOnly Go.Departure.lateStores }, { on := 4, ground := Go.Ground.phase }, { on := 5, ground := Go.Ground.phase }, { on := 6, ground := Go.Ground.phase }, { on := 7, ground := Go.Ground.phase }, { on := 8, ground := Go.Ground.phase }, { on := 9, ground := Go.Ground.phase }, { on := 10, ground := Go.Ground.phase }, { on := 11, ground := Go.Ground.textOnly Go.Departure.lateStores }, { on := 12, ground := Go.Ground.textOnly Go.Departure.lateStores }, { on := 13, ground := Go.Ground.textOnly Go.Departure.lateStoresUnsure }, { on := 14, ground := Go.Ground.phase }, { on := 15, ground := Go.Ground.textOnly Go.Departure.lateStores }, { on := 16, ground := Go.Ground.textOnly Go.Departure.lateStoresUnsure }, { on := 17, ground := Go.Ground.phase }], guard := none }) (by kernel_rfl) rfl (fun K hK => ?_)
      go_simp
      have HL := Lib.hid (HL.out.rot5.row_set c (.slice aa' (ma + 1) cca'))
      refine hK.out _ _ (.inl ⟨rfl, by decide⟩) (fun hS => ?_)
      clear hK K hza hca HT
      generalize wx4_17.setCell ⟨ga, c, none⟩ (.slice aa' (ma + 1) cca') = w5 at HL hS ⊢
      try simp only [Act.put, List.setIfInBounds_toArray, List.set_cons_zero, List.set_cons_succ]
      refine wpAnyT_takeU (i := 20) (oi := { dst := some 164, op := Go.Op.indexAddr 38 (Go.Operand.tmp 147) (Go.Operand.tmp 148), type := 0, pos := "outright.go:86", after := #[{ on := 2, ground := Go.Ground.data }, { on := 3, ground := Go.Ground.data }, { on := 0, ground := Go.Ground.phase }, { on := 1, ground := Go.Ground.phase }, { on := 2, ground := Go.Ground.phase }, { on := 3, ground := Go.Ground.phase }, { on := 4, ground := Go.Ground.phase }, { on := 5, ground := Go.Ground.phase }, { on := 6, ground := Go.Ground.phase }, { on := 7, ground := Go.Ground.phase }, { on := 8, ground := Go.Ground.phase }, { on := 9, ground := Go.Ground.phase }, { on := 10, ground := Go.Ground.phase }, { on := 11, ground := Go.Ground.phase }, { on := 12, ground := Go.Ground.phase }, { on := 13, ground := Go.Ground.phase }, { on := 14, ground := Go.Ground.phase }, { on := 15, ground := Go.Ground.phase }, { on := 16, ground := Go.Ground.phase }, { on := 17, ground := Go.Ground.phase }, { on := 18, ground := Go.Ground.phase }, { on := 19, ground := Go.Ground.phase }], guard := none }) (v := ?v20wx417) rfl (by kernel_rfl) (by kernel_rfl) (by kernel_rfl) (by decide) (fun h => absurd h (by decide)) (fun _ _ _ h => h) (Or.inl ⟨by rfl, ?hy20wx417⟩) hS (fun hS => ?rest20wx417)
      case hy20wx417 =>
        intro w hSw
        clear hSw
        go_simp
        with_reducible rfl
      try simp only [Act.put, List.setIfInBounds_toArray, List.set_cons_zero, List.set_cons_succ]
      have hza := (row_cellAt HL.out.rot6.head HA.out.2.2).2
      have hca := (row_cellAt HL.out.rot6.head HA.out.2.2).1
      rw [HA.out.2.1] at hca
      refine wpAnyT_one (i := 21) (o := { dst := none, op := Go.Op.store 36 (Go.Operand.tmp 164) (Go.Operand.tmp 162), type := 0, pos := "outright.go:86", after := #[{ on := 20, ground := Go.Ground.data }, { on := 17, ground := Go.Ground.data }, { on := 19, ground := Go.Ground.chain }, { on := 0, ground := Go.Ground.phase }, { on := 1, ground := Go.Ground.phase }, { on := 2, ground := Go.Ground.phase }, { on := 3, ground := Go.Ground.phase }, { on := 4, ground := Go.Ground.phase }, { on := 5, ground := Go.Ground.phase }, { on := 6, ground := Go.Ground.phase }, { on := 7, ground := Go.Ground.phase }, { on := 8, ground := Go.Ground.phase }, { on := 9, ground := Go.Ground.phase }, { on := 10, ground := Go.Ground.phase }, { on := 11, ground := Go.Ground.phase }, { on := 12, ground := Go.Ground.phase }, { on := 13, ground := Go.Ground.phase }, { on := 14, ground := Go.Ground.phase }, { on := 15, ground := Go.Ground.phase }, { on := 16, ground := Go.Ground.phase }, { on := 17, ground := Go.Ground.phase }, { on := 18, ground := Go.Ground.phase }, { on := 19, ground := Go.Ground.phase }], guard := none }) (by kernel_rfl) rfl (fun K hK => ?_)
      go_simp
      have HL := Lib.hid (HL.out.rot6.row_set c (.slice ab' (mb + 1) ccb'))
      refine hK.out _ _ (.inl ⟨rfl, by decide⟩) (fun hS => ?_)
      clear hK K hza hca hS
      try simp only [Act.put, List.setIfInBounds_toArray, List.set_cons_zero, List.set_cons_succ]
      refine wpAnyT_done (by kernel_rfl) ?_ _
      refine NoPanic.normal ?_
      exact HQ.out _ _ _ _ _ _ _ _ _ _ _ _ _ _ _ _ _ _ _ _ _ _ _ _ _ HL.out.rot3.rot3.rot5.rot5.rot6.drop.drop
    · go_simp
      have HL := Lib.hid (Lab.alloc HL.out #[.int .u64 yv] 44)
      obtain ⟨sb, hg⟩ : ∃ sb, wx1_9.heap.size = sb := ⟨_, rfl⟩
      rw [hg] at HL ⊢
      have HT : Hid ((AllT ga gb c (.slice aa ma cca) (.slice ab mb ccb)) (wx1_9.alloc (.cells #[.int .u64 yv] 44))) := Lib.hid (all_T HA.out.1.1 HA.out.2.1 HA.out.1.2 HA.out.2.2 HL.out.rot6.rot5)
      refine hK.out _ _ (.inr ⟨rfl, HT.out⟩) (fun hS => ?_)
      clear hK K hS hg
      generalize wx1_9.alloc (.cells #[.int .u64 yv] 44) = wx2_16 at HL HT ⊢
      try simp only [Act.put, List.setIfInBounds_toArray, List.set_cons_zero, List.set_cons_succ]
      refine wpAnyT_one (i := 10) (o := { dst := some 155, op := Go.Op.call { callee := Go.Callee.builtin Go.Builtin.append, args := #[Go.Operand.tmp 152, Go.Operand.tmp 154], argTypes := #[36, 36] }, type := 36, pos := "outright.go:86", after := #[{ on := 7, ground := Go.Ground.data }, { on := 9, ground := Go.Ground.data }], guard := none }) (by kernel_rfl) rfl (fun K hK => ?_)
      obtain ⟨aa', cca', wx5_10, hr, hl2⟩ := run_append_box 36 36 44 8 (.int .u64 0) HL.out.swap.rot3 (u := .int .u64 xv) rfl Tryd.underlying36 Tryd.infoU64 rfl (by decide) (by have := HM.out; omega)
      clear HL HT
      have HL := Lib.hid hl2
      have HT : Hid ((AllT ga gb c (.slice aa ma cca) (.slice ab mb ccb)) wx5_10) := Lib.hid (all_T HA.out.1.1 HA.out.2.1 HA.out.1.2 HA.out.2.2 HL.out.rot6.rot5)
      clear hl2
      refine step_append_is (P := Tryd.prog) rfl _ _ 36 rfl _ _ rfl rfl _ _ hr ?_
      refine hK.out _ _ (.inr ⟨rfl, HT.out⟩) (fun hS => ?_)
      clear hK K hr hS
      try simp only [Act.put, List.setIfInBounds_toArray, List.set_cons_zero, List.set_cons_succ]
      refine wpAnyT_one (i := 17) (o := { dst := some 162, op := Go.Op.call { callee := Go.Callee.builtin Go.Builtin.append, args := #[Go.Operand.tmp 159, Go.Operand.tmp 161], argTypes := #[36, 36] }, type := 36, pos := "outright.go:86", after := #[{ on := 14, ground := Go.Ground.data }, { on := 16, ground := Go.Ground.data }, { on := 10, ground := Go.Ground.chain }], guard := none }) (by kernel_rfl) rfl (fun K hK => ?_)
      obtain ⟨ab', ccb', wx6_17, hr, hl2⟩ := run_append_box 36 36 44 8 (.int .u64 0) HL.out.rot3.rot5 (u := .int .u64 yv) rfl Tryd.underlying36 Tryd.infoU64 rfl (by decide) (by have := HM.out; omega)
      clear HL HT
      have HL := Lib.hid hl2
      have HT : Hid ((AllT ga gb c (.slice aa ma cca) (.slice ab mb ccb)) wx6_17) := Lib.hid (all_T HA.out.1.1 HA.out.2.1 HA.out.1.2 HA.out.2.2 HL.out.rot6.rot6)
      clear hl2
      refine step_append_is (P := Tryd.prog) rfl _ _ 36 rfl _ _ rfl rfl _ _ hr ?_
      refine hK.out _ _ (.inr ⟨rfl, HT.out⟩) (fun hS => ?_)
      clear hK K hr
      try simp only [Act.put, List.setIfInBounds_toArray, List.set_cons_zero, List.set_cons_succ]
      refine wpAnyT_takeU (i := 18) (oi := { dst := some 163, op := Go.Op.indexAddr 38 (Go.Operand.tmp 145) (Go.Operand.tmp 146), type := 0, pos := "outright.go:86", after := #[{ on := 0, ground := Go.Ground.data }, { on := 1, ground := Go.Ground.data }, { on := 0, ground := Go.Ground.phase }, { on := 1, ground := Go.Ground.phase }, { on := 2, ground := Go.Ground.textOnly Go.Departure.lateStores }, { on := 3, ground := Go.Ground.textOnly Go.Departure.lateStores }, { on := 4, ground := Go.Ground.phase }, { on := 5, ground := Go.Ground.phase }, { on := 6, ground := Go.Ground.phase }, { on := 7, ground := Go.Ground.phase }, { on := 8, ground := Go.Ground.phase }, { on := 9, ground := Go.Ground.phase }, { on := 10, ground := Go.Ground.phase }, { on := 11, ground := Go.Ground.textOnly Go.Departure.lateStores }, { on := 12, ground := Go.Ground.textOnly Go.Departure.lateStores }, { on := 13, ground := Go.Ground.textOnly Go.Departure.lateStoresUnsure }, { on := 14, ground := Go.Ground.phase }, { on := 15, ground := Go.Ground.textOnly Go.Departure.lateStores }, { on := 16, ground := Go.Ground.textOnly Go.Departure.lateStoresUnsure }, { on := 17, ground := Go.Ground.phase }], guard := none }) (v := ?v18wx617) rfl (by kernel_rfl) (by kernel_rfl) (by kernel_rfl) (by decide) (fun h => absurd h (by decide)) (fun _ _ _ h => h) (Or.inl ⟨by rfl, ?hy18wx617⟩) hS (fun hS => ?rest18wx617)
      case hy18wx617 =>
        intro w hSw
        clear hSw
        go_simp
        with_reducible rfl
      try simp only [Act.put, List.setIfInBounds_toArray, List.set_cons_zero, List.set_cons_succ]
      have hza := (row_cellAt HL.out.rot5.head HA.out.1.2).2
      have hca := (row_cellAt HL.out.rot5.head HA.out.1.2).1
      rw [HA.out.1.1] at hca
      refine wpAnyT_one (i := 19) (o := { dst := none, op := Go.Op.store 36 (Go.Operand.tmp 163) (Go.Operand.tmp 155), type := 0, pos := "outright.go:86", after := #[{ on := 18, ground := Go.Ground.data }, { on := 10, ground := Go.Ground.data }, { on := 17, ground := Go.Ground.chain }, { on := 0, ground := Go.Ground.phase }, { on := 1, ground := Go.Ground.phase }, { on := 2, ground := Go.Ground.textOnly Go.Departure.lateStores }, { on := 3, ground := Go.Ground.textOnly Go.Departure.lateStores }, { on := 4, ground := Go.Ground.phase }, { on := 5, ground := Go.Ground.phase }, { on := 6, ground := Go.Ground.phase }, { on := 7, ground := Go.Ground.phase }, { on := 8, ground := Go.Ground.phase }, { on := 9, ground := Go.Ground.phase }, { on := 10, ground := Go.Ground.phase }, { on := 11, ground := Go.Ground.textOnly Go.Departure.lateStores }, { on := 12, ground := Go.Ground.textOnly Go.Departure.lateStores }, { on := 13, ground := Go.Ground.textOnly Go.Departure.lateStoresUnsure }, { on := 14, ground := Go.Ground.phase }, { on := 15, ground := Go.Ground.textOnly Go.Departure.lateStores }, { on := 16, ground := Go.Ground.textOnly Go.Departure.lateStoresUnsure }, { on := 17, ground := Go.Ground.phase }], guard := none }) (by kernel_rfl) rfl (fun K hK => ?_)
      go_simp
      have HL := Lib.hid (HL.out.rot5.row_set c (.slice aa' (ma + 1) cca'))
      refine hK.out _ _ (.inl ⟨rfl, by decide⟩) (fun hS => ?_)
      clear hK K hza hca HT
      generalize wx6_17.setCell ⟨ga, c, none⟩ (.slice aa' (ma + 1) cca') = w5 at HL hS ⊢
      try simp only [Act.put, List.setIfInBounds_toArray, List.set_cons_zero, List.set_cons_succ]
      refine wpAnyT_takeU (i := 20) (oi := { dst := some 164, op := Go.Op.indexAddr 38 (Go.Operand.tmp 147) (Go.Operand.tmp 148), type := 0, pos := "outright.go:86", after := #[{ on := 2, ground := Go.Ground.data }, { on := 3, ground := Go.Ground.data }, { on := 0, ground := Go.Ground.phase }, { on := 1, ground := Go.Ground.phase }, { on := 2, ground := Go.Ground.phase }, { on := 3, ground := Go.Ground.phase }, { on := 4, ground := Go.Ground.phase }, { on := 5, ground := Go.Ground.phase }, { on := 6, ground := Go.Ground.phase }, { on := 7, ground := Go.Ground.phase }, { on := 8, ground := Go.Ground.phase }, { on := 9, ground := Go.Ground.phase }, { on := 10, ground := Go.Ground.phase }, { on := 11, ground := Go.Ground.phase }, { on := 12, ground := Go.Ground.phase }, { on := 13, ground := Go.Ground.phase }, { on := 14, ground := Go.Ground.phase }, { on := 15, ground := Go.Ground.phase }, { on := 16, ground := Go.Ground.phase }, { on := 17, ground := Go.Ground.phase }, { on := 18, ground := Go.Ground.phase }, { on := 19, ground := Go.Ground.phase }], guard := none }) (v := ?v20wx617) rfl (by kernel_rfl) (by kernel_rfl) (by kernel_rfl) (by decide) (fun h => absurd h (by decide)) (fun _ _ _ h => h) (Or.inl ⟨by rfl, ?hy20wx617⟩) hS (fun hS => ?rest20wx617)
      case hy20wx617 =>
        intro w hSw
        clear hSw
        go_simp
        with_reducible rfl
      try simp only [Act.put, List.setIfInBounds_toArray, List.set_cons_zero, List.set_cons_succ]
      have hza := (row_cellAt HL.out.rot6.head HA.out.2.2).2
      have hca := (row_cellAt HL.out.rot6.head HA.out.2.2).1
      rw [HA.out.2.1] at hca
      refine wpAnyT_one (i := 21) (o := { dst := none, op := Go.Op.store 36 (Go.Operand.tmp 164) (Go.Operand.tmp 162), type := 0, pos := "outright.go:86", after := #[{ on := 20, ground := Go.Ground.data }, { on := 17, ground := Go.Ground.data }, { on := 19, ground := Go.Ground.chain }, { on := 0, ground := Go.Ground.phase }, { on := 1, ground := Go.Ground.phase }, { on := 2, ground := Go.Ground.phase }, { on := 3, ground := Go.Ground.phase }, { on := 4, ground := Go.Ground.phase }, { on := 5, ground := Go.Ground.phase }, { on := 6, ground := Go.Ground.phase }, { on := 7, ground := Go.Ground.phase }, { on := 8, ground := Go.Ground.phase }, { on := 9, ground := Go.Ground.phase }, { on := 10, ground := Go.Ground.phase }, { on := 11, ground := Go.Ground.phase }, { on := 12, ground := Go.Ground.phase }, { on := 13, ground := Go.Ground.phase }, { on := 14, ground := Go.Ground.phase }, { on := 15, ground := Go.Ground.phase }, { on := 16, ground := Go.Ground.phase }, { on := 17, ground := Go.Ground.phase }, { on := 18, ground := Go.Ground.phase }, { on := 19, ground := Go.Ground.phase }], guard := none }) (by kernel_rfl) rfl (fun K hK => ?_)
      go_simp
      have HL := Lib.hid (HL.out.rot6.row_set c (.slice ab' (mb + 1) ccb'))
      refine hK.out _ _ (.inl ⟨rfl, by decide⟩) (fun hS => ?_)
      clear hK K hza hca hS
      try simp only [Act.put, List.setIfInBounds_toArray, List.set_cons_zero, List.set_cons_succ]
      refine wpAnyT_done (by kernel_rfl) ?_ _
      refine NoPanic.normal ?_
      exact HQ.out _ _ _ _ _ _ _ _ _ _ _ _ _ _ _ _ _ _ _ _ _ _ _ _ _ HL.out.rot3.rot3.rot5.rot5.rot6.drop.drop
  · go_simp
    have HL := Lib.hid (Lab.alloc HL.out #[.int .u64 yv] 44)
    obtain ⟨sb, hg⟩ : ∃ sb, wc.heap.size = sb := ⟨_, rfl⟩
    rw [hg] at HL ⊢
    have HT : Hid ((AllT ga gb c (.slice aa ma cca) (.slice ab mb ccb)) (wc.alloc (.cells #[.int .u64 yv] 44))) := Lib.hid (all_T HA.out.1.1 HA.out.2.1 HA.out.1.2 HA.out.2.2 HL.out.rot5.rot4)
    refine hK.out _ _ (.inr ⟨rfl, HT.out⟩) (fun hS => ?_)
    clear hK K hS hg
    generalize wc.alloc (.cells #[.int .u64 yv] 44) = wx1_16 at HL HT ⊢
    try simp only [Act.put, List.setIfInBounds_toArray, List.set_cons_zero, List.set_cons_succ]
    refine wpAnyT_one (i := 9) (o := { dst := some 154, op := Go.Op.buildSlice 36 1 #[(0, Go.Operand.tmp 153)], type := 36, pos := "outright.go:86", after := #[{ on := 8, ground := Go.Ground.data }], guard := none }) (by kernel_rfl) rfl (fun K hK => ?_)
    go_simp
    have HL := Lib.hid (Lab.alloc HL.out #[.int .u64 xv] 44)
    obtain ⟨sa, hg⟩ : ∃ sa, wx1_16.heap.size = sa := ⟨_, rfl⟩
    rw [hg] at HL ⊢
    have HT : Hid ((AllT ga gb c (.slice aa ma cca) (.slice ab mb ccb)) (wx1_16.alloc (.cells #[.int .u64 xv] 44))) := Lib.hid (all_T HA.out.1.1 HA.out.2.1 HA.out.1.2 HA.out.2.2 HL.out.rot6.rot5)
    refine hK.out _ _ (.inr ⟨rfl, HT.out⟩) (fun hS => ?_)
    clear hK K hS hg
    generalize wx1_16.alloc (.cells #[.int .u64 xv] 44) = wx7_9 at HL HT ⊢
    try simp only [Act.put, List.setIfInBounds_toArray, List.set_cons_zero, List.set_cons_succ]
    refine wpAnyT_one (i := 10) (o := { dst := some 155, op := Go.Op.call { callee := Go.Callee.builtin Go.Builtin.append, args := #[Go.Operand.tmp 152, Go.Operand.tmp 154], argTypes := #[36, 36] }, type := 36, pos := "outright.go:86", after := #[{ on := 7, ground := Go.Ground.data }, { on := 9, ground := Go.Ground.data }], guard := none }) (by kernel_rfl) rfl (fun K hK => ?_)
    obtain ⟨aa', cca', wx8_10, hr, hl2⟩ := run_append_box 36 36 44 8 (.int .u64 0) HL.out.rot3 (u := .int .u64 xv) rfl Tryd.underlying36 Tryd.infoU64 rfl (by decide) (by have := HM.out; omega)
    clear HL HT
    have HL := Lib.hid hl2
    have HT : Hid ((AllT ga gb c (.slice aa ma cca) (.slice ab mb ccb)) wx8_10) := Lib.hid (all_T HA.out.1.1 HA.out.2.1 HA.out.1.2 HA.out.2.2 HL.out.rot6.rot5)
    clear hl2
    refine step_append_is (P := Tryd.prog) rfl _ _ 36 rfl _ _ rfl rfl _ _ hr ?_
    refine hK.out _ _ (.inr ⟨rfl, HT.out⟩) (fun hS => ?_)
    clear hK K hr hS
    try simp only [Act.put, List.setIfInBounds_toArray, List.set_cons_zero, List.set_cons_succ]
    refine wpAnyT_one (i := 17) (o := { dst := some 162, op := Go.Op.call { callee := Go.Callee.builtin Go.Builtin.append, args := #[Go.Operand.tmp 159, Go.Operand.tmp 161], argTypes := #[36, 36] }, type := 36, pos := "outright.go:86", after := #[{ on := 14, ground := Go.Ground.data }, { on := 16, ground := Go.Ground.data }, { on := 10, ground := Go.Ground.chain }], guard := none }) (by kernel_rfl) rfl (fun K hK => ?_)
    obtain ⟨ab', ccb', wx9_17, hr, hl2⟩ := run_append_box 36 36 44 8 (.int .u64 0) HL.out.rot3.rot5 (u := .int .u64 yv) rfl Tryd.underlying36 Tryd.infoU64 rfl (by decide) (by have := HM.out; omega)
    clear HL HT
    have HL := Lib.hid hl2
    have HT : Hid ((AllT ga gb c (.slice aa ma cca) (.slice ab mb ccb)) wx9_17) := Lib.hid (all_T HA.out.1.1 HA.out.2.1 HA.out.1.2 HA.out.2.2 HL.out.rot6.rot6)
    clear hl2
    refine step_append_is (P := Tryd.prog) rfl _ _ 36 rfl _ _ rfl rfl _ _ hr ?_
    refine hK.out _ _ (.inr ⟨rfl, HT.out⟩) (fun hS => ?_)
    clear hK K hr
    try simp only [Act.put, List.setIfInBounds_toArray, List.set_cons_zero, List.set_cons_succ]
    refine wpAnyT_takeU (i := 18) (oi := { dst := some 163, op := Go.Op.indexAddr 38 (Go.Operand.tmp 145) (Go.Operand.tmp 146), type := 0, pos := "outright.go:86", after := #[{ on := 0, ground := Go.Ground.data }, { on := 1, ground := Go.Ground.data }, { on := 0, ground := Go.Ground.phase }, { on := 1, ground := Go.Ground.phase }, { on := 2, ground := Go.Ground.textOnly Go.Departure.lateStores }, { on := 3, ground := Go.Ground.textOnly Go.Departure.lateStores }, { on := 4, ground := Go.Ground.phase }, { on := 5, ground := Go.Ground.phase }, { on := 6, ground := Go.Ground.phase }, { on := 7, ground := Go.Ground.phase }, { on := 8, ground := Go.Ground.phase }, { on := 9, ground := Go.Ground.phase }, { on := 10, ground := Go.Ground.phase }, { on := 11, ground := Go.Ground.textOnly Go.Departure.lateStores }, { on := 12, ground := Go.Ground.textOnly Go.Departure.lateStores }, { on := 13, ground := Go.Ground.textOnly Go.Departure.lateStoresUnsure }, { on := 14, ground := Go.Ground.phase }, { on := 15, ground := Go.Ground.textOnly Go.Departure.lateStores }, { on := 16, ground := Go.Ground.textOnly Go.Departure.lateStoresUnsure }, { on := 17, ground := Go.Ground.phase }], guard := none }) (v := ?v18wx917) rfl (by kernel_rfl) (by kernel_rfl) (by kernel_rfl) (by decide) (fun h => absurd h (by decide)) (fun _ _ _ h => h) (Or.inl ⟨by rfl, ?hy18wx917⟩) hS (fun hS => ?rest18wx917)
    case hy18wx917 =>
      intro w hSw
      clear hSw
      go_simp
      with_reducible rfl
    try simp only [Act.put, List.setIfInBounds_toArray, List.set_cons_zero, List.set_cons_succ]
    have hza := (row_cellAt HL.out.rot5.head HA.out.1.2).2
    have hca := (row_cellAt HL.out.rot5.head HA.out.1.2).1
    rw [HA.out.1.1] at hca
    refine wpAnyT_one (i := 19) (o := { dst := none, op := Go.Op.store 36 (Go.Operand.tmp 163) (Go.Operand.tmp 155), type := 0, pos := "outright.go:86", after := #[{ on := 18, ground := Go.Ground.data }, { on := 10, ground := Go.Ground.data }, { on := 17, ground := Go.Ground.chain }, { on := 0, ground := Go.Ground.phase }, { on := 1, ground := Go.Ground.phase }, { on := 2, ground := Go.Ground.textOnly Go.Departure.lateStores }, { on := 3, ground := Go.Ground.textOnly Go.Departure.lateStores }, { on := 4, ground := Go.Ground.phase }, { on := 5, ground := Go.Ground.phase }, { on := 6, ground := Go.Ground.phase }, { on := 7, ground := Go.Ground.phase }, { on := 8, ground := Go.Ground.phase }, { on := 9, ground := Go.Ground.phase }, { on := 10, ground := Go.Ground.phase }, { on := 11, ground := Go.Ground.textOnly Go.Departure.lateStores }, { on := 12, ground := Go.Ground.textOnly Go.Departure.lateStores }, { on := 13, ground := Go.Ground.textOnly Go.Departure.lateStoresUnsure }, { on := 14, ground := Go.Ground.phase }, { on := 15, ground := Go.Ground.textOnly Go.Departure.lateStores }, { on := 16, ground := Go.Ground.textOnly Go.Departure.lateStoresUnsure }, { on := 17, ground := Go.Ground.phase }], guard := none }) (by kernel_rfl) rfl (fun K hK => ?_)
    go_simp
    have HL := Lib.hid (HL.out.rot5.row_set c (.slice aa' (ma + 1) cca'))
    refine hK.out _ _ (.inl ⟨rfl, by decide⟩) (fun hS => ?_)
    clear hK K hza hca HT
    generalize wx9_17.setCell ⟨ga, c, none⟩ (.slice aa' (ma + 1) cca') = w5 at HL hS ⊢
    try simp only [Act.put, List.setIfInBounds_toArray, List.set_cons_zero, List.set_cons_succ]
    refine wpAnyT_takeU (i := 20) (oi := { dst := some 164, op := Go.Op.indexAddr 38 (Go.Operand.tmp 147) (Go.Operand.tmp 148), type := 0, pos := "outright.go:86", after := #[{ on := 2, ground := Go.Ground.data }, { on := 3, ground := Go.Ground.data }, { on := 0, ground := Go.Ground.phase }, { on := 1, ground := Go.Ground.phase }, { on := 2, ground := Go.Ground.phase }, { on := 3, ground := Go.Ground.phase }, { on := 4, ground := Go.Ground.phase }, { on := 5, ground := Go.Ground.phase }, { on := 6, ground := Go.Ground.phase }, { on := 7, ground := Go.Ground.phase }, { on := 8, ground := Go.Ground.phase }, { on := 9, ground := Go.Ground.phase }, { on := 10, ground := Go.Ground.phase }, { on := 11, ground := Go.Ground.phase }, { on := 12, ground := Go.Ground.phase }, { on := 13, ground := Go.Ground.phase }, { on := 14, ground := Go.Ground.phase }, { on := 15, ground := Go.Ground.phase }, { on := 16, ground := Go.Ground.phase }, { on := 17, ground := Go.Ground.phase }, { on := 18, ground := Go.Ground.phase }, { on := 19, ground := Go.Ground.phase }], guard := none }) (v := ?v20wx917) rfl (by kernel_rfl) (by kernel_rfl) (by kernel_rfl) (by decide) (fun h => absurd h (by decide)) (fun _ _ _ h => h) (Or.inl ⟨by rfl, ?hy20wx917⟩) hS (fun hS => ?rest20wx917)
    case hy20wx917 =>
      intro w hSw
      clear hSw
      go_simp
      with_reducible rfl
    try simp only [Act.put, List.setIfInBounds_toArray, List.set_cons_zero, List.set_cons_succ]
    have hza := (row_cellAt HL.out.rot6.head HA.out.2.2).2
    have hca := (row_cellAt HL.out.rot6.head HA.out.2.2).1
    rw [HA.out.2.1] at hca
    refine wpAnyT_one (i := 21) (o := { dst := none, op := Go.Op.store 36 (Go.Operand.tmp 164) (Go.Operand.tmp 162), type := 0, pos := "outright.go:86", after := #[{ on := 20, ground := Go.Ground.data }, { on := 17, ground := Go.Ground.data }, { on := 19, ground := Go.Ground.chain }, { on := 0, ground := Go.Ground.phase }, { on := 1, ground := Go.Ground.phase }, { on := 2, ground := Go.Ground.phase }, { on := 3, ground := Go.Ground.phase }, { on := 4, ground := Go.Ground.phase }, { on := 5, ground := Go.Ground.phase }, { on := 6, ground := Go.Ground.phase }, { on := 7, ground := Go.Ground.phase }, { on := 8, ground := Go.Ground.phase }, { on := 9, ground := Go.Ground.phase }, { on := 10, ground := Go.Ground.phase }, { on := 11, ground := Go.Ground.phase }, { on := 12, ground := Go.Ground.phase }, { on := 13, ground := Go.Ground.phase }, { on := 14, ground := Go.Ground.phase }, { on := 15, ground := Go.Ground.phase }, { on := 16, ground := Go.Ground.phase }, { on := 17, ground := Go.Ground.phase }, { on := 18, ground := Go.Ground.phase }, { on := 19, ground := Go.Ground.phase }], guard := none }) (by kernel_rfl) rfl (fun K hK => ?_)
    go_simp
    have HL := Lib.hid (HL.out.rot6.row_set c (.slice ab' (mb + 1) ccb'))
    refine hK.out _ _ (.inl ⟨rfl, by decide⟩) (fun hS => ?_)
    clear hK K hza hca hS
    try simp only [Act.put, List.setIfInBounds_toArray, List.set_cons_zero, List.set_cons_succ]
    refine wpAnyT_done (by kernel_rfl) ?_ _
    refine NoPanic.normal ?_
    exact HQ.out _ _ _ _ _ _ _ _ _ _ _ _ _ _ _ _ _ _ _ _ _ _ _ _ _ HL.out.rot3.rot3.rot5.rot5.rot6.drop.drop
end
end Go.Proofs.YtmfendfpjpbhdaaDoor
