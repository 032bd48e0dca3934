/- StPa, StPb, StPc, StPd, StX, StLP: joined by wip/bundle.py. -/
import Derived.Test.YtiklidgcmheofaaDoorB1
import Derived.Test.YtiklidgcmheofaaDoorB2
import Derived.Test.YtiklidgcmheofaaDoorB3
import Derived.Test.YtiklidgcmheofaaDoorB4
import Derived.Test.YtiklidgcmheofaaDoorB5
import Derived.Test.YtiklidgcmheofaaDoorB6
import Derived.Test.YtiklidgcmheofaaDoorB7
import Derived.Test.YtiklidgcmheofaaDoorB8
import Derived.Test.YtiklidgcmheofaaDoorB9
import Derived.Test.YtiklidgcmheofaaDoorB10
import Derived.Test.YtiklidgcmheofaaDoorB11
import Derived.Test.YtiklidgcmheofaaDoorB12
import Derived.Test.YtiklidgcmheofaaDoorB13
import Derived.Test.YtiklidgcmheofaaDoorB14
import Derived.Test.YtiklidgcmheofaaDoorB15
import Derived.Test.YtiklidgcmheofaaDoorB16
import Derived.Test.YtiklidgcmheofaaDoorB17
import Derived.Test.YtiklidgcmheofaaDoorB18
import Derived.Test.YtiklidgcmheofaaDoorB19
import Derived.Test.YtiklidgcmheofaaDoorB20
import Derived.Laws.BitsAllLaws
import Derived.Lib.Hide
import Derived.WalkKit
import Derived.WalkSpells
import Derived.WalkLawsBesides
import Derived.BigQuiet
import Derived.Deep.QuietTactic
import Derived.Deep.RegionHeld3
import Derived.ProofKit
import Derived.Maps.Keyed
import Derived.DeepKeys4
import Derived.StillTailTactics
import Derived.Laws.CopyOwn
import Derived.Deep.RegionLaw
import Derived.Deep.Slices
import Derived.Deep.Fields
import Derived.ChangeSame
import Derived.OpenShut
import Derived.Deep.DeepCutAuto
import Derived.Deep.CutBlock
import Derived.Deep.OwnRows
import Derived.Maps.RangeWalk
import Derived.Deep.DrawnRows
import Derived.Outline
import Derived.Deep.Upon
import Derived.WideKeyArr2
import Derived.Lib.AppendZeros
import Derived.BigRegion
import Derived.StillTail
import Derived.Lib.TrailingZeros
import Derived.RangeFuncRecord
import Derived.RangeFuncNested
import Derived.RangeFuncCalls
import Derived.RangeFuncLeaves
import Derived.OwnWalkIn
import Derived.TacticsInMore
import Derived.LoopNIn
import Derived.LoopIn
import Derived.Laws.EntriesVeiled
import Derived.OrdersHeld
import Derived.Laws.IdiomStrings
import Derived.BigGuardPart
import Derived.Lib.LaidTab
namespace Go.Proofs.YtiklidgcmheofaaDoor
section
variable {W : Nat} {L L1 L2 : List PNode} {xs ys : List Int} {x t k s : Nat}
/-- Load of an index that is within. -/
theorem LoadInv.at_ (h : LoadInv W L xs k xs.length L1 s) {vals : List Int} {j : Nat} (hk : val W vals L k = (j : Int)) (hj : j < xs.length) : val W vals L1 s = val W vals L (xs.getD j 0).toNat := by
  rw [h.got.val vals]
  unfold loadV
  rw [hk, if_pos (by omega), Int.toNat_natCast]
/-- Load behind a Put. -/
theorem put_load (hp : PutInv W L xs x t xs.length L1 ys) (h : LoadInv W L1 ys k ys.length L2 s) (hk : k < L.length) {vals : List Int} {i j : Nat} (hx : val W vals L x = (i : Int)) (hkj : val W vals L k = (j : Int)) (hj : j < xs.length) :
    val W vals L2 s = if i = j then val W vals L t else val W vals L (xs.getD j 0).toNat := by
  have hk1 : val W vals L1 k = (j : Int) := by rw [val_prefix hp.pre hk]; exact hkj
  rw [h.at_ hk1 (by rw [hp.len]; exact hj)]
  obtain ⟨u, h1, -, h3⟩ := hp.each j hj
  rw [List.getD_eq_getElem?_getD, h1]
  simp only [Option.getD_some, Int.toNat_natCast]
  rw [h3 vals, hx]
  by_cases e : i = j
  · rw [if_pos ⟨hj, by rw [e]⟩, if_pos e]
  · rw [if_neg (fun h => e (by have := h.2; omega)), if_neg e]
end
end Go.Proofs.YtiklidgcmheofaaDoor
namespace Go.Proofs.YtiklidgcmheofaaDoor
/-- The values of the two variables. -/
def twoV (W v : Nat) : List Int := [((v % 2 ^ W : Nat) : Int), ((v / 2 ^ W : Nat) : Int)]
/-- What the last loop of the law leans on. -/
structure PutV (W sz n1 n2 : Nat) (L : List PNode) (is was t : Nat) : Prop where
  l1 : is < L.length
  l2 : was < L.length
  l3 : t < L.length
  eq : ∀ v, v < 2 ^ (2 * W) → ∀ i j : Nat, (twoV W v).getD n1 0 = (i : Int) → (twoV W v).getD n2 0 = (j : Int) → i < sz → j < sz → val W (twoV W v) L is = if i = j then val W (twoV W v) L t else val W (twoV W v) L was
section
variable {W sz n1 n2 x k t was is : Nat} {L0 L1 L2 L La Lb Lc : List PNode} {xs ys : List Int}
theorem two_lt {W v : Nat} (hv : v < 2 ^ (2 * W)) {n i : Nat} (h : (twoV W v).getD n 0 = (i : Int)) : i < 2 ^ W := by
  have hp : 0 < 2 ^ W := Nat.pos_of_ne_zero (by simp)
  have h1 := Nat.mod_lt v hp
  have h2 : v / 2 ^ W < 2 ^ W := Nat.div_lt_of_lt_mul (by rw [← Nat.pow_add, ← Nat.two_mul]; exact hv)
  unfold twoV at h
  match n with
  | 0 => have h' : ((v % 2 ^ W : Nat) : Int) = (i : Int) := h
         have := Int.ofNat_inj.1 h'
         omega
  | 1 => have h' : ((v / 2 ^ W : Nat) : Int) = (i : Int) := h
         have := Int.ofNat_inj.1 h'
         omega
  | n + 2 => have h' : (0 : Int) = (i : Int) := h
             omega
theorem two_var {W v : Nat} (hv : v < 2 ^ (2 * W)) {n i : Nat} (hn : n < 2) (h : (twoV W v).getD n 0 = (i : Int)) : (if n < (twoV W v).length then ((((twoV W v).getD n 0).toNat % 2 ^ W : Nat) : Int) else 0) = (i : Int) := by
  rw [if_pos (show n < (twoV W v).length from hn), h, Int.toNat_natCast, Nat.mod_eq_of_lt (two_lt hv h)]
theorem putV (hi : Got W L0 L1 x (fun vals => if n1 < vals.length then (((vals.getD n1 0).toNat % 2 ^ W : Nat) : Int) else 0)) (hk : Got W L1 L2 k (fun vals => if n2 < vals.length then (((vals.getD n2 0).toNat % 2 ^ W : Nat) : Int) else 0)) (h1 : n1 < 2) (h2 : n2 < 2)
    (hp : L2 <+: L) (ht : t < L2.length) (hxs : xs.length = sz) (hin : ∀ e ∈ xs, (0 : Int) ≤ e ∧ e < (L.length : Int)) (hw : LoadInv W L xs k sz La was) (hput : PutInv W La xs x t sz Lb ys) (hl : LoadInv W Lb ys k sz Lc is) : PutV W sz n1 n2 Lc is was t := by
  have hpa : L <+: La := hw.got.pre
  have hpb : La <+: Lb := hput.pre
  have hpc : Lb <+: Lc := hl.got.pre
  have hk2 : k < L2.length := hk.lt
  have hx2 : x < L2.length := Nat.lt_of_lt_of_le hi.lt hk.pre.length_le
  have hLL := hp.length_le; have hLa := hpa.length_le; have hLb := hpb.length_le; have hLc := hpc.length_le
  have hwl : was < La.length := hw.got.lt
  subst hxs
  have hyl : ys.length = xs.length := hput.len
  refine ⟨hl.got.lt, by omega, by omega, fun v hv i j ei ej hi' hj' => ?_⟩
  have vx : val W (twoV W v) La x = (i : Int) := by
    rw [val_prefix (hp.trans hpa) hx2, val_prefix hk.pre hi.lt, hi.val, two_var hv h1 ei]
  have vk : val W (twoV W v) L k = (j : Int) := by
    rw [val_prefix hp hk2, hk.val, two_var hv h2 ej]
  have vka : val W (twoV W v) La k = (j : Int) := by rw [val_prefix hpa (by omega)]; exact vk
  have e1 := put_load (vals := twoV W v) (i := i) (j := j) hput (by rw [hyl]; exact hl) (show k < La.length by omega) vx vka hj'
  have e2 := hw.at_ (vals := twoV W v) vk hj'
  have hj2 := hin (xs[j]) (List.getElem_mem hj')
  rw [List.getD_eq_getElem?_getD, List.getElem?_eq_getElem hj'] at e1 e2
  simp only [Option.getD_some] at e1 e2
  rw [e1, val_prefix (hpb.trans hpc) (show was < La.length from hwl), val_prefix (hpb.trans hpc) (show t < La.length by omega), e2, val_prefix hpa (show (xs[j]).toNat < L.length by omega)]
end
end Go.Proofs.YtiklidgcmheofaaDoor
namespace Go.Proofs.YtiklidgcmheofaaDoor
open Go.RowKit Go.Maps
set_option maxHeartbeats 3200000
noncomputable def putRest (id : Nat) : Code := (Tryd.f3.body.bind (tailAt id)).getD .skip
/-- What the walk of StorePut leans on behind its front. -/
structure PutIn (w : World) (q W nR sz m na : Nat) (v1 v2 v4 : Value) (a3 : Option Addr) (c3 : Nat) (ars : List Int) (index other n1 n2 : Nat) : Prop where
  tab : ShpOk w
  cells : ∀ (wx : World) (us : List Thing), Lab w wx us → Thing.box q 26 #[.int .i64 W, .int .i64 nR, v1, v2, .slice a3 na c3, v4] ∈ us → wx.cell? ⟨q, 0, none⟩ = some (.int .i64 W) ∧ wx.cell? ⟨q, 4, none⟩ = some (.slice a3 na c3)
  arrays : SliceOf w .i64 (.slice a3 na c3) ars
  size : ars[m]? = some (sz : Int)
  mna : m < na
  sz8 : sz ≤ 8
  W1 : 1 ≤ W
  W3 : W ≤ 3
  c1 : n1 < 2
  c2 : n2 < 2
  i1 : index % 2 = n1
  i2 : other % 2 = n2
  b1 : index ≤ 255
  b2 : other ≤ 255
theorem two_cell {wx : World} {b lo hh : Nat} (h : wx.heap[b]? = some (.cells #[.int .u64 lo, .int .u64 hh] 40 (0, 0))) {n : Nat} (hn : n < 2) : ∃ i : Nat, [(lo : Int), (hh : Int)].getD n 0 = (i : Int) ∧ wx.cell? ⟨b, n, none⟩ = some (.int .u64 i) := by
  have hc : n = 0 ∨ n = 1 := by omega
  rcases hc with rfl | rfl
  · exact ⟨lo, rfl, cell_of_cells h (i := 0) rfl⟩
  · exact ⟨hh, rfl, cell_of_cells h (i := 1) rfl⟩
section
variable {w wc : World} {q W nR sz m na gb sb : Nat} {v1 v2 v4 : Value} {a3 : Option Addr} {c3 : Nat} {ars : List Int} {index other n1 n2 : Nat} {y : Lay} {regs : List Int} {arrs : List (List Int)} {F I : List Nat} {L : List PNode} {is was t : Nat}
abbrev putPost (w : World) : Exit → Act → World → Prop := bodyPost Tryd.prog Tryd.f3 (fun e w' => e = .returned (.bool true) ∧ Below w.heap.size w w')
set_option maxRecDepth 100000 in
theorem put_rest28 {u0 u1 u2 u5 u7 u8 u9 u10 u11 u12 u14 u15 u16 u17 u18 u20 u22 u23 u24 u25 u26 u29 u30 u31 u32 u33 u34 u35 u36 u37 u38 u39 u40 u41 u42 u43 u44 u45 u46 u47 u48 u49 u50 u51 u52 u53 u54 u55 u56 u57 u58 u59 u60 u61 u62 u63 u64 u65 u66 u67 u68 u69 u70 u71 u72 u73 u74 u75 u76 u77 u78 u79 u80 u81 u82 u83 u84 u85 u86 u87 u88 u89 u90 u91 u92 u93 u94 u95 u96 u97 u98 u99 u100 u101 u102 u103 u104 u105 u106 u107 u108 u109 u110 u111 u112 u113 u114 u115 u116 u117 u118 u119 u120 u121 u122 u123 u124 u125 u126 u127 u128 u129 u130 u131 u132 u133 u134 u135 u136 u137 u138 u139 u140 u141 u142 u143 u144 u145 u146 u147 u148 u149 u150 u151 u152 u153 u154 u155 u156 u157 u158 u159 u160 u161 u162 u163 u164 u165 u166 u167 u168 u169 u170 u171 u172 u173 u174 u175 u176 u177 u178 u179 u180 u181 u182 u183 u184 u185 u186 u187 u188 u189 u190 u191 u192 u193 u194 u195 u196 u197 u198 u199 u200 u201 u202 u203 u204 u205 u206 u207 u208 u209 u210 u211 u212 u213 u214 u215 u216 u217 u218 u219 u220 u221 u222 u223 u224 u225 u226 u227 u228 u229 u230 u231 u232 u233 u234 u235 u236 u237 u238 u239 u240 u241 u242 u243 u244 u245 u246 u247 u248 u249 u250 u251 u252 u253 u254 u255 u256 u257 u258 u259 u260 u261 u262 u263 u264 u265 u266 u267 u268 u269 u270 u271 u272 u273 u274 u275 u276 u277 u278 u279 u280 u281 u282 u283 u284 u285 u286 u287 u288 u289 u290 u291 u292 u293 u294 u295 u296 u297 : Value} (hin : PutIn w q W nR sz m na v1 v2 v4 a3 c3 ars index other n1 n2) (hP : PutV W sz n1 n2 L is was t)
    (hl : Lab w wc (Thing.graph F I gb W 20000 L :: Thing.gst gb sb y regs arrs :: [Thing.box q 26 #[.int .i64 W, .int .i64 nR, v1, v2, .slice a3 na c3, v4]])) :
    Code.wp Tryd.prog (putRest 28) (putPost w) ⟨(List.toArray (u0 :: u1 :: u2 :: .int .u8 index :: .int .u8 other :: u5 :: .pointer (some ⟨q, 0, none⟩) :: u7 :: u8 :: u9 :: u10 :: u11 :: u12 :: .pointer (some ⟨gb, 0, none⟩) :: u14 :: u15 :: u16 :: u17 :: u18 :: .int .i64 t :: u20 :: .int .i64 m :: u22 :: u23 :: u24 :: u25 :: u26 :: .int .i64 was :: .int .i64 is :: u29 :: u30 :: u31 :: u32 :: u33 :: u34 :: u35 :: u36 :: u37 :: u38 :: u39 :: u40 :: u41 :: u42 :: u43 :: u44 :: u45 :: u46 :: u47 :: u48 :: u49 :: u50 :: u51 :: u52 :: u53 :: u54 :: u55 :: u56 :: u57 :: u58 :: u59 :: u60 :: u61 :: u62 :: u63 :: u64 :: u65 :: u66 :: u67 :: u68 :: u69 :: u70 :: u71 :: u72 :: u73 :: u74 :: u75 :: u76 :: u77 :: u78 :: u79 :: u80 :: u81 :: u82 :: u83 :: u84 :: u85 :: u86 :: u87 :: u88 :: u89 :: u90 :: u91 :: u92 :: u93 :: u94 :: u95 :: u96 :: u97 :: u98 :: u99 :: u100 :: u101 :: u102 :: u103 :: u104 :: u105 :: u106 :: u107 :: u108 :: u109 :: u110 :: u111 :: u112 :: u113 :: u114 :: u115 :: u116 :: u117 :: u118 :: u119 :: u120 :: u121 :: u122 :: u123 :: u124 :: u125 :: u126 :: u127 :: u128 :: u129 :: u130 :: u131 :: u132 :: u133 :: u134 :: u135 :: u136 :: u137 :: u138 :: u139 :: u140 :: u141 :: u142 :: u143 :: u144 :: u145 :: u146 :: u147 :: u148 :: u149 :: u150 :: u151 :: u152 :: u153 :: u154 :: u155 :: u156 :: u157 :: u158 :: u159 :: u160 :: u161 :: u162 :: u163 :: u164 :: u165 :: u166 :: u167 :: u168 :: u169 :: u170 :: u171 :: u172 :: u173 :: u174 :: u175 :: u176 :: u177 :: u178 :: u179 :: u180 :: u181 :: u182 :: u183 :: u184 :: u185 :: u186 :: u187 :: u188 :: u189 :: u190 :: u191 :: u192 :: u193 :: u194 :: u195 :: u196 :: u197 :: u198 :: u199 :: u200 :: u201 :: u202 :: u203 :: u204 :: u205 :: u206 :: u207 :: u208 :: u209 :: u210 :: u211 :: u212 :: u213 :: u214 :: u215 :: u216 :: u217 :: u218 :: u219 :: u220 :: u221 :: u222 :: u223 :: u224 :: u225 :: u226 :: u227 :: u228 :: u229 :: u230 :: u231 :: u232 :: u233 :: u234 :: u235 :: u236 :: u237 :: u238 :: u239 :: u240 :: u241 :: u242 :: u243 :: u244 :: u245 :: u246 :: u247 :: u248 :: u249 :: u250 :: u251 :: u252 :: u253 :: u254 :: u255 :: u256 :: u257 :: u258 :: u259 :: u260 :: u261 :: u262 :: u263 :: u264 :: u265 :: u266 :: u267 :: u268 :: u269 :: u270 :: u271 :: u272 :: u273 :: u274 :: u275 :: u276 :: u277 :: u278 :: u279 :: u280 :: u281 :: u282 :: u283 :: u284 :: u285 :: u286 :: u287 :: u288 :: u289 :: u290 :: u291 :: u292 :: u293 :: u294 :: u295 :: u296 :: u297 :: [])), []⟩ wc := by
  have hmi : ((index : Int).tmod 2) = (n1 : Int) := by rw [← hin.i1]; exact tmod_nat index 2
  have hmo : ((other : Int).tmod 2) = (n2 : Int) := by rw [← hin.i2]; exact tmod_nat other 2
  have HI := Lib.hid hin; have HP := Lib.hid hP; have HL := Lib.hid hl
  have hw1 := hin.W1; have hw3 := hin.W3
  obtain ⟨M, hM⟩ : ∃ M, 2 ^ (2 * W) = M := ⟨_, rfl⟩
  have hM64 : M ≤ 64 := by
    have hc : W = 1 ∨ W = 2 ∨ W = 3 := by omega
    rcases hc with rfl | rfl | rfl <;> omega
  have wM : IntKind.u64.wrap ((2 : Int) ^ (2 * W)) = (M : Int) := by rw [wrap_powS (by omega), hM]
  have hp := wrap_pow W (by omega) (by omega)
  rw [Int.toNat_natCast] at hp
  obtain ⟨K, hK⟩ : ∃ K, 2 ^ W - 1 = K := ⟨_, rfl⟩
  rw [hK] at hp
  have hmw : min W 64 = W := by omega
  have HM := Lib.hid (And.intro hM hK)
  have hmi2 : (index : Int) % 2 = (n1 : Int) := by have := hin.i1; omega
  have hmo2 : (other : Int) % 2 = (n2 : Int) := by have := hin.i2; omega
  have wi1 : IntKind.u8.wrap (n1 : Int) = (n1 : Int) := by have := hin.c1; rw [IntKind.wrap_u8]; omega
  have wi2 : IntKind.u8.wrap (n2 : Int) = (n2 : Int) := by have := hin.c2; rw [IntKind.wrap_u8]; omega
  have wsz : IntKind.u64.wrap (sz : Int) = (sz : Int) := by have := hin.sz8; rw [IntKind.wrap_u64]; omega
  have hm0 : (0 : Int) ≤ (m : Int) := by omega
  have hm1 : (m : Int) < (na : Int) := by have := hin.mna; omega
  obtain ⟨ab, ao, sq, ha3, hca, hsq⟩ := SliceOf.parts' hin.arrays hin.mna
  subst ha3
  rw [hin.size] at hsq
  obtain rfl := Option.some.inj hsq
  have HCA := Lib.hid hca
  clear hca hsq
  clear hin hP hl hM hK
  conv => arg 2; whnf
  go_wp2
  go_loopw [29] (fun s wx => ∃ v : Nat, v ≤ M ∧ s = .int .u64 v ∧ Lab w wx (Thing.graph F I gb W 20000 L :: Thing.gst gb sb y regs arrs :: [Thing.box q 26 #[.int .i64 W, .int .i64 nR, v1, v2, .slice (some ⟨ab, ao, none⟩) na c3, v4]])) (fun s _ => M - (intOf s).toNat)
  case atStart => exact ⟨0, Nat.zero_le _, rfl, HL.out⟩
  case round =>
    clear HL
    obtain ⟨v, hv, rfl, hl⟩ := hrel
    obtain ⟨q0, q4⟩ := HI.out.cells _ _ hl (by simp)
    have HL := Lib.hid hl
    clear hl
    by_cases hlt : v < M
    · have hlt' : (v : Int) < (M : Int) := by omega
      have v0 : (0 : Int) ≤ (v : Int) := by omega
      obtain ⟨lo, hlo⟩ : ∃ lo, v % 2 ^ W = lo := ⟨_, rfl⟩
      obtain ⟨hh, hhi⟩ : ∃ hh, v / 2 ^ W = hh := ⟨_, rfl⟩
      have ha := and_mask v W (by omega) (by omega) (by omega)
      rw [HM.out.2, hlo] at ha
      have HV := Lib.hid (And.intro hlo hhi)
      clear hlo hhi
      have hsh : (v : Int) / (2 : Int) ^ W = (hh : Int) := by rw [← HV.out.2]; simp
      obtain ⟨b5, hb5⟩ : ∃ b5, wr.heap.size = b5 := ⟨_, rfl⟩
      have hla := HL.out.alloc #[.int .u64 lo, .int .u64 hh] 40
      rw [hb5] at hla
      have HLA := Lib.hid hla
      clear hla HL
      go_upto_region 32 with fail
      clear ha wM q0 q4 hsh hp
      refine wp_abs (fun wx => Lab w wx (Thing.box b5 40 #[.int .u64 lo, .int .u64 hh] :: Thing.graph F I gb W 20000 L :: Thing.gst gb sb y regs arrs :: [Thing.box q 26 #[.int .i64 W, .int .i64 nR, v1, v2, .slice (some ⟨ab, ao, none⟩) na c3, v4]])) HLA.out ?_
      intro w2 hl2
      obtain ⟨q0, q4⟩ := HI.out.cells _ _ hl2 (by simp)
      obtain ⟨i, ei, d1⟩ := two_cell hl2.box1 HI.out.c1
      obtain ⟨j, ej, d2⟩ := two_cell hl2.box1 HI.out.c2
      have ca := cell_later hl2.below HCA.out
      have hn1 : (n1 : Int) < 2 := by have := HI.out.c1; omega
      have hn2 : (n2 : Int) < 2 := by have := HI.out.c2; omega
      have p1 : (0 : Int) ≤ (n1 : Int) := by omega
      have p2 : (0 : Int) ≤ (n2 : Int) := by omega
      have HE := Lib.hid (And.intro ei ej); have HL2 := Lib.hid hl2
      clear ei ej hl2 HLA hb5
      go_quiet (fail)
      clear d1 d2 hn1 hn2 p1 p2
      by_cases hi : sz ≤ i
      · have hi' : decide ((sz : Int) ≤ (i : Int)) = true := decide_eq_true (by omega)
        have HL3 := Lib.hid HL2.out.drop
        clear HL2 hi'
        go_wp2
        refine ⟨⟨v + 1, by omega, by go_num, HL3.out.later (by first | exact Below.refl _ _ | exact below_drewN (Below.refl _ _) _)⟩, ?_⟩
        simp [intOf]; omega
      · have hi' : decide ((sz : Int) ≤ (i : Int)) = false := decide_eq_false (by omega)
        by_cases hj : sz ≤ j
        · have hj' : decide ((sz : Int) ≤ (j : Int)) = true := decide_eq_true (by omega)
          have HL3 := Lib.hid HL2.out.drop
          have hi2 : i < sz := by omega
          clear HL2 hi' hj'
          go_wp2
          refine ⟨⟨v + 1, by omega, by go_num, HL3.out.later (by first | exact Below.refl _ _ | exact below_drewN (Below.refl _ _) _)⟩, ?_⟩
          simp [intOf]; omega
        · have hi' := trivial; have hj' := trivial
          have hi2 : i < sz := by omega
          have hj2 : j < sz := by omega
          have htv : twoV W v = [(lo : Int), (hh : Int)] := by unfold twoV; rw [HV.out.1, HV.out.2]
          have hPV := HP.out.eq v (by rw [HM.out.1]; exact hlt) i j (by rw [htv]; exact HE.out.1) (by rw [htv]; exact HE.out.2) hi2 hj2
          rw [htv] at hPV
          obtain ⟨X, hX⟩ : ∃ X, val W [(lo : Int), (hh : Int)] L is = X := ⟨_, rfl⟩
          obtain ⟨Y, hY⟩ : ∃ Y, val W [(lo : Int), (hh : Int)] L was = Y := ⟨_, rfl⟩
          obtain ⟨Z, hZ⟩ : ∃ Z, val W [(lo : Int), (hh : Int)] L t = Z := ⟨_, rfl⟩
          rw [hX, hY, hZ] at hPV
          have e1 : evalR W [(lo : Int), (hh : Int)] L (is : Int) = (X, 0) := by unfold evalR; rw [if_pos ⟨by omega, by have := HP.out.l1; omega⟩, Int.toNat_natCast, hX]
          have e2 : evalR W [(lo : Int), (hh : Int)] L (was : Int) = (Y, 0) := by unfold evalR; rw [if_pos ⟨by omega, by have := HP.out.l2; omega⟩, Int.toNat_natCast, hY]
          have e3 : evalR W [(lo : Int), (hh : Int)] L (t : Int) = (Z, 0) := by unfold evalR; rw [if_pos ⟨by omega, by have := HP.out.l3; omega⟩, Int.toNat_natCast, hZ]
          have hlo64 : lo ≤ 64 := by have h1 := Nat.mod_le v (2 ^ W); have h2 := HV.out.1; omega
          have hhi64 : hh ≤ 64 := by have h1 := Nat.div_le_self v (2 ^ W); have h2 := HV.out.2; omega
          have hu : U64s [(lo : Int), (hh : Int)] := by intro x hx; simp at hx; omega
          have hev : ∀ (wx : World) (tt : Int) (Q : Int), Lab w wx (Thing.graph F I gb W 20000 L :: Thing.box b5 40 #[.int .u64 lo, .int .u64 hh] :: Thing.gst gb sb y regs arrs :: [Thing.box q 26 #[.int .i64 W, .int .i64 nR, v1, v2, .slice (some ⟨ab, ao, none⟩) na c3, v4]]) → evalR W [(lo : Int), (hh : Int)] L tt = (Q, 0) →
              Calls Tryd.prog 15 #[.pointer (some ⟨gb, 0, none⟩), .int .i64 tt, .slice (some ⟨b5, 0, none⟩) 2 2] wx fun e w' => e = .returned (.tuple #[.int .u64 Q, .int .i64 0]) ∧ Below wx.heap.size wx w' := fun wx tt Q hx hq => by
            have h := eval_any hx.gr tt [(lo : Int), (hh : Int)] (.slice (some ⟨b5, 0, none⟩) 2 2) (slice_of_box (T := 40) (xs := [(lo : Int), (hh : Int)]) hx.box2) (by simp) hu
            rw [hq] at h
            exact h
          have HEV := Lib.hid hev; have HL3 := Lib.hid (HL2.out.swap.later (show Below w2.heap.size w2 (w2.drewN nq) from below_drewN (Below.refl _ _) _)); have HQ := Lib.hid (And.intro e1 (And.intro e2 e3))
          clear hev hu e1 e2 e3 hX hY hZ htv HL2 hlo64 hhi64 hi' hj'
          by_cases hij : i = j
          · rw [if_pos hij] at hPV
            subst hij
            subst hPV
            have hXX : ((X : Int) != (X : Int)) = false := by simp
            have hii : ((i : Int) == (i : Int)) = true := by simp
            have hii2 : ((i : Int) != (i : Int)) = false := by simp
            go_wp2_with fail
            go_at_call 15
            refine (HEV.out _ _ _ HL3.out HQ.out.1).mono ?_
            rintro e w3 ⟨rfl, hb3⟩
            have HL4 := Lib.hid (HL3.out.later hb3)
            clear hb3 HL3
            go_wp2_with fail
            go_at_call 15
            refine (HEV.out _ _ _ HL4.out HQ.out.2.1).mono ?_
            rintro e w4 ⟨rfl, hb4⟩
            have HL5 := Lib.hid (HL4.out.later hb4)
            clear hb4 HL4
            go_wp2_with fail
            go_at_call 15
            refine (HEV.out _ _ _ HL5.out HQ.out.2.2).mono ?_
            rintro e w5 ⟨rfl, hb5⟩
            have HL6 := Lib.hid (HL5.out.later hb5).swap.drop
            clear hb5 HL5
            go_wp2
            refine ⟨⟨v + 1, by omega, by go_num, HL6.out⟩, ?_⟩
            simp [intOf]; omega
          · rw [if_neg hij] at hPV
            subst hPV
            have hXX : ((X : Int) != (X : Int)) = false := by simp
            have hii : ((i : Int) == (j : Int)) = false := by rw [beq_eq_false_iff_ne]; omega
            have hii2 : ((i : Int) != (j : Int)) = true := by rw [bne_iff_ne]; omega
            go_wp2_with fail
            go_at_call 15
            refine (HEV.out _ _ _ HL3.out HQ.out.1).mono ?_
            rintro e w3 ⟨rfl, hb3⟩
            have HL4 := Lib.hid (HL3.out.later hb3)
            clear hb3 HL3
            go_wp2_with fail
            go_at_call 15
            refine (HEV.out _ _ _ HL4.out HQ.out.2.1).mono ?_
            rintro e w4 ⟨rfl, hb4⟩
            have HL5 := Lib.hid (HL4.out.later hb4)
            clear hb4 HL4
            go_wp2_with fail
            go_at_call 15
            refine (HEV.out _ _ _ HL5.out HQ.out.2.2).mono ?_
            rintro e w5 ⟨rfl, hb5⟩
            have HL6 := Lib.hid (HL5.out.later hb5).swap.drop
            clear hb5 HL5
            go_wp2
            refine ⟨⟨v + 1, by omega, by go_num, HL6.out⟩, ?_⟩
            simp [intOf]; omega
    · obtain rfl : M = v := by omega
      have HB := Lib.hid HL.out.below
      clear HL
      go_wp2_with fail
      go_at_call 8
      refine (awake30_any (HI.out.tab.later HB.out)).mono ?_
      rintro e w6 ⟨rfl, hb6⟩
      go_wp2
      go_ret
      exact ⟨rfl, HB.out.trans (hb6.mono HB.out.size)⟩
end
end Go.Proofs.YtiklidgcmheofaaDoor
namespace Go.Proofs.YtiklidgcmheofaaDoor
open Go.RowKit Go.Maps
set_option maxHeartbeats 3200000
section
variable {w wc : World} {q W nR sz m na gb sb : Nat} {v1 v2 v4 : Value} {a3 : Option Addr} {c3 : Nat} {ars : List Int} {index other n1 n2 : Nat} {y : Lay} {regs : List Int} {arrs : List (List Int)} {F I : List Nat} {L0 L1 L2 L : List PNode} {x k t : Nat} {xs : List Int}
set_option maxRecDepth 100000 in
theorem put_rest22 {u0 u1 u2 u5 u7 u8 u9 u10 u11 u12 u14 u18 u20 u22 u23 u24 u25 u26 u27 u28 u29 u30 u31 u32 u33 u34 u35 u36 u37 u38 u39 u40 u41 u42 u43 u44 u45 u46 u47 u48 u49 u50 u51 u52 u53 u54 u55 u56 u57 u58 u59 u60 u61 u62 u63 u64 u65 u66 u67 u68 u69 u70 u71 u72 u73 u74 u75 u76 u77 u78 u79 u80 u81 u82 u83 u84 u85 u86 u87 u88 u89 u90 u91 u92 u93 u94 u95 u96 u97 u98 u99 u100 u101 u102 u103 u104 u105 u106 u107 u108 u109 u110 u111 u112 u113 u114 u115 u116 u117 u118 u119 u120 u121 u122 u123 u124 u125 u126 u127 u128 u129 u130 u131 u132 u133 u134 u135 u136 u137 u138 u139 u140 u141 u142 u143 u144 u145 u146 u147 u148 u149 u150 u151 u152 u153 u154 u155 u156 u157 u158 u159 u160 u161 u162 u163 u164 u165 u166 u167 u168 u169 u170 u171 u172 u173 u174 u175 u176 u177 u178 u179 u180 u181 u182 u183 u184 u185 u186 u187 u188 u189 u190 u191 u192 u193 u194 u195 u196 u197 u198 u199 u200 u201 u202 u203 u204 u205 u206 u207 u208 u209 u210 u211 u212 u213 u214 u215 u216 u217 u218 u219 u220 u221 u222 u223 u224 u225 u226 u227 u228 u229 u230 u231 u232 u233 u234 u235 u236 u237 u238 u239 u240 u241 u242 u243 u244 u245 u246 u247 u248 u249 u250 u251 u252 u253 u254 u255 u256 u257 u258 u259 u260 u261 u262 u263 u264 u265 u266 u267 u268 u269 u270 u271 u272 u273 u274 u275 u276 u277 u278 u279 u280 u281 u282 u283 u284 u285 u286 u287 u288 u289 u290 u291 u292 u293 u294 u295 u296 u297 : Value} (hin : PutIn w q W nR sz m na v1 v2 v4 a3 c3 ars index other n1 n2)
    (hi : Got W L0 L1 x (fun vals => if n1 < vals.length then (((vals.getD n1 0).toNat % 2 ^ W : Nat) : Int) else 0)) (hk : Got W L1 L2 k (fun vals => if n2 < vals.length then (((vals.getD n2 0).toNat % 2 ^ W : Nat) : Int) else 0))
    (hp : L2 <+: L) (ht : t < L2.length) (hok : GOk W L) (hph : phi W L ≤ 300) (hs1 : 1 ≤ sz) (hax : arrs[m]? = some xs) (hxs : xs.length = sz) (hxin : ∀ e ∈ xs, (0 : Int) ≤ e ∧ e < (L.length : Int)) (hyl : arrs.length = y.vs.length)
    (hl : Lab w wc (Thing.graph F I gb W 20000 L :: Thing.gst gb sb y regs arrs :: [Thing.box q 26 #[.int .i64 W, .int .i64 nR, v1, v2, .slice a3 na c3, v4]])) :
    Code.wp Tryd.prog (putRest 22) (putPost w) ⟨(List.toArray (u0 :: u1 :: u2 :: .int .u8 index :: .int .u8 other :: u5 :: .pointer (some ⟨q, 0, none⟩) :: u7 :: u8 :: u9 :: u10 :: u11 :: u12 :: .pointer (some ⟨gb, 0, none⟩) :: u14 :: .pointer (some ⟨sb, 0, none⟩) :: .int .i64 x :: .int .i64 k :: u18 :: .int .i64 t :: u20 :: .int .i64 m :: u22 :: u23 :: u24 :: u25 :: u26 :: u27 :: u28 :: u29 :: u30 :: u31 :: u32 :: u33 :: u34 :: u35 :: u36 :: u37 :: u38 :: u39 :: u40 :: u41 :: u42 :: u43 :: u44 :: u45 :: u46 :: u47 :: u48 :: u49 :: u50 :: u51 :: u52 :: u53 :: u54 :: u55 :: u56 :: u57 :: u58 :: u59 :: u60 :: u61 :: u62 :: u63 :: u64 :: u65 :: u66 :: u67 :: u68 :: u69 :: u70 :: u71 :: u72 :: u73 :: u74 :: u75 :: u76 :: u77 :: u78 :: u79 :: u80 :: u81 :: u82 :: u83 :: u84 :: u85 :: u86 :: u87 :: u88 :: u89 :: u90 :: u91 :: u92 :: u93 :: u94 :: u95 :: u96 :: u97 :: u98 :: u99 :: u100 :: u101 :: u102 :: u103 :: u104 :: u105 :: u106 :: u107 :: u108 :: u109 :: u110 :: u111 :: u112 :: u113 :: u114 :: u115 :: u116 :: u117 :: u118 :: u119 :: u120 :: u121 :: u122 :: u123 :: u124 :: u125 :: u126 :: u127 :: u128 :: u129 :: u130 :: u131 :: u132 :: u133 :: u134 :: u135 :: u136 :: u137 :: u138 :: u139 :: u140 :: u141 :: u142 :: u143 :: u144 :: u145 :: u146 :: u147 :: u148 :: u149 :: u150 :: u151 :: u152 :: u153 :: u154 :: u155 :: u156 :: u157 :: u158 :: u159 :: u160 :: u161 :: u162 :: u163 :: u164 :: u165 :: u166 :: u167 :: u168 :: u169 :: u170 :: u171 :: u172 :: u173 :: u174 :: u175 :: u176 :: u177 :: u178 :: u179 :: u180 :: u181 :: u182 :: u183 :: u184 :: u185 :: u186 :: u187 :: u188 :: u189 :: u190 :: u191 :: u192 :: u193 :: u194 :: u195 :: u196 :: u197 :: u198 :: u199 :: u200 :: u201 :: u202 :: u203 :: u204 :: u205 :: u206 :: u207 :: u208 :: u209 :: u210 :: u211 :: u212 :: u213 :: u214 :: u215 :: u216 :: u217 :: u218 :: u219 :: u220 :: u221 :: u222 :: u223 :: u224 :: u225 :: u226 :: u227 :: u228 :: u229 :: u230 :: u231 :: u232 :: u233 :: u234 :: u235 :: u236 :: u237 :: u238 :: u239 :: u240 :: u241 :: u242 :: u243 :: u244 :: u245 :: u246 :: u247 :: u248 :: u249 :: u250 :: u251 :: u252 :: u253 :: u254 :: u255 :: u256 :: u257 :: u258 :: u259 :: u260 :: u261 :: u262 :: u263 :: u264 :: u265 :: u266 :: u267 :: u268 :: u269 :: u270 :: u271 :: u272 :: u273 :: u274 :: u275 :: u276 :: u277 :: u278 :: u279 :: u280 :: u281 :: u282 :: u283 :: u284 :: u285 :: u286 :: u287 :: u288 :: u289 :: u290 :: u291 :: u292 :: u293 :: u294 :: u295 :: u296 :: u297 :: [])), []⟩ wc := by
  have hk2 : k < L.length := Nat.lt_of_lt_of_le hk.lt hp.length_le
  have hx2 : x < L.length := Nat.lt_of_lt_of_le hi.lt (hk.pre.trans hp).length_le
  have ht2 : t < L.length := Nat.lt_of_lt_of_le ht hp.length_le
  have hld := Lab.sload (a := m) (x := k) (n := sz) hyl hax hxs hs1 (by have := hin.sz8; omega) hxin hok hk2 (by have := hin.sz8; omega) hl
  have HLD := Lib.hid hld; have HI := Lib.hid hin; have HG := Lib.hid (And.intro hi (And.intro hk (And.intro hp (And.intro ht (And.intro hx2 (And.intro ht2 hk2))))))
  have HX := Lib.hid (And.intro hs1 (And.intro hax (And.intro hxs (And.intro hxin (And.intro hyl hph)))))
  clear hld hin hi hk hp ht hok hs1 hax hxs hxin hyl hl hx2 ht2 hk2 hph
  unfold putPost
  conv => arg 2; whnf
  go_wp2_with fail
  go_at_call 14
  refine HLD.out.mono ?_
  rintro e w1 ⟨La, was, F1, I1, rfl, hwas, hl1⟩
  have hsz8 := HI.out.sz8
  have hlenA : L.length ≤ La.length := hwas.got.pre.length_le
  have hph1 : phi W La ≤ 320 := by have := hwas.room; have := HX.out.2.2.2.2.2; omega
  have hpt := Lab.sput (a := m) (x := x) (t := t) (n := sz) (xs := xs) HX.out.2.2.2.2.1 HX.out.2.1 HX.out.2.2.1 HX.out.1 (by omega) (fun e he => by have := HX.out.2.2.2.1 e he; omega) hwas.got.ok (by have := HG.out.2.2.2.2.1; omega) (by have := HG.out.2.2.2.2.2.1; omega) (by omega) hl1
  have HPT := Lib.hid hpt; have HW := Lib.hid (And.intro hwas hph1)
  clear hpt hwas hl1 hlenA hph1 hsz8 HLD
  go_wp2_with fail
  go_at_call 13
  refine HPT.out.mono ?_
  rintro e w2 ⟨Lb, ys, y2, F2, I2, rfl, hput, hyl2, hl2⟩
  have hsz8 := HI.out.sz8
  have hm : m < arrs.length := (List.getElem?_eq_some_iff.1 HX.out.2.1).1
  have hlenB : La.length ≤ Lb.length := hput.pre.length_le
  have hlenA : L.length ≤ La.length := HW.out.1.got.pre.length_le
  have hmem := hput.mem
  have hyl3 : ys.length = sz := by rw [hput.len]; exact HX.out.2.2.1
  have hld := Lab.sload (a := m) (x := k) (n := sz) (xs := ys) hyl2 (by rw [List.getElem?_set, if_pos rfl, if_pos hm]) hyl3 HX.out.1 (by omega) hmem hput.ok (by have := HG.out.2.2.2.2.2.2; omega) (by have := hput.room; have := HW.out.2; omega) hl2
  have HLD := Lib.hid hld; have HP := Lib.hid hput
  clear hld hput hl2 hsz8 hm hlenA hlenB hmem hyl3 hyl2 HPT
  go_wp2_with fail
  go_at_call 14
  refine HLD.out.mono ?_
  rintro e w3 ⟨Lc, is, F3, I3, rfl, his, hl3⟩
  have hPV := putV HG.out.1 HG.out.2.1 HI.out.c1 HI.out.c2 HG.out.2.2.1 HG.out.2.2.2.1 HX.out.2.2.1 HX.out.2.2.2.1 HW.out.1 (by exact HP.out) his
  have HPV := Lib.hid hPV; have HL3 := Lib.hid hl3
  clear hPV his hl3 HLD
  go_upto_if 195 with fail
  go_cut [12] (fun _ wx => w3 = wx)
  case first =>
    go_wp2
    go_meet
    rfl
  case rest =>
    obtain rfl := hcut
    exact (show ∀ (a : Act) (w : World), Code.wp Tryd.prog (putRest 28) _ a w → _ by assumption) _ _ (put_rest28 HI.out HPV.out HL3.out)
end
end Go.Proofs.YtiklidgcmheofaaDoor
namespace Go.Proofs.YtiklidgcmheofaaDoor
open Go.RowKit Go.Maps
set_option maxHeartbeats 3200000
section
variable {H : Type} {enc : TypeId × Value → H} {w : World}
theorem act_of_cells {fu : Nat} {held : Bool} {cs : List Value} {x : DataW H × List MemPlace} (h : DataW.trod enc Tryd.prog w 0 (fun _ => true) held fu 44 cs = some x) : ∃ c : ActD, c.Ok ∧ cs = c.cells := by
  obtain ⟨ys, n, _, _, hl, hyl, hf⟩ := DataW.trod_struct Tryd.underlying44 h
  have h5 : Tryd.prog.cellsOf 44 = 6 := by kernel_rfl
  obtain ⟨c0, c1, c2, c3, c4, c5, rfl⟩ := list6' cs (hl.trans h5)
  obtain ⟨y0, e0⟩ := fields_at (i := 0) hyl (by decide)
  obtain ⟨y1, e1⟩ := fields_at (i := 1) hyl (by decide)
  obtain ⟨y2, e2⟩ := fields_at (i := 2) hyl (by decide)
  obtain ⟨y3, e3⟩ := fields_at (i := 3) hyl (by decide)
  obtain ⟨y4, e4⟩ := fields_at (i := 4) hyl (by decide)
  obtain ⟨y5, e5⟩ := fields_at (i := 5) hyl (by decide)
  have q0 : Tryd.prog.cellsOf 5 = 1 := by kernel_rfl
  have q5 : Tryd.prog.cellsOf 40 = 1 := by kernel_rfl
  have g0 := hf 0 _ rfl
  replace g0 : DataW.trod enc Tryd.prog w 0 (fun _ => true) held n 5 (([c0, c1, c2, c3, c4, c5].drop 0).take (Tryd.prog.cellsOf 5)) = ys[0]? := g0
  rw [q0, e0] at g0
  have g1 := hf 1 _ rfl
  replace g1 : DataW.trod enc Tryd.prog w 0 (fun _ => true) held n 5 (([c0, c1, c2, c3, c4, c5].drop 1).take (Tryd.prog.cellsOf 5)) = ys[1]? := g1
  rw [q0, e1] at g1
  have g2 := hf 2 _ rfl
  replace g2 : DataW.trod enc Tryd.prog w 0 (fun _ => true) held n 5 (([c0, c1, c2, c3, c4, c5].drop 2).take (Tryd.prog.cellsOf 5)) = ys[2]? := g2
  rw [q0, e2] at g2
  have g3 := hf 3 _ rfl
  replace g3 : DataW.trod enc Tryd.prog w 0 (fun _ => true) held n 5 (([c0, c1, c2, c3, c4, c5].drop 3).take (Tryd.prog.cellsOf 5)) = ys[3]? := g3
  rw [q0, e3] at g3
  have g4 := hf 4 _ rfl
  replace g4 : DataW.trod enc Tryd.prog w 0 (fun _ => true) held n 5 (([c0, c1, c2, c3, c4, c5].drop 4).take (Tryd.prog.cellsOf 5)) = ys[4]? := g4
  rw [q0, e4] at g4
  have g5 := hf 5 _ rfl
  replace g5 : DataW.trod enc Tryd.prog w 0 (fun _ => true) held n 40 (([c0, c1, c2, c3, c4, c5].drop 5).take (Tryd.prog.cellsOf 40)) = ys[5]? := g5
  rw [q5, e5] at g5
  obtain ⟨x0, rfl, w0⟩ := nat_of_int Tryd.underlying5 g0
  obtain ⟨x1, rfl, w1⟩ := nat_of_int Tryd.underlying5 g1
  obtain ⟨x2, rfl, w2⟩ := nat_of_int Tryd.underlying5 g2
  obtain ⟨x3, rfl, w3⟩ := nat_of_int Tryd.underlying5 g3
  obtain ⟨x4, rfl, w4⟩ := nat_of_int Tryd.underlying5 g4
  obtain ⟨x5, rfl, w5⟩ := nat_of_int Tryd.underlying40 g5
  have b0 := Go.bounds_u8 w0
  obtain ⟨m0, rfl⟩ := Int.eq_ofNat_of_zero_le b0.1
  have b1 := Go.bounds_u8 w1
  obtain ⟨m1, rfl⟩ := Int.eq_ofNat_of_zero_le b1.1
  have b2 := Go.bounds_u8 w2
  obtain ⟨m2, rfl⟩ := Int.eq_ofNat_of_zero_le b2.1
  have b3 := Go.bounds_u8 w3
  obtain ⟨m3, rfl⟩ := Int.eq_ofNat_of_zero_le b3.1
  have b4 := Go.bounds_u8 w4
  obtain ⟨m4, rfl⟩ := Int.eq_ofNat_of_zero_le b4.1
  have b5 := Go.bounds_u64 w5
  obtain ⟨m5, rfl⟩ := Int.eq_ofNat_of_zero_le b5.1
  exact ⟨⟨m0, m1, m2, m3, m4, m5⟩, ⟨by show m0 ≤ 255; omega, by show m1 ≤ 255; omega, by show m2 ≤ 255; omega, by show m3 ≤ 255; omega, by show m4 ≤ 255; omega, by show m5 < 18446744073709551616; omega⟩, rfl⟩
set_option maxRecDepth 100000 in
theorem acts_of_trod {base : Nat} {v : Value} {d : DataW H} {p : List MemPlace} (h : DataW.Trod enc Tryd.prog w 0 (fun _ => true) true 27 v d p) (o : Value.okWide Tryd.prog w .any base 27 v) : ∃ l, ActsOf w v l := by
  obtain ⟨a, n, cap, rfl⟩ := Go.WideShapes.okWide_slice Tryd.underlying27 o
  obtain ⟨fuel, hf0⟩ := h
  obtain ⟨a', n', cap', l, e, hl, -, h63, he⟩ := slice_each (α := ActD) (f := ActD.cells) (Ok := ActD.Ok) Tryd.underlying27 (m := 6) (by kernel_rfl) (by decide) (fun _ => rfl) (fun fu cs x h => act_of_cells h) hf0
  refine ⟨l, a', n', cap', e, hl, h63, fun i hi => ?_⟩
  obtain ⟨b, off, c, e1, e2, e3, e4⟩ := he i hi
  have k0 := e4 0 _ rfl; have k1 := e4 1 _ rfl; have k2 := e4 2 _ rfl; have k3 := e4 3 _ rfl; have k4 := e4 4 _ rfl; have k5 := e4 5 _ rfl
  simp only [Nat.add_zero, ← Nat.add_assoc] at k0 k1 k2 k3 k4 k5
  exact ⟨b, off, c, e1, e2, e3, k0, k1, k2, k3, k4, k5⟩
end
end Go.Proofs.YtiklidgcmheofaaDoor
namespace Go.Proofs.YtiklidgcmheofaaDoor
open Go.RowKit Go.Maps
set_option maxHeartbeats 3200000
theorem set_same {α : Type} {l : List α} {m : Nat} {x : α} (h : l[m]? = some x) : l.set m x = l := by
  apply List.ext_getElem?
  intro i
  rw [List.getElem?_set]
  split
  · next e => subst e; split
              · exact h.symm
              · next h2 => rw [List.getElem?_eq_none (by omega)] at h; cases h
  · rfl
section
variable {w0 wr : World} {ts : List Thing} {F I : List Nat} {gb W room : Nat} {L : List PNode}
theorem Lab.gvar (h : Lab w0 wr (Thing.graph F I gb W room L :: ts)) (hok : GOk W L) (hr : phi W L < room) (n : Nat) (hn : n ≤ 4194303) :
    ∃ (L' : List PNode) (t : Nat), Got W L L' t (fun vals => if n < vals.length then (((vals.getD n 0).toNat % 2 ^ W : Nat) : Int) else 0) ∧ phi W L' ≤ phi W L + 1 ∧
      Calls Tryd.prog 11 #[.pointer (some ⟨gb, 0, none⟩), .int .i64 n] wr fun e w' => ∃ F' I', e = .returned (.tuple #[.int .i64 t, .int .i64 0]) ∧ Lab w0 w' (Thing.graph F' I' gb W room L' :: ts) := by
  obtain ⟨L', t, hvr, hg, hp⟩ := GOk.var_in (room := room) hok hn hr
  have hv := var_any h.gr (n : Int)
  rw [hvr] at hv
  refine ⟨L', t, hg, hp, hv.mono ?_⟩
  intro e w' hp
  obtain ⟨F', I', he, hl⟩ := h.gpost hp
  exact ⟨F', I', he, hl⟩
end
section
variable {w : World}
set_option maxRecDepth 100000 in
theorem storePut_walk (f : FlatD) (v1 v2 v3 v4 va : Value) (array index other value : Nat) (hb1 : array ≤ 255) (hb2 : index ≤ 255) (hb3 : other ≤ 255) (hb4 : value ≤ 255) (hf : FlatOf w f v1 v2 v3 v4) (hT : ShpOk w) (a0 : List ActD) (ha0 : ActsOf w va a0) :
    Calls Tryd.prog 3 #[.agg #[.int .i64 f.W, .int .i64 f.R, v1, v2, v3, v4], va, .int .u8 (array : Int), .int .u8 (index : Int), .int .u8 (other : Int), .int .u8 (value : Int)] w fun e w' => e = .returned (.bool true) ∧ Below w.heap.size w w' := by
  obtain ⟨aa0, na0, ca0, rfl, hna0, -, hacts0⟩ := ha0
  have hb0 := (Lab.nil (Below.refl w.heap.size w)).alloc #[.int .i64 f.W, .int .i64 f.R, v1, v2, v3, v4] 26
  have cells : ∀ (wx : World) (us : List Thing), Lab w wx us → Thing.box w.heap.size 26 #[.int .i64 f.W, .int .i64 f.R, v1, v2, v3, v4] ∈ us → wx.cell? ⟨w.heap.size, 0, none⟩ = some (.int .i64 f.W) ∧ wx.cell? ⟨w.heap.size, 1, none⟩ = some (.int .i64 f.R) ∧ wx.cell? ⟨w.heap.size, 2, none⟩ = some v1 ∧ wx.cell? ⟨w.heap.size, 3, none⟩ = some v2 ∧ wx.cell? ⟨w.heap.size, 4, none⟩ = some v3 ∧ wx.cell? ⟨w.heap.size, 5, none⟩ = some v4 := fun wx us hx hm => by
    have r : wx.heap[w.heap.size]? = some (.cells #[.int .i64 f.W, .int .i64 f.R, v1, v2, v3, v4] 26 (0, 0)) := hx.holds _ hm
    exact ⟨cell_of_cells r (i := 0) rfl, cell_of_cells r (i := 1) rfl, cell_of_cells r (i := 2) rfl, cell_of_cells r (i := 3) rfl, cell_of_cells r (i := 4) rfl, cell_of_cells r (i := 5) rfl⟩
  obtain ⟨q, hq⟩ : ∃ q, w.heap.size = q := ⟨_, rfl⟩
  rw [hq] at hb0 cells
  have hsml : ∀ wx, Lab w wx [Thing.box q 26 #[.int .i64 f.W, .int .i64 f.R, v1, v2, v3, v4]] → Calls Tryd.prog 7 #[.agg #[.int .i64 f.W, .int .i64 f.R, v1, v2, v3, v4]] wx fun e w' => ∃ B : Bool, e = .returned (.bool B) ∧ (B = true ↔ SmallP f) ∧ Below wx.heap.size wx w' := fun wx hx => small_any f v1 v2 v3 v4 (hf.later hx.below) (hT.later hx.below)
  have HB := Lib.hid hb0; have HC := Lib.hid cells; have HF := Lib.hid (And.intro hf (And.intro hT True.intro)); have HSL := Lib.hid hsml
  have HA0 := Lib.hid (And.intro hna0 hacts0)
  clear hb0 cells hf hT hsml hna0 hacts0
  by_cases hS : SmallP f
  · by_cases hc0 : 3 < f.W
    · have HS := Lib.hid hS
      have gc0 : decide (3 < f.W) = true := decide_eq_true (by omega)
      clear hS
      go_enter Tryd.func3, Tryd.ntmps3
      go_upto_region 1 with fail
      refine wp_abs (fun wx => Lab w wx [Thing.box q 26 #[.int .i64 f.W, .int .i64 f.R, v1, v2, v3, v4]]) HB.out ?_
      intro w1 hl1
      obtain ⟨q0, q1, q2, q3, q4, q5⟩ := HC.out _ _ hl1 (by simp)
      have HSM := Lib.hid (HSL.out w1 hl1); have HL1 := Lib.hid hl1
      clear hl1 HB hq
      go_wp2_with fail
      go_at_call 7
      refine HSM.out.mono ?_
      rintro e w2 ⟨B, rfl, hB, hb2⟩
      obtain rfl : B = true := hB.2 HS.out
      have hl2 := HL1.out.later hb2
      clear q0 q1 q2 q3 q4 q5 HSM HL1 hb2 hB
      obtain ⟨q0, q1, q2, q3, q4, q5⟩ := HC.out _ _ hl2 (by simp)
      have HL := Lib.hid hl2
      clear hl2
      go_wp2_with fail
      go_at_call 8
      refine (awake30_any (HF.out.2.1.later HL.out.below)).mono ?_
      rintro e w6 ⟨rfl, hb6⟩
      have HB6 := Lib.hid hb6
      clear hb6
      go_wp2
      go_ret
      exact ⟨rfl, HL.out.below.trans (HB6.out.mono HL.out.below.size)⟩
    · have gc0 : decide (3 < f.W) = false := decide_eq_false (by omega)
      by_cases hc1 : 10 < na0
      · have HS := Lib.hid hS
        have gc1 : decide (10 < (na0 : Int)) = true := decide_eq_true (by omega)
        clear hS
        go_enter Tryd.func3, Tryd.ntmps3
        go_upto_region 1 with fail
        refine wp_abs (fun wx => Lab w wx [Thing.box q 26 #[.int .i64 f.W, .int .i64 f.R, v1, v2, v3, v4]]) HB.out ?_
        intro w1 hl1
        obtain ⟨q0, q1, q2, q3, q4, q5⟩ := HC.out _ _ hl1 (by simp)
        have HSM := Lib.hid (HSL.out w1 hl1); have HL1 := Lib.hid hl1
        clear hl1 HB hq
        go_wp2_with fail
        go_at_call 7
        refine HSM.out.mono ?_
        rintro e w2 ⟨B, rfl, hB, hb2⟩
        obtain rfl : B = true := hB.2 HS.out
        have hl2 := HL1.out.later hb2
        clear q0 q1 q2 q3 q4 q5 HSM HL1 hb2 hB
        obtain ⟨q0, q1, q2, q3, q4, q5⟩ := HC.out _ _ hl2 (by simp)
        have HL := Lib.hid hl2
        clear hl2
        go_wp2_with fail
        go_at_call 8
        refine (awake30_any (HF.out.2.1.later HL.out.below)).mono ?_
        rintro e w6 ⟨rfl, hb6⟩
        have HB6 := Lib.hid hb6
        clear hb6
        go_wp2
        go_ret
        exact ⟨rfl, HL.out.below.trans (HB6.out.mono HL.out.below.size)⟩
      · have gc1 : decide (10 < (na0 : Int)) = false := decide_eq_false (by omega)
        have HS := Lib.hid hS
        obtain ⟨W', R', ch, st, ars, cs⟩ := f
        simp only at HB HC HF HSL gc0 ⊢
        obtain ⟨W, rfl⟩ : ∃ W : Nat, W' = (W : Int) := ⟨W'.toNat, by have := hS.1.W; simp only at this; omega⟩
        obtain ⟨nR, rfl⟩ : ∃ n : Nat, R' = (n : Int) := ⟨R'.toNat, by have := hS.1.R; simp only at this; omega⟩
        clear hS
        go_enter Tryd.func3, Tryd.ntmps3
        go_upto_region 1 with fail
        refine wp_abs (fun wx => Lab w wx [Thing.box q 26 #[.int .i64 W, .int .i64 nR, v1, v2, v3, v4]]) HB.out ?_
        intro w1 hl1
        obtain ⟨q0, q1, q2, q3, q4, q5⟩ := HC.out _ _ hl1 (by simp)
        have HSM := Lib.hid (HSL.out w1 hl1); have HL1 := Lib.hid hl1
        clear hl1 HB hq
        go_wp2_with fail
        go_at_call 7
        refine HSM.out.mono ?_
        rintro e w2 ⟨B, rfl, hB, hb2⟩
        obtain rfl : B = true := hB.2 HS.out
        have hl2 := HL1.out.later hb2
        clear q0 q1 q2 q3 q4 q5 HSM HL1 hb2 hB
        obtain ⟨q0, q1, q2, q3, q4, q5⟩ := HC.out _ _ hl2 (by simp)
        have hw0 := HS.out.1.W
        simp only at hw0
        have hrr := HS.out.2.1
        simp only at hrr
        have hng := hl2.new_graph (W : Int) 20000 ⟨by omega, by omega, by decide, by decide⟩
        have HNG := Lib.hid hng
        clear hng hl2
        go_wp2_with fail
        go_at_call 9
        refine HNG.out.mono ?_
        rintro e w3 ⟨gb, F, rfl, hl3⟩
        replace hl3 : Lab w w3 (Thing.graph F [] gb W 20000 [] :: [Thing.box q 26 #[.int .i64 W, .int .i64 nR, v1, v2, v3, v4]]) := hl3
        clear HNG
        clear q0 q1 q2 q3 q4 q5
        obtain ⟨q0, q1, q2, q3, q4, q5⟩ := HC.out _ _ hl3 (by simp)
        have hgok := gok_nil (W := W) (by omega) (by omega)
        have hsn := Lab.snew HF.out.1 HF.out.2.1 HS.out.1 hgok (by have := phi_nil W; omega) hl3
        have HSN := Lib.hid hsn
        clear hsn hl3 hgok
        go_wp2_with fail
        go_at_call 10
        refine HSN.out.mono ?_
        rintro e w4 ⟨sb, y, zt, L0, F4, I4, rfl, hg0, hp0, hyl, hl4⟩
        clear q0 q1 q2 q3 q4 q5
        obtain ⟨q0, q1, q2, q3, q4, q5⟩ := HC.out _ _ hl4 (by simp)
        have HG0 := Lib.hid (And.intro hg0 (And.intro (show phi W L0 ≤ 65 by have := phi_nil W; omega) hyl))
        have hmi : ((index : Int).tmod 2) = ((index % 2 : Nat) : Int) := tmod_nat index 2
        have hmo : ((other : Int).tmod 2) = ((other % 2 : Nat) : Int) := tmod_nat other 2
        obtain ⟨n1, hn1⟩ : ∃ n, index % 2 = n := ⟨_, rfl⟩
        obtain ⟨n2, hn2⟩ : ∃ n, other % 2 = n := ⟨_, rfl⟩
        rw [hn1] at hmi
        rw [hn2] at hmo
        have HN := Lib.hid (And.intro (show n1 < 2 by omega) (And.intro (show n2 < 2 by omega) (And.intro hn1 hn2)))
        have wi1 : IntKind.u8.wrap (n1 : Int) = (n1 : Int) := by rw [IntKind.wrap_u8]; omega
        have wi2 : IntKind.u8.wrap (n2 : Int) = (n2 : Int) := by rw [IntKind.wrap_u8]; omega
        have wj1 : IntKind.i64.wrap (n1 : Int) = (n1 : Int) := by rw [IntKind.wrap_i64]; omega
        have wj2 : IntKind.i64.wrap (n2 : Int) = (n2 : Int) := by rw [IntKind.wrap_i64]; omega
        obtain ⟨L1, i, hg1, hp1, hv1⟩ := Lab.gvar hl4 hg0.ok (by have := phi_nil W; omega) n1 (by omega)
        have HV1 := Lib.hid hv1; have HG1 := Lib.hid (And.intro hg1 (show phi W L1 ≤ 66 by have := HG0.out.2.1; omega))
        clear hv1 hg1 hp1 hl4 hg0 hp0 hyl hn1 hn2
        go_wp2_with fail
        go_at_call 11
        refine HV1.out.mono ?_
        rintro e w5 ⟨F5, I5, rfl, hl5⟩
        obtain ⟨L2, k, hg2, hp2, hv2⟩ := Lab.gvar hl5 HG1.out.1.ok (by have := HG1.out.2; omega) n2 (by have := HN.out.2.1; omega)
        have HV2 := Lib.hid hv2; have HG2 := Lib.hid (And.intro hg2 (show phi W L2 ≤ 67 by have := HG1.out.2; omega))
        clear HV1 hv2 hg2 hp2 hl5
        clear q0 q1 q2 q3 q4 q5
        go_wp2_with fail
        go_at_call 11
        refine HV2.out.mono ?_
        rintro e w6 ⟨F6, I6, rfl, hl6⟩
        obtain ⟨q0, q1, q2, q3, q4, q5⟩ := HC.out _ _ hl6 (by simp)
        obtain ⟨n3, hn3⟩ : ∃ n, value % nR = n := ⟨_, rfl⟩
        have hmv : ((value : Int).tmod (nR : Int)) = (n3 : Int) := by rw [tmod_nat, hn3]
        have hn3l : n3 < nR := by rw [← hn3]; exact Nat.mod_lt _ (by omega)
        have hn0 : ¬ nR = 0 := by omega
        have wv : IntKind.i64.wrap (value : Int) = (value : Int) := by rw [IntKind.wrap_i64]; omega
        have wn3 : IntKind.i64.wrap (n3 : Int) = (n3 : Int) := by rw [IntKind.wrap_i64]; omega
        have hrg := sref_reg (Lab.st_read (by rw [zerosL_len, HG0.out.2.2]) hl6.swap) n3 0 (t := (zt : Int)) (by rw [List.getElem?_replicate, if_pos hn3l])
        have HRG := Lib.hid hrg; have HL6 := Lib.hid hl6
        clear HV2 hrg hl6 hn3
        go_wp2_with fail
        go_at_call 12
        refine HRG.out.mono ?_
        rintro e w7 ⟨rfl, hb7⟩
        have hl7 := HL6.out.later hb7
        clear HRG HL6 hb7 hmv
        clear q0 q1 q2 q3 q4 q5
        obtain ⟨q0, q1, q2, q3, q4, q5⟩ := HC.out _ _ hl7 (by simp)
        obtain ⟨a3, na, c3, hv3, hna, hac⟩ := HF.out.1.arrays
        simp only at hv3 hna hac
        subst hv3
        have hsl : SliceOf w .i64 (.slice a3 na c3) ars := HF.out.1.arrays
        have hna1 : 1 ≤ na ∧ na ≤ 4 := by have := HS.out.2.2.1; simp only at this; omega
        obtain ⟨m, hm⟩ : ∃ m, array % na = m := ⟨_, rfl⟩
        have hma : ((array : Int).tmod (na : Int)) = (m : Int) := by rw [tmod_nat, hm]
        have hml : m < na := by rw [← hm]; exact Nat.mod_lt _ (by omega)
        have hna0 : ¬ na = 0 := by omega
        have wa : IntKind.i64.wrap (array : Int) = (array : Int) := by rw [IntKind.wrap_i64]; omega
        have wm : IntKind.i64.wrap (m : Int) = (m : Int) := by rw [IntKind.wrap_i64]; omega
        have HL7 := Lib.hid hl7
        clear hl7 hm
        obtain ⟨sz, hsz⟩ : ∃ sz : Nat, ars[m]? = some (sz : Int) ∧ 1 ≤ sz ∧ sz ≤ 8 := by
          obtain ⟨sv, h1⟩ : ∃ sv, ars[m]? = some sv := ⟨_, List.getElem?_eq_getElem (by omega)⟩
          have h2 := HS.out.1.arrays _ (List.mem_of_getElem? h1)
          have h3 : sv ≤ 8 := HS.out.2.2.2 _ (List.mem_of_getElem? h1)
          exact ⟨sv.toNat, by rw [h1]; congr 1; omega, by omega, by omega⟩
        obtain ⟨hsz, hs1, hs8⟩ := hsz
        have hza : (zerosL zt ars)[m]? = some (List.replicate sz (zt : Int)) := by unfold zerosL; rw [List.getElem?_map, hsz]; rfl
        obtain ⟨ab, ao, sq, ha3, hca, hsq⟩ := SliceOf.parts' hsl hml
        subst ha3
        rw [hsz] at hsq
        obtain rfl := Option.some.inj hsq
        have HSZ := Lib.hid (And.intro hsz (And.intro hza (And.intro hca (And.intro hsl hna))))
        have HPI := Lib.hid (show PutIn w q W nR sz m na v1 v2 v4 (some ⟨ab, ao, none⟩) c3 ars index other n1 n2 from ⟨HF.out.2.1, fun wx us h hm => by obtain ⟨p0, -, -, -, p4, -⟩ := HC.out wx us h hm; exact ⟨p0, p4⟩, hsl, hsz, hml, hs8, by omega, by omega, HN.out.1, HN.out.2.1, HN.out.2.2.1, HN.out.2.2.2, hb2, hb3⟩)
        clear hsz hza hca hsl hac hna hsq
        go_upto_block 0 with fail
        go_cut [22] (fun _ wx => ∃ (F I : List Nat) (L : List PNode) (y : Lay) (xs : List Int), L2 <+: L ∧ GOk W L ∧ phi W L ≤ 67 + 20 * na0 ∧ xs.length = sz ∧ (∀ e ∈ xs, (0 : Int) ≤ e ∧ e < (L.length : Int)) ∧ ((zerosL zt ars).set m xs).length = y.vs.length ∧ Lab w wx (Thing.graph F I gb W 20000 L :: Thing.gst gb sb y (List.replicate nR (zt : Int)) ((zerosL zt ars).set m xs) :: [Thing.box q 26 #[.int .i64 W, .int .i64 nR, v1, v2, .slice (some ⟨ab, ao, none⟩) na c3, v4]]))
        case first =>
          go_wp2
          go_loopw [22] (fun v wx => ∃ j : Nat, j ≤ na0 ∧ v = .int .i64 j ∧ ∃ (F I : List Nat) (L : List PNode) (y : Lay) (xs : List Int), L2 <+: L ∧ GOk W L ∧ phi W L ≤ 67 + 20 * j ∧ xs.length = sz ∧ (∀ e ∈ xs, (0 : Int) ≤ e ∧ e < (L.length : Int)) ∧ ((zerosL zt ars).set m xs).length = y.vs.length ∧ Lab w wx (Thing.graph F I gb W 20000 L :: Thing.gst gb sb y (List.replicate nR (zt : Int)) ((zerosL zt ars).set m xs) :: [Thing.box q 26 #[.int .i64 W, .int .i64 nR, v1, v2, .slice (some ⟨ab, ao, none⟩) na c3, v4]])) (fun v _ => na0 - (intOf v).toNat)
          case atStart => exact ⟨0, Nat.zero_le _, rfl, F6, I6, L2, y, List.replicate sz (zt : Int), List.prefix_refl _, HG2.out.1.ok, by have := HG2.out.2; omega, by simp, fun e he => by
            obtain rfl := List.eq_of_mem_replicate he
            have h1 := HG0.out.1.lt; have h2 := (HG1.out.1.pre.trans HG2.out.1.pre).length_le
            omega, by rw [List.length_set, zerosL_len, HG0.out.2.2], by rw [set_same HSZ.out.2.1]; exact HL7.out⟩
          case round =>
            clear HL7
            obtain ⟨j, hj, rfl, F, I, L, y1, xs, hpre, hok, hph, hxl, hxin, hyl, hl⟩ := hrel
            obtain ⟨q0, q1, q2, q3, q4, q5⟩ := HC.out _ _ hl (by simp)
            by_cases hlt : j < na0
            · have hlt' : (j : Int) < (na0 : Int) := by omega
              have j0 : (0 : Int) ≤ (j : Int) := by omega
              obtain ⟨b, off, x, rfl, hx, hxo, k0, k1, k2, k3, k4, k5⟩ := HA0.out.2 j hlt
              have d5 := cell_later hl.below k5
              obtain ⟨L3, t3, e3, hg3, hp3, -, -⟩ := got_const (room := 20000) hok x.n (by omega)
              have hr3 := Lab.sref_num hl hyl x.n (by have := hxo.2.2.2.2.2; omega) e3
              have HR3 := Lib.hid hr3; have HG3 := Lib.hid (And.intro hg3 (And.intro (show phi W L3 ≤ 68 + 20 * j by omega) (And.intro hpre (And.intro hxl (And.intro hxin hyl)))))
              have HX := Lib.hid (And.intro hxo (And.intro k3 k5))
              clear hr3 hg3 hp3 e3 hl hok hph hxl hxin hyl hpre hx hxo k0 k1 k2 k3 k4 k5
              go_wp2_with fail
              go_at_call 12
              refine HR3.out.mono ?_
              rintro e w8 ⟨F8, I8, rfl, hl8⟩
              clear q0 q1 q2 q3 q4 q5 d5 HR3
              obtain ⟨q0, q1, q2, q3, q4, q5⟩ := HC.out _ _ hl8 (by simp)
              have hxa : x.a ≤ 255 := HX.out.1.2.2.2.1
              have wxa : IntKind.u64.wrap (x.a : Int) = (x.a : Int) := by rw [IntKind.wrap_u64]; omega
              have wsz : IntKind.u64.wrap (sz : Int) = (sz : Int) := by rw [IntKind.wrap_u64]; omega
              have hsz0 : ¬ sz = 0 := by omega
              obtain ⟨r, hr⟩ : ∃ r, x.a % sz = r := ⟨_, rfl⟩
              have hrm : ((x.a : Int).tmod (sz : Int)) = (r : Int) := by rw [tmod_nat, hr]
              have hr255 : r ≤ 255 := by rw [← hr]; exact Nat.le_trans (Nat.mod_le _ _) hxa
              have wr8 : IntKind.u64.wrap (r : Int) = (r : Int) := by rw [IntKind.wrap_u64]; omega
              have d3 := cell_later hl8.below HX.out.2.1
              have da := cell_later hl8.below HSZ.out.2.2.1
              have m0 : (0 : Int) ≤ (m : Int) := by omega
              have m1 : (m : Int) < (na : Int) := by omega
              obtain ⟨L5, t5, e5, hg5, hp5, -, -⟩ := got_const (room := 20000) HG3.out.1.ok r (by have := HG3.out.2.1; omega)
              have hr5 := Lab.sref_num (hl8.drewN 1) HG3.out.2.2.2.2.2 r (by omega) e5
              replace hr5 : Calls Tryd.prog 12 #[.pointer (some ⟨sb, 0, none⟩), .agg #[.int .i64 (-1), .int .u64 r]] w8.drew _ := hr5
              have HR5 := Lib.hid hr5; have HG5 := Lib.hid (And.intro hg5 (show phi W L5 ≤ 69 + 20 * j by have := HG3.out.2.1; omega)); have HL8 := Lib.hid hl8
              clear hr5 hg5 hp5 e5 hr hl8
              go_upto_region 19 with fail
              go_region_held3 (fun w' => w'.cell? ⟨b, off + j * 6 + 3, none⟩ = some (.int .u8 x.a) ∧ w'.cell? ⟨q, 4, none⟩ = some (.slice (some ⟨ab, ao, none⟩) na c3) ∧ w'.cell? ⟨ab, ao + m, none⟩ = some (.int .i64 sz)) (first | exact ⟨by assumption, by assumption, by assumption⟩ | go_keep)
                (first | (go_at_call 12; refine HR5.out.mono ?_; rintro e w9 ⟨F9, I9, rfl, hl9⟩; have u3 := cell_later hl9.below HX.out.2.1; have ua := cell_later hl9.below HSZ.out.2.2.1; obtain ⟨-, -, -, -, u4, -⟩ := HC.out _ _ hl9 (by simp); have HL9 := Lib.hid hl9; clear hl9))
              clear u3 ua u4 d3 da q0 q1 q2 q3 q4 q5 hrm wr8 wsz wxa
              have hmz : m < (zerosL zt ars).length := (List.getElem?_eq_some_iff.1 HSZ.out.2.1).1
              have hp3 : L3.length ≤ L5.length := HG5.out.1.pre.length_le
              have hp0 : L.length ≤ L3.length := HG3.out.1.pre.length_le
              have hput := Lab.sput (a := m) (x := t5) (t := t3) (n := sz) (xs := xs) HG3.out.2.2.2.2.2 (by rw [List.getElem?_set, if_pos rfl, if_pos hmz]) HG3.out.2.2.2.1 hs1 (by omega) (fun e he => by have := HG3.out.2.2.2.2.1 e he; omega) HG5.out.1.ok HG5.out.1.lt (by have := HG3.out.1.lt; omega) (by have := HG5.out.2; omega) HL9.out
              have HPT := Lib.hid hput
              clear hput HL9 HL8 HR5 hmz hp3 hp0
              go_wp2_with fail
              go_at_call 13
              refine HPT.out.mono ?_
              rintro e w10 ⟨L6, ys, y6, F10, I10, rfl, hput, hyl6, hl10⟩
              rw [List.set_set] at hyl6 hl10
              have HE := Lib.hid (And.intro ((HG3.out.2.2.1.trans HG3.out.1.pre).trans (HG5.out.1.pre.trans hput.pre)) (And.intro hput.ok (And.intro (show phi W L6 ≤ 67 + 20 * (j + 1) by have := hput.room; have := HG5.out.2; omega) (And.intro (show ys.length = sz by rw [hput.len]; exact HG3.out.2.2.2.1) (And.intro hput.mem (And.intro hyl6 hl10))))))
              clear hput hyl6 hl10 HPT
              go_wp2
              go_roundw
              case rel => exact ⟨j + 1, by omega, by go_num, F10, I10, L6, y6, ys, HE.out⟩
              case measure => simp [intOf]; omega
            · obtain rfl : na0 = j := by omega
              have HE := Lib.hid (And.intro hpre (And.intro hok (And.intro hph (And.intro hxl (And.intro hxin (And.intro hyl hl))))))
              clear hpre hok hph hxl hxin hyl hl
              go_wp2
              go_meet
              exact ⟨F, I, L, y1, xs, HE.out⟩
        case rest =>
          obtain ⟨F, I, L, y1, xs, hpre, hok, hph, hxl, hxin, hyl, hl⟩ := hcut
          have hmz : m < (zerosL zt ars).length := (List.getElem?_eq_some_iff.1 HSZ.out.2.1).1
          exact (show ∀ (a : Act) (w : World), Code.wp Tryd.prog (putRest 22) _ a w → _ by assumption) _ _ (put_rest22 (t := zt) HPI.out HG1.out.1 HG2.out.1 hpre (by have h1 := HG0.out.1.lt; have h2 := (HG1.out.1.pre.trans HG2.out.1.pre).length_le; omega) hok (by omega) hs1 (by rw [List.getElem?_set, if_pos rfl, if_pos hmz]) hxl hxin hyl hl)
  · have HS := Lib.hid hS
    clear hS
    go_enter Tryd.func3, Tryd.ntmps3
    go_upto_region 1 with fail
    refine wp_abs (fun wx => Lab w wx [Thing.box q 26 #[.int .i64 f.W, .int .i64 f.R, v1, v2, v3, v4]]) HB.out ?_
    intro w1 hl1
    obtain ⟨q0, q1, q2, q3, q4, q5⟩ := HC.out _ _ hl1 (by simp)
    have HSM := Lib.hid (HSL.out w1 hl1); have HL1 := Lib.hid hl1
    clear hl1 HB hq
    go_wp2_with fail
    go_at_call 7
    refine HSM.out.mono ?_
    rintro e w2 ⟨B, rfl, hB, hb2⟩
    obtain rfl : B = false := by
      cases B
      · rfl
      · exact absurd (hB.1 rfl) HS.out
    have hl2 := HL1.out.later hb2
    clear q0 q1 q2 q3 q4 q5 HSM HL1 hb2 hB
    obtain ⟨q0, q1, q2, q3, q4, q5⟩ := HC.out _ _ hl2 (by simp)
    have HL := Lib.hid hl2
    clear hl2
    go_wp2_with fail
    go_at_call 8
    refine (awake30_any (HF.out.2.1.later HL.out.below)).mono ?_
    rintro e w6 ⟨rfl, hb6⟩
    have HB6 := Lib.hid hb6
    clear hb6
    go_wp2
    go_ret
    exact ⟨rfl, HL.out.below.trans (HB6.out.mono HL.out.below.size)⟩
end
end Go.Proofs.YtiklidgcmheofaaDoor
