/- TwinAll: from the lists on. -/
import Derived.Test.YtmfendfpjpbhdaaDoorAllB
namespace Go.Proofs.YtmfendfpjpbhdaaDoor
open Go.RowKit Go.Maps
set_option maxHeartbeats 3200000

def headAt : Code → Option Nat
  | .region i _ _ => some i
  | .seq a _ => headAt a
  | _ => none
def tailAt (id : Nat) : Code → Option Code
  | .seq a b => if headAt a = some id then some (.seq a b) else tailAt id b
  | _ => none
noncomputable def allRest (id : Nat) : Code := (Tryd.f5.body.bind (tailAt id)).getD .skip
/-- What is read, all through. -/
structure AllIn (w wb : World) (lb nl N : Nat) (R : Rel) (v3 v4 v5 : Value) (ls : List Int) (ass bss : List (List Int)) : Prop where
  below : Below w.heap.size w wb
  tab : TabOk w
  lat : LatIs wb lb nl R
  levels : SliceOf wb .i64 v3 ls
  len : ls.length = N
  one : 1 ≤ N
  six : N ≤ 6
  a : NumsOf wb .u64 v4 ass
  b : NumsOf wb .u64 v5 bss
  la : ∀ xs ∈ ass, xs.length ≤ 8
  lb : ∀ xs ∈ bss, xs.length ≤ 8
theorem nums_at {w : World} {k : IntKind} {a : Option Addr} {n cap : Nat} {xss : List (List Int)} (h : NumsOf w k (.slice a n cap) xss) {i : Nat} (hi : i < n) :
    ∃ b off xs a' c', a = some ⟨b, off, none⟩ ∧ xss[i]? = some xs ∧ xss.getD i [] = xs ∧ w.cell? ⟨b, off + i, none⟩ = some (.slice a' xs.length c') ∧ SliceOf w k (.slice a' xs.length c') xs := by
  obtain ⟨a1, n1, c1, e, hl, hc⟩ := h
  simp only [Value.slice.injEq] at e
  obtain ⟨rfl, rfl, rfl⟩ := e
  obtain ⟨b, off, xs, va, rfl, hx, hcell, hs⟩ := hc i hi
  obtain ⟨a', n', c', rfl, hn, -⟩ := hs.parts
  subst hn
  exact ⟨b, off, xs, a', c', rfl, hx, by rw [List.getD_eq_getElem?_getD, hx]; rfl, hcell, hs⟩
section
variable {w wb wr w' : World} {ts : List Thing}
set_option maxRecDepth 100000 in
theorem all_rest14 {u0 u1 u6 u7 u8 u9 u10 u11 u12 u14 u15 u17 u18 u19 u20 u21 u22 u23 u24 u25 u26 u27 u28 u29 u30 u31 u32 u33 u34 u35 u36 u37 u38 u39 u40 u41 u42 u43 u44 u45 u46 u47 u48 u49 u50 u51 u52 u53 u54 u55 u56 u57 u58 u59 u60 u61 u62 u63 u64 u65 u66 u67 u68 u69 u70 u71 u72 u73 u74 u75 u76 u77 u78 u79 u80 u81 u82 u83 u84 u85 u86 u87 u88 u89 u90 u91 u92 u93 u94 u95 u96 u97 u98 u99 u100 u101 u102 u103 u104 u105 u106 u107 u108 u109 u110 u111 u112 u113 u114 u115 u116 u117 u118 u119 u120 u121 u122 u123 u124 u125 u126 u127 u128 u129 u130 u131 u132 u133 u134 u135 u136 u137 u138 u139 u140 u141 u142 u143 u144 u145 u146 u147 u148 u149 u150 u151 u152 u153 u154 u155 u156 u157 u158 u159 u160 u161 u162 u163 u164 u165 u166 u167 u168 u169 u170 u171 u172 u173 u174 u175 u176 u177 u178 u179 u180 u181 u182 u183 u184 u185 u186 u187 u188 u189 u190 u191 u192 u193 u194 u195 u196 u197 u198 u199 u200 u201 u202 u203 u204 u205 u206 u207 u208 u209 u210 u211 u212 u213 u214 u215 u216 u217 u218 u219 u220 u221 u222 u223 u224 : Value} {lb nl N c3 c4 c5 : Nat} {a3 a4 a5 : Option Addr} {R : Rel} {level : Int} {ls : List Int} {ass bss : List (List Int)} (hin : AllIn w wb lb nl N R (.slice a3 N c3) (.slice a4 N c4) (.slice a5 N c5) ls ass bss) :
    Code.wp Tryd.prog (allRest 14) (bodyPost Tryd.prog Tryd.f5 (fun e w' => e = .returned (.bool true) ∧ Below w.heap.size w w')) ⟨(List.toArray (u0 :: u1 :: .int .i64 level :: .slice a3 N c3 :: .slice a4 N c4 :: .slice a5 N c5 :: u6 :: u7 :: u8 :: u9 :: u10 :: u11 :: u12 :: .pointer (some ⟨lb, 0, none⟩) :: u14 :: u15 :: .slice none 0 0 :: u17 :: u18 :: u19 :: u20 :: u21 :: u22 :: u23 :: u24 :: u25 :: u26 :: u27 :: u28 :: u29 :: u30 :: u31 :: u32 :: u33 :: u34 :: u35 :: u36 :: u37 :: u38 :: u39 :: u40 :: u41 :: u42 :: u43 :: u44 :: u45 :: u46 :: u47 :: u48 :: u49 :: u50 :: u51 :: u52 :: u53 :: u54 :: u55 :: u56 :: u57 :: u58 :: u59 :: u60 :: u61 :: u62 :: u63 :: u64 :: u65 :: u66 :: u67 :: u68 :: u69 :: u70 :: u71 :: u72 :: u73 :: u74 :: u75 :: u76 :: u77 :: u78 :: u79 :: u80 :: u81 :: u82 :: u83 :: u84 :: u85 :: u86 :: u87 :: u88 :: u89 :: u90 :: u91 :: u92 :: u93 :: u94 :: u95 :: u96 :: u97 :: u98 :: u99 :: u100 :: u101 :: u102 :: u103 :: u104 :: u105 :: u106 :: u107 :: u108 :: u109 :: u110 :: u111 :: u112 :: u113 :: u114 :: u115 :: u116 :: u117 :: u118 :: u119 :: u120 :: u121 :: u122 :: u123 :: u124 :: u125 :: u126 :: u127 :: u128 :: u129 :: u130 :: u131 :: u132 :: u133 :: u134 :: u135 :: u136 :: u137 :: u138 :: u139 :: u140 :: u141 :: u142 :: u143 :: u144 :: u145 :: u146 :: u147 :: u148 :: u149 :: u150 :: u151 :: u152 :: u153 :: u154 :: u155 :: u156 :: u157 :: u158 :: u159 :: u160 :: u161 :: u162 :: u163 :: u164 :: u165 :: u166 :: u167 :: u168 :: u169 :: u170 :: u171 :: u172 :: u173 :: u174 :: u175 :: u176 :: u177 :: u178 :: u179 :: u180 :: u181 :: u182 :: u183 :: u184 :: u185 :: u186 :: u187 :: u188 :: u189 :: u190 :: u191 :: u192 :: u193 :: u194 :: u195 :: u196 :: u197 :: u198 :: u199 :: u200 :: u201 :: u202 :: u203 :: u204 :: u205 :: u206 :: u207 :: u208 :: u209 :: u210 :: u211 :: u212 :: u213 :: u214 :: u215 :: u216 :: u217 :: u218 :: u219 :: u220 :: u221 :: u222 :: u223 :: u224 :: [])), []⟩ wb := by
  have HI := Lib.hid hin
  have h6 := hin.six
  have h1 := hin.one
  clear hin
  conv => arg 2; whnf
  go_upto_region 14 with fail
  refine all_region14 (by omega) (Lab.nil (Below.refl _ wb)) ?_
  intro ga gb v93 v94 v95 v96 v97 v98 w3 hl3
  have hl4 := (Lab.lists_nil (k := .u64) (E := 44) hl3).swap
  have hl5 : Lab wb w3 [Thing.numsK .u64 44 (.slice none 0 0) [], Thing.lists .u64 44 36 (.slice (some ⟨ga, 0, none⟩) N N) (List.replicate N (.slice none 0 0)) (part (fA ass) N 8 0 0), Thing.lists .u64 44 36 (.slice (some ⟨gb, 0, none⟩) N N) (List.replicate N (.slice none 0 0)) (part (fB nl R level ls ass bss) N 8 0 0)] := by
    rw [part_zero, part_zero]
    exact (Lab.lists_nil (k := .u64) (E := 44) hl4).numsK_none
  have HL := Lib.hid hl5
  clear hl3 hl4 hl5
  go_wp2
  go_loopw [16, 20] (fun v16 v20 wx => ∃ c : Nat, c ≤ N ∧ v20 = .int .i64 c ∧ ∃ av cv V vsx vsy, v16 = .slice av V.length cv ∧ vsx.length = N ∧ vsy.length = N ∧ Vok nl R level ls ass bss c 0 V ∧ (mayE nl level ls = 0 ∨ c = 0) ∧
      Lab wb wx [Thing.numsK .u64 44 (.slice av V.length cv) V, Thing.lists .u64 44 36 (.slice (some ⟨ga, 0, none⟩) N N) vsx (part (fA ass) N 8 c 0), Thing.lists .u64 44 36 (.slice (some ⟨gb, 0, none⟩) N N) vsy (part (fB nl R level ls ass bss) N 8 c 0)]) (fun _ v20 _ => N - (intOf v20).toNat)
  case atStart => exact ⟨0, by omega, rfl, none, 0, [], _, _, rfl, by simp, by simp, Vok.start, .inr rfl, HL.out⟩
  case round =>
    clear HL
    obtain ⟨c, hc, rfl, av, cv, V, vsx, vsy, rfl, hlx, hly, hV, hm, hl⟩ := hrel
    by_cases hlt : c < N
    · have hlt' : (c : Int) < (N : Int) := by omega
      have HL := Lib.hid hl; have HX := Lib.hid (And.intro hlx hly); have HV := Lib.hid hV; have HM := Lib.hid hm
      clear hl hlx hly hV hm
      go_wp2
      go_loopw [16, 21] (fun v16 v21 wx => ∃ k : Nat, k ≤ 8 ∧ v21 = .int .i64 k ∧ ∃ av cv V vsx vsy, v16 = .slice av V.length cv ∧ vsx.length = N ∧ vsy.length = N ∧ Vok nl R level ls ass bss c k V ∧ (mayE nl level ls = 0 ∨ (c = 0 ∧ k = 0)) ∧
        Lab wb wx [Thing.numsK .u64 44 (.slice av V.length cv) V, Thing.lists .u64 44 36 (.slice (some ⟨ga, 0, none⟩) N N) vsx (part (fA ass) N 8 c k), Thing.lists .u64 44 36 (.slice (some ⟨gb, 0, none⟩) N N) vsy (part (fB nl R level ls ass bss) N 8 c k)]) (fun _ v21 _ => 8 - (intOf v21).toNat)
      case atStart => exact ⟨0, by omega, rfl, av, cv, V, vsx, vsy, rfl, HX.out.1, HX.out.2, HV.out, HM.out.imp id (fun h => ⟨h, rfl⟩), HL.out⟩
      case round =>
        clear HL HX HV HM
        obtain ⟨k, hk, rfl, av, cv, V, vsx, vsy, rfl, hlx, hly, hV, hm, hl⟩ := hrel
        by_cases hltk : k < 8
        · have hltk' : (k : Int) < 8 := by omega
          obtain ⟨b4, f4, xa, aa, ca, rfl, hxa, gxa, ea, sa⟩ := nums_at HI.out.a hlt
          obtain ⟨b5, f5, xb, ab, cb, rfl, hxb, gxb, eb, sb⟩ := nums_at HI.out.b hlt
          replace ea := cell_later hl.below ea
          replace eb := cell_later hl.below eb
          have c0 : (0 : Int) ≤ (c : Int) := by omega
          have k0 : (0 : Int) ≤ (k : Int) := by omega
          have fa : fA ass c k = xa.getD k 0 := by unfold fA; rw [gxa]
          have fb : fA bss c k = xb.getD k 0 := by unfold fA; rw [gxb]
          have HL := Lib.hid hl; have HX := Lib.hid (And.intro hlx hly); have HV := Lib.hid hV; have HM := Lib.hid hm; have HSA := Lib.hid (And.intro sa fa); have HSB := Lib.hid (And.intro sb fb)
          clear hl hlx hly hV hm sa sb hxa gxa hxb gxb fa fb
          go_upto_if 115 with fail
          go_cut [22] (fun v wx => v = .int .u64 (fA ass c k) ∧ wr = wx)
          case first =>
            by_cases h : k < xa.length
            · have h' : (k : Int) < (xa.length : Int) := by omega
              obtain ⟨p, off, q, rfl, hcq, hqx⟩ := (HSA.out.1.later HL.out.below).parts' h
              have hq : fA ass c k = q := by rw [HSA.out.2, List.getD_eq_getElem?_getD, hqx]; rfl
              have HQ := Lib.hid hq
              clear hq hqx
              go_wp2
              go_meet
              exact ⟨by rw [HQ.out], rfl⟩
            · have h' : ¬ (k : Int) < (xa.length : Int) := by omega
              have h0 : fA ass c k = 0 := by rw [HSA.out.2, List.getD_eq_getElem?_getD, List.getElem?_eq_none (by omega)]; rfl
              have HQ := Lib.hid h0
              clear h0
              go_wp2
              go_meet
              exact ⟨by rw [HQ.out], rfl⟩
          case rest =>
          obtain ⟨rfl, rfl⟩ := hcut
          go_upto_if 129 with fail
          go_cut [23] (fun v wx => v = .int .u64 (fA bss c k) ∧ wr = wx)
          case first =>
            by_cases h : k < xb.length
            · have h' : (k : Int) < (xb.length : Int) := by omega
              obtain ⟨p, off, q, rfl, hcq, hqx⟩ := (HSB.out.1.later HL.out.below).parts' h
              have hq : fA bss c k = q := by rw [HSB.out.2, List.getD_eq_getElem?_getD, hqx]; rfl
              have HQ := Lib.hid hq
              clear hq hqx
              go_wp2
              go_meet
              exact ⟨by rw [HQ.out], rfl⟩
            · have h' : ¬ (k : Int) < (xb.length : Int) := by omega
              have h0 : fA bss c k = 0 := by rw [HSB.out.2, List.getD_eq_getElem?_getD, List.getElem?_eq_none (by omega)]; rfl
              have HQ := Lib.hid h0
              clear h0
              go_wp2
              go_meet
              exact ⟨by rw [HQ.out], rfl⟩
          case rest =>
          obtain ⟨rfl, rfl⟩ := hcut
          have hle := lle_any (HI.out.lat.later HL.out.below) (ls.getD c 0) level
          obtain ⟨p3, o3, q3, rfl, hc3, hq3⟩ := (HI.out.levels.later HL.out.below).parts' hlt
          have hq3' : ls.getD c 0 = q3 := by rw [List.getD_eq_getElem?_getD, hq3]; rfl
          have hfb : fB nl R level ls ass bss c k = if leB nl R q3 level = true then fA ass c k else fA bss c k := by unfold fB; rw [hq3']
          rw [hq3'] at hle
          obtain ⟨B, hB⟩ : ∃ B, leB nl R q3 level = B := ⟨_, rfl⟩
          rw [hB] at hle hfb
          have HLE := Lib.hid hle; have HFB := Lib.hid hfb
          clear hq3 hq3' hle hfb hB
          go_upto_if 143 with (go_at_call 10; refine HLE.out.mono ?_; rintro e w5 ⟨rfl, rfl⟩)
          go_cut [23] (fun v wx => v = .int .u64 (fB nl R level ls ass bss c k) ∧ wr = wx)
          case first =>
            have hfb := HFB.out
            cases B with
            | true =>
              rw [if_pos rfl] at hfb
              have HQ := Lib.hid hfb
              clear hfb
              go_wp2
              go_meet
              exact ⟨by rw [HQ.out], rfl⟩
            | false =>
              rw [if_neg (by decide)] at hfb
              have HQ := Lib.hid hfb
              clear hfb
              go_wp2
              go_meet
              exact ⟨by rw [HQ.out], rfl⟩
          case rest =>
          obtain ⟨rfl, rfl⟩ := hcut
          clear hc3 HFB HLE HSA HSB ea eb
          go_upto_region 28 with fail
          have h1 := all_open (c := c) HL.out HX.out.1 HX.out.2 hlt
          unfold innerT at h1
          rw [part_at _ hlt, part_at _ hlt] at h1
          unfold Thing.numsK at h1
          have s1 := h1.head
          have s2 := h1.third
          simp only [List.length_map, List.length_range] at h1 s1 s2
          obtain ⟨ax, cx, ex, -⟩ := row_shape s1
          obtain ⟨ay, cy, ey, -⟩ := row_shape s2
          rw [ex, ey] at h1
          have hx1 : vsx[c]? = some (.slice ax k cx) := by
            rw [← ex, List.getElem?_eq_getElem (by rw [HX.out.1]; exact hlt), List.getD_eq_getElem?_getD, List.getElem?_eq_getElem (by rw [HX.out.1]; exact hlt)]; rfl
          have hy1 : vsy[c]? = some (.slice ay k cy) := by
            rw [← ey, List.getElem?_eq_getElem (by rw [HX.out.2]; exact hlt), List.getD_eq_getElem?_getD, List.getElem?_eq_getElem (by rw [HX.out.2]; exact hlt)]; rfl
          refine all_region28 (by omega) (by omega) hx1 hy1 hlt hlt h1 ?_
          clear h1 s1 s2 ex ey hx1 hy1 HL
          intro ax cx ay cy _ _ _ _ _ _ _ _ _ _ _ _ _ _ _ _ _ _ _ _ w5 hl5
          rw [nums_more .u64 44 _ _ _ (by simp), nums_more .u64 44 _ _ _ (by simp)] at hl5
          have hl6 := all_shut HX.out.1 HX.out.2 (part_len _ _ _ _ _) (part_len _ _ _ _ _) hlt hl5
          rw [part_step _ hlt, part_step _ hlt] at hl6
          have HL := Lib.hid hl6
          have HX2 := Lib.hid (show (vsx.set c (.slice ax (k + 1) cx)).length = N ∧ (vsy.set c (.slice ay (k + 1) cy)).length = N by rw [List.length_set, List.length_set]; exact HX.out)
          clear hl5 hl6 HX
          generalize vsx.set c (.slice ax (k + 1) cx) = vsx at HL HX2
          generalize vsy.set c (.slice ay (k + 1) cy) = vsy at HL HX2
          obtain ⟨m, hm2⟩ : ∃ m, 2 * (k * N + c) = m := ⟨_, rfl⟩
          have hmb : m ≤ 94 := by
            have : k * N ≤ 7 * 6 := Nat.mul_le_mul (by omega) h6
            omega
          have hi := input_any w5 N c k (by omega) hlt (by omega)
          rw [hm2] at hi
          have hv := tvar_any (HI.out.lat.later HL.out.below) level (HI.out.levels.later HL.out.below) (m : Int)
          have HIN := Lib.hid hi; have HM2 := Lib.hid hm2
          clear hi hm2
          by_cases hmay : mayE nl level ls = 0
          · have hE : varE nl level ls (m : Int) = 0 := by unfold varE; rw [if_neg (fun h => h hmay), if_neg (by omega), if_neg (by have := HM2.out; omega)]
            obtain ⟨q, hq⟩ : ∃ q : Nat, ofR nl R level ls (m : Int) = (q : Int) := by
              rcases ofR_or nl R level ls (m : Int) with h | h
              · exact ⟨m, h⟩
              · exact ⟨m + 1, by omega⟩
            have hqm : m ≤ q ∧ q ≤ 95 := by
              rcases ofR_or nl R level ls (m : Int) with h | h <;> omega
            have hN : varN nl R level ls (m : Int) = (q : Int) := by unfold varN; rw [if_pos hE, hq]
            rw [hE, hN] at hv
            have HVR := Lib.hid hv; have HMAY := Lib.hid hmay; have HQ := Lib.hid hq; have HQM := Lib.hid hqm
            clear hE hN hv hmay hq hqm HM
            go_wp2_with (first | (go_at_call 15; refine HIN.out.mono ?_; rintro e w6 ⟨rfl, rfl⟩) | (go_at_call 9; refine HVR.out.mono ?_; rintro e w6 ⟨rfl, rfl⟩))
            clear HIN HVR
            go_loopw [16] (fun v16 wx => ∃ n j av cv, v16 = .slice av n cv ∧ n = V.length + j ∧ n ≤ 200 ∧ Lab wb wx [Thing.numsK .u64 44 (.slice av n cv) (V ++ List.replicate j 0), Thing.lists .u64 44 36 (.slice (some ⟨ga, 0, none⟩) N N) vsx (part (fA ass) N 8 c (k + 1)), Thing.lists .u64 44 36 (.slice (some ⟨gb, 0, none⟩) N N) vsy (part (fB nl R level ls ass bss) N 8 c (k + 1))]) (fun v16 _ => q + 1 - lenV v16)
            case atStart => exact ⟨V.length, 0, av, cv, rfl, rfl, HV.out.len, by rw [List.replicate_zero, List.append_nil]; exact HL.out⟩
            case round =>
              clear HL
              obtain ⟨n, j, av, cv, rfl, hn, hn2, hl⟩ := hrel
              have hll : (V ++ List.replicate j 0).length = n := by rw [List.length_append, List.length_replicate, hn]
              by_cases hnq : n ≤ q
              · have hnq' : (n : Int) ≤ (q : Int) := by omega
                obtain ⟨a2, c2, w6, hr, hl2⟩ := hl.append1 36 36 8 0 hll Tryd.underlying36 Tryd.infoU64 (by decide) (by omega)
                rw [List.append_assoc, ← List.replicate_succ'] at hl2
                have HR := Lib.hid hr; have HL := Lib.hid hl2; have HN := Lib.hid hn
                clear hr hl hl2 hll hn
                go_wp2_with (at_builtin; refine Lib.wpList_append_run _ rfl _ _ 36 36 rfl _ _ rfl rfl _ _ HR.out ?_)
                go_roundw
                case rel => exact ⟨n + 1, j + 1, a2, c2, rfl, by have := HN.out; omega, by have := HQM.out; omega, HL.out⟩
                case measure => simp [lenV]; omega
              · have hnq' : ¬ (n : Int) ≤ (q : Int) := by omega
                obtain ⟨g, rfl⟩ := hl.nums_some hll (by omega)
                have m0 : (0 : Int) ≤ (m : Int) := by omega
                have m1 : (m : Int) < (n : Int) := by have := HQM.out; omega
                have q0 : (0 : Int) ≤ (q : Int) := by omega
                have q1 : (q : Int) < (n : Int) := by omega
                obtain ⟨x1, d1, d2⟩ := hl.nums_cell hll (j := m) (by omega)
                have hl2 := hl.nums_set hll m (fA ass c k)
                obtain ⟨x2, d3, d4⟩ := hl2.nums_cell (by rw [List.length_set]; exact hll) (j := q) (by omega)
                have hl3 := hl2.nums_set (by rw [List.length_set]; exact hll) q (fB nl R level ls ass bss c k)
                have hstep := HV.out.step (j := j) (by have := HI.out.len; omega) (by rw [HI.out.len]; exact HM2.out) HQ.out (by omega) (by omega) (by omega)
                have hlen : (((V ++ List.replicate j 0).set m (fA ass c k)).set q (fB nl R level ls ass bss c k)).length = n := by rw [List.length_set, List.length_set]; exact hll
                generalize ((V ++ List.replicate j 0).set m (fA ass c k)).set q (fB nl R level ls ass bss c k) = V2 at hl3 hstep hlen
                subst hlen
                have HL := Lib.hid hl3; have HV2 := Lib.hid hstep
                clear hl hl2 hl3 hstep hll hn hn2 HV
                go_wp2
                refine ⟨⟨k + 1, by omega, by go_num, some ⟨g, 0, none⟩, cv, V2, vsx, vsy, rfl, HX2.out.1, HX2.out.2, HV2.out, .inl HMAY.out, HL.out⟩, ?_⟩
                simp [intOf]; omega
          · have hE : varE nl level ls (m : Int) = 3 := by unfold varE; rw [if_pos hmay]
            have hN : varN nl R level ls (m : Int) = 0 := by unfold varN; rw [if_neg (by rw [hE]; decide)]
            rw [hE, hN] at hv
            have HVR := Lib.hid hv
            have hbw := HI.out.below.trans (HL.out.below.mono HI.out.below.size)
            have HA := Lib.hid (awake35_any w5 (HI.out.tab.later hbw)); have HBW := Lib.hid hbw
            clear hE hN hv hmay hbw HM
            go_wp2_with (first | (go_at_call 15; refine HIN.out.mono ?_; rintro e w6 ⟨rfl, rfl⟩) | (go_at_call 9; refine HVR.out.mono ?_; rintro e w6 ⟨rfl, rfl⟩) | (go_at_call 7; refine HA.out.mono ?_; rintro e w6 ⟨rfl, hb6⟩))
            go_ret
            exact ⟨rfl, HBW.out.trans (hb6.mono HBW.out.size)⟩
        · obtain rfl : k = 8 := by omega
          rw [part_line, part_line] at hl
          have hV' := hV.line
          have hm' : mayE nl level ls = 0 := hm.resolve_right (fun h => by omega)
          have HL := Lib.hid hl; have HX := Lib.hid (And.intro hlx hly); have HV := Lib.hid hV'; have HM := Lib.hid hm'
          clear hl hlx hly hV hm hV' hm'
          go_wp2
          refine ⟨⟨c + 1, by omega, by go_num, av, cv, V, vsx, vsy, rfl, HX.out.1, HX.out.2, HV.out, .inl HM.out, HL.out⟩, ?_⟩
          simp [intOf]; omega
    · obtain rfl : c = N := by omega
      have hm' : mayE nl level ls = 0 := hm.resolve_right (fun h => by omega)
      have hln := HI.out.len
      have hE : splE nl level ls 8 = 0 := by unfold splE; rw [if_neg (fun h => h hm'), if_neg (by omega)]
      have hS := hl.split_any (HI.out.lat.later hl.below) (level := level) (n := 8) (HI.out.levels.later hl.below) (OwnInts.slice (base := 0) (E := 44) hl.head)
      rw [hE] at hS
      simp only [splX, if_true] at hS
      have hVc : Vok nl R level ls ass bss ls.length 0 V := by rw [hln]; exact hV
      rw [show (8 : Int).toNat = 8 from rfl, hVc.fullA, hVc.fullB, hln] at hS
      rw [part_full, part_full] at hl
      rw [part_full, part_full] at hS
      have HS := Lib.hid hS; have HX := Lib.hid (And.intro hlx hly)
      clear hl hlx hly hV hm hm' hln hE hS hVc
      go_wp2_with fail
      go_at_call 12
      refine HS.out.mono ?_
      rintro e w4 ⟨va, vb, vsa, vsb, rfl, h3, h4, hl4⟩
      obtain ⟨aa, na, ca, rfl⟩ := hl4.lists_shape
      obtain ⟨ab, nb, cb, rfl⟩ := hl4.swap.lists_shape
      have R1 := hl4.lists_read h3.symm
      have R2 := hl4.rot4.lists_read (by rw [full_len]; exact HX.out.1.symm)
      have R3 := hl4.swap.lists_read h4.symm
      have R4 := hl4.rot5.lists_read (by rw [full_len]; exact HX.out.2.symm)
      have hr : ∀ (f : Nat → Nat → Int) (xs : List Int), xs ∈ full f 8 c → xs.length ≤ 9223372036854775807 := fun f xs h => by rw [full_rows h]; decide
      have hfl : ∀ f : Nat → Nat → Int, (full f 8 c).length ≤ 9223372036854775807 := fun f => by rw [full_len]; omega
      have E1 := Lib.hid (inputsEq_any _ _ _ _ R1 R2 (hfl _) (hfl _) (hr _) (hr _))
      rw [decide_eq_true rfl] at E1
      have HR3 := Lib.hid (And.intro R3 R4)
      have HRR := Lib.hid (And.intro hr hfl)
      have hbw := HI.out.below.trans (hl4.below.mono HI.out.below.size)
      have HB4 := Lib.hid hbw
      clear h3 h4 hl4 HS R1 R2 R3 R4 hr hfl hbw
      go_wp2_with fail
      go_at_call 14
      refine E1.out.mono ?_
      rintro e w5 ⟨rfl, hb5⟩
      have E2 := Lib.hid (inputsEq_any _ _ _ _ (HR3.out.1.later hb5) (HR3.out.2.later hb5) (HRR.out.2 _) (HRR.out.2 _) (HRR.out.1 _) (HRR.out.1 _))
      rw [decide_eq_true rfl] at E2
      have HB5 := Lib.hid (HB4.out.trans (hb5.mono HB4.out.size))
      clear hb5 E1 HR3
      go_wp2_with fail
      go_at_call 14
      refine E2.out.mono ?_
      rintro e w6 ⟨rfl, hb6⟩
      have HB6 := Lib.hid (HB5.out.trans (hb6.mono HB5.out.size))
      have HA := Lib.hid (awake35_any w6 (HI.out.tab.later HB6.out))
      clear hb6 E2
      go_wp2_with fail
      go_at_call 7
      refine HA.out.mono ?_
      rintro e w7 ⟨rfl, hb7⟩
      have HB7 := Lib.hid (HB6.out.trans (hb7.mono HB6.out.size))
      clear hb7
      go_wp2
      go_ret
      exact ⟨rfl, HB7.out⟩
end
end Go.Proofs.YtmfendfpjpbhdaaDoor
