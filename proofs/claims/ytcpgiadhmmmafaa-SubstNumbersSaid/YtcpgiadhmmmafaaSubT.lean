/- SubstNumbers: the walk. -/
import Derived.Test.YtcpgiadhmmmafaaSubS
import Derived.Test.YtcpgiadhmmmafaaSubQ
import Derived.Test.YtcpgiadhmmmafaaSimpA
import Derived.Test.YtcpgiadhmmmafaaSubI
import Derived.WideKeyArr2
import Derived.Deep.Upon
namespace Go.Proofs.Ytcpgiadhmmmafaa
open Go.RowKit Go.Maps
set_option maxHeartbeats 3200000

theorem list6 (cs : List Value) (h : cs.length = 6) : ∃ c0 c1 c2 c3 c4 c5, cs = [c0, c1, c2, c3, c4, c5] := by
  match cs, h with
  | [c0, c1, c2, c3, c4, c5], _ => exact ⟨_, _, _, _, _, _, rfl⟩
set_option maxRecDepth 100000 in
/-- What a law's frame tells of an array of six numbers. -/
theorem six_of_trod {H : Type} {enc : TypeId × Value → H} {w : World} {base : Nat} {v : Value} {d : DataW H} {p : List MemPlace}
    (h : DataW.Trod enc Try.prog w 0 (fun _ => true) true 99 v d p) (o : Value.okWide Try.prog w .any base 99 v) :
    ∃ x0 x1 x2 x3 x4 x5 : Int, v = .agg #[.int .u64 x0, .int .u64 x1, .int .u64 x2, .int .u64 x3, .int .u64 x4, .int .u64 x5] ∧ U64s [x0, x1, x2, x3, x4, x5] := by
  obtain ⟨⟨cs⟩, rfl, hsz⟩ := Go.WideMaps.okWide_arr (n := 6) (e := 22) ⟨Try.underlying99, by kernel_rfl, by kernel_rfl, by kernel_rfl⟩ o
  obtain ⟨fuel, hf0⟩ := h
  replace hf0 : DataW.trod enc Try.prog w 0 (fun _ => true) true fuel 99 cs = some (d, p) := hf0
  obtain ⟨ys, m, _, _, hl, hyl, hf⟩ := DataW.trod_array Try.underlying99 hf0
  have h6 : cs.length = 6 := by simpa using hsz
  have h1 : Try.prog.cellsOf 22 = 1 := by kernel_rfl
  obtain ⟨c0, c1, c2, c3, c4, c5, rfl⟩ := list6 cs h6
  have at_ : ∀ i c, i < 6 → (([c0, c1, c2, c3, c4, c5].drop (i * 1)).take 1) = [c] → ∃ x : Int, c = .int .u64 x ∧ 0 ≤ x ∧ x ≤ 18446744073709551615 := by
    intro i c hi e
    obtain ⟨y, ey⟩ : ∃ y, ys[i]? = some y := ⟨_, List.getElem?_eq_getElem (by rw [hyl]; exact hi)⟩
    have g := hf i hi
    rw [h1, ey, e] at g
    obtain ⟨n0, q0, _, hw⟩ := DataW.trod_int Try.underlying22 g
    simp only [List.cons.injEq, and_true] at q0
    have hw2 := u64s_of (xs := [n0]) (fun y hy => by rw [List.mem_singleton.1 hy]; exact hw) n0 (by simp)
    exact ⟨n0, q0, hw2.1, hw2.2⟩
  obtain ⟨x0, rfl, a0⟩ := at_ 0 _ (by decide) rfl
  obtain ⟨x1, rfl, a1⟩ := at_ 1 _ (by decide) rfl
  obtain ⟨x2, rfl, a2⟩ := at_ 2 _ (by decide) rfl
  obtain ⟨x3, rfl, a3⟩ := at_ 3 _ (by decide) rfl
  obtain ⟨x4, rfl, a4⟩ := at_ 4 _ (by decide) rfl
  obtain ⟨x5, rfl, a5⟩ := at_ 5 _ (by decide) rfl
  refine ⟨x0, x1, x2, x3, x4, x5, rfl, fun x hx => ?_⟩
  simp only [List.mem_cons, List.not_mem_nil, or_false] at hx
  rcases hx with rfl | rfl | rfl | rfl | rfl | rfl <;> assumption
section
variable {w0 wr w' : World} {ts : List Thing}
/-- A list is appended to an own list. -/
theorem wpList_append_part {ops : Array Oper} {rest : List Oper} {o : Oper} {a : Act} {Q : Exit → Act → World → Prop} {ao : Option Addr} {c n r : Nat} {xs ys : List Int} {sa : Option Addr} {m sc : Nat} (s x : Operand)
    (h : Lab w0 wr (Thing.ints (.slice ao n c) xs :: ts)) (hsl : SliceOf wr .i64 (.slice sa m sc) ys) (hgd : o.guard = none) (ho : o.op = .call { callee := .builtin .append, args := #[s, x], argTypes := #[33, 33] })
    (hs : a.eval s = .slice ao n c) (hx : a.eval x = .slice sa m sc) (hn : n + m ≤ 1000000000) (hr0 : r = n + m)
    (hK : ∀ a' c' w', Lab w0 w' (Thing.ints (.slice a' r c') (xs ++ ys) :: ts) → wpList Try.prog ops Q rest (a.put o.dst (.slice a' r c')) w') :
    wpList Try.prog ops Q (o :: rest) a wr := by
  refine wpList_plain hgd fun K hK' => ?_
  have := step_append_part (ops := ops) (K := K) (Q := Q) (E0 := True) s x h hsl hgd ho hs hx hn hr0 (fun a' c' w' hl => hK' _ _ (hK a' c' w' hl))
  rwa [if_pos (by simp [Region.wanted, hgd])] at this
end
theorem var_step {room : Nat} {L : List PNode} (hl : L.length < room) (n : Nat) (hn : n ≤ 4194303) : ∃ L' x, varR room L (n : Int) = (L', x, 0) ∧ L'[x]? = some (1, n, []) ∧ L <+: L' ∧ L'.length ≤ L.length + 1 ∧ x < L'.length := by
  have e : varR room L (n : Int) = askP room L (1, n, []) := by
    unfold varR
    rw [if_pos (by omega), Int.toNat_natCast]
  rw [e]
  rcases askP_cases room L (1, n, []) (by omega) with ⟨t, e, h⟩ | ⟨_, _, e⟩ | ⟨_, h, _⟩
  · exact ⟨L, t, e, h, List.prefix_refl _, by omega, (List.getElem?_eq_some_iff.1 h).1⟩
  · exact ⟨L ++ [(1, n, [])], L.length, e, by rw [List.getElem?_append_right (Nat.le_refl _), Nat.sub_self]; rfl, List.prefix_append _ _, by simp, by simp⟩
  · omega
theorem exch_exch {vals : List Int} (h : vals.length = 6) : exch (exch vals) = vals := by
  match vals, h with
  | [a, b, c, d, e, f], _ => rfl
noncomputable def numbersRest15 : Code := (Try.f16.body.bind (tailAt 15)).getD .skip
set_option maxRecDepth 100000 in
theorem numbers_rest15 {u0 u1 u3 u4 u5 u6 u8 u10 u13 u14 u15 u16 u17 u18 u19 u20 u21 u22 u23 u24 u25 u26 u27 u28 u29 u30 u31 u32 u33 u34 u35 u36 u37 u38 u39 u40 u41 u42 u43 u44 u45 u46 u47 u48 u49 u50 u51 u52 u53 u54 u55 u56 u57 u58 u59 u60 u61 u62 u63 u64 u65 u66 u67 u68 u69 u70 u71 u72 u73 u74 u75 u76 u77 u78 u79 u80 u81 u82 u83 u84 u85 u86 u87 u88 u89 u90 u91 u92 u93 u94 u95 u96 u97 u98 u99 u100 u101 u102 u103 u104 u105 u106 u107 u108 u109 u110 u111 u112 u113 u114 u115 u116 u117 u118 u119 u120 u121 u122 u123 u124 u125 u126 u127 u128 u129 u130 u131 u132 u133 u134 u135 u136 u137 u138 u139 u140 u141 u142 u143 u144 u145 u146 u147 u148 u149 u150 u151 u152 u153 u154 u155 u156 u157 u158 u159 u160 u161 u162 u163 u164 u165 u166 u167 u168 u169 u170 u171 u172 u173 u174 u175 u176 u177 u178 u179 u180 u181 u182 u183 u184 u185 u186 u187 u188 : Value} {w wb wr : World} {a1 a2 : Option Addr} {c1 c2 p gb W t : Nat} {us : List Int} {F I : List Nat} {M : List PNode} {x0 x1 x2 x3 x4 x5 : Int} (hb0 : Below w.heap.size w wb) (hpl : p < wb.heap.size) (hrow : wb.heap[p]? = some (.cells #[.int .u64 x0, .int .u64 x1, .int .u64 x2, .int .u64 x3, .int .u64 x4, .int .u64 x5] 99 (0, 0))) (hsl : SliceOf wb .u64 (.slice (some ⟨p, 0, none⟩) 6 6) [x0, x1, x2, x3, x4, x5]) (hu : U64s [x0, x1, x2, x3, x4, x5]) (h1 : 1 ≤ W) (hW : W ≤ 64)
    (hl : Lab wb wr [Thing.ints (.slice a1 6 c1) (natsI 6), Thing.ints (.slice a2 6 c2) us, Thing.graph F I gb W 1048576 M]) (hni : NumInv W 6 [x0, x1, x2, x3, x4, x5] M us) (hM : M.length ≤ 66) (ht : t < M.length) :
    Code.wp Try.prog numbersRest15 (bodyPost Try.prog Try.f16 (fun e w' => e = .returned (.bool true) ∧ Below w.heap.size w w')) ⟨(List.toArray (u0 :: u1 :: .int .i64 t :: u3 :: u4 :: u5 :: u6 :: .pointer (some ⟨p, 0, none⟩) :: u8 :: .pointer (some ⟨gb, 0, none⟩) :: u10 :: .slice a1 6 c1 :: .slice a2 6 c2 :: u13 :: u14 :: u15 :: u16 :: u17 :: u18 :: u19 :: u20 :: u21 :: u22 :: u23 :: u24 :: u25 :: u26 :: u27 :: u28 :: u29 :: u30 :: u31 :: u32 :: u33 :: u34 :: u35 :: u36 :: u37 :: u38 :: u39 :: u40 :: u41 :: u42 :: u43 :: u44 :: u45 :: u46 :: u47 :: u48 :: u49 :: u50 :: u51 :: u52 :: u53 :: u54 :: u55 :: u56 :: u57 :: u58 :: u59 :: u60 :: u61 :: u62 :: u63 :: u64 :: u65 :: u66 :: u67 :: u68 :: u69 :: u70 :: u71 :: u72 :: u73 :: u74 :: u75 :: u76 :: u77 :: u78 :: u79 :: u80 :: u81 :: u82 :: u83 :: u84 :: u85 :: u86 :: u87 :: u88 :: u89 :: u90 :: u91 :: u92 :: u93 :: u94 :: u95 :: u96 :: u97 :: u98 :: u99 :: u100 :: u101 :: u102 :: u103 :: u104 :: u105 :: u106 :: u107 :: u108 :: u109 :: u110 :: u111 :: u112 :: u113 :: u114 :: u115 :: u116 :: u117 :: u118 :: u119 :: u120 :: u121 :: u122 :: u123 :: u124 :: u125 :: u126 :: u127 :: u128 :: u129 :: u130 :: u131 :: u132 :: u133 :: u134 :: u135 :: u136 :: u137 :: u138 :: u139 :: u140 :: u141 :: u142 :: u143 :: u144 :: u145 :: u146 :: u147 :: u148 :: u149 :: u150 :: u151 :: u152 :: u153 :: u154 :: u155 :: u156 :: u157 :: u158 :: u159 :: u160 :: u161 :: u162 :: u163 :: u164 :: u165 :: u166 :: u167 :: u168 :: u169 :: u170 :: u171 :: u172 :: u173 :: u174 :: u175 :: u176 :: u177 :: u178 :: u179 :: u180 :: u181 :: u182 :: u183 :: u184 :: u185 :: u186 :: u187 :: u188 :: [])), []⟩ wr := by
  have hwf := hl.rot3.gr.wf
  obtain ⟨hso, L1, s, hR1, hR2, hw1, hg1, hpre1, hlen1, hs1⟩ := subst_pairs (room := 1048576) hW hwf hni.good hni.pairs ht (by omega)
  have hcall := hl.rot3.subst (t : Int) _ _ (natsI 6) us (OwnInts.slice hl.ints) (OwnInts.slice hl.swap.ints) hni.good hni.pairs.wf (by rw [natsI_len]; omega) (by rw [hni.len]; omega) hR2
  have hnum := numbers_num hW hwf hni hso ht hR1
  have hval := numbers_val h1 hW hwf hni rfl hso ht hR1
  obtain ⟨V, hV⟩ : ∃ V, val W [x0, x1, x2, x3, x4, x5] L1 t = V := ⟨_, rfl⟩
  rw [← val_prefix hpre1 ht, hV] at hval
  have hnd : ((numD L1 (s : Int) : Nat) : Int) = V := by
    have := (numOf_val (vals := [x0, x1, x2, x3, x4, x5]) hw1 hg1 (isNum_some hnum)).1
    rw [Int.toNat_natCast, hval] at this
    exact this.symm
  have ht1 : t < L1.length := by have := hpre1.length_le; omega
  have HC := Lib.hid hcall; have HB := Lib.hid (And.intro hb0 (And.intro hpl hrow)); have HSL := Lib.hid hsl; have HU := Lib.hid hu; have HN := Lib.hid (And.intro hnum hnd); have HG := Lib.hid (And.intro hw1 hg1); have HV := Lib.hid hV; have hs1' := hs1
  have hlen1' : L1.length ≤ 140 := by omega
  clear hwf hso hR1 hR2 hw1 hg1 hpre1 hlen1 hcall hnum hval hl hni hb0 hpl hrow hsl hu hnd
  conv => arg 2; whnf
  go_upto_region 15 with fail
  go_wp2_with fail
  go_at_call 39
  refine HC.out.mono ?_
  rintro e w1 ⟨F1, I1, rfl, hl1⟩
  have hnb := number_any hl1.gr (s : Int)
  rw [HN.out.1, HN.out.2] at hnb
  have HL1 := Lib.hid hl1; have HNB := Lib.hid hnb
  clear hl1 HC hnb
  go_wp2_with fail
  go_at_call 31
  refine HNB.out.mono ?_
  rintro e w2 ⟨rfl, hb2⟩
  have HL2 := Lib.hid (HL1.out.later hb2)
  clear hb2 HNB HL1
  go_wp2_with fail
  go_at_call 46
  refine (HL2.out.eval12 t ht1 _ _ (HSL.out.below HL2.out.below) (by simp) HU.out HV.out).mono ?_
  rintro e w3 ⟨rfl, hl3⟩
  obtain ⟨L2, x, hvx, hx, hp2, hl2, hxl⟩ := var_step (room := 1048576) (show L1.length < 1048576 by omega) 0 (by omega)
  obtain ⟨L3, y, hvy, hy, hp3, hln3, hyl⟩ := var_step (room := 1048576) (show L2.length < 1048576 by omega) 1 (by omega)
  have hg2 : GoodL W L2 := by have := HG.out.2.var 1048576 ((0 : Nat) : Int); rwa [hvx] at this
  have hg3 : GoodL W L3 := by have := hg2.var 1048576 ((1 : Nat) : Int); rwa [hvy] at this
  have qV : (V != V) = false := by simp
  have HL3 := Lib.hid hl3; have HVX := Lib.hid (And.intro hvx hvy); have HX := Lib.hid (And.intro hx (And.intro hy (And.intro hp2 hp3))); have HG3 := Lib.hid hg3
  clear hl3 hvx hvy hx hy hp2 hp3 hg2 hg3
  go_wp2_with fail
  go_at_call 36
  refine (var_any HL3.out.gr 0).mono ?_
  intro e w4 hp4
  obtain ⟨F4, I4, rfl, hl4⟩ := HL3.out.gpost hp4
  rw [show varR 1048576 L1 0 = (L2, x, 0) from HVX.out.1] at hl4 ⊢
  have HL4 := Lib.hid hl4
  clear hl4 hp4
  go_wp2_with fail
  go_at_call 36
  refine (var_any HL4.out.gr 1).mono ?_
  intro e w5 hp5
  obtain ⟨F5, I5, rfl, hl5⟩ := HL4.out.gpost hp5
  rw [show varR 1048576 L2 1 = (L3, y, 0) from HVX.out.2] at hl5 ⊢
  have hw3 := hl5.gr.wf
  have hx3 := prefix_at HX.out.2.2.2 HX.out.1
  have hx3l := (List.getElem?_eq_some_iff.1 hx3).1
  have ht3 : t < L3.length := by have := HX.out.2.2.1.length_le; have := HX.out.2.2.2.length_le; omega
  have hpk := exch_pairs hx3l hyl
  have htm : t < 66 := Nat.lt_of_lt_of_le ht hM
  have hroom3 : L3.length + (t + 1) ≤ 1048576 := by clear HX HVX; omega
  obtain ⟨hso4, L4, s2, hR4, hR4', hw4, hg4, hpre4, hlen4, hs4⟩ := subst_pairs (room := 1048576) hW hw3 HG3.out hpk ht3 hroom3
  have hv4 := exch_val (vals := exch [x0, x1, x2, x3, x4, x5]) h1 hW hw3 HG3.out hx3 HX.out.2.1 ht3 rfl hR4 hso4
  rw [exch_exch rfl, val_prefix (HX.out.2.2.1.trans HX.out.2.2.2) ht1, HV.out] at hv4
  have hlen4' : L4.length ≤ L3.length + (t + 1) := hlen4
  have hs4' : s2 < L4.length := hs4
  have hroom4 : L4.length + (s2 + 1) ≤ 1048576 := by clear hroom3 HX HVX; omega
  have hx4 := prefix_at hpre4 hx3
  have hy4 := prefix_at hpre4 HX.out.2.1
  obtain ⟨hso6, L6, s3, hR6, hR6', hw6, hg6, hpre6, hlen6, hs6⟩ := subst_pairs (room := 1048576) hW hw4 hg4 (exch_pairs (List.getElem?_eq_some_iff.1 hx4).1 (List.getElem?_eq_some_iff.1 hy4).1) hs4 hroom4
  have hv6 := exch_val (vals := [x0, x1, x2, x3, x4, x5]) h1 hW hw4 hg4 hx4 hy4 hs4 rfl hR6 hso6
  rw [hv4] at hv6
  rw [← val_prefix hpre6 hs4] at hv4
  have hs26 : s2 < L6.length := by have := hpre6.length_le; omega
  have HL5 := Lib.hid hl5; have HR := Lib.hid (And.intro hR4' hR6'); have HGG := Lib.hid (And.intro HG3.out hg4); have HVV := Lib.hid (And.intro hv4 hv6)
  clear hl5 hp5 hw3 hx3 hpk hso4 hR4 hR4' hw4 hg4 hpre4 hv4 hx4 hy4 hso6 hR6 hR6' hw6 hg6 hpre6 hv6
  go_wp2_with fail
  go_at_call 39
  refine (HL5.out.subst_lit t [0, 1] [(y : Int), (x : Int)] 2 2 HGG.out.1 (by decide) (by decide) (by simp) HR.out.1).mono ?_
  rintro e w6 ⟨F6, I6, rfl, hl6⟩
  have HL6 := Lib.hid hl6; clear hl6
  go_wp2_with fail
  go_at_call 39
  refine (HL6.out.subst_lit s2 [0, 1] [(y : Int), (x : Int)] 2 2 HGG.out.2 (by decide) (by decide) (by simp) HR.out.2).mono ?_
  rintro e w7 ⟨F7, I7, rfl, hl7⟩
  have HL7 := Lib.hid hl7; clear hl7
  go_upto_region 24 with fail
  have hr7 := (HL7.out.below.block p HB.out.2.1).trans HB.out.2.2
  have k0 : w7.cell? ⟨p, 0, none⟩ = some (.int .u64 x0) := by rw [cell_of_row w7 _ _ _ _ _ hr7]; rfl
  have k1 : w7.cell? ⟨p, 1, none⟩ = some (.int .u64 x1) := by rw [cell_of_row w7 _ _ _ _ _ hr7]; rfl
  have k2 : w7.cell? ⟨p, 2, none⟩ = some (.int .u64 x2) := by rw [cell_of_row w7 _ _ _ _ _ hr7]; rfl
  have k3 : w7.cell? ⟨p, 3, none⟩ = some (.int .u64 x3) := by rw [cell_of_row w7 _ _ _ _ _ hr7]; rfl
  have k4 : w7.cell? ⟨p, 4, none⟩ = some (.int .u64 x4) := by rw [cell_of_row w7 _ _ _ _ _ hr7]; rfl
  have k5 : w7.cell? ⟨p, 5, none⟩ = some (.int .u64 x5) := by rw [cell_of_row w7 _ _ _ _ _ hr7]; rfl
  clear hr7
  obtain ⟨q, hq⟩ : ∃ q, w7.heap.size = q := ⟨_, rfl⟩
  have hl8 := HL7.out.alloc #[.int .u64 x0, .int .u64 x1, .int .u64 x2, .int .u64 x3, .int .u64 x4, .int .u64 x5] 99
  rw [hq] at hl8
  have HL8 := Lib.hid hl8
  clear hl8
  go_upto_region 25 with fail
  clear hq k0 k1 k2 k3 k4 k5
  refine wp_abs (fun w8 => ∃ ts, Lab wb w8 (Thing.box q 99 #[.int .u64 x0, .int .u64 x1, .int .u64 x2, .int .u64 x3, .int .u64 x4, .int .u64 x5] :: Thing.graph F7 I7 gb W 1048576 L6 :: ts)) ⟨_, HL8.out⟩ ?_
  clear HL8 HL7
  rintro w8 ⟨ts, hl8⟩
  have hr8 := (hl8.below.block p HB.out.2.1).trans HB.out.2.2
  have k0 : w8.cell? ⟨p, 0, none⟩ = some (.int .u64 x0) := by rw [cell_of_row w8 _ _ _ _ _ hr8]; rfl
  have k1 : w8.cell? ⟨p, 1, none⟩ = some (.int .u64 x1) := by rw [cell_of_row w8 _ _ _ _ _ hr8]; rfl
  have g0 := frozen_of_row w8 q 0 _ _ hl8.box1
  have g1 := frozen_of_row w8 q 1 _ _ hl8.box1
  have c0 : w8.cell? ⟨q, 0, none⟩ = some (.int .u64 x0) := by rw [cell_of_row w8 _ _ _ _ _ hl8.box1]; rfl
  have c1 : w8.cell? ⟨q, 1, none⟩ = some (.int .u64 x1) := by rw [cell_of_row w8 _ _ _ _ _ hl8.box1]; rfl
  have hl9 := (hl8.store 0 (.int .u64 x1)).store 1 (.int .u64 x0)
  have HL9 := Lib.hid hl9
  clear hl8 hr8 hl9
  go_upto_region 26 with fail
  clear k0 k1 g0 g1 c0 c1
  have hrow9 := HL9.out.box1
  have hsl9 : SliceOf ((w8.setCell ⟨q, 0, none⟩ (.int .u64 x1)).setCell ⟨q, 1, none⟩ (.int .u64 x0)) .u64 (.slice (some ⟨q, 0, none⟩) 6 6) (exch [x0, x1, x2, x3, x4, x5]) := ⟨_, _, _, rfl, rfl, fun i hi => ⟨q, 0, rfl, by
    rw [Nat.zero_add, cell_of_row _ q _ _ _ _ hrow9]
    match i, hi with
    | 0, _ | 1, _ | 2, _ | 3, _ | 4, _ | 5, _ => rfl⟩⟩
  have hu9 : U64s (exch [x0, x1, x2, x3, x4, x5]) := fun z hz => HU.out z (by
    have hz' : z ∈ [x1, x0, x2, x3, x4, x5] := hz
    simp only [List.mem_cons, List.not_mem_nil, or_false] at hz' ⊢
    rcases hz' with h | h | h | h | h | h <;> simp [h])
  have hev := HL9.out.swap.eval12 s2 hs26 _ _ hsl9 (by simp [exch]) hu9 HVV.out.1
  have HEV := Lib.hid hev
  clear hrow9 hsl9 hu9 hev
  go_wp2_with fail
  go_at_call 46
  refine HEV.out.mono ?_
  rintro e w10 ⟨rfl, hl10⟩
  have HEV2 := Lib.hid (hl10.eval12 s3 hs6 _ _ (HSL.out.below hl10.below) (by simp) HU.out HVV.out.2)
  clear hl10 HEV HL9
  go_wp2_with fail
  go_at_call 46
  refine HEV2.out.mono ?_
  rintro e w11 ⟨rfl, hl11⟩
  have HAW := Lib.hid hl11.awake13
  clear hl11 HEV2
  have qV2 : (V == V) = true := by simp
  go_wp2_with (go_at_call 41; refine HAW.out.mono ?_; rintro e w12 ⟨rfl, hb⟩)
  go_ret
  exact ⟨rfl, HB.out.1.trans (hb.mono HB.out.1.size)⟩
set_option maxRecDepth 100000 in
theorem substNumbers_walk {w : World} (Wi ti : Int) (v : Value) (qs : List PAsk) (hv : AsksOf w v qs) (hq : qs.length ≤ 9223372036854775807) (hcq : ∀ a n c, v = .slice a n c → n ≤ c) (x0 x1 x2 x3 x4 x5 : Int) (hu : U64s [x0, x1, x2, x3, x4, x5]) :
    Calls Try.prog 16 #[.int .i64 Wi, v, .int .i64 ti, .agg #[.int .u64 x0, .int .u64 x1, .int .u64 x2, .int .u64 x3, .int .u64 x4, .int .u64 x5]] w fun e w' => e = .returned (.bool true) ∧ Below w.heap.size w w' := by
  obtain ⟨a, cap, rfl⟩ := hv.parts
  have hcap := hcq _ _ _ rfl
  obtain ⟨n, hn⟩ : ∃ n, qs.length = n := ⟨_, rfl⟩
  rw [hn] at hv hq hcap ⊢
  obtain ⟨p, hp⟩ : ∃ p, w.heap.size = p := ⟨_, rfl⟩
  have hl0 := (Lab.nil (Below.refl w.heap.size w)).alloc #[.int .u64 x0, .int .u64 x1, .int .u64 x2, .int .u64 x3, .int .u64 x4, .int .u64 x5] 99
  rw [hp] at hl0
  have HV := Lib.hid (And.intro hv hcq); have HL0 := Lib.hid hl0
  clear hv hcq hn hl0
  go_enter Try.func16, Try.ntmps16
  go_upto_region 1 with fail
  clear hp
  refine wp_abs (fun w2 => Lab w w2 [Thing.box p 99 #[.int .u64 x0, .int .u64 x1, .int .u64 x2, .int .u64 x3, .int .u64 x4, .int .u64 x5]]) HL0.out ?_
  clear HL0
  rintro wb hl0
  have hb0 := hl0.below
  have hpl : p < wb.heap.size := hl0.high (Thing.box p 99 #[.int .u64 x0, .int .u64 x1, .int .u64 x2, .int .u64 x3, .int .u64 x4, .int .u64 x5]) (by simp) p (.inl (by simp [Thing.box]))
  have hrow := hl0.box1
  have hsl : SliceOf wb .u64 (.slice (some ⟨p, 0, none⟩) 6 6) [x0, x1, x2, x3, x4, x5] := ⟨_, _, _, rfl, rfl, fun i hi => ⟨p, 0, rfl, by
    rw [Nat.zero_add, cell_of_row wb p _ _ _ _ hrow]
    match i, hi with
    | 0, _ | 1, _ | 2, _ | 3, _ | 4, _ | 5, _ => rfl⟩⟩
  have hcell : ∀ i, i < 6 → wb.cell? ⟨p, i, none⟩ = some (.int .u64 ([x0, x1, x2, x3, x4, x5].getD i 0)) := fun i hi => by
    rw [cell_of_row wb p _ _ _ _ hrow]
    match i, hi with
    | 0, _ | 1, _ | 2, _ | 3, _ | 4, _ | 5, _ => rfl
  have hfill := fill_some Wi a n cap qs (HV.out.1.below hb0) hq
  obtain ⟨W, hW⟩ : ∃ W, (Wi % 64).toNat + 1 = W := ⟨_, rfl⟩
  rw [hW] at hfill
  have hW1 : 1 ≤ W := by omega
  have hW2 : W ≤ 64 := by omega
  obtain ⟨vals, hvals⟩ : ∃ vals, [x0, x1, x2, x3, x4, x5] = vals := ⟨_, rfl⟩
  have h6 : vals.length = 6 := by rw [← hvals]; rfl
  rw [hvals] at hsl hcell hu
  have HF := Lib.hid hfill; have HB0 := Lib.hid (And.intro hb0 (And.intro hpl hrow)); have HSL := Lib.hid (And.intro hsl (And.intro hcell (And.intro h6 hu))); have HVS := Lib.hid hvals
  clear hfill hW hb0 hpl hrow hsl hcell hl0 HV hvals h6 hu
  go_cut [9, 10] (fun g t wx => ∃ gb F I a' m c L, L.length ≤ 60 ∧ GoodL W L ∧ VarsLt 6 L ∧ g = .pointer (some ⟨gb, 0, none⟩) ∧ t = .slice a' m c ∧ Lab wb wx [Thing.graph F I gb W 1048576 L])
  case first =>
    by_cases h100 : (60 : Int) < (n : Int)
    · have HF1 := Lib.hid (HF.out 60 (by omega))
      go_wp2_with fail
      go_at_call 23
      refine HF1.out.mono ?_
      rintro e w1 ⟨gb, F, I, a', m, c, L, -, hL, hG, hV, rfl, hlab⟩
      go_wp2
      go_meet
      exact ⟨gb, F, I, a', m, c, L, hL, hG, hV, rfl, rfl, hlab⟩
    · have HF1 := Lib.hid (HF.out n (by omega))
      go_wp2_with fail
      go_at_call 23
      refine HF1.out.mono ?_
      rintro e w1 ⟨gb, F, I, a', m, c, L, -, hL, hG, hV, rfl, hlab⟩
      go_wp2
      go_meet
      exact ⟨gb, F, I, a', m, c, L, by omega, hG, hV, rfl, rfl, hlab⟩
  case rest =>
    obtain ⟨gb, F, I, a', m, c, L, hL, hG, hV, rfl, rfl, hlab⟩ := hcut
    have HAW := Lib.hid hlab.awake13
    have HLEN := Lib.hid (len_any hlab.gr)
    have hwf := hlab.gr.wf
    have HL0 := Lib.hid hlab; have HG := Lib.hid (And.intro hG hV); have HWF := Lib.hid hwf
    clear hlab hG hV hwf HF
    by_cases hL0 : L.length = 0
    · have q0 : ((L.length : Int) == 0) = true := by rw [beq_iff_eq]; omega
      go_wp2_with (first | (go_at_call 24; refine HLEN.out.mono ?_; rintro e w2 ⟨rfl, rfl⟩) | (go_at_call 41; refine HAW.out.mono ?_; rintro e w2 ⟨rfl, hb⟩))
      go_ret
      exact ⟨rfl, HB0.out.1.trans (hb.mono HB0.out.1.size)⟩
    · have q0 : ((L.length : Int) == 0) = false := by rw [beq_eq_false_iff_ne]; omega
      have hmod := fun wx => mod_any ti (L.length : Int) (by omega) (by omega) wx
      have ht0 := Int.emod_nonneg ti (show (L.length : Int) ≠ 0 by omega)
      have ht1 := Int.emod_lt_of_pos ti (show (0 : Int) < (L.length : Int) by omega)
      obtain ⟨t, ht⟩ := Int.eq_ofNat_of_zero_le ht0
      rw [ht] at ht1 hmod
      have htl : t < L.length := by omega
      have HMOD := Lib.hid hmod
      clear ht ht0 ht1 hmod HAW
      go_upto_region 7 with (first | (go_at_call 24; refine HLEN.out.mono ?_; rintro e w2 ⟨rfl, rfl⟩) | (go_at_call 18; refine (HMOD.out _).mono ?_; rintro e w2 ⟨rfl, rfl⟩))
      clear HMOD HLEN
      go_wp2
      rename_i K15 h15
      have H15 := Lib.hid h15
      clear h15
      go_loopw [13, 11, 12] (fun i v1 v2 wx => ∃ k : Nat, k ≤ 6 ∧ i = .int .i64 k ∧ ∃ a1 a2 c1 c2 us F I M, v1 = .slice a1 k c1 ∧ v2 = .slice a2 k c2 ∧ NumInv W k vals M us ∧ L <+: M ∧ M.length ≤ L.length + k ∧ Lab wb wx [Thing.ints (.slice a1 k c1) (natsI k), Thing.ints (.slice a2 k c2) us, Thing.graph F I gb W 1048576 M]) (fun i _ _ _ => 6 - (intOf i).toNat)
      case atStart => exact ⟨0, by omega, rfl, none, none, 0, 0, [], F, I, L, rfl, rfl, NumInv.start HG.out.1 HG.out.2, List.prefix_refl _, by omega, HL0.out.nil_ints.nil_ints⟩
      case round =>
        clear HL0 HG HWF
        obtain ⟨k, hk, rfl, a1, a2, c1, c2, us, F, I, M, rfl, rfl, hni, hpre, hlen, hl⟩ := hrel
        by_cases hlt : k < 6
        · have hlt' : (k : Int) < 6 := by omega
          have ck := cell_later hl.below (HSL.out.2.1 k hlt)
          obtain ⟨q, hq0⟩ := Int.eq_ofNat_of_zero_le (show 0 ≤ vals.getD k 0 from (HSL.out.2.2.2 _ (by rw [List.getD_eq_getElem?_getD, List.getElem?_eq_getElem (by have := HSL.out.2.2.1; omega)]; exact List.getElem_mem _)).1)
          obtain ⟨M2, u, hc, hni2, hpre2, hlen2, hu2⟩ := hni.step (room := 1048576) (q := q) (by omega) (by rw [hq0]; rfl)
          rw [hq0] at ck
          have hcall := const_any hl.rot3.gr q (by have := (HSL.out.2.2.2 (q : Int) (by rw [← hq0, List.getD_eq_getElem?_getD, List.getElem?_eq_getElem (by have := HSL.out.2.2.1; omega)]; exact List.getElem_mem _)).2; omega)
          have HC := Lib.hid hcall; have HN := Lib.hid (And.intro hc (And.intro hni2 (And.intro hpre2 (And.intro hlen2 (And.intro hpre hni.len))))); have HL := Lib.hid hl
          clear hni hc hni2 hpre2 hlen2 hu2 hcall hq0 hl hpre
          go_wp2_with fail
          go_at_call 40
          refine HC.out.mono ?_
          intro e w4 hp4
          obtain ⟨F4, I4, rfl, hl4⟩ := HL.out.rot3.gpost hp4
          rw [HN.out.1] at hl4 ⊢
          have HL4 := Lib.hid hl4.rot3'
          clear hl4 hp4 HC HL
          have hl5 := HL4.out.alloc #[.int .i64 (k : Int)] 3
          have hwr : IntKind.i64.wrap ((k : Int) + 1) = (k : Int) + 1 := by simp [IntKind.wrap, IntKind.bits, IntKind.signed]; omega
          have HL5 := Lib.hid hl5
          clear hl5
          go_wp2_with (first
            | (at_builtin; refine wpList_append_part (.tmp 67) (.tmp 69) HL5.out.drop (box_slice HL5.out.box1 1) rfl rfl rfl rfl (by omega) (r := k + 1) (by omega) ?_; intro a5 c5 w5 hl6; have HL6 := Lib.hid (hl6.swap.alloc #[.int .i64 (u : Int)] 3))
            | (at_builtin; refine wpList_append_part (.tmp 71) (.tmp 73) HL6.out.drop (box_slice HL6.out.box1 1) rfl rfl rfl rfl (by omega) (r := k + 1) (by omega) ?_; intro a6 c6 w6 hl7))
          have HL7 := Lib.hid hl7
          clear hl7 hl6 HL6 HL5 HL4
          go_roundw
          case rel =>
            obtain ⟨-, hni2, hpre2, hlen2, hpre, hul⟩ := HN.out
            refine ⟨k + 1, by omega, by go_num, a5, a6, c5, c6, us ++ [(u : Int)], F4, I4, M2, rfl, rfl, hni2, hpre.trans hpre2, by omega, ?_⟩
            rw [natsI_succ]
            exact HL7.out.swap
          case measure => simp [intOf]; omega
        · obtain rfl : k = 6 := by omega
          have hlt' : ¬ ((6 : Nat) : Int) < 6 := by omega
          go_wp2
          refine H15.out _ _ ?_
          have hvs := HVS.out
          subst hvs
          exact numbers_rest15 HB0.out.1 HB0.out.2.1 HB0.out.2.2 HSL.out.1 HSL.out.2.2.2 hW1 hW2 hl hni (by omega) (by have := hpre.length_le; omega)
end Go.Proofs.Ytcpgiadhmmmafaa
