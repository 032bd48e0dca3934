/- The reference's simple terms: Number, one, three. The reference's rules of operators with two arguments, operator by operator. Printed by genrtwo.py. -/
import Derived.Test.YtcpgiadhmmmafaaRGraphC
import Derived.Test.YtcpgiadhmmmafaaPlainS
import Derived.Test.YtcpgiadhmmmafaaEvalT
namespace Go.Proofs.Ytcpgiadhmmmafaa
open Go.RowKit Go.Maps
set_option maxHeartbeats 1600000

section
variable {w : World} {base : Nat} {F I : List Nat} {rb W room : Nat} {L : List PNode}
theorem rnumber_any (h : RGr w base F I rb W room L) (t : Int) :
    Calls Try.prog 32 #[.pointer (some ⟨rb, 0, none⟩), .int .i64 t] w fun e w' => e = .returned (.tuple #[.int .u64 (numD L t), .bool (isNum L t)]) ∧ w = w' := by
  have his := rIs_any h t
  by_cases hin : (0 : Int) ≤ t ∧ t < (L.length : Int)
  · obtain ⟨i, rfl⟩ := Int.eq_ofNat_of_zero_le hin.1
    obtain ⟨n, hi⟩ : ∃ n, L[i]? = some n := ⟨_, List.getElem?_eq_getElem (by omega)⟩
    obtain ⟨g, cap, va, c2, k0, k1, k2, -⟩ := h.node hi
    have hll := h.r2
    have hlr := h.len
    rw [show isT L (i : Int) = true from decide_eq_true hin] at his
    have HIS := Lib.hid his
    have hil : (i : Int) < (L.length : Int) := hin.2
    have hnum : numOf L (i : Int) = if n.1 = 0 then some n.2.1 else none := by
      unfold numOf
      rw [if_pos (by omega), Int.toNat_natCast, hi]
    by_cases h0 : n.1 = 0
    · rw [if_pos h0] at hnum
      have e1 : numD L (i : Int) = n.2.1 := by unfold numD; rw [hnum]; rfl
      have e2 : isNum L (i : Int) = true := by unfold isNum; rw [hnum]; rfl
      rw [e1, e2]
      have q0 : (((n.1 : Nat) : Int) != 0) = false := by rw [h0]; rfl
      clear his h hnum e1 e2 h0 hi hin
      go_enter Try.func32, Try.ntmps32
      go_wp2_with (go_at_call 59; refine HIS.out.mono ?_; rintro e w2 ⟨rfl, rfl⟩)
      go_ret2
      exact ⟨rfl, rfl⟩
    · rw [if_neg h0] at hnum
      have e1 : numD L (i : Int) = 0 := by unfold numD; rw [hnum]; rfl
      have e2 : isNum L (i : Int) = false := by unfold isNum; rw [hnum]; rfl
      rw [e1, e2]
      have q0 : (((n.1 : Nat) : Int) != 0) = true := by rw [bne_iff_ne]; omega
      clear his h hnum e1 e2 h0 hi hin
      go_enter Try.func32, Try.ntmps32
      go_wp2_with (go_at_call 59; refine HIS.out.mono ?_; rintro e w2 ⟨rfl, rfl⟩)
      go_ret2
      exact ⟨rfl, rfl⟩
  · rw [show isT L t = false from decide_eq_false hin] at his
    have HIS := Lib.hid his
    have hnum : numOf L t = none := by
      unfold numOf
      by_cases h0 : 0 ≤ t
      · rw [if_pos h0, List.getElem?_eq_none (by omega)]
      · rw [if_neg h0]
    have e1 : numD L t = 0 := by unfold numD; rw [hnum]; rfl
    have e2 : isNum L t = false := by unfold isNum; rw [hnum]; rfl
    rw [e1, e2]
    clear his h hnum e1 e2 hin
    go_enter Try.func32, Try.ntmps32
    go_wp2_with (go_at_call 59; refine HIS.out.mono ?_; rintro e w2 ⟨rfl, rfl⟩)
    go_ret2
    exact ⟨rfl, rfl⟩
theorem rone_any (h : RGr w base F I rb W room L) (o x : Nat) (ho : o = 2 ∨ o = 3) (hx : x < L.length) :
    Calls Try.prog 72 #[.pointer (some ⟨rb, 0, none⟩), .int .u8 o, .int .i64 x] w (RPost w base F I rb W room ((oneA L o x).res W room L)) := by
  obtain ⟨n, hi⟩ : ∃ n, L[x]? = some n := ⟨_, List.getElem?_eq_getElem hx⟩
  obtain ⟨g, cap, va, c2, k0, k1, k2, hva⟩ := h.node hi
  obtain ⟨a, m, c, rfl, hm, -⟩ := hva.slice.parts
  have hll := h.r2
  have hlr := h.len
  have hargs := h.wf.args x n hi
  have hok := h.wf.ok n (List.mem_of_getElem? hi)
  obtain ⟨p, hp⟩ : ∃ p, w.heap.size = p := ⟨_, rfl⟩
  have hb1 := below_new w (.cells #[.int .u8 n.1, .int .u64 n.2.1, .slice a m c] 106)
  have hk1 : (w.alloc (.cells #[.int .u8 n.1, .int .u64 n.2.1, .slice a m c] 106)).heap[p]? = some (.cells #[.int .u8 n.1, .int .u64 n.2.1, .slice a m c] 106 (0, 0)) := by rw [← hp]; exact heap_alloc_new w _
  obtain ⟨R, hR⟩ : ∃ R, (oneA L o (x : Int)).res W room L = R := ⟨_, rfl⟩
  rw [hR]
  have HB := Lib.hid hb1; have HK := Lib.hid hk1; have HR := Lib.hid hR; have HG := Lib.hid h; have HI := Lib.hid hi; have HVA := Lib.hid hva; have HO := Lib.hid ho; have HARGS := Lib.hid hargs; have HOK := Lib.hid hok; have HM := Lib.hid hm
  clear hb1 hk1 h hR hi hva ho hargs hok hm
  go_enter Try.func72, Try.ntmps72
  go_upto_region 2 with fail
  clear hp c2 k0 k1 k2
  refine wp_abs (fun w1 => Below w.heap.size w w1 ∧ w1.heap[p]? = some (.cells #[.int .u8 n.1, .int .u64 n.2.1, .slice a m c] 106 (0, 0))) ⟨HB.out, HK.out⟩ ?_
  rintro w1 ⟨hb1, hx1⟩
  obtain ⟨d0, d1, d2⟩ := cells3 hx1
  have HB1 := Lib.hid hb1
  clear hb1 hx1 HB HK
  by_cases hno : n.1 = o
  · have q0 : (((n.1 : Nat) : Int) == (o : Int)) = true := by rw [beq_iff_eq]; omega
    have hl1 : n.2.2.length = 1 := by
      have := HOK.out.2.2
      rw [this, hno]
      rcases HO.out with h | h <;> rw [h] <;> rfl
    have hm1 : m = 1 := by have := HM.out; omega
    subst hm1
    obtain ⟨b, off, u, rfl, hc, hu⟩ := SliceOf.parts' (HVA.out.slice.below HB1.out) (i := 0) (by decide)
    rw [Nat.add_zero] at hc
    have hu0 := HARGS.out u (List.mem_of_getElem? hu)
    obtain ⟨z, rfl⟩ := Int.eq_ofNat_of_zero_le hu0.1
    have hRR : R = (L, z, 0) := by
      rw [← HR.out]
      unfold oneA
      rw [Int.toNat_natCast, HI.out]
      dsimp only
      rw [if_pos hno, List.getD_eq_getElem?_getD, hu]
      rfl
    subst hRR
    clear hu hu0 hl1 hno
    go_wp2
    go_ret2
    exact RPost.same HG.out HB1.out z 0
  · have q0 : (((n.1 : Nat) : Int) == (o : Int)) = false := by rw [beq_eq_false_iff_ne]; omega
    have hRR : R = appR room L o [(x : Int)] := by
      rw [← HR.out]
      unfold oneA
      rw [Int.toNat_natCast, HI.out]
      dsimp only
      rw [if_neg hno]
      rfl
    subst hRR
    have hb2 := HB1.out.trans ((below_new w1 (.cells (([(x : Int)].map (Value.int .i64)).toArray) 3)).mono HB1.out.size)
    have HC := Lib.hid (rapp_any (HG.out.later hb2) o (by rcases HO.out with h | h <;> omega) [(x : Int)] _ (sliceOf_new w1 .i64 3 [(x : Int)] 1))
    have HB2 := Lib.hid hb2
    clear hb2 hno
    go_wp2_with fail
    go_at_call 66
    refine HC.out.mono ?_
    intro e w4 hp
    obtain ⟨F', I', rfl, hrest⟩ := hp.later HB2.out
    have HQ := Lib.hid hrest
    clear hp hrest
    go_wp2
    go_ret2
    exact ⟨F', I', rfl, HQ.out⟩
theorem rthree_any (h : RGr w base F I rb W room L) (x y z : Nat) :
    Calls Try.prog 74 #[.pointer (some ⟨rb, 0, none⟩), .int .i64 x, .int .i64 y, .int .i64 z] w (RPost w base F I rb W room ((threeA L x y z).res W room L)) := by
  obtain ⟨R, hR⟩ : ∃ R, (threeA L (x : Int) y z).res W room L = R := ⟨_, rfl⟩
  rw [hR]
  have hnum := rnumber_any h (x : Int)
  unfold threeA at hR
  by_cases hyz : y = z
  · subst hyz
    rw [if_pos rfl] at hR
    subst hR
    have HG := Lib.hid h
    clear h hnum
    go_enter Try.func74, Try.ntmps74
    go_wp2
    go_ret2
    exact RPost.same HG.out (Below.refl _ _) y 0
  · rw [if_neg (by omega)] at hR
    have q0 : ((y : Int) == (z : Int)) = false := by rw [beq_eq_false_iff_ne]; omega
    clear hyz
    cases hn : isNum L (x : Int) with
    | true =>
      rw [hn, if_pos rfl] at hR
      rw [hn] at hnum
      obtain ⟨c, hc⟩ : ∃ c, numD L (x : Int) = c := ⟨_, rfl⟩
      rw [hc] at hR hnum
      have HN := Lib.hid hnum; have HG := Lib.hid h
      clear hnum h hc hn
      by_cases h0 : c = 0
      · subst h0
        have q1 : (((0 : Nat) : Int) != 0) = false := by simp
        rw [if_neg (by simp)] at hR
        subst hR
        go_enter Try.func74, Try.ntmps74
        go_wp2_with (go_at_call 32; refine HN.out.mono ?_; rintro e w2 ⟨rfl, rfl⟩)
        go_ret2
        exact RPost.same HG.out (Below.refl _ _) z 0
      · have q1 : ((c : Int) != 0) = true := by rw [bne_iff_ne]; omega
        rw [if_pos h0] at hR
        subst hR
        clear h0
        go_enter Try.func74, Try.ntmps74
        go_wp2_with (go_at_call 32; refine HN.out.mono ?_; rintro e w2 ⟨rfl, rfl⟩)
        go_ret2
        exact RPost.same HG.out (Below.refl _ _) y 0
    | false =>
      rw [hn, if_neg (by simp)] at hR
      rw [hn] at hnum
      subst hR
      have hb2 := below_new w (.cells (([(x : Int), y, z].map (Value.int .i64)).toArray) 3)
      have HC := Lib.hid (rapp_any (h.later hb2) 21 (by decide) [(x : Int), y, z] _ (sliceOf_new w .i64 3 [(x : Int), y, z] 3))
      have HB2 := Lib.hid hb2; have HN := Lib.hid hnum
      clear hb2 hnum h hn
      go_enter Try.func74, Try.ntmps74
      go_wp2_with (go_at_call 32; refine HN.out.mono ?_; rintro e w2 ⟨rfl, rfl⟩)
      go_at_call 66
      refine HC.out.mono ?_
      intro e w4 hp
      obtain ⟨F', I', rfl, hrest⟩ := hp.later HB2.out
      have HQ := Lib.hid hrest
      clear hp hrest
      go_wp2
      go_ret2
      exact ⟨F', I', rfl, HQ.out⟩
end
end Go.Proofs.Ytcpgiadhmmmafaa
namespace Go.Proofs.Ytcpgiadhmmmafaa
open Go.RowKit Go.Maps
set_option maxHeartbeats 1600000

/-- What follows from a region on, in a row of statements. -/
def headR : Code → Option Nat
  | .region i _ _ => some i
  | .seq a _ => headR a
  | _ => none
def tailR (id : Nat) : Code → Option Code
  | .seq a b => if headR a = some id then some (.seq a b) else tailR id b
  | _ => none
/-- The rules of operators with two arguments, by what is so of these. -/
def twoB (_W : Nat) (L : List PNode) (M o : Nat) (x y : Int) (zero one all left equal big : Bool) : Ans :=
  if o = 4 then (if zero then .term x else .app o [x, y]) else
  if o = 5 then (if zero then .term x else if equal then .num 0 else .app o [x, y]) else
  if o = 6 then (if zero then .num 0 else if one then .term x else .app o [x, y]) else
  if o = 7 then (if one then .term x else .app o [x, y]) else
  if o = 8 then (if one then .num 0 else .app o [x, y]) else
  if o = 9 then (if zero then .num 0 else if all then .term x else if equal then .term x else .app o [x, y]) else
  if o = 10 then (if zero then .term x else if all then .num M else if equal then .term x else .app o [x, y]) else
  if o = 11 then (if zero then .term x else if all then oneA L 2 x else if equal then .num 0 else .app o [x, y]) else
  if o = 12 then (if zero then .term x else if big then .num 0 else .app o [x, y]) else
  if o = 13 then (if zero then .term x else if big then .num 0 else .app o [x, y]) else
  if o = 14 then (if zero then .term x else .app o [x, y]) else
  if o = 15 then (if equal then .num 1 else .app o [x, y]) else
  if o = 16 then (if equal then .num 0 else .app o [x, y]) else
  if o = 17 then (if equal then .num 0 else if zero then .num 0 else .app o [x, y]) else
  if o = 18 then (if equal then .num 1 else if left then .num 1 else .app o [x, y]) else
  if o = 19 then (if equal then .num 0 else .app o [x, y]) else
  if o = 20 then (if equal then .num 1 else .app o [x, y]) else
  .app o [x, y]
theorem twoA_twoB (W : Nat) (L : List PNode) (o : Nat) (x y : Int) : twoA W L o x y = twoB W L (2 ^ W - 1) o x y (decide (numOf L y = some 0)) (decide (numOf L y = some 1)) (decide (numOf L y = some (2 ^ W - 1))) (decide (numOf L x = some 0)) (decide (x = y)) (decide (isNum L y = true ∧ W ≤ numD L y)) := by
  by_cases ho : 4 ≤ o ∧ o ≤ 20
  · have hc : o = 4 ∨ o = 5 ∨ o = 6 ∨ o = 7 ∨ o = 8 ∨ o = 9 ∨ o = 10 ∨ o = 11 ∨ o = 12 ∨ o = 13 ∨ o = 14 ∨ o = 15 ∨ o = 16 ∨ o = 17 ∨ o = 18 ∨ o = 19 ∨ o = 20 := by omega
    unfold twoA twoB
    rcases hc with rfl | rfl | rfl | rfl | rfl | rfl | rfl | rfl | rfl | rfl | rfl | rfl | rfl | rfl | rfl | rfl | rfl <;> simp only [decide_eq_true_eq] <;> rfl
  · unfold twoA twoB
    repeat (rw [if_neg (by omega)])
noncomputable def twoRest7 : Code := (Try.f73.body.bind (tailR 7)).getD .skip
section
variable {w : World} {base : Nat} {F I : List Nat} {rb W room : Nat} {L : List PNode}
set_option maxRecDepth 100000 in
theorem rtwo_tail4 {u4 u5 u6 u7 u8 u9 u10 u11 u20 u21 u22 u23 u24 u25 u26 u27 u28 u29 u30 u31 u32 u33 u34 u35 u36 u37 u38 u39 u40 u41 u42 u43 u44 u45 u46 u47 u48 u49 u50 u51 u52 u53 u54 u55 u56 u57 u58 u59 u60 u61 u62 u63 u64 u65 u66 u67 u68 u69 u70 u71 u72 u73 u74 u75 u76 u77 u78 u79 u80 u81 u82 u83 u84 u85 u86 u87 u88 u89 u90 u91 u92 u93 u94 u95 u96 u97 u98 u99 u100 u101 u102 u103 u104 u105 u106 u107 u108 u109 u110 u111 u112 u113 u114 u115 u116 u117 u118 u119 u120 u121 u122 u123 u124 u125 u126 u127 u128 u129 u130 u131 u132 u133 u134 u135 u136 u137 u138 u139 u140 u141 u142 u143 u144 u145 u146 u147 u148 u149 u150 u151 u152 u153 u154 u155 u156 u157 u158 u159 u160 u161 u162 u163 u164 u165 u166 u167 u168 u169 u170 u171 u172 u173 u174 u175 u176 u177 u178 u179 u180 u181 u182 u183 u184 u185 u186 u187 u188 u189 u190 u191 u192 u193 u194 u195 u196 u197 u198 : Value} {zero one all left equal big right : Bool} {x y b M : Nat} (h : RGr w base F I rb W room L) (hM : M < 18446744073709551616) (_hbig : big = (right && decide (W ≤ b))) :
    Code.wp Try.prog twoRest7 (bodyPost Try.prog Try.f73 (RPost w base F I rb W room ((twoB W L M 4 x y zero one all left equal big).res W room L))) ⟨(List.toArray (.pointer (some ⟨rb, 0, none⟩) :: .int .u8 4 :: .int .i64 x :: .int .i64 y :: u4 :: u5 :: u6 :: u7 :: u8 :: u9 :: u10 :: u11 :: .int .u64 b :: .bool right :: .int .u64 M :: .bool zero :: .bool one :: .bool all :: .bool left :: .bool equal :: u20 :: u21 :: u22 :: u23 :: u24 :: u25 :: u26 :: u27 :: u28 :: u29 :: u30 :: u31 :: u32 :: u33 :: u34 :: u35 :: u36 :: u37 :: u38 :: u39 :: u40 :: u41 :: u42 :: u43 :: u44 :: u45 :: u46 :: u47 :: u48 :: u49 :: u50 :: u51 :: u52 :: u53 :: u54 :: u55 :: u56 :: u57 :: u58 :: u59 :: u60 :: u61 :: u62 :: u63 :: u64 :: u65 :: u66 :: u67 :: u68 :: u69 :: u70 :: u71 :: u72 :: u73 :: u74 :: u75 :: u76 :: u77 :: u78 :: u79 :: u80 :: u81 :: u82 :: u83 :: u84 :: u85 :: u86 :: u87 :: u88 :: u89 :: u90 :: u91 :: u92 :: u93 :: u94 :: u95 :: u96 :: u97 :: u98 :: u99 :: u100 :: u101 :: u102 :: u103 :: u104 :: u105 :: u106 :: u107 :: u108 :: u109 :: u110 :: u111 :: u112 :: u113 :: u114 :: u115 :: u116 :: u117 :: u118 :: u119 :: u120 :: u121 :: u122 :: u123 :: u124 :: u125 :: u126 :: u127 :: u128 :: u129 :: u130 :: u131 :: u132 :: u133 :: u134 :: u135 :: u136 :: u137 :: u138 :: u139 :: u140 :: u141 :: u142 :: u143 :: u144 :: u145 :: u146 :: u147 :: u148 :: u149 :: u150 :: u151 :: u152 :: u153 :: u154 :: u155 :: u156 :: u157 :: u158 :: u159 :: u160 :: u161 :: u162 :: u163 :: u164 :: u165 :: u166 :: u167 :: u168 :: u169 :: u170 :: u171 :: u172 :: u173 :: u174 :: u175 :: u176 :: u177 :: u178 :: u179 :: u180 :: u181 :: u182 :: u183 :: u184 :: u185 :: u186 :: u187 :: u188 :: u189 :: u190 :: u191 :: u192 :: u193 :: u194 :: u195 :: u196 :: u197 :: u198 :: [])), []⟩ w := by
  obtain ⟨a, cap, c0, -, -, hl⟩ := h.parts
  have hw2 := h.w2
  have HG := Lib.hid h; have HM := Lib.hid hM
  clear h hM
  conv => arg 2; whnf
  clear _hbig c0 hl
  cases zero with
  | true =>
    rw [show twoB W L M 4 (x : Int) y true one all left equal big = .term x from rfl]
    go_wp2
    go_ret2
    exact RPost.same HG.out (Below.refl _ _) x 0
  | false =>
    rw [show twoB W L M 4 (x : Int) y false one all left equal big = .app 4 [x, y] from rfl]
    go_wp2_with fail
    go_at_call 66
    refine (rapp_any (HG.out.later (below_new w (.cells (([(x : Int), y].map (Value.int .i64)).toArray) 3))) 4 (by decide) [(x : Int), y] _ (sliceOf_new w .i64 3 [(x : Int), y] 2)).mono ?_
    intro e w4 hp
    obtain ⟨F', I', rfl, hrest⟩ := hp.later (below_new w _)
    have HQ := Lib.hid hrest
    clear hp hrest
    go_wp2
    go_ret2
    exact ⟨F', I', rfl, HQ.out⟩
set_option maxRecDepth 100000 in
theorem rtwo_tail5 {u4 u5 u6 u7 u8 u9 u10 u11 u20 u21 u22 u23 u24 u25 u26 u27 u28 u29 u30 u31 u32 u33 u34 u35 u36 u37 u38 u39 u40 u41 u42 u43 u44 u45 u46 u47 u48 u49 u50 u51 u52 u53 u54 u55 u56 u57 u58 u59 u60 u61 u62 u63 u64 u65 u66 u67 u68 u69 u70 u71 u72 u73 u74 u75 u76 u77 u78 u79 u80 u81 u82 u83 u84 u85 u86 u87 u88 u89 u90 u91 u92 u93 u94 u95 u96 u97 u98 u99 u100 u101 u102 u103 u104 u105 u106 u107 u108 u109 u110 u111 u112 u113 u114 u115 u116 u117 u118 u119 u120 u121 u122 u123 u124 u125 u126 u127 u128 u129 u130 u131 u132 u133 u134 u135 u136 u137 u138 u139 u140 u141 u142 u143 u144 u145 u146 u147 u148 u149 u150 u151 u152 u153 u154 u155 u156 u157 u158 u159 u160 u161 u162 u163 u164 u165 u166 u167 u168 u169 u170 u171 u172 u173 u174 u175 u176 u177 u178 u179 u180 u181 u182 u183 u184 u185 u186 u187 u188 u189 u190 u191 u192 u193 u194 u195 u196 u197 u198 : Value} {zero one all left equal big right : Bool} {x y b M : Nat} (h : RGr w base F I rb W room L) (hM : M < 18446744073709551616) (_hbig : big = (right && decide (W ≤ b))) :
    Code.wp Try.prog twoRest7 (bodyPost Try.prog Try.f73 (RPost w base F I rb W room ((twoB W L M 5 x y zero one all left equal big).res W room L))) ⟨(List.toArray (.pointer (some ⟨rb, 0, none⟩) :: .int .u8 5 :: .int .i64 x :: .int .i64 y :: u4 :: u5 :: u6 :: u7 :: u8 :: u9 :: u10 :: u11 :: .int .u64 b :: .bool right :: .int .u64 M :: .bool zero :: .bool one :: .bool all :: .bool left :: .bool equal :: u20 :: u21 :: u22 :: u23 :: u24 :: u25 :: u26 :: u27 :: u28 :: u29 :: u30 :: u31 :: u32 :: u33 :: u34 :: u35 :: u36 :: u37 :: u38 :: u39 :: u40 :: u41 :: u42 :: u43 :: u44 :: u45 :: u46 :: u47 :: u48 :: u49 :: u50 :: u51 :: u52 :: u53 :: u54 :: u55 :: u56 :: u57 :: u58 :: u59 :: u60 :: u61 :: u62 :: u63 :: u64 :: u65 :: u66 :: u67 :: u68 :: u69 :: u70 :: u71 :: u72 :: u73 :: u74 :: u75 :: u76 :: u77 :: u78 :: u79 :: u80 :: u81 :: u82 :: u83 :: u84 :: u85 :: u86 :: u87 :: u88 :: u89 :: u90 :: u91 :: u92 :: u93 :: u94 :: u95 :: u96 :: u97 :: u98 :: u99 :: u100 :: u101 :: u102 :: u103 :: u104 :: u105 :: u106 :: u107 :: u108 :: u109 :: u110 :: u111 :: u112 :: u113 :: u114 :: u115 :: u116 :: u117 :: u118 :: u119 :: u120 :: u121 :: u122 :: u123 :: u124 :: u125 :: u126 :: u127 :: u128 :: u129 :: u130 :: u131 :: u132 :: u133 :: u134 :: u135 :: u136 :: u137 :: u138 :: u139 :: u140 :: u141 :: u142 :: u143 :: u144 :: u145 :: u146 :: u147 :: u148 :: u149 :: u150 :: u151 :: u152 :: u153 :: u154 :: u155 :: u156 :: u157 :: u158 :: u159 :: u160 :: u161 :: u162 :: u163 :: u164 :: u165 :: u166 :: u167 :: u168 :: u169 :: u170 :: u171 :: u172 :: u173 :: u174 :: u175 :: u176 :: u177 :: u178 :: u179 :: u180 :: u181 :: u182 :: u183 :: u184 :: u185 :: u186 :: u187 :: u188 :: u189 :: u190 :: u191 :: u192 :: u193 :: u194 :: u195 :: u196 :: u197 :: u198 :: [])), []⟩ w := by
  obtain ⟨a, cap, c0, -, -, hl⟩ := h.parts
  have hw2 := h.w2
  have HG := Lib.hid h; have HM := Lib.hid hM
  clear h hM
  conv => arg 2; whnf
  clear _hbig c0 hl
  cases zero with
  | true =>
    rw [show twoB W L M 5 (x : Int) y true one all left equal big = .term x from rfl]
    go_wp2
    go_ret2
    exact RPost.same HG.out (Below.refl _ _) x 0
  | false =>
    cases equal with
    | true =>
      rw [show twoB W L M 5 (x : Int) y false one all left true big = .num 0 from rfl]
      go_wp2_with fail
      go_at_call 64
      refine (rconst_any HG.out 0 (by decide)).mono ?_
      intro e w4 hp
      obtain ⟨F', I', rfl, hrest⟩ := hp
      have HQ := Lib.hid hrest
      clear hrest
      go_wp2
      go_ret2
      exact ⟨F', I', rfl, HQ.out⟩
    | false =>
      rw [show twoB W L M 5 (x : Int) y false one all left false big = .app 5 [x, y] from rfl]
      go_wp2_with fail
      go_at_call 66
      refine (rapp_any (HG.out.later (below_new w (.cells (([(x : Int), y].map (Value.int .i64)).toArray) 3))) 5 (by decide) [(x : Int), y] _ (sliceOf_new w .i64 3 [(x : Int), y] 2)).mono ?_
      intro e w4 hp
      obtain ⟨F', I', rfl, hrest⟩ := hp.later (below_new w _)
      have HQ := Lib.hid hrest
      clear hp hrest
      go_wp2
      go_ret2
      exact ⟨F', I', rfl, HQ.out⟩
set_option maxRecDepth 100000 in
theorem rtwo_tail6 {u4 u5 u6 u7 u8 u9 u10 u11 u20 u21 u22 u23 u24 u25 u26 u27 u28 u29 u30 u31 u32 u33 u34 u35 u36 u37 u38 u39 u40 u41 u42 u43 u44 u45 u46 u47 u48 u49 u50 u51 u52 u53 u54 u55 u56 u57 u58 u59 u60 u61 u62 u63 u64 u65 u66 u67 u68 u69 u70 u71 u72 u73 u74 u75 u76 u77 u78 u79 u80 u81 u82 u83 u84 u85 u86 u87 u88 u89 u90 u91 u92 u93 u94 u95 u96 u97 u98 u99 u100 u101 u102 u103 u104 u105 u106 u107 u108 u109 u110 u111 u112 u113 u114 u115 u116 u117 u118 u119 u120 u121 u122 u123 u124 u125 u126 u127 u128 u129 u130 u131 u132 u133 u134 u135 u136 u137 u138 u139 u140 u141 u142 u143 u144 u145 u146 u147 u148 u149 u150 u151 u152 u153 u154 u155 u156 u157 u158 u159 u160 u161 u162 u163 u164 u165 u166 u167 u168 u169 u170 u171 u172 u173 u174 u175 u176 u177 u178 u179 u180 u181 u182 u183 u184 u185 u186 u187 u188 u189 u190 u191 u192 u193 u194 u195 u196 u197 u198 : Value} {zero one all left equal big right : Bool} {x y b M : Nat} (h : RGr w base F I rb W room L) (hM : M < 18446744073709551616) (_hbig : big = (right && decide (W ≤ b))) :
    Code.wp Try.prog twoRest7 (bodyPost Try.prog Try.f73 (RPost w base F I rb W room ((twoB W L M 6 x y zero one all left equal big).res W room L))) ⟨(List.toArray (.pointer (some ⟨rb, 0, none⟩) :: .int .u8 6 :: .int .i64 x :: .int .i64 y :: u4 :: u5 :: u6 :: u7 :: u8 :: u9 :: u10 :: u11 :: .int .u64 b :: .bool right :: .int .u64 M :: .bool zero :: .bool one :: .bool all :: .bool left :: .bool equal :: u20 :: u21 :: u22 :: u23 :: u24 :: u25 :: u26 :: u27 :: u28 :: u29 :: u30 :: u31 :: u32 :: u33 :: u34 :: u35 :: u36 :: u37 :: u38 :: u39 :: u40 :: u41 :: u42 :: u43 :: u44 :: u45 :: u46 :: u47 :: u48 :: u49 :: u50 :: u51 :: u52 :: u53 :: u54 :: u55 :: u56 :: u57 :: u58 :: u59 :: u60 :: u61 :: u62 :: u63 :: u64 :: u65 :: u66 :: u67 :: u68 :: u69 :: u70 :: u71 :: u72 :: u73 :: u74 :: u75 :: u76 :: u77 :: u78 :: u79 :: u80 :: u81 :: u82 :: u83 :: u84 :: u85 :: u86 :: u87 :: u88 :: u89 :: u90 :: u91 :: u92 :: u93 :: u94 :: u95 :: u96 :: u97 :: u98 :: u99 :: u100 :: u101 :: u102 :: u103 :: u104 :: u105 :: u106 :: u107 :: u108 :: u109 :: u110 :: u111 :: u112 :: u113 :: u114 :: u115 :: u116 :: u117 :: u118 :: u119 :: u120 :: u121 :: u122 :: u123 :: u124 :: u125 :: u126 :: u127 :: u128 :: u129 :: u130 :: u131 :: u132 :: u133 :: u134 :: u135 :: u136 :: u137 :: u138 :: u139 :: u140 :: u141 :: u142 :: u143 :: u144 :: u145 :: u146 :: u147 :: u148 :: u149 :: u150 :: u151 :: u152 :: u153 :: u154 :: u155 :: u156 :: u157 :: u158 :: u159 :: u160 :: u161 :: u162 :: u163 :: u164 :: u165 :: u166 :: u167 :: u168 :: u169 :: u170 :: u171 :: u172 :: u173 :: u174 :: u175 :: u176 :: u177 :: u178 :: u179 :: u180 :: u181 :: u182 :: u183 :: u184 :: u185 :: u186 :: u187 :: u188 :: u189 :: u190 :: u191 :: u192 :: u193 :: u194 :: u195 :: u196 :: u197 :: u198 :: [])), []⟩ w := by
  obtain ⟨a, cap, c0, -, -, hl⟩ := h.parts
  have hw2 := h.w2
  have HG := Lib.hid h; have HM := Lib.hid hM
  clear h hM
  conv => arg 2; whnf
  clear _hbig c0 hl
  cases zero with
  | true =>
    rw [show twoB W L M 6 (x : Int) y true one all left equal big = .num 0 from rfl]
    go_wp2_with fail
    go_at_call 64
    refine (rconst_any HG.out 0 (by decide)).mono ?_
    intro e w4 hp
    obtain ⟨F', I', rfl, hrest⟩ := hp
    have HQ := Lib.hid hrest
    clear hrest
    go_wp2
    go_ret2
    exact ⟨F', I', rfl, HQ.out⟩
  | false =>
    cases one with
    | true =>
      rw [show twoB W L M 6 (x : Int) y false true all left equal big = .term x from rfl]
      go_wp2
      go_ret2
      exact RPost.same HG.out (Below.refl _ _) x 0
    | false =>
      rw [show twoB W L M 6 (x : Int) y false false all left equal big = .app 6 [x, y] from rfl]
      go_wp2_with fail
      go_at_call 66
      refine (rapp_any (HG.out.later (below_new w (.cells (([(x : Int), y].map (Value.int .i64)).toArray) 3))) 6 (by decide) [(x : Int), y] _ (sliceOf_new w .i64 3 [(x : Int), y] 2)).mono ?_
      intro e w4 hp
      obtain ⟨F', I', rfl, hrest⟩ := hp.later (below_new w _)
      have HQ := Lib.hid hrest
      clear hp hrest
      go_wp2
      go_ret2
      exact ⟨F', I', rfl, HQ.out⟩
set_option maxRecDepth 100000 in
theorem rtwo_tail7 {u4 u5 u6 u7 u8 u9 u10 u11 u20 u21 u22 u23 u24 u25 u26 u27 u28 u29 u30 u31 u32 u33 u34 u35 u36 u37 u38 u39 u40 u41 u42 u43 u44 u45 u46 u47 u48 u49 u50 u51 u52 u53 u54 u55 u56 u57 u58 u59 u60 u61 u62 u63 u64 u65 u66 u67 u68 u69 u70 u71 u72 u73 u74 u75 u76 u77 u78 u79 u80 u81 u82 u83 u84 u85 u86 u87 u88 u89 u90 u91 u92 u93 u94 u95 u96 u97 u98 u99 u100 u101 u102 u103 u104 u105 u106 u107 u108 u109 u110 u111 u112 u113 u114 u115 u116 u117 u118 u119 u120 u121 u122 u123 u124 u125 u126 u127 u128 u129 u130 u131 u132 u133 u134 u135 u136 u137 u138 u139 u140 u141 u142 u143 u144 u145 u146 u147 u148 u149 u150 u151 u152 u153 u154 u155 u156 u157 u158 u159 u160 u161 u162 u163 u164 u165 u166 u167 u168 u169 u170 u171 u172 u173 u174 u175 u176 u177 u178 u179 u180 u181 u182 u183 u184 u185 u186 u187 u188 u189 u190 u191 u192 u193 u194 u195 u196 u197 u198 : Value} {zero one all left equal big right : Bool} {x y b M : Nat} (h : RGr w base F I rb W room L) (hM : M < 18446744073709551616) (_hbig : big = (right && decide (W ≤ b))) :
    Code.wp Try.prog twoRest7 (bodyPost Try.prog Try.f73 (RPost w base F I rb W room ((twoB W L M 7 x y zero one all left equal big).res W room L))) ⟨(List.toArray (.pointer (some ⟨rb, 0, none⟩) :: .int .u8 7 :: .int .i64 x :: .int .i64 y :: u4 :: u5 :: u6 :: u7 :: u8 :: u9 :: u10 :: u11 :: .int .u64 b :: .bool right :: .int .u64 M :: .bool zero :: .bool one :: .bool all :: .bool left :: .bool equal :: u20 :: u21 :: u22 :: u23 :: u24 :: u25 :: u26 :: u27 :: u28 :: u29 :: u30 :: u31 :: u32 :: u33 :: u34 :: u35 :: u36 :: u37 :: u38 :: u39 :: u40 :: u41 :: u42 :: u43 :: u44 :: u45 :: u46 :: u47 :: u48 :: u49 :: u50 :: u51 :: u52 :: u53 :: u54 :: u55 :: u56 :: u57 :: u58 :: u59 :: u60 :: u61 :: u62 :: u63 :: u64 :: u65 :: u66 :: u67 :: u68 :: u69 :: u70 :: u71 :: u72 :: u73 :: u74 :: u75 :: u76 :: u77 :: u78 :: u79 :: u80 :: u81 :: u82 :: u83 :: u84 :: u85 :: u86 :: u87 :: u88 :: u89 :: u90 :: u91 :: u92 :: u93 :: u94 :: u95 :: u96 :: u97 :: u98 :: u99 :: u100 :: u101 :: u102 :: u103 :: u104 :: u105 :: u106 :: u107 :: u108 :: u109 :: u110 :: u111 :: u112 :: u113 :: u114 :: u115 :: u116 :: u117 :: u118 :: u119 :: u120 :: u121 :: u122 :: u123 :: u124 :: u125 :: u126 :: u127 :: u128 :: u129 :: u130 :: u131 :: u132 :: u133 :: u134 :: u135 :: u136 :: u137 :: u138 :: u139 :: u140 :: u141 :: u142 :: u143 :: u144 :: u145 :: u146 :: u147 :: u148 :: u149 :: u150 :: u151 :: u152 :: u153 :: u154 :: u155 :: u156 :: u157 :: u158 :: u159 :: u160 :: u161 :: u162 :: u163 :: u164 :: u165 :: u166 :: u167 :: u168 :: u169 :: u170 :: u171 :: u172 :: u173 :: u174 :: u175 :: u176 :: u177 :: u178 :: u179 :: u180 :: u181 :: u182 :: u183 :: u184 :: u185 :: u186 :: u187 :: u188 :: u189 :: u190 :: u191 :: u192 :: u193 :: u194 :: u195 :: u196 :: u197 :: u198 :: [])), []⟩ w := by
  obtain ⟨a, cap, c0, -, -, hl⟩ := h.parts
  have hw2 := h.w2
  have HG := Lib.hid h; have HM := Lib.hid hM
  clear h hM
  conv => arg 2; whnf
  clear _hbig c0 hl
  cases one with
  | true =>
    rw [show twoB W L M 7 (x : Int) y zero true all left equal big = .term x from rfl]
    go_wp2
    go_ret2
    exact RPost.same HG.out (Below.refl _ _) x 0
  | false =>
    rw [show twoB W L M 7 (x : Int) y zero false all left equal big = .app 7 [x, y] from rfl]
    go_wp2_with fail
    go_at_call 66
    refine (rapp_any (HG.out.later (below_new w (.cells (([(x : Int), y].map (Value.int .i64)).toArray) 3))) 7 (by decide) [(x : Int), y] _ (sliceOf_new w .i64 3 [(x : Int), y] 2)).mono ?_
    intro e w4 hp
    obtain ⟨F', I', rfl, hrest⟩ := hp.later (below_new w _)
    have HQ := Lib.hid hrest
    clear hp hrest
    go_wp2
    go_ret2
    exact ⟨F', I', rfl, HQ.out⟩
set_option maxRecDepth 100000 in
theorem rtwo_tail8 {u4 u5 u6 u7 u8 u9 u10 u11 u20 u21 u22 u23 u24 u25 u26 u27 u28 u29 u30 u31 u32 u33 u34 u35 u36 u37 u38 u39 u40 u41 u42 u43 u44 u45 u46 u47 u48 u49 u50 u51 u52 u53 u54 u55 u56 u57 u58 u59 u60 u61 u62 u63 u64 u65 u66 u67 u68 u69 u70 u71 u72 u73 u74 u75 u76 u77 u78 u79 u80 u81 u82 u83 u84 u85 u86 u87 u88 u89 u90 u91 u92 u93 u94 u95 u96 u97 u98 u99 u100 u101 u102 u103 u104 u105 u106 u107 u108 u109 u110 u111 u112 u113 u114 u115 u116 u117 u118 u119 u120 u121 u122 u123 u124 u125 u126 u127 u128 u129 u130 u131 u132 u133 u134 u135 u136 u137 u138 u139 u140 u141 u142 u143 u144 u145 u146 u147 u148 u149 u150 u151 u152 u153 u154 u155 u156 u157 u158 u159 u160 u161 u162 u163 u164 u165 u166 u167 u168 u169 u170 u171 u172 u173 u174 u175 u176 u177 u178 u179 u180 u181 u182 u183 u184 u185 u186 u187 u188 u189 u190 u191 u192 u193 u194 u195 u196 u197 u198 : Value} {zero one all left equal big right : Bool} {x y b M : Nat} (h : RGr w base F I rb W room L) (hM : M < 18446744073709551616) (_hbig : big = (right && decide (W ≤ b))) :
    Code.wp Try.prog twoRest7 (bodyPost Try.prog Try.f73 (RPost w base F I rb W room ((twoB W L M 8 x y zero one all left equal big).res W room L))) ⟨(List.toArray (.pointer (some ⟨rb, 0, none⟩) :: .int .u8 8 :: .int .i64 x :: .int .i64 y :: u4 :: u5 :: u6 :: u7 :: u8 :: u9 :: u10 :: u11 :: .int .u64 b :: .bool right :: .int .u64 M :: .bool zero :: .bool one :: .bool all :: .bool left :: .bool equal :: u20 :: u21 :: u22 :: u23 :: u24 :: u25 :: u26 :: u27 :: u28 :: u29 :: u30 :: u31 :: u32 :: u33 :: u34 :: u35 :: u36 :: u37 :: u38 :: u39 :: u40 :: u41 :: u42 :: u43 :: u44 :: u45 :: u46 :: u47 :: u48 :: u49 :: u50 :: u51 :: u52 :: u53 :: u54 :: u55 :: u56 :: u57 :: u58 :: u59 :: u60 :: u61 :: u62 :: u63 :: u64 :: u65 :: u66 :: u67 :: u68 :: u69 :: u70 :: u71 :: u72 :: u73 :: u74 :: u75 :: u76 :: u77 :: u78 :: u79 :: u80 :: u81 :: u82 :: u83 :: u84 :: u85 :: u86 :: u87 :: u88 :: u89 :: u90 :: u91 :: u92 :: u93 :: u94 :: u95 :: u96 :: u97 :: u98 :: u99 :: u100 :: u101 :: u102 :: u103 :: u104 :: u105 :: u106 :: u107 :: u108 :: u109 :: u110 :: u111 :: u112 :: u113 :: u114 :: u115 :: u116 :: u117 :: u118 :: u119 :: u120 :: u121 :: u122 :: u123 :: u124 :: u125 :: u126 :: u127 :: u128 :: u129 :: u130 :: u131 :: u132 :: u133 :: u134 :: u135 :: u136 :: u137 :: u138 :: u139 :: u140 :: u141 :: u142 :: u143 :: u144 :: u145 :: u146 :: u147 :: u148 :: u149 :: u150 :: u151 :: u152 :: u153 :: u154 :: u155 :: u156 :: u157 :: u158 :: u159 :: u160 :: u161 :: u162 :: u163 :: u164 :: u165 :: u166 :: u167 :: u168 :: u169 :: u170 :: u171 :: u172 :: u173 :: u174 :: u175 :: u176 :: u177 :: u178 :: u179 :: u180 :: u181 :: u182 :: u183 :: u184 :: u185 :: u186 :: u187 :: u188 :: u189 :: u190 :: u191 :: u192 :: u193 :: u194 :: u195 :: u196 :: u197 :: u198 :: [])), []⟩ w := by
  obtain ⟨a, cap, c0, -, -, hl⟩ := h.parts
  have hw2 := h.w2
  have HG := Lib.hid h; have HM := Lib.hid hM
  clear h hM
  conv => arg 2; whnf
  clear _hbig c0 hl
  cases one with
  | true =>
    rw [show twoB W L M 8 (x : Int) y zero true all left equal big = .num 0 from rfl]
    go_wp2_with fail
    go_at_call 64
    refine (rconst_any HG.out 0 (by decide)).mono ?_
    intro e w4 hp
    obtain ⟨F', I', rfl, hrest⟩ := hp
    have HQ := Lib.hid hrest
    clear hrest
    go_wp2
    go_ret2
    exact ⟨F', I', rfl, HQ.out⟩
  | false =>
    rw [show twoB W L M 8 (x : Int) y zero false all left equal big = .app 8 [x, y] from rfl]
    go_wp2_with fail
    go_at_call 66
    refine (rapp_any (HG.out.later (below_new w (.cells (([(x : Int), y].map (Value.int .i64)).toArray) 3))) 8 (by decide) [(x : Int), y] _ (sliceOf_new w .i64 3 [(x : Int), y] 2)).mono ?_
    intro e w4 hp
    obtain ⟨F', I', rfl, hrest⟩ := hp.later (below_new w _)
    have HQ := Lib.hid hrest
    clear hp hrest
    go_wp2
    go_ret2
    exact ⟨F', I', rfl, HQ.out⟩
set_option maxRecDepth 100000 in
theorem rtwo_tail9 {u4 u5 u6 u7 u8 u9 u10 u11 u20 u21 u22 u23 u24 u25 u26 u27 u28 u29 u30 u31 u32 u33 u34 u35 u36 u37 u38 u39 u40 u41 u42 u43 u44 u45 u46 u47 u48 u49 u50 u51 u52 u53 u54 u55 u56 u57 u58 u59 u60 u61 u62 u63 u64 u65 u66 u67 u68 u69 u70 u71 u72 u73 u74 u75 u76 u77 u78 u79 u80 u81 u82 u83 u84 u85 u86 u87 u88 u89 u90 u91 u92 u93 u94 u95 u96 u97 u98 u99 u100 u101 u102 u103 u104 u105 u106 u107 u108 u109 u110 u111 u112 u113 u114 u115 u116 u117 u118 u119 u120 u121 u122 u123 u124 u125 u126 u127 u128 u129 u130 u131 u132 u133 u134 u135 u136 u137 u138 u139 u140 u141 u142 u143 u144 u145 u146 u147 u148 u149 u150 u151 u152 u153 u154 u155 u156 u157 u158 u159 u160 u161 u162 u163 u164 u165 u166 u167 u168 u169 u170 u171 u172 u173 u174 u175 u176 u177 u178 u179 u180 u181 u182 u183 u184 u185 u186 u187 u188 u189 u190 u191 u192 u193 u194 u195 u196 u197 u198 : Value} {zero one all left equal big right : Bool} {x y b M : Nat} (h : RGr w base F I rb W room L) (hM : M < 18446744073709551616) (_hbig : big = (right && decide (W ≤ b))) :
    Code.wp Try.prog twoRest7 (bodyPost Try.prog Try.f73 (RPost w base F I rb W room ((twoB W L M 9 x y zero one all left equal big).res W room L))) ⟨(List.toArray (.pointer (some ⟨rb, 0, none⟩) :: .int .u8 9 :: .int .i64 x :: .int .i64 y :: u4 :: u5 :: u6 :: u7 :: u8 :: u9 :: u10 :: u11 :: .int .u64 b :: .bool right :: .int .u64 M :: .bool zero :: .bool one :: .bool all :: .bool left :: .bool equal :: u20 :: u21 :: u22 :: u23 :: u24 :: u25 :: u26 :: u27 :: u28 :: u29 :: u30 :: u31 :: u32 :: u33 :: u34 :: u35 :: u36 :: u37 :: u38 :: u39 :: u40 :: u41 :: u42 :: u43 :: u44 :: u45 :: u46 :: u47 :: u48 :: u49 :: u50 :: u51 :: u52 :: u53 :: u54 :: u55 :: u56 :: u57 :: u58 :: u59 :: u60 :: u61 :: u62 :: u63 :: u64 :: u65 :: u66 :: u67 :: u68 :: u69 :: u70 :: u71 :: u72 :: u73 :: u74 :: u75 :: u76 :: u77 :: u78 :: u79 :: u80 :: u81 :: u82 :: u83 :: u84 :: u85 :: u86 :: u87 :: u88 :: u89 :: u90 :: u91 :: u92 :: u93 :: u94 :: u95 :: u96 :: u97 :: u98 :: u99 :: u100 :: u101 :: u102 :: u103 :: u104 :: u105 :: u106 :: u107 :: u108 :: u109 :: u110 :: u111 :: u112 :: u113 :: u114 :: u115 :: u116 :: u117 :: u118 :: u119 :: u120 :: u121 :: u122 :: u123 :: u124 :: u125 :: u126 :: u127 :: u128 :: u129 :: u130 :: u131 :: u132 :: u133 :: u134 :: u135 :: u136 :: u137 :: u138 :: u139 :: u140 :: u141 :: u142 :: u143 :: u144 :: u145 :: u146 :: u147 :: u148 :: u149 :: u150 :: u151 :: u152 :: u153 :: u154 :: u155 :: u156 :: u157 :: u158 :: u159 :: u160 :: u161 :: u162 :: u163 :: u164 :: u165 :: u166 :: u167 :: u168 :: u169 :: u170 :: u171 :: u172 :: u173 :: u174 :: u175 :: u176 :: u177 :: u178 :: u179 :: u180 :: u181 :: u182 :: u183 :: u184 :: u185 :: u186 :: u187 :: u188 :: u189 :: u190 :: u191 :: u192 :: u193 :: u194 :: u195 :: u196 :: u197 :: u198 :: [])), []⟩ w := by
  obtain ⟨a, cap, c0, -, -, hl⟩ := h.parts
  have hw2 := h.w2
  have HG := Lib.hid h; have HM := Lib.hid hM
  clear h hM
  conv => arg 2; whnf
  clear _hbig c0 hl
  cases zero with
  | true =>
    rw [show twoB W L M 9 (x : Int) y true one all left equal big = .num 0 from rfl]
    go_wp2_with fail
    go_at_call 64
    refine (rconst_any HG.out 0 (by decide)).mono ?_
    intro e w4 hp
    obtain ⟨F', I', rfl, hrest⟩ := hp
    have HQ := Lib.hid hrest
    clear hrest
    go_wp2
    go_ret2
    exact ⟨F', I', rfl, HQ.out⟩
  | false =>
    cases all with
    | true =>
      rw [show twoB W L M 9 (x : Int) y false one true left equal big = .term x from rfl]
      go_wp2
      go_ret2
      exact RPost.same HG.out (Below.refl _ _) x 0
    | false =>
      cases equal with
      | true =>
        rw [show twoB W L M 9 (x : Int) y false one false left true big = .term x from rfl]
        go_wp2
        go_ret2
        exact RPost.same HG.out (Below.refl _ _) x 0
      | false =>
        rw [show twoB W L M 9 (x : Int) y false one false left false big = .app 9 [x, y] from rfl]
        go_wp2_with fail
        go_at_call 66
        refine (rapp_any (HG.out.later (below_new w (.cells (([(x : Int), y].map (Value.int .i64)).toArray) 3))) 9 (by decide) [(x : Int), y] _ (sliceOf_new w .i64 3 [(x : Int), y] 2)).mono ?_
        intro e w4 hp
        obtain ⟨F', I', rfl, hrest⟩ := hp.later (below_new w _)
        have HQ := Lib.hid hrest
        clear hp hrest
        go_wp2
        go_ret2
        exact ⟨F', I', rfl, HQ.out⟩
set_option maxRecDepth 100000 in
theorem rtwo_tail10 {u4 u5 u6 u7 u8 u9 u10 u11 u20 u21 u22 u23 u24 u25 u26 u27 u28 u29 u30 u31 u32 u33 u34 u35 u36 u37 u38 u39 u40 u41 u42 u43 u44 u45 u46 u47 u48 u49 u50 u51 u52 u53 u54 u55 u56 u57 u58 u59 u60 u61 u62 u63 u64 u65 u66 u67 u68 u69 u70 u71 u72 u73 u74 u75 u76 u77 u78 u79 u80 u81 u82 u83 u84 u85 u86 u87 u88 u89 u90 u91 u92 u93 u94 u95 u96 u97 u98 u99 u100 u101 u102 u103 u104 u105 u106 u107 u108 u109 u110 u111 u112 u113 u114 u115 u116 u117 u118 u119 u120 u121 u122 u123 u124 u125 u126 u127 u128 u129 u130 u131 u132 u133 u134 u135 u136 u137 u138 u139 u140 u141 u142 u143 u144 u145 u146 u147 u148 u149 u150 u151 u152 u153 u154 u155 u156 u157 u158 u159 u160 u161 u162 u163 u164 u165 u166 u167 u168 u169 u170 u171 u172 u173 u174 u175 u176 u177 u178 u179 u180 u181 u182 u183 u184 u185 u186 u187 u188 u189 u190 u191 u192 u193 u194 u195 u196 u197 u198 : Value} {zero one all left equal big right : Bool} {x y b M : Nat} (h : RGr w base F I rb W room L) (hM : M < 18446744073709551616) (_hbig : big = (right && decide (W ≤ b))) :
    Code.wp Try.prog twoRest7 (bodyPost Try.prog Try.f73 (RPost w base F I rb W room ((twoB W L M 10 x y zero one all left equal big).res W room L))) ⟨(List.toArray (.pointer (some ⟨rb, 0, none⟩) :: .int .u8 10 :: .int .i64 x :: .int .i64 y :: u4 :: u5 :: u6 :: u7 :: u8 :: u9 :: u10 :: u11 :: .int .u64 b :: .bool right :: .int .u64 M :: .bool zero :: .bool one :: .bool all :: .bool left :: .bool equal :: u20 :: u21 :: u22 :: u23 :: u24 :: u25 :: u26 :: u27 :: u28 :: u29 :: u30 :: u31 :: u32 :: u33 :: u34 :: u35 :: u36 :: u37 :: u38 :: u39 :: u40 :: u41 :: u42 :: u43 :: u44 :: u45 :: u46 :: u47 :: u48 :: u49 :: u50 :: u51 :: u52 :: u53 :: u54 :: u55 :: u56 :: u57 :: u58 :: u59 :: u60 :: u61 :: u62 :: u63 :: u64 :: u65 :: u66 :: u67 :: u68 :: u69 :: u70 :: u71 :: u72 :: u73 :: u74 :: u75 :: u76 :: u77 :: u78 :: u79 :: u80 :: u81 :: u82 :: u83 :: u84 :: u85 :: u86 :: u87 :: u88 :: u89 :: u90 :: u91 :: u92 :: u93 :: u94 :: u95 :: u96 :: u97 :: u98 :: u99 :: u100 :: u101 :: u102 :: u103 :: u104 :: u105 :: u106 :: u107 :: u108 :: u109 :: u110 :: u111 :: u112 :: u113 :: u114 :: u115 :: u116 :: u117 :: u118 :: u119 :: u120 :: u121 :: u122 :: u123 :: u124 :: u125 :: u126 :: u127 :: u128 :: u129 :: u130 :: u131 :: u132 :: u133 :: u134 :: u135 :: u136 :: u137 :: u138 :: u139 :: u140 :: u141 :: u142 :: u143 :: u144 :: u145 :: u146 :: u147 :: u148 :: u149 :: u150 :: u151 :: u152 :: u153 :: u154 :: u155 :: u156 :: u157 :: u158 :: u159 :: u160 :: u161 :: u162 :: u163 :: u164 :: u165 :: u166 :: u167 :: u168 :: u169 :: u170 :: u171 :: u172 :: u173 :: u174 :: u175 :: u176 :: u177 :: u178 :: u179 :: u180 :: u181 :: u182 :: u183 :: u184 :: u185 :: u186 :: u187 :: u188 :: u189 :: u190 :: u191 :: u192 :: u193 :: u194 :: u195 :: u196 :: u197 :: u198 :: [])), []⟩ w := by
  obtain ⟨a, cap, c0, -, -, hl⟩ := h.parts
  have hw2 := h.w2
  have HG := Lib.hid h; have HM := Lib.hid hM
  clear h hM
  conv => arg 2; whnf
  clear _hbig c0 hl
  cases zero with
  | true =>
    rw [show twoB W L M 10 (x : Int) y true one all left equal big = .term x from rfl]
    go_wp2
    go_ret2
    exact RPost.same HG.out (Below.refl _ _) x 0
  | false =>
    cases all with
    | true =>
      rw [show twoB W L M 10 (x : Int) y false one true left equal big = .num M from rfl]
      go_wp2_with fail
      go_at_call 64
      refine (rconst_any HG.out M HM.out).mono ?_
      intro e w4 hp
      obtain ⟨F', I', rfl, hrest⟩ := hp
      have HQ := Lib.hid hrest
      clear hrest
      go_wp2
      go_ret2
      exact ⟨F', I', rfl, HQ.out⟩
    | false =>
      cases equal with
      | true =>
        rw [show twoB W L M 10 (x : Int) y false one false left true big = .term x from rfl]
        go_wp2
        go_ret2
        exact RPost.same HG.out (Below.refl _ _) x 0
      | false =>
        rw [show twoB W L M 10 (x : Int) y false one false left false big = .app 10 [x, y] from rfl]
        go_wp2_with fail
        go_at_call 66
        refine (rapp_any (HG.out.later (below_new w (.cells (([(x : Int), y].map (Value.int .i64)).toArray) 3))) 10 (by decide) [(x : Int), y] _ (sliceOf_new w .i64 3 [(x : Int), y] 2)).mono ?_
        intro e w4 hp
        obtain ⟨F', I', rfl, hrest⟩ := hp.later (below_new w _)
        have HQ := Lib.hid hrest
        clear hp hrest
        go_wp2
        go_ret2
        exact ⟨F', I', rfl, HQ.out⟩
set_option maxRecDepth 100000 in
theorem rtwo_tail11 {u4 u5 u6 u7 u8 u9 u10 u11 u20 u21 u22 u23 u24 u25 u26 u27 u28 u29 u30 u31 u32 u33 u34 u35 u36 u37 u38 u39 u40 u41 u42 u43 u44 u45 u46 u47 u48 u49 u50 u51 u52 u53 u54 u55 u56 u57 u58 u59 u60 u61 u62 u63 u64 u65 u66 u67 u68 u69 u70 u71 u72 u73 u74 u75 u76 u77 u78 u79 u80 u81 u82 u83 u84 u85 u86 u87 u88 u89 u90 u91 u92 u93 u94 u95 u96 u97 u98 u99 u100 u101 u102 u103 u104 u105 u106 u107 u108 u109 u110 u111 u112 u113 u114 u115 u116 u117 u118 u119 u120 u121 u122 u123 u124 u125 u126 u127 u128 u129 u130 u131 u132 u133 u134 u135 u136 u137 u138 u139 u140 u141 u142 u143 u144 u145 u146 u147 u148 u149 u150 u151 u152 u153 u154 u155 u156 u157 u158 u159 u160 u161 u162 u163 u164 u165 u166 u167 u168 u169 u170 u171 u172 u173 u174 u175 u176 u177 u178 u179 u180 u181 u182 u183 u184 u185 u186 u187 u188 u189 u190 u191 u192 u193 u194 u195 u196 u197 u198 : Value} {zero one all left equal big right : Bool} {x y b M : Nat} (h : RGr w base F I rb W room L) (hM : M < 18446744073709551616) (_hbig : big = (right && decide (W ≤ b)))
    (hrec : all = true → ∀ (w2 : World) (va : Value), RGr w2 base F I rb W room L → SliceOf w2 .i64 va [(x : Int)] → Calls Try.prog 50 #[.pointer (some ⟨rb, 0, none⟩), .int .u8 2, va] w2 (RPost w2 base F I rb W room ((oneA L 2 x).res W room L))) :
    Code.wp Try.prog twoRest7 (bodyPost Try.prog Try.f73 (RPost w base F I rb W room ((twoB W L M 11 x y zero one all left equal big).res W room L))) ⟨(List.toArray (.pointer (some ⟨rb, 0, none⟩) :: .int .u8 11 :: .int .i64 x :: .int .i64 y :: u4 :: u5 :: u6 :: u7 :: u8 :: u9 :: u10 :: u11 :: .int .u64 b :: .bool right :: .int .u64 M :: .bool zero :: .bool one :: .bool all :: .bool left :: .bool equal :: u20 :: u21 :: u22 :: u23 :: u24 :: u25 :: u26 :: u27 :: u28 :: u29 :: u30 :: u31 :: u32 :: u33 :: u34 :: u35 :: u36 :: u37 :: u38 :: u39 :: u40 :: u41 :: u42 :: u43 :: u44 :: u45 :: u46 :: u47 :: u48 :: u49 :: u50 :: u51 :: u52 :: u53 :: u54 :: u55 :: u56 :: u57 :: u58 :: u59 :: u60 :: u61 :: u62 :: u63 :: u64 :: u65 :: u66 :: u67 :: u68 :: u69 :: u70 :: u71 :: u72 :: u73 :: u74 :: u75 :: u76 :: u77 :: u78 :: u79 :: u80 :: u81 :: u82 :: u83 :: u84 :: u85 :: u86 :: u87 :: u88 :: u89 :: u90 :: u91 :: u92 :: u93 :: u94 :: u95 :: u96 :: u97 :: u98 :: u99 :: u100 :: u101 :: u102 :: u103 :: u104 :: u105 :: u106 :: u107 :: u108 :: u109 :: u110 :: u111 :: u112 :: u113 :: u114 :: u115 :: u116 :: u117 :: u118 :: u119 :: u120 :: u121 :: u122 :: u123 :: u124 :: u125 :: u126 :: u127 :: u128 :: u129 :: u130 :: u131 :: u132 :: u133 :: u134 :: u135 :: u136 :: u137 :: u138 :: u139 :: u140 :: u141 :: u142 :: u143 :: u144 :: u145 :: u146 :: u147 :: u148 :: u149 :: u150 :: u151 :: u152 :: u153 :: u154 :: u155 :: u156 :: u157 :: u158 :: u159 :: u160 :: u161 :: u162 :: u163 :: u164 :: u165 :: u166 :: u167 :: u168 :: u169 :: u170 :: u171 :: u172 :: u173 :: u174 :: u175 :: u176 :: u177 :: u178 :: u179 :: u180 :: u181 :: u182 :: u183 :: u184 :: u185 :: u186 :: u187 :: u188 :: u189 :: u190 :: u191 :: u192 :: u193 :: u194 :: u195 :: u196 :: u197 :: u198 :: [])), []⟩ w := by
  obtain ⟨a, cap, c0, -, -, hl⟩ := h.parts
  have hw2 := h.w2
  have HG := Lib.hid h; have HM := Lib.hid hM; have HREC := Lib.hid hrec
  clear h hM hrec
  conv => arg 2; whnf
  clear _hbig c0 hl
  cases zero with
  | true =>
    rw [show twoB W L M 11 (x : Int) y true one all left equal big = .term x from rfl]
    go_wp2
    go_ret2
    exact RPost.same HG.out (Below.refl _ _) x 0
  | false =>
    cases all with
    | true =>
      rw [show twoB W L M 11 (x : Int) y false one true left equal big = oneA L 2 x from rfl]
      go_wp2_with fail
      go_at_call 50
      refine (HREC.out (by simp) _ _ (HG.out.later (below_new w (.cells (([(x : Int)].map (Value.int .i64)).toArray) 3))) (sliceOf_new w .i64 3 [(x : Int)] 1)).mono ?_
      intro e w4 hp
      obtain ⟨F', I', rfl, hrest⟩ := hp.later (below_new w _)
      have HQ := Lib.hid hrest
      clear hp hrest
      go_wp2
      go_ret2
      exact ⟨F', I', rfl, HQ.out⟩
    | false =>
      cases equal with
      | true =>
        rw [show twoB W L M 11 (x : Int) y false one false left true big = .num 0 from rfl]
        go_wp2_with fail
        go_at_call 64
        refine (rconst_any HG.out 0 (by decide)).mono ?_
        intro e w4 hp
        obtain ⟨F', I', rfl, hrest⟩ := hp
        have HQ := Lib.hid hrest
        clear hrest
        go_wp2
        go_ret2
        exact ⟨F', I', rfl, HQ.out⟩
      | false =>
        rw [show twoB W L M 11 (x : Int) y false one false left false big = .app 11 [x, y] from rfl]
        go_wp2_with fail
        go_at_call 66
        refine (rapp_any (HG.out.later (below_new w (.cells (([(x : Int), y].map (Value.int .i64)).toArray) 3))) 11 (by decide) [(x : Int), y] _ (sliceOf_new w .i64 3 [(x : Int), y] 2)).mono ?_
        intro e w4 hp
        obtain ⟨F', I', rfl, hrest⟩ := hp.later (below_new w _)
        have HQ := Lib.hid hrest
        clear hp hrest
        go_wp2
        go_ret2
        exact ⟨F', I', rfl, HQ.out⟩
set_option maxRecDepth 100000 in
theorem rtwo_tail12 {u4 u5 u6 u7 u8 u9 u10 u11 u20 u21 u22 u23 u24 u25 u26 u27 u28 u29 u30 u31 u32 u33 u34 u35 u36 u37 u38 u39 u40 u41 u42 u43 u44 u45 u46 u47 u48 u49 u50 u51 u52 u53 u54 u55 u56 u57 u58 u59 u60 u61 u62 u63 u64 u65 u66 u67 u68 u69 u70 u71 u72 u73 u74 u75 u76 u77 u78 u79 u80 u81 u82 u83 u84 u85 u86 u87 u88 u89 u90 u91 u92 u93 u94 u95 u96 u97 u98 u99 u100 u101 u102 u103 u104 u105 u106 u107 u108 u109 u110 u111 u112 u113 u114 u115 u116 u117 u118 u119 u120 u121 u122 u123 u124 u125 u126 u127 u128 u129 u130 u131 u132 u133 u134 u135 u136 u137 u138 u139 u140 u141 u142 u143 u144 u145 u146 u147 u148 u149 u150 u151 u152 u153 u154 u155 u156 u157 u158 u159 u160 u161 u162 u163 u164 u165 u166 u167 u168 u169 u170 u171 u172 u173 u174 u175 u176 u177 u178 u179 u180 u181 u182 u183 u184 u185 u186 u187 u188 u189 u190 u191 u192 u193 u194 u195 u196 u197 u198 : Value} {zero one all left equal big right : Bool} {x y b M : Nat} (h : RGr w base F I rb W room L) (hM : M < 18446744073709551616) (hbig : big = (right && decide (W ≤ b))) :
    Code.wp Try.prog twoRest7 (bodyPost Try.prog Try.f73 (RPost w base F I rb W room ((twoB W L M 12 x y zero one all left equal big).res W room L))) ⟨(List.toArray (.pointer (some ⟨rb, 0, none⟩) :: .int .u8 12 :: .int .i64 x :: .int .i64 y :: u4 :: u5 :: u6 :: u7 :: u8 :: u9 :: u10 :: u11 :: .int .u64 b :: .bool right :: .int .u64 M :: .bool zero :: .bool one :: .bool all :: .bool left :: .bool equal :: u20 :: u21 :: u22 :: u23 :: u24 :: u25 :: u26 :: u27 :: u28 :: u29 :: u30 :: u31 :: u32 :: u33 :: u34 :: u35 :: u36 :: u37 :: u38 :: u39 :: u40 :: u41 :: u42 :: u43 :: u44 :: u45 :: u46 :: u47 :: u48 :: u49 :: u50 :: u51 :: u52 :: u53 :: u54 :: u55 :: u56 :: u57 :: u58 :: u59 :: u60 :: u61 :: u62 :: u63 :: u64 :: u65 :: u66 :: u67 :: u68 :: u69 :: u70 :: u71 :: u72 :: u73 :: u74 :: u75 :: u76 :: u77 :: u78 :: u79 :: u80 :: u81 :: u82 :: u83 :: u84 :: u85 :: u86 :: u87 :: u88 :: u89 :: u90 :: u91 :: u92 :: u93 :: u94 :: u95 :: u96 :: u97 :: u98 :: u99 :: u100 :: u101 :: u102 :: u103 :: u104 :: u105 :: u106 :: u107 :: u108 :: u109 :: u110 :: u111 :: u112 :: u113 :: u114 :: u115 :: u116 :: u117 :: u118 :: u119 :: u120 :: u121 :: u122 :: u123 :: u124 :: u125 :: u126 :: u127 :: u128 :: u129 :: u130 :: u131 :: u132 :: u133 :: u134 :: u135 :: u136 :: u137 :: u138 :: u139 :: u140 :: u141 :: u142 :: u143 :: u144 :: u145 :: u146 :: u147 :: u148 :: u149 :: u150 :: u151 :: u152 :: u153 :: u154 :: u155 :: u156 :: u157 :: u158 :: u159 :: u160 :: u161 :: u162 :: u163 :: u164 :: u165 :: u166 :: u167 :: u168 :: u169 :: u170 :: u171 :: u172 :: u173 :: u174 :: u175 :: u176 :: u177 :: u178 :: u179 :: u180 :: u181 :: u182 :: u183 :: u184 :: u185 :: u186 :: u187 :: u188 :: u189 :: u190 :: u191 :: u192 :: u193 :: u194 :: u195 :: u196 :: u197 :: u198 :: [])), []⟩ w := by
  obtain ⟨a, cap, c0, -, -, hl⟩ := h.parts
  have hw2 := h.w2
  have HG := Lib.hid h; have HM := Lib.hid hM
  clear h hM
  conv => arg 2; whnf
  cases zero with
  | true =>
    clear hbig c0 hl
    rw [show twoB W L M 12 (x : Int) y true one all left equal big = .term x from rfl]
    go_wp2
    go_ret2
    exact RPost.same HG.out (Below.refl _ _) x 0
  | false =>
    cases right with
    | false =>
      obtain rfl : big = false := hbig
      clear c0 hl
      rw [show twoB W L M 12 (x : Int) y false one all left equal false = .app 12 [x, y] from rfl]
      go_wp2_with fail
      go_at_call 66
      refine (rapp_any (HG.out.later (below_new w (.cells (([(x : Int), y].map (Value.int .i64)).toArray) 3))) 12 (by decide) [(x : Int), y] _ (sliceOf_new w .i64 3 [(x : Int), y] 2)).mono ?_
      intro e w4 hp
      obtain ⟨F', I', rfl, hrest⟩ := hp.later (below_new w _)
      have HQ := Lib.hid hrest
      clear hp hrest
      go_wp2
      go_ret2
      exact ⟨F', I', rfl, HQ.out⟩
    | true =>
      by_cases hWb : (W : Int) ≤ (b : Int)
      · obtain rfl : big = true := by rw [hbig]; simp; omega
        clear hbig
        rw [show twoB W L M 12 (x : Int) y false one all left equal true = .num 0 from rfl]
        go_wp2_with fail
        go_at_call 64
        refine (rconst_any HG.out 0 (by decide)).mono ?_
        intro e w4 hp
        obtain ⟨F', I', rfl, hrest⟩ := hp
        have HQ := Lib.hid hrest
        clear hrest
        go_wp2
        go_ret2
        exact ⟨F', I', rfl, HQ.out⟩
      · obtain rfl : big = false := by rw [hbig]; simp; omega
        clear hbig
        rw [show twoB W L M 12 (x : Int) y false one all left equal false = .app 12 [x, y] from rfl]
        go_wp2_with fail
        go_at_call 66
        refine (rapp_any (HG.out.later (below_new w (.cells (([(x : Int), y].map (Value.int .i64)).toArray) 3))) 12 (by decide) [(x : Int), y] _ (sliceOf_new w .i64 3 [(x : Int), y] 2)).mono ?_
        intro e w4 hp
        obtain ⟨F', I', rfl, hrest⟩ := hp.later (below_new w _)
        have HQ := Lib.hid hrest
        clear hp hrest
        go_wp2
        go_ret2
        exact ⟨F', I', rfl, HQ.out⟩
set_option maxRecDepth 100000 in
theorem rtwo_tail13 {u4 u5 u6 u7 u8 u9 u10 u11 u20 u21 u22 u23 u24 u25 u26 u27 u28 u29 u30 u31 u32 u33 u34 u35 u36 u37 u38 u39 u40 u41 u42 u43 u44 u45 u46 u47 u48 u49 u50 u51 u52 u53 u54 u55 u56 u57 u58 u59 u60 u61 u62 u63 u64 u65 u66 u67 u68 u69 u70 u71 u72 u73 u74 u75 u76 u77 u78 u79 u80 u81 u82 u83 u84 u85 u86 u87 u88 u89 u90 u91 u92 u93 u94 u95 u96 u97 u98 u99 u100 u101 u102 u103 u104 u105 u106 u107 u108 u109 u110 u111 u112 u113 u114 u115 u116 u117 u118 u119 u120 u121 u122 u123 u124 u125 u126 u127 u128 u129 u130 u131 u132 u133 u134 u135 u136 u137 u138 u139 u140 u141 u142 u143 u144 u145 u146 u147 u148 u149 u150 u151 u152 u153 u154 u155 u156 u157 u158 u159 u160 u161 u162 u163 u164 u165 u166 u167 u168 u169 u170 u171 u172 u173 u174 u175 u176 u177 u178 u179 u180 u181 u182 u183 u184 u185 u186 u187 u188 u189 u190 u191 u192 u193 u194 u195 u196 u197 u198 : Value} {zero one all left equal big right : Bool} {x y b M : Nat} (h : RGr w base F I rb W room L) (hM : M < 18446744073709551616) (hbig : big = (right && decide (W ≤ b))) :
    Code.wp Try.prog twoRest7 (bodyPost Try.prog Try.f73 (RPost w base F I rb W room ((twoB W L M 13 x y zero one all left equal big).res W room L))) ⟨(List.toArray (.pointer (some ⟨rb, 0, none⟩) :: .int .u8 13 :: .int .i64 x :: .int .i64 y :: u4 :: u5 :: u6 :: u7 :: u8 :: u9 :: u10 :: u11 :: .int .u64 b :: .bool right :: .int .u64 M :: .bool zero :: .bool one :: .bool all :: .bool left :: .bool equal :: u20 :: u21 :: u22 :: u23 :: u24 :: u25 :: u26 :: u27 :: u28 :: u29 :: u30 :: u31 :: u32 :: u33 :: u34 :: u35 :: u36 :: u37 :: u38 :: u39 :: u40 :: u41 :: u42 :: u43 :: u44 :: u45 :: u46 :: u47 :: u48 :: u49 :: u50 :: u51 :: u52 :: u53 :: u54 :: u55 :: u56 :: u57 :: u58 :: u59 :: u60 :: u61 :: u62 :: u63 :: u64 :: u65 :: u66 :: u67 :: u68 :: u69 :: u70 :: u71 :: u72 :: u73 :: u74 :: u75 :: u76 :: u77 :: u78 :: u79 :: u80 :: u81 :: u82 :: u83 :: u84 :: u85 :: u86 :: u87 :: u88 :: u89 :: u90 :: u91 :: u92 :: u93 :: u94 :: u95 :: u96 :: u97 :: u98 :: u99 :: u100 :: u101 :: u102 :: u103 :: u104 :: u105 :: u106 :: u107 :: u108 :: u109 :: u110 :: u111 :: u112 :: u113 :: u114 :: u115 :: u116 :: u117 :: u118 :: u119 :: u120 :: u121 :: u122 :: u123 :: u124 :: u125 :: u126 :: u127 :: u128 :: u129 :: u130 :: u131 :: u132 :: u133 :: u134 :: u135 :: u136 :: u137 :: u138 :: u139 :: u140 :: u141 :: u142 :: u143 :: u144 :: u145 :: u146 :: u147 :: u148 :: u149 :: u150 :: u151 :: u152 :: u153 :: u154 :: u155 :: u156 :: u157 :: u158 :: u159 :: u160 :: u161 :: u162 :: u163 :: u164 :: u165 :: u166 :: u167 :: u168 :: u169 :: u170 :: u171 :: u172 :: u173 :: u174 :: u175 :: u176 :: u177 :: u178 :: u179 :: u180 :: u181 :: u182 :: u183 :: u184 :: u185 :: u186 :: u187 :: u188 :: u189 :: u190 :: u191 :: u192 :: u193 :: u194 :: u195 :: u196 :: u197 :: u198 :: [])), []⟩ w := by
  obtain ⟨a, cap, c0, -, -, hl⟩ := h.parts
  have hw2 := h.w2
  have HG := Lib.hid h; have HM := Lib.hid hM
  clear h hM
  conv => arg 2; whnf
  cases zero with
  | true =>
    clear hbig c0 hl
    rw [show twoB W L M 13 (x : Int) y true one all left equal big = .term x from rfl]
    go_wp2
    go_ret2
    exact RPost.same HG.out (Below.refl _ _) x 0
  | false =>
    cases right with
    | false =>
      obtain rfl : big = false := hbig
      clear c0 hl
      rw [show twoB W L M 13 (x : Int) y false one all left equal false = .app 13 [x, y] from rfl]
      go_wp2_with fail
      go_at_call 66
      refine (rapp_any (HG.out.later (below_new w (.cells (([(x : Int), y].map (Value.int .i64)).toArray) 3))) 13 (by decide) [(x : Int), y] _ (sliceOf_new w .i64 3 [(x : Int), y] 2)).mono ?_
      intro e w4 hp
      obtain ⟨F', I', rfl, hrest⟩ := hp.later (below_new w _)
      have HQ := Lib.hid hrest
      clear hp hrest
      go_wp2
      go_ret2
      exact ⟨F', I', rfl, HQ.out⟩
    | true =>
      by_cases hWb : (W : Int) ≤ (b : Int)
      · obtain rfl : big = true := by rw [hbig]; simp; omega
        clear hbig
        rw [show twoB W L M 13 (x : Int) y false one all left equal true = .num 0 from rfl]
        go_wp2_with fail
        go_at_call 64
        refine (rconst_any HG.out 0 (by decide)).mono ?_
        intro e w4 hp
        obtain ⟨F', I', rfl, hrest⟩ := hp
        have HQ := Lib.hid hrest
        clear hrest
        go_wp2
        go_ret2
        exact ⟨F', I', rfl, HQ.out⟩
      · obtain rfl : big = false := by rw [hbig]; simp; omega
        clear hbig
        rw [show twoB W L M 13 (x : Int) y false one all left equal false = .app 13 [x, y] from rfl]
        go_wp2_with fail
        go_at_call 66
        refine (rapp_any (HG.out.later (below_new w (.cells (([(x : Int), y].map (Value.int .i64)).toArray) 3))) 13 (by decide) [(x : Int), y] _ (sliceOf_new w .i64 3 [(x : Int), y] 2)).mono ?_
        intro e w4 hp
        obtain ⟨F', I', rfl, hrest⟩ := hp.later (below_new w _)
        have HQ := Lib.hid hrest
        clear hp hrest
        go_wp2
        go_ret2
        exact ⟨F', I', rfl, HQ.out⟩
set_option maxRecDepth 100000 in
theorem rtwo_tail14 {u4 u5 u6 u7 u8 u9 u10 u11 u20 u21 u22 u23 u24 u25 u26 u27 u28 u29 u30 u31 u32 u33 u34 u35 u36 u37 u38 u39 u40 u41 u42 u43 u44 u45 u46 u47 u48 u49 u50 u51 u52 u53 u54 u55 u56 u57 u58 u59 u60 u61 u62 u63 u64 u65 u66 u67 u68 u69 u70 u71 u72 u73 u74 u75 u76 u77 u78 u79 u80 u81 u82 u83 u84 u85 u86 u87 u88 u89 u90 u91 u92 u93 u94 u95 u96 u97 u98 u99 u100 u101 u102 u103 u104 u105 u106 u107 u108 u109 u110 u111 u112 u113 u114 u115 u116 u117 u118 u119 u120 u121 u122 u123 u124 u125 u126 u127 u128 u129 u130 u131 u132 u133 u134 u135 u136 u137 u138 u139 u140 u141 u142 u143 u144 u145 u146 u147 u148 u149 u150 u151 u152 u153 u154 u155 u156 u157 u158 u159 u160 u161 u162 u163 u164 u165 u166 u167 u168 u169 u170 u171 u172 u173 u174 u175 u176 u177 u178 u179 u180 u181 u182 u183 u184 u185 u186 u187 u188 u189 u190 u191 u192 u193 u194 u195 u196 u197 u198 : Value} {zero one all left equal big right : Bool} {x y b M : Nat} (h : RGr w base F I rb W room L) (hM : M < 18446744073709551616) (_hbig : big = (right && decide (W ≤ b))) :
    Code.wp Try.prog twoRest7 (bodyPost Try.prog Try.f73 (RPost w base F I rb W room ((twoB W L M 14 x y zero one all left equal big).res W room L))) ⟨(List.toArray (.pointer (some ⟨rb, 0, none⟩) :: .int .u8 14 :: .int .i64 x :: .int .i64 y :: u4 :: u5 :: u6 :: u7 :: u8 :: u9 :: u10 :: u11 :: .int .u64 b :: .bool right :: .int .u64 M :: .bool zero :: .bool one :: .bool all :: .bool left :: .bool equal :: u20 :: u21 :: u22 :: u23 :: u24 :: u25 :: u26 :: u27 :: u28 :: u29 :: u30 :: u31 :: u32 :: u33 :: u34 :: u35 :: u36 :: u37 :: u38 :: u39 :: u40 :: u41 :: u42 :: u43 :: u44 :: u45 :: u46 :: u47 :: u48 :: u49 :: u50 :: u51 :: u52 :: u53 :: u54 :: u55 :: u56 :: u57 :: u58 :: u59 :: u60 :: u61 :: u62 :: u63 :: u64 :: u65 :: u66 :: u67 :: u68 :: u69 :: u70 :: u71 :: u72 :: u73 :: u74 :: u75 :: u76 :: u77 :: u78 :: u79 :: u80 :: u81 :: u82 :: u83 :: u84 :: u85 :: u86 :: u87 :: u88 :: u89 :: u90 :: u91 :: u92 :: u93 :: u94 :: u95 :: u96 :: u97 :: u98 :: u99 :: u100 :: u101 :: u102 :: u103 :: u104 :: u105 :: u106 :: u107 :: u108 :: u109 :: u110 :: u111 :: u112 :: u113 :: u114 :: u115 :: u116 :: u117 :: u118 :: u119 :: u120 :: u121 :: u122 :: u123 :: u124 :: u125 :: u126 :: u127 :: u128 :: u129 :: u130 :: u131 :: u132 :: u133 :: u134 :: u135 :: u136 :: u137 :: u138 :: u139 :: u140 :: u141 :: u142 :: u143 :: u144 :: u145 :: u146 :: u147 :: u148 :: u149 :: u150 :: u151 :: u152 :: u153 :: u154 :: u155 :: u156 :: u157 :: u158 :: u159 :: u160 :: u161 :: u162 :: u163 :: u164 :: u165 :: u166 :: u167 :: u168 :: u169 :: u170 :: u171 :: u172 :: u173 :: u174 :: u175 :: u176 :: u177 :: u178 :: u179 :: u180 :: u181 :: u182 :: u183 :: u184 :: u185 :: u186 :: u187 :: u188 :: u189 :: u190 :: u191 :: u192 :: u193 :: u194 :: u195 :: u196 :: u197 :: u198 :: [])), []⟩ w := by
  obtain ⟨a, cap, c0, -, -, hl⟩ := h.parts
  have hw2 := h.w2
  have HG := Lib.hid h; have HM := Lib.hid hM
  clear h hM
  conv => arg 2; whnf
  clear _hbig c0 hl
  cases zero with
  | true =>
    rw [show twoB W L M 14 (x : Int) y true one all left equal big = .term x from rfl]
    go_wp2
    go_ret2
    exact RPost.same HG.out (Below.refl _ _) x 0
  | false =>
    rw [show twoB W L M 14 (x : Int) y false one all left equal big = .app 14 [x, y] from rfl]
    go_wp2_with fail
    go_at_call 66
    refine (rapp_any (HG.out.later (below_new w (.cells (([(x : Int), y].map (Value.int .i64)).toArray) 3))) 14 (by decide) [(x : Int), y] _ (sliceOf_new w .i64 3 [(x : Int), y] 2)).mono ?_
    intro e w4 hp
    obtain ⟨F', I', rfl, hrest⟩ := hp.later (below_new w _)
    have HQ := Lib.hid hrest
    clear hp hrest
    go_wp2
    go_ret2
    exact ⟨F', I', rfl, HQ.out⟩
set_option maxRecDepth 100000 in
theorem rtwo_tail15 {u4 u5 u6 u7 u8 u9 u10 u11 u20 u21 u22 u23 u24 u25 u26 u27 u28 u29 u30 u31 u32 u33 u34 u35 u36 u37 u38 u39 u40 u41 u42 u43 u44 u45 u46 u47 u48 u49 u50 u51 u52 u53 u54 u55 u56 u57 u58 u59 u60 u61 u62 u63 u64 u65 u66 u67 u68 u69 u70 u71 u72 u73 u74 u75 u76 u77 u78 u79 u80 u81 u82 u83 u84 u85 u86 u87 u88 u89 u90 u91 u92 u93 u94 u95 u96 u97 u98 u99 u100 u101 u102 u103 u104 u105 u106 u107 u108 u109 u110 u111 u112 u113 u114 u115 u116 u117 u118 u119 u120 u121 u122 u123 u124 u125 u126 u127 u128 u129 u130 u131 u132 u133 u134 u135 u136 u137 u138 u139 u140 u141 u142 u143 u144 u145 u146 u147 u148 u149 u150 u151 u152 u153 u154 u155 u156 u157 u158 u159 u160 u161 u162 u163 u164 u165 u166 u167 u168 u169 u170 u171 u172 u173 u174 u175 u176 u177 u178 u179 u180 u181 u182 u183 u184 u185 u186 u187 u188 u189 u190 u191 u192 u193 u194 u195 u196 u197 u198 : Value} {zero one all left equal big right : Bool} {x y b M : Nat} (h : RGr w base F I rb W room L) (hM : M < 18446744073709551616) (_hbig : big = (right && decide (W ≤ b))) :
    Code.wp Try.prog twoRest7 (bodyPost Try.prog Try.f73 (RPost w base F I rb W room ((twoB W L M 15 x y zero one all left equal big).res W room L))) ⟨(List.toArray (.pointer (some ⟨rb, 0, none⟩) :: .int .u8 15 :: .int .i64 x :: .int .i64 y :: u4 :: u5 :: u6 :: u7 :: u8 :: u9 :: u10 :: u11 :: .int .u64 b :: .bool right :: .int .u64 M :: .bool zero :: .bool one :: .bool all :: .bool left :: .bool equal :: u20 :: u21 :: u22 :: u23 :: u24 :: u25 :: u26 :: u27 :: u28 :: u29 :: u30 :: u31 :: u32 :: u33 :: u34 :: u35 :: u36 :: u37 :: u38 :: u39 :: u40 :: u41 :: u42 :: u43 :: u44 :: u45 :: u46 :: u47 :: u48 :: u49 :: u50 :: u51 :: u52 :: u53 :: u54 :: u55 :: u56 :: u57 :: u58 :: u59 :: u60 :: u61 :: u62 :: u63 :: u64 :: u65 :: u66 :: u67 :: u68 :: u69 :: u70 :: u71 :: u72 :: u73 :: u74 :: u75 :: u76 :: u77 :: u78 :: u79 :: u80 :: u81 :: u82 :: u83 :: u84 :: u85 :: u86 :: u87 :: u88 :: u89 :: u90 :: u91 :: u92 :: u93 :: u94 :: u95 :: u96 :: u97 :: u98 :: u99 :: u100 :: u101 :: u102 :: u103 :: u104 :: u105 :: u106 :: u107 :: u108 :: u109 :: u110 :: u111 :: u112 :: u113 :: u114 :: u115 :: u116 :: u117 :: u118 :: u119 :: u120 :: u121 :: u122 :: u123 :: u124 :: u125 :: u126 :: u127 :: u128 :: u129 :: u130 :: u131 :: u132 :: u133 :: u134 :: u135 :: u136 :: u137 :: u138 :: u139 :: u140 :: u141 :: u142 :: u143 :: u144 :: u145 :: u146 :: u147 :: u148 :: u149 :: u150 :: u151 :: u152 :: u153 :: u154 :: u155 :: u156 :: u157 :: u158 :: u159 :: u160 :: u161 :: u162 :: u163 :: u164 :: u165 :: u166 :: u167 :: u168 :: u169 :: u170 :: u171 :: u172 :: u173 :: u174 :: u175 :: u176 :: u177 :: u178 :: u179 :: u180 :: u181 :: u182 :: u183 :: u184 :: u185 :: u186 :: u187 :: u188 :: u189 :: u190 :: u191 :: u192 :: u193 :: u194 :: u195 :: u196 :: u197 :: u198 :: [])), []⟩ w := by
  obtain ⟨a, cap, c0, -, -, hl⟩ := h.parts
  have hw2 := h.w2
  have HG := Lib.hid h; have HM := Lib.hid hM
  clear h hM
  conv => arg 2; whnf
  clear _hbig c0 hl
  cases equal with
  | true =>
    rw [show twoB W L M 15 (x : Int) y zero one all left true big = .num 1 from rfl]
    go_wp2_with fail
    go_at_call 64
    refine (rconst_any HG.out 1 (by decide)).mono ?_
    intro e w4 hp
    obtain ⟨F', I', rfl, hrest⟩ := hp
    have HQ := Lib.hid hrest
    clear hrest
    go_wp2
    go_ret2
    exact ⟨F', I', rfl, HQ.out⟩
  | false =>
    rw [show twoB W L M 15 (x : Int) y zero one all left false big = .app 15 [x, y] from rfl]
    go_wp2_with fail
    go_at_call 66
    refine (rapp_any (HG.out.later (below_new w (.cells (([(x : Int), y].map (Value.int .i64)).toArray) 3))) 15 (by decide) [(x : Int), y] _ (sliceOf_new w .i64 3 [(x : Int), y] 2)).mono ?_
    intro e w4 hp
    obtain ⟨F', I', rfl, hrest⟩ := hp.later (below_new w _)
    have HQ := Lib.hid hrest
    clear hp hrest
    go_wp2
    go_ret2
    exact ⟨F', I', rfl, HQ.out⟩
set_option maxRecDepth 100000 in
theorem rtwo_tail16 {u4 u5 u6 u7 u8 u9 u10 u11 u20 u21 u22 u23 u24 u25 u26 u27 u28 u29 u30 u31 u32 u33 u34 u35 u36 u37 u38 u39 u40 u41 u42 u43 u44 u45 u46 u47 u48 u49 u50 u51 u52 u53 u54 u55 u56 u57 u58 u59 u60 u61 u62 u63 u64 u65 u66 u67 u68 u69 u70 u71 u72 u73 u74 u75 u76 u77 u78 u79 u80 u81 u82 u83 u84 u85 u86 u87 u88 u89 u90 u91 u92 u93 u94 u95 u96 u97 u98 u99 u100 u101 u102 u103 u104 u105 u106 u107 u108 u109 u110 u111 u112 u113 u114 u115 u116 u117 u118 u119 u120 u121 u122 u123 u124 u125 u126 u127 u128 u129 u130 u131 u132 u133 u134 u135 u136 u137 u138 u139 u140 u141 u142 u143 u144 u145 u146 u147 u148 u149 u150 u151 u152 u153 u154 u155 u156 u157 u158 u159 u160 u161 u162 u163 u164 u165 u166 u167 u168 u169 u170 u171 u172 u173 u174 u175 u176 u177 u178 u179 u180 u181 u182 u183 u184 u185 u186 u187 u188 u189 u190 u191 u192 u193 u194 u195 u196 u197 u198 : Value} {zero one all left equal big right : Bool} {x y b M : Nat} (h : RGr w base F I rb W room L) (hM : M < 18446744073709551616) (_hbig : big = (right && decide (W ≤ b))) :
    Code.wp Try.prog twoRest7 (bodyPost Try.prog Try.f73 (RPost w base F I rb W room ((twoB W L M 16 x y zero one all left equal big).res W room L))) ⟨(List.toArray (.pointer (some ⟨rb, 0, none⟩) :: .int .u8 16 :: .int .i64 x :: .int .i64 y :: u4 :: u5 :: u6 :: u7 :: u8 :: u9 :: u10 :: u11 :: .int .u64 b :: .bool right :: .int .u64 M :: .bool zero :: .bool one :: .bool all :: .bool left :: .bool equal :: u20 :: u21 :: u22 :: u23 :: u24 :: u25 :: u26 :: u27 :: u28 :: u29 :: u30 :: u31 :: u32 :: u33 :: u34 :: u35 :: u36 :: u37 :: u38 :: u39 :: u40 :: u41 :: u42 :: u43 :: u44 :: u45 :: u46 :: u47 :: u48 :: u49 :: u50 :: u51 :: u52 :: u53 :: u54 :: u55 :: u56 :: u57 :: u58 :: u59 :: u60 :: u61 :: u62 :: u63 :: u64 :: u65 :: u66 :: u67 :: u68 :: u69 :: u70 :: u71 :: u72 :: u73 :: u74 :: u75 :: u76 :: u77 :: u78 :: u79 :: u80 :: u81 :: u82 :: u83 :: u84 :: u85 :: u86 :: u87 :: u88 :: u89 :: u90 :: u91 :: u92 :: u93 :: u94 :: u95 :: u96 :: u97 :: u98 :: u99 :: u100 :: u101 :: u102 :: u103 :: u104 :: u105 :: u106 :: u107 :: u108 :: u109 :: u110 :: u111 :: u112 :: u113 :: u114 :: u115 :: u116 :: u117 :: u118 :: u119 :: u120 :: u121 :: u122 :: u123 :: u124 :: u125 :: u126 :: u127 :: u128 :: u129 :: u130 :: u131 :: u132 :: u133 :: u134 :: u135 :: u136 :: u137 :: u138 :: u139 :: u140 :: u141 :: u142 :: u143 :: u144 :: u145 :: u146 :: u147 :: u148 :: u149 :: u150 :: u151 :: u152 :: u153 :: u154 :: u155 :: u156 :: u157 :: u158 :: u159 :: u160 :: u161 :: u162 :: u163 :: u164 :: u165 :: u166 :: u167 :: u168 :: u169 :: u170 :: u171 :: u172 :: u173 :: u174 :: u175 :: u176 :: u177 :: u178 :: u179 :: u180 :: u181 :: u182 :: u183 :: u184 :: u185 :: u186 :: u187 :: u188 :: u189 :: u190 :: u191 :: u192 :: u193 :: u194 :: u195 :: u196 :: u197 :: u198 :: [])), []⟩ w := by
  obtain ⟨a, cap, c0, -, -, hl⟩ := h.parts
  have hw2 := h.w2
  have HG := Lib.hid h; have HM := Lib.hid hM
  clear h hM
  conv => arg 2; whnf
  clear _hbig c0 hl
  cases equal with
  | true =>
    rw [show twoB W L M 16 (x : Int) y zero one all left true big = .num 0 from rfl]
    go_wp2_with fail
    go_at_call 64
    refine (rconst_any HG.out 0 (by decide)).mono ?_
    intro e w4 hp
    obtain ⟨F', I', rfl, hrest⟩ := hp
    have HQ := Lib.hid hrest
    clear hrest
    go_wp2
    go_ret2
    exact ⟨F', I', rfl, HQ.out⟩
  | false =>
    rw [show twoB W L M 16 (x : Int) y zero one all left false big = .app 16 [x, y] from rfl]
    go_wp2_with fail
    go_at_call 66
    refine (rapp_any (HG.out.later (below_new w (.cells (([(x : Int), y].map (Value.int .i64)).toArray) 3))) 16 (by decide) [(x : Int), y] _ (sliceOf_new w .i64 3 [(x : Int), y] 2)).mono ?_
    intro e w4 hp
    obtain ⟨F', I', rfl, hrest⟩ := hp.later (below_new w _)
    have HQ := Lib.hid hrest
    clear hp hrest
    go_wp2
    go_ret2
    exact ⟨F', I', rfl, HQ.out⟩
set_option maxRecDepth 100000 in
theorem rtwo_tail17 {u4 u5 u6 u7 u8 u9 u10 u11 u20 u21 u22 u23 u24 u25 u26 u27 u28 u29 u30 u31 u32 u33 u34 u35 u36 u37 u38 u39 u40 u41 u42 u43 u44 u45 u46 u47 u48 u49 u50 u51 u52 u53 u54 u55 u56 u57 u58 u59 u60 u61 u62 u63 u64 u65 u66 u67 u68 u69 u70 u71 u72 u73 u74 u75 u76 u77 u78 u79 u80 u81 u82 u83 u84 u85 u86 u87 u88 u89 u90 u91 u92 u93 u94 u95 u96 u97 u98 u99 u100 u101 u102 u103 u104 u105 u106 u107 u108 u109 u110 u111 u112 u113 u114 u115 u116 u117 u118 u119 u120 u121 u122 u123 u124 u125 u126 u127 u128 u129 u130 u131 u132 u133 u134 u135 u136 u137 u138 u139 u140 u141 u142 u143 u144 u145 u146 u147 u148 u149 u150 u151 u152 u153 u154 u155 u156 u157 u158 u159 u160 u161 u162 u163 u164 u165 u166 u167 u168 u169 u170 u171 u172 u173 u174 u175 u176 u177 u178 u179 u180 u181 u182 u183 u184 u185 u186 u187 u188 u189 u190 u191 u192 u193 u194 u195 u196 u197 u198 : Value} {zero one all left equal big right : Bool} {x y b M : Nat} (h : RGr w base F I rb W room L) (hM : M < 18446744073709551616) (_hbig : big = (right && decide (W ≤ b))) :
    Code.wp Try.prog twoRest7 (bodyPost Try.prog Try.f73 (RPost w base F I rb W room ((twoB W L M 17 x y zero one all left equal big).res W room L))) ⟨(List.toArray (.pointer (some ⟨rb, 0, none⟩) :: .int .u8 17 :: .int .i64 x :: .int .i64 y :: u4 :: u5 :: u6 :: u7 :: u8 :: u9 :: u10 :: u11 :: .int .u64 b :: .bool right :: .int .u64 M :: .bool zero :: .bool one :: .bool all :: .bool left :: .bool equal :: u20 :: u21 :: u22 :: u23 :: u24 :: u25 :: u26 :: u27 :: u28 :: u29 :: u30 :: u31 :: u32 :: u33 :: u34 :: u35 :: u36 :: u37 :: u38 :: u39 :: u40 :: u41 :: u42 :: u43 :: u44 :: u45 :: u46 :: u47 :: u48 :: u49 :: u50 :: u51 :: u52 :: u53 :: u54 :: u55 :: u56 :: u57 :: u58 :: u59 :: u60 :: u61 :: u62 :: u63 :: u64 :: u65 :: u66 :: u67 :: u68 :: u69 :: u70 :: u71 :: u72 :: u73 :: u74 :: u75 :: u76 :: u77 :: u78 :: u79 :: u80 :: u81 :: u82 :: u83 :: u84 :: u85 :: u86 :: u87 :: u88 :: u89 :: u90 :: u91 :: u92 :: u93 :: u94 :: u95 :: u96 :: u97 :: u98 :: u99 :: u100 :: u101 :: u102 :: u103 :: u104 :: u105 :: u106 :: u107 :: u108 :: u109 :: u110 :: u111 :: u112 :: u113 :: u114 :: u115 :: u116 :: u117 :: u118 :: u119 :: u120 :: u121 :: u122 :: u123 :: u124 :: u125 :: u126 :: u127 :: u128 :: u129 :: u130 :: u131 :: u132 :: u133 :: u134 :: u135 :: u136 :: u137 :: u138 :: u139 :: u140 :: u141 :: u142 :: u143 :: u144 :: u145 :: u146 :: u147 :: u148 :: u149 :: u150 :: u151 :: u152 :: u153 :: u154 :: u155 :: u156 :: u157 :: u158 :: u159 :: u160 :: u161 :: u162 :: u163 :: u164 :: u165 :: u166 :: u167 :: u168 :: u169 :: u170 :: u171 :: u172 :: u173 :: u174 :: u175 :: u176 :: u177 :: u178 :: u179 :: u180 :: u181 :: u182 :: u183 :: u184 :: u185 :: u186 :: u187 :: u188 :: u189 :: u190 :: u191 :: u192 :: u193 :: u194 :: u195 :: u196 :: u197 :: u198 :: [])), []⟩ w := by
  obtain ⟨a, cap, c0, -, -, hl⟩ := h.parts
  have hw2 := h.w2
  have HG := Lib.hid h; have HM := Lib.hid hM
  clear h hM
  conv => arg 2; whnf
  clear _hbig c0 hl
  cases equal with
  | true =>
    rw [show twoB W L M 17 (x : Int) y zero one all left true big = .num 0 from rfl]
    go_wp2_with fail
    go_at_call 64
    refine (rconst_any HG.out 0 (by decide)).mono ?_
    intro e w4 hp
    obtain ⟨F', I', rfl, hrest⟩ := hp
    have HQ := Lib.hid hrest
    clear hrest
    go_wp2
    go_ret2
    exact ⟨F', I', rfl, HQ.out⟩
  | false =>
    cases zero with
    | true =>
      rw [show twoB W L M 17 (x : Int) y true one all left false big = .num 0 from rfl]
      go_wp2_with fail
      go_at_call 64
      refine (rconst_any HG.out 0 (by decide)).mono ?_
      intro e w4 hp
      obtain ⟨F', I', rfl, hrest⟩ := hp
      have HQ := Lib.hid hrest
      clear hrest
      go_wp2
      go_ret2
      exact ⟨F', I', rfl, HQ.out⟩
    | false =>
      rw [show twoB W L M 17 (x : Int) y false one all left false big = .app 17 [x, y] from rfl]
      go_wp2_with fail
      go_at_call 66
      refine (rapp_any (HG.out.later (below_new w (.cells (([(x : Int), y].map (Value.int .i64)).toArray) 3))) 17 (by decide) [(x : Int), y] _ (sliceOf_new w .i64 3 [(x : Int), y] 2)).mono ?_
      intro e w4 hp
      obtain ⟨F', I', rfl, hrest⟩ := hp.later (below_new w _)
      have HQ := Lib.hid hrest
      clear hp hrest
      go_wp2
      go_ret2
      exact ⟨F', I', rfl, HQ.out⟩
set_option maxRecDepth 100000 in
theorem rtwo_tail18 {u4 u5 u6 u7 u8 u9 u10 u11 u20 u21 u22 u23 u24 u25 u26 u27 u28 u29 u30 u31 u32 u33 u34 u35 u36 u37 u38 u39 u40 u41 u42 u43 u44 u45 u46 u47 u48 u49 u50 u51 u52 u53 u54 u55 u56 u57 u58 u59 u60 u61 u62 u63 u64 u65 u66 u67 u68 u69 u70 u71 u72 u73 u74 u75 u76 u77 u78 u79 u80 u81 u82 u83 u84 u85 u86 u87 u88 u89 u90 u91 u92 u93 u94 u95 u96 u97 u98 u99 u100 u101 u102 u103 u104 u105 u106 u107 u108 u109 u110 u111 u112 u113 u114 u115 u116 u117 u118 u119 u120 u121 u122 u123 u124 u125 u126 u127 u128 u129 u130 u131 u132 u133 u134 u135 u136 u137 u138 u139 u140 u141 u142 u143 u144 u145 u146 u147 u148 u149 u150 u151 u152 u153 u154 u155 u156 u157 u158 u159 u160 u161 u162 u163 u164 u165 u166 u167 u168 u169 u170 u171 u172 u173 u174 u175 u176 u177 u178 u179 u180 u181 u182 u183 u184 u185 u186 u187 u188 u189 u190 u191 u192 u193 u194 u195 u196 u197 u198 : Value} {zero one all left equal big right : Bool} {x y b M : Nat} (h : RGr w base F I rb W room L) (hM : M < 18446744073709551616) (_hbig : big = (right && decide (W ≤ b))) :
    Code.wp Try.prog twoRest7 (bodyPost Try.prog Try.f73 (RPost w base F I rb W room ((twoB W L M 18 x y zero one all left equal big).res W room L))) ⟨(List.toArray (.pointer (some ⟨rb, 0, none⟩) :: .int .u8 18 :: .int .i64 x :: .int .i64 y :: u4 :: u5 :: u6 :: u7 :: u8 :: u9 :: u10 :: u11 :: .int .u64 b :: .bool right :: .int .u64 M :: .bool zero :: .bool one :: .bool all :: .bool left :: .bool equal :: u20 :: u21 :: u22 :: u23 :: u24 :: u25 :: u26 :: u27 :: u28 :: u29 :: u30 :: u31 :: u32 :: u33 :: u34 :: u35 :: u36 :: u37 :: u38 :: u39 :: u40 :: u41 :: u42 :: u43 :: u44 :: u45 :: u46 :: u47 :: u48 :: u49 :: u50 :: u51 :: u52 :: u53 :: u54 :: u55 :: u56 :: u57 :: u58 :: u59 :: u60 :: u61 :: u62 :: u63 :: u64 :: u65 :: u66 :: u67 :: u68 :: u69 :: u70 :: u71 :: u72 :: u73 :: u74 :: u75 :: u76 :: u77 :: u78 :: u79 :: u80 :: u81 :: u82 :: u83 :: u84 :: u85 :: u86 :: u87 :: u88 :: u89 :: u90 :: u91 :: u92 :: u93 :: u94 :: u95 :: u96 :: u97 :: u98 :: u99 :: u100 :: u101 :: u102 :: u103 :: u104 :: u105 :: u106 :: u107 :: u108 :: u109 :: u110 :: u111 :: u112 :: u113 :: u114 :: u115 :: u116 :: u117 :: u118 :: u119 :: u120 :: u121 :: u122 :: u123 :: u124 :: u125 :: u126 :: u127 :: u128 :: u129 :: u130 :: u131 :: u132 :: u133 :: u134 :: u135 :: u136 :: u137 :: u138 :: u139 :: u140 :: u141 :: u142 :: u143 :: u144 :: u145 :: u146 :: u147 :: u148 :: u149 :: u150 :: u151 :: u152 :: u153 :: u154 :: u155 :: u156 :: u157 :: u158 :: u159 :: u160 :: u161 :: u162 :: u163 :: u164 :: u165 :: u166 :: u167 :: u168 :: u169 :: u170 :: u171 :: u172 :: u173 :: u174 :: u175 :: u176 :: u177 :: u178 :: u179 :: u180 :: u181 :: u182 :: u183 :: u184 :: u185 :: u186 :: u187 :: u188 :: u189 :: u190 :: u191 :: u192 :: u193 :: u194 :: u195 :: u196 :: u197 :: u198 :: [])), []⟩ w := by
  obtain ⟨a, cap, c0, -, -, hl⟩ := h.parts
  have hw2 := h.w2
  have HG := Lib.hid h; have HM := Lib.hid hM
  clear h hM
  conv => arg 2; whnf
  clear _hbig c0 hl
  cases equal with
  | true =>
    rw [show twoB W L M 18 (x : Int) y zero one all left true big = .num 1 from rfl]
    go_wp2_with fail
    go_at_call 64
    refine (rconst_any HG.out 1 (by decide)).mono ?_
    intro e w4 hp
    obtain ⟨F', I', rfl, hrest⟩ := hp
    have HQ := Lib.hid hrest
    clear hrest
    go_wp2
    go_ret2
    exact ⟨F', I', rfl, HQ.out⟩
  | false =>
    cases left with
    | true =>
      rw [show twoB W L M 18 (x : Int) y zero one all true false big = .num 1 from rfl]
      go_wp2_with fail
      go_at_call 64
      refine (rconst_any HG.out 1 (by decide)).mono ?_
      intro e w4 hp
      obtain ⟨F', I', rfl, hrest⟩ := hp
      have HQ := Lib.hid hrest
      clear hrest
      go_wp2
      go_ret2
      exact ⟨F', I', rfl, HQ.out⟩
    | false =>
      rw [show twoB W L M 18 (x : Int) y zero one all false false big = .app 18 [x, y] from rfl]
      go_wp2_with fail
      go_at_call 66
      refine (rapp_any (HG.out.later (below_new w (.cells (([(x : Int), y].map (Value.int .i64)).toArray) 3))) 18 (by decide) [(x : Int), y] _ (sliceOf_new w .i64 3 [(x : Int), y] 2)).mono ?_
      intro e w4 hp
      obtain ⟨F', I', rfl, hrest⟩ := hp.later (below_new w _)
      have HQ := Lib.hid hrest
      clear hp hrest
      go_wp2
      go_ret2
      exact ⟨F', I', rfl, HQ.out⟩
set_option maxRecDepth 100000 in
theorem rtwo_tail19 {u4 u5 u6 u7 u8 u9 u10 u11 u20 u21 u22 u23 u24 u25 u26 u27 u28 u29 u30 u31 u32 u33 u34 u35 u36 u37 u38 u39 u40 u41 u42 u43 u44 u45 u46 u47 u48 u49 u50 u51 u52 u53 u54 u55 u56 u57 u58 u59 u60 u61 u62 u63 u64 u65 u66 u67 u68 u69 u70 u71 u72 u73 u74 u75 u76 u77 u78 u79 u80 u81 u82 u83 u84 u85 u86 u87 u88 u89 u90 u91 u92 u93 u94 u95 u96 u97 u98 u99 u100 u101 u102 u103 u104 u105 u106 u107 u108 u109 u110 u111 u112 u113 u114 u115 u116 u117 u118 u119 u120 u121 u122 u123 u124 u125 u126 u127 u128 u129 u130 u131 u132 u133 u134 u135 u136 u137 u138 u139 u140 u141 u142 u143 u144 u145 u146 u147 u148 u149 u150 u151 u152 u153 u154 u155 u156 u157 u158 u159 u160 u161 u162 u163 u164 u165 u166 u167 u168 u169 u170 u171 u172 u173 u174 u175 u176 u177 u178 u179 u180 u181 u182 u183 u184 u185 u186 u187 u188 u189 u190 u191 u192 u193 u194 u195 u196 u197 u198 : Value} {zero one all left equal big right : Bool} {x y b M : Nat} (h : RGr w base F I rb W room L) (hM : M < 18446744073709551616) (_hbig : big = (right && decide (W ≤ b))) :
    Code.wp Try.prog twoRest7 (bodyPost Try.prog Try.f73 (RPost w base F I rb W room ((twoB W L M 19 x y zero one all left equal big).res W room L))) ⟨(List.toArray (.pointer (some ⟨rb, 0, none⟩) :: .int .u8 19 :: .int .i64 x :: .int .i64 y :: u4 :: u5 :: u6 :: u7 :: u8 :: u9 :: u10 :: u11 :: .int .u64 b :: .bool right :: .int .u64 M :: .bool zero :: .bool one :: .bool all :: .bool left :: .bool equal :: u20 :: u21 :: u22 :: u23 :: u24 :: u25 :: u26 :: u27 :: u28 :: u29 :: u30 :: u31 :: u32 :: u33 :: u34 :: u35 :: u36 :: u37 :: u38 :: u39 :: u40 :: u41 :: u42 :: u43 :: u44 :: u45 :: u46 :: u47 :: u48 :: u49 :: u50 :: u51 :: u52 :: u53 :: u54 :: u55 :: u56 :: u57 :: u58 :: u59 :: u60 :: u61 :: u62 :: u63 :: u64 :: u65 :: u66 :: u67 :: u68 :: u69 :: u70 :: u71 :: u72 :: u73 :: u74 :: u75 :: u76 :: u77 :: u78 :: u79 :: u80 :: u81 :: u82 :: u83 :: u84 :: u85 :: u86 :: u87 :: u88 :: u89 :: u90 :: u91 :: u92 :: u93 :: u94 :: u95 :: u96 :: u97 :: u98 :: u99 :: u100 :: u101 :: u102 :: u103 :: u104 :: u105 :: u106 :: u107 :: u108 :: u109 :: u110 :: u111 :: u112 :: u113 :: u114 :: u115 :: u116 :: u117 :: u118 :: u119 :: u120 :: u121 :: u122 :: u123 :: u124 :: u125 :: u126 :: u127 :: u128 :: u129 :: u130 :: u131 :: u132 :: u133 :: u134 :: u135 :: u136 :: u137 :: u138 :: u139 :: u140 :: u141 :: u142 :: u143 :: u144 :: u145 :: u146 :: u147 :: u148 :: u149 :: u150 :: u151 :: u152 :: u153 :: u154 :: u155 :: u156 :: u157 :: u158 :: u159 :: u160 :: u161 :: u162 :: u163 :: u164 :: u165 :: u166 :: u167 :: u168 :: u169 :: u170 :: u171 :: u172 :: u173 :: u174 :: u175 :: u176 :: u177 :: u178 :: u179 :: u180 :: u181 :: u182 :: u183 :: u184 :: u185 :: u186 :: u187 :: u188 :: u189 :: u190 :: u191 :: u192 :: u193 :: u194 :: u195 :: u196 :: u197 :: u198 :: [])), []⟩ w := by
  obtain ⟨a, cap, c0, -, -, hl⟩ := h.parts
  have hw2 := h.w2
  have HG := Lib.hid h; have HM := Lib.hid hM
  clear h hM
  conv => arg 2; whnf
  clear _hbig c0 hl
  cases equal with
  | true =>
    rw [show twoB W L M 19 (x : Int) y zero one all left true big = .num 0 from rfl]
    go_wp2_with fail
    go_at_call 64
    refine (rconst_any HG.out 0 (by decide)).mono ?_
    intro e w4 hp
    obtain ⟨F', I', rfl, hrest⟩ := hp
    have HQ := Lib.hid hrest
    clear hrest
    go_wp2
    go_ret2
    exact ⟨F', I', rfl, HQ.out⟩
  | false =>
    rw [show twoB W L M 19 (x : Int) y zero one all left false big = .app 19 [x, y] from rfl]
    go_wp2_with fail
    go_at_call 66
    refine (rapp_any (HG.out.later (below_new w (.cells (([(x : Int), y].map (Value.int .i64)).toArray) 3))) 19 (by decide) [(x : Int), y] _ (sliceOf_new w .i64 3 [(x : Int), y] 2)).mono ?_
    intro e w4 hp
    obtain ⟨F', I', rfl, hrest⟩ := hp.later (below_new w _)
    have HQ := Lib.hid hrest
    clear hp hrest
    go_wp2
    go_ret2
    exact ⟨F', I', rfl, HQ.out⟩
set_option maxRecDepth 100000 in
theorem rtwo_tail20 {u4 u5 u6 u7 u8 u9 u10 u11 u20 u21 u22 u23 u24 u25 u26 u27 u28 u29 u30 u31 u32 u33 u34 u35 u36 u37 u38 u39 u40 u41 u42 u43 u44 u45 u46 u47 u48 u49 u50 u51 u52 u53 u54 u55 u56 u57 u58 u59 u60 u61 u62 u63 u64 u65 u66 u67 u68 u69 u70 u71 u72 u73 u74 u75 u76 u77 u78 u79 u80 u81 u82 u83 u84 u85 u86 u87 u88 u89 u90 u91 u92 u93 u94 u95 u96 u97 u98 u99 u100 u101 u102 u103 u104 u105 u106 u107 u108 u109 u110 u111 u112 u113 u114 u115 u116 u117 u118 u119 u120 u121 u122 u123 u124 u125 u126 u127 u128 u129 u130 u131 u132 u133 u134 u135 u136 u137 u138 u139 u140 u141 u142 u143 u144 u145 u146 u147 u148 u149 u150 u151 u152 u153 u154 u155 u156 u157 u158 u159 u160 u161 u162 u163 u164 u165 u166 u167 u168 u169 u170 u171 u172 u173 u174 u175 u176 u177 u178 u179 u180 u181 u182 u183 u184 u185 u186 u187 u188 u189 u190 u191 u192 u193 u194 u195 u196 u197 u198 : Value} {zero one all left equal big right : Bool} {x y b M : Nat} (h : RGr w base F I rb W room L) (hM : M < 18446744073709551616) (_hbig : big = (right && decide (W ≤ b))) :
    Code.wp Try.prog twoRest7 (bodyPost Try.prog Try.f73 (RPost w base F I rb W room ((twoB W L M 20 x y zero one all left equal big).res W room L))) ⟨(List.toArray (.pointer (some ⟨rb, 0, none⟩) :: .int .u8 20 :: .int .i64 x :: .int .i64 y :: u4 :: u5 :: u6 :: u7 :: u8 :: u9 :: u10 :: u11 :: .int .u64 b :: .bool right :: .int .u64 M :: .bool zero :: .bool one :: .bool all :: .bool left :: .bool equal :: u20 :: u21 :: u22 :: u23 :: u24 :: u25 :: u26 :: u27 :: u28 :: u29 :: u30 :: u31 :: u32 :: u33 :: u34 :: u35 :: u36 :: u37 :: u38 :: u39 :: u40 :: u41 :: u42 :: u43 :: u44 :: u45 :: u46 :: u47 :: u48 :: u49 :: u50 :: u51 :: u52 :: u53 :: u54 :: u55 :: u56 :: u57 :: u58 :: u59 :: u60 :: u61 :: u62 :: u63 :: u64 :: u65 :: u66 :: u67 :: u68 :: u69 :: u70 :: u71 :: u72 :: u73 :: u74 :: u75 :: u76 :: u77 :: u78 :: u79 :: u80 :: u81 :: u82 :: u83 :: u84 :: u85 :: u86 :: u87 :: u88 :: u89 :: u90 :: u91 :: u92 :: u93 :: u94 :: u95 :: u96 :: u97 :: u98 :: u99 :: u100 :: u101 :: u102 :: u103 :: u104 :: u105 :: u106 :: u107 :: u108 :: u109 :: u110 :: u111 :: u112 :: u113 :: u114 :: u115 :: u116 :: u117 :: u118 :: u119 :: u120 :: u121 :: u122 :: u123 :: u124 :: u125 :: u126 :: u127 :: u128 :: u129 :: u130 :: u131 :: u132 :: u133 :: u134 :: u135 :: u136 :: u137 :: u138 :: u139 :: u140 :: u141 :: u142 :: u143 :: u144 :: u145 :: u146 :: u147 :: u148 :: u149 :: u150 :: u151 :: u152 :: u153 :: u154 :: u155 :: u156 :: u157 :: u158 :: u159 :: u160 :: u161 :: u162 :: u163 :: u164 :: u165 :: u166 :: u167 :: u168 :: u169 :: u170 :: u171 :: u172 :: u173 :: u174 :: u175 :: u176 :: u177 :: u178 :: u179 :: u180 :: u181 :: u182 :: u183 :: u184 :: u185 :: u186 :: u187 :: u188 :: u189 :: u190 :: u191 :: u192 :: u193 :: u194 :: u195 :: u196 :: u197 :: u198 :: [])), []⟩ w := by
  obtain ⟨a, cap, c0, -, -, hl⟩ := h.parts
  have hw2 := h.w2
  have HG := Lib.hid h; have HM := Lib.hid hM
  clear h hM
  conv => arg 2; whnf
  clear _hbig c0 hl
  cases equal with
  | true =>
    rw [show twoB W L M 20 (x : Int) y zero one all left true big = .num 1 from rfl]
    go_wp2_with fail
    go_at_call 64
    refine (rconst_any HG.out 1 (by decide)).mono ?_
    intro e w4 hp
    obtain ⟨F', I', rfl, hrest⟩ := hp
    have HQ := Lib.hid hrest
    clear hrest
    go_wp2
    go_ret2
    exact ⟨F', I', rfl, HQ.out⟩
  | false =>
    rw [show twoB W L M 20 (x : Int) y zero one all left false big = .app 20 [x, y] from rfl]
    go_wp2_with fail
    go_at_call 66
    refine (rapp_any (HG.out.later (below_new w (.cells (([(x : Int), y].map (Value.int .i64)).toArray) 3))) 20 (by decide) [(x : Int), y] _ (sliceOf_new w .i64 3 [(x : Int), y] 2)).mono ?_
    intro e w4 hp
    obtain ⟨F', I', rfl, hrest⟩ := hp.later (below_new w _)
    have HQ := Lib.hid hrest
    clear hp hrest
    go_wp2
    go_ret2
    exact ⟨F', I', rfl, HQ.out⟩
end
end Go.Proofs.Ytcpgiadhmmmafaa
