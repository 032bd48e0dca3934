/- Package simp: App: the arguments of an operator that commutes are exchanged. -/
import Derived.Test.YtcpgiadhmmmafaaSimpI
import Derived.Test.YtcpgiadhmmmafaaComm
import Derived.Deep.DeepCutAuto
import Derived.BigQuiet
import Derived.Deep.QuietTactic
namespace Go.Proofs.Ytcpgiadhmmmafaa
open Go.RowKit Go.Maps
set_option maxHeartbeats 1600000

noncomputable def appRest19 : Code := (Try.f26.body.bind (tailAt 19)).getD .skip
/-- The things of an operator with its arguments. -/
def askThings (xb gb ab ca nb ib n o : Nat) (fa fn fi : Nat → Value) : List Thing :=
  [Thing.box xb 117 #[.pointer (some ⟨gb, 0, none⟩), .int .u8 o, .slice (some ⟨ab, 0, none⟩) n ca, .slice (some ⟨nb, 0, none⟩) n n, .slice (some ⟨ib, 0, none⟩) n n],
    Thing.fn ab 3 ca fa, Thing.fn nb 22 n fn, Thing.fn ib 4 n fi]
structure AskedL (w wr : World) (xb gb ab ca nb ib n : Nat) (L : List PNode) (o : Nat) (xs : List Int) : Prop where
  len : xs.length = n
  nlt : n ≤ 3
  ncap : n ≤ ca
  lab : ∃ fa fn fi : Nat → Value, (∀ i, i < n → fa i = .int .i64 (xs.getD i 0) ∧ fn i = .int .u64 (numD L (xs.getD i 0)) ∧ fi i = .bool (isNum L (xs.getD i 0))) ∧ Lab w wr (askThings xb gb ab ca nb ib n o fa fn fi)
section
variable {w wr w' : World} {xb gb ab ca nb ib n o : Nat} {L : List PNode} {xs : List Int} {fa fn fi : Nat → Value}
theorem AskedL.below (h : AskedL w wr xb gb ab ca nb ib n L o xs) : Below w.heap.size w wr := by
  obtain ⟨_, _, _, -, hl⟩ := h.lab; exact hl.below
theorem AskedL.later (h : AskedL w wr xb gb ab ca nb ib n L o xs) (hb : Below wr.heap.size wr w') : AskedL w w' xb gb ab ca nb ib n L o xs := by
  obtain ⟨_, _, _, hf, hl⟩ := h.lab
  exact ⟨h.len, h.nlt, h.ncap, _, _, _, hf, hl.later hb⟩
theorem ask_head (hl : Lab w wr (askThings xb gb ab ca nb ib n o fa fn fi)) : wr.cell? ⟨xb, 0, none⟩ = some (.pointer (some ⟨gb, 0, none⟩)) ∧ wr.cell? ⟨xb, 1, none⟩ = some (.int .u8 o) ∧ wr.cell? ⟨xb, 2, none⟩ = some (.slice (some ⟨ab, 0, none⟩) n ca) ∧ wr.cell? ⟨xb, 3, none⟩ = some (.slice (some ⟨nb, 0, none⟩) n n) ∧ wr.cell? ⟨xb, 4, none⟩ = some (.slice (some ⟨ib, 0, none⟩) n n) := by
  have b := hl.box1
  exact ⟨by rw [cell_of_row wr _ 0 _ _ _ b]; rfl, by rw [cell_of_row wr _ 1 _ _ _ b]; rfl, by rw [cell_of_row wr _ 2 _ _ _ b]; rfl, by rw [cell_of_row wr _ 3 _ _ _ b]; rfl, by rw [cell_of_row wr _ 4 _ _ _ b]; rfl⟩
theorem AskedL.asked (h : AskedL w wr xb gb ab ca nb ib n L o xs) : Asked wr xb gb ab ca nb ib n L o xs := by
  obtain ⟨fa, fn, fi, hf, hl⟩ := h.lab
  obtain ⟨c0, c1, c2, c3, c4⟩ := ask_head hl
  exact ⟨h.len, h.nlt, h.ncap, c0, c1, c2, c3, c4,
    fun i hi => by rw [hl.fn2.cell (Nat.lt_of_lt_of_le hi h.ncap), (hf i hi).1], fun i hi => by rw [hl.fn3.cell hi, (hf i hi).2.1], fun i hi => by rw [hl.fn4.cell hi, (hf i hi).2.2]⟩
theorem ask_set_a (hl : Lab w wr (askThings xb gb ab ca nb ib n o fa fn fi)) (i : Nat) (v : Value) : Lab w (wr.setCell ⟨ab, i, none⟩ v) (askThings xb gb ab ca nb ib n o (fun j => if j = i then v else fa j) fn fi) :=
  (hl.swap.set i v).swap
theorem ask_set_n (hl : Lab w wr (askThings xb gb ab ca nb ib n o fa fn fi)) (i : Nat) (v : Value) : Lab w (wr.setCell ⟨nb, i, none⟩ v) (askThings xb gb ab ca nb ib n o fa (fun j => if j = i then v else fn j) fi) :=
  (hl.rot3.set i v).rot3'
theorem ask_set_i (hl : Lab w wr (askThings xb gb ab ca nb ib n o fa fn fi)) (i : Nat) (v : Value) : Lab w (wr.setCell ⟨ib, i, none⟩ v) (askThings xb gb ab ca nb ib n o fa fn (fun j => if j = i then v else fi j)) :=
  (hl.rot4.set i v).rot4.rot4.rot4
theorem ask_cells (hl : Lab w wr (askThings xb gb ab ca nb ib n o fa fn fi)) {i : Nat} (hi : i < n) (hc : n ≤ ca) : wr.cell? ⟨ab, i, none⟩ = some (fa i) ∧ wr.cell? ⟨nb, i, none⟩ = some (fn i) ∧ wr.cell? ⟨ib, i, none⟩ = some (fi i) :=
  ⟨hl.fn2.cell (Nat.lt_of_lt_of_le hi hc), hl.fn3.cell hi, hl.fn4.cell hi⟩
end
section
variable {w wr : World} {base : Nat} {F I : List Nat} {gb W room : Nat} {L : List PNode} {xb ab ca nb ib n o : Nat} {xs : List Int}
/-- The rules' answer to arguments in their order. -/
def firstR (W room : Nat) (L : List PNode) (o : Nat) (ys : List Int) : List PNode × Nat × Nat := (firstA W L o (ys.getD 0 0) (ys.getD 1 0) (ys.getD 2 0) ys (rulesOf o)).res W room L
/-- Arguments in their order. -/
def ordA (L : List PNode) (o : Nat) : List Int → List Int
  | [x, y] => if swapA L o x y then [y, x] else [x, y]
  | xs => xs
set_option maxRecDepth 100000 in
theorem sapp_swap {u2 u3 u4 u5 u6 u7 u8 u9 u11 u12 u13 u14 u15 u16 u17 u18 u19 u20 u21 u22 u23 u24 u25 u26 u27 u28 u29 u30 u31 u32 u33 u34 u35 u36 u37 u38 u39 u40 u41 u42 u43 u44 u45 u46 u47 u48 u49 u50 u51 u52 u53 u54 u55 u56 u57 u58 u59 u60 u61 u62 u63 u64 u65 u66 u67 u68 u69 u70 u71 u72 u73 u74 u75 u76 u77 u78 u79 u80 u81 u82 u83 u84 u85 u86 u87 u88 u89 u90 u91 u92 u93 u94 u95 u96 u97 u98 u99 u100 u101 u102 u103 u104 u105 u106 u107 u108 u109 u110 u111 u112 u113 u114 u115 u116 u117 u118 u119 u120 u121 u122 u123 u124 u125 u126 u127 u128 u129 u130 u131 u132 u133 u134 u135 u136 u137 u138 u139 u140 u141 u142 u143 u144 u145 u146 u147 u148 u149 u150 u151 u152 u153 u154 u155 u156 u157 u158 u159 u160 u161 u162 u163 u164 u165 u166 u167 u168 u169 u170 u171 u172 u173 u174 u175 u176 u177 u178 u179 u180 u181 u182 u183 u184 u185 u186 u187 u188 u189 u190 u191 u192 u193 u194 u195 u196 u197 u198 u199 u200 u201 u202 u203 u204 u205 u206 u207 u208 u209 u210 u211 u212 u213 u214 u215 u216 u217 u218 u219 u220 u221 u222 u223 u224 u225 u226 u227 u228 u229 u230 u231 u232 u233 u234 u235 u236 u237 u238 u239 u240 u241 u242 u243 u244 u245 u246 u247 u248 u249 u250 u251 u252 u253 : Value} (h : Gr w base F I gb W room L) (ha : AskedL w wr xb gb ab ca nb ib n L o xs) (ho1 : 2 ≤ o) (ho2 : o ≤ 21) (hl : aryN o = n) (hys : ∀ t ∈ xs, (0 : Int) ≤ t ∧ t < (L.length : Int)) (hnn : ¬ ∀ t ∈ xs, isNum L t = true)
    (hrec : o = 11 → ∀ (x : Int) (w2 : World) (va : Value), 0 ≤ x → x < (L.length : Int) → isNum L x = false → SliceOf w2 .i64 va [x] → Gr w2 base F I gb W room L → Calls Try.prog 26 #[.pointer (some ⟨gb, 0, none⟩), .int .u8 2, va] w2 (GPost w2 base F I gb W room ((oneA L 2 x).res W room L))) :
    Code.wp Try.prog appRest19 (bodyPost Try.prog Try.f26 (GPost w base F I gb W room (firstR W room L o (ordA L o xs)))) ⟨(List.toArray (.pointer (some ⟨gb, 0, none⟩) :: .int .u8 o :: u2 :: u3 :: u4 :: u5 :: u6 :: u7 :: u8 :: u9 :: .pointer (some ⟨xb, 0, none⟩) :: u11 :: u12 :: u13 :: u14 :: u15 :: u16 :: u17 :: u18 :: u19 :: u20 :: u21 :: u22 :: u23 :: u24 :: u25 :: u26 :: u27 :: u28 :: u29 :: u30 :: u31 :: u32 :: u33 :: u34 :: u35 :: u36 :: u37 :: u38 :: u39 :: u40 :: u41 :: u42 :: u43 :: u44 :: u45 :: u46 :: u47 :: u48 :: u49 :: u50 :: u51 :: u52 :: u53 :: u54 :: u55 :: u56 :: u57 :: u58 :: u59 :: u60 :: u61 :: u62 :: u63 :: u64 :: u65 :: u66 :: u67 :: u68 :: u69 :: u70 :: u71 :: u72 :: u73 :: u74 :: u75 :: u76 :: u77 :: u78 :: u79 :: u80 :: u81 :: u82 :: u83 :: u84 :: u85 :: u86 :: u87 :: u88 :: u89 :: u90 :: u91 :: u92 :: u93 :: u94 :: u95 :: u96 :: u97 :: u98 :: u99 :: u100 :: u101 :: u102 :: u103 :: u104 :: u105 :: u106 :: u107 :: u108 :: u109 :: u110 :: u111 :: u112 :: u113 :: u114 :: u115 :: u116 :: u117 :: u118 :: u119 :: u120 :: u121 :: u122 :: u123 :: u124 :: u125 :: u126 :: u127 :: u128 :: u129 :: u130 :: u131 :: u132 :: u133 :: u134 :: u135 :: u136 :: u137 :: u138 :: u139 :: u140 :: u141 :: u142 :: u143 :: u144 :: u145 :: u146 :: u147 :: u148 :: u149 :: u150 :: u151 :: u152 :: u153 :: u154 :: u155 :: u156 :: u157 :: u158 :: u159 :: u160 :: u161 :: u162 :: u163 :: u164 :: u165 :: u166 :: u167 :: u168 :: u169 :: u170 :: u171 :: u172 :: u173 :: u174 :: u175 :: u176 :: u177 :: u178 :: u179 :: u180 :: u181 :: u182 :: u183 :: u184 :: u185 :: u186 :: u187 :: u188 :: u189 :: u190 :: u191 :: u192 :: u193 :: u194 :: u195 :: u196 :: u197 :: u198 :: u199 :: u200 :: u201 :: u202 :: u203 :: u204 :: u205 :: u206 :: u207 :: u208 :: u209 :: u210 :: u211 :: u212 :: u213 :: u214 :: u215 :: u216 :: u217 :: u218 :: u219 :: u220 :: u221 :: u222 :: u223 :: u224 :: u225 :: u226 :: u227 :: u228 :: u229 :: u230 :: u231 :: u232 :: u233 :: u234 :: u235 :: u236 :: u237 :: u238 :: u239 :: u240 :: u241 :: u242 :: u243 :: u244 :: u245 :: u246 :: u247 :: u248 :: u249 :: u250 :: u251 :: u252 :: u253 :: [])), []⟩ wr := by
  have HG := Lib.hid h; have HA := Lib.hid ha; have HYS := Lib.hid (And.intro hys hnn); have HREC := Lib.hid hrec; have HO := Lib.hid (And.intro ho1 (And.intro ho2 hl))
  clear h ha hys hnn hrec ho1 ho2 hl
  conv => arg 2; whnf
  refine wp_seq_k ?_
  intro K hK
  go_cut [10] (fun s10 wx => s10 = .pointer (some ⟨xb, 0, none⟩) ∧ AskedL w wx xb gb ab ca nb ib n L o (ordA L o xs))
  case first =>
    obtain ⟨fa, fn, fi, hf, hl⟩ := HA.out.lab
    have hlen := HA.out.len
    have hcap := HA.out.ncap
    have hcm := fun w' => commutes_any o HO.out.2.1 w'
    obtain ⟨c0, c1, c2, c3, c4⟩ := ask_head hl
    by_cases hc : commN o = true
    · have hcf : decide (o = 4 ∨ o = 6 ∨ o = 9 ∨ o = 10 ∨ o = 11 ∨ o = 15 ∨ o = 16) = true := hc
      have hn2 : n = 2 := by
        have h2 : aryN o = 2 := by
          have : o = 4 ∨ o = 6 ∨ o = 9 ∨ o = 10 ∨ o = 11 ∨ o = 15 ∨ o = 16 := of_decide_eq_true hcf
          rcases this with rfl | rfl | rfl | rfl | rfl | rfl | rfl <;> rfl
        rw [← h2]; exact HO.out.2.2.symm
      subst hn2
      obtain ⟨x, y, rfl⟩ : ∃ x y, xs = [x, y] := by
        match xs, hlen with
        | [x, y], _ => exact ⟨x, y, rfl⟩
      have q0 := ask_cells hl (i := 0) (by omega) hcap
      have q1 := ask_cells hl (i := 1) (by omega) hcap
      rw [(hf 0 (by omega)).1, (hf 0 (by omega)).2.1, (hf 0 (by omega)).2.2] at q0
      rw [(hf 1 (by omega)).1, (hf 1 (by omega)).2.1, (hf 1 (by omega)).2.2] at q1
      obtain ⟨a0, n0, i0⟩ := q0
      obtain ⟨a1, n1, i1⟩ := q1
      simp only [List.getD_cons_zero, List.getD_cons_succ] at a0 n0 i0 a1 n1 i1
      have hsw : swapA L o x y ↔ (isNum L x = true ∨ isNum L y = false ∧ y < x) := by unfold swapA; simp [hc]
      have hord : ordA L o [x, y] = if swapA L o x y then [y, x] else [x, y] := rfl
      rw [hcf] at hcm
      have HL := Lib.hid hl; have HCM := Lib.hid hcm; have HSW := Lib.hid hsw; have HORD := Lib.hid hord; have HF := Lib.hid hf; have HN := Lib.hid (And.intro n0 n1)
      clear hl hcm hf hlen hcf hord hc hsw n0 n1
      refine wp_seq_k ?_
      intro K2 hK2
      go_cut [144] (fun s144 wx => s144 = .bool (decide (swapA L o x y)) ∧ ∃ nq, wx = wr.drewN nq)
      case first =>
        generalize isNum L x = bx at *
        generalize isNum L y = by' at *
        cases bx with
        | true =>
          have hd : decide (swapA L o x y) = true := decide_eq_true (HSW.out.2 (.inl rfl))
          have HD := Lib.hid hd
          clear hd
          go_quiet ((go_at_call 25; exact Calls.quiet_of_same ((HCM.out _).mono fun _ _ h => ⟨h.1, h.2.symm⟩)))
          go_wp2
          go_meet
          exact ⟨by rw [HD.out], _, rfl⟩
        | false =>
          cases by' with
          | true =>
            have hd : decide (swapA L o x y) = false := decide_eq_false fun h => (HSW.out.1 h).elim (fun h => by cases h) (fun h => by cases h.1)
            have HD := Lib.hid hd
            clear hd
            go_quiet ((go_at_call 25; exact Calls.quiet_of_same ((HCM.out _).mono fun _ _ h => ⟨h.1, h.2.symm⟩)))
            go_wp2
            go_meet
            exact ⟨by rw [HD.out], _, rfl⟩
          | false =>
            by_cases hxy : y < x
            · have hd : decide (swapA L o x y) = true := decide_eq_true (HSW.out.2 (.inr ⟨rfl, hxy⟩))
              have HD := Lib.hid hd
              clear hd
              go_quiet ((go_at_call 25; exact Calls.quiet_of_same ((HCM.out _).mono fun _ _ h => ⟨h.1, h.2.symm⟩)))
              go_wp2
              go_meet
              exact ⟨by rw [HD.out], _, rfl⟩
            · have hd : decide (swapA L o x y) = false := decide_eq_false fun h => (HSW.out.1 h).elim (fun h => by cases h) (fun h => hxy h.2)
              have HD := Lib.hid hd
              clear hd
              go_quiet ((go_at_call 25; exact Calls.quiet_of_same ((HCM.out _).mono fun _ _ h => ⟨h.1, h.2.symm⟩)))
              go_wp2
              go_meet
              exact ⟨by rw [HD.out], _, rfl⟩
      case rest =>
        obtain ⟨rfl, nq, rfl⟩ := hcut
        refine hK2 _ _ ?_
        clear c0 c1 c2 c3 c4 a0 a1 i0 i1
        by_cases hsw : swapA L o x y
        · have hd : decide (swapA L o x y) = true := decide_eq_true hsw
          have hfin : ordA L o [x, y] = [y, x] := by rw [HORD.out, if_pos hsw]
          rw [hd]
          have HFIN := Lib.hid hfin
          clear hd hsw hfin
          have hl := HL.out.drewN nq
          go_upto_region 20 with fail
          refine wp_abs (fun w1 => Lab w w1 (askThings xb gb ab ca nb ib 2 o fa fn fi)) hl ?_
          clear hl
          rintro w1 hl
          obtain ⟨c0, c1, c2, c3, c4⟩ := ask_head hl
          obtain ⟨a0, -, -⟩ := ask_cells hl (i := 0) (by omega) hcap
          obtain ⟨a1, -, -⟩ := ask_cells hl (i := 1) (by omega) hcap
          rw [(HF.out 0 (by omega)).1] at a0
          rw [(HF.out 1 (by omega)).1] at a1
          simp only [List.getD_cons_zero, List.getD_cons_succ] at a0 a1
          have f0 := hl.fn2.frozen 0
          have f1 := hl.fn2.frozen 1
          have HL1 := Lib.hid hl
          clear hl c0 c1 c3 c4
          have hcap' : (2 : Int) ≤ (ca : Int) := by omega
          refine app_region20 c2 hcap a0 a1 f0 f1 ?_
          intro _ _ _ _ _ _ _ _ _ _ _ _ _ _ _ _ _ _ _ _ _ _
          have hl := ((ask_set_a (ask_set_a HL1.out 0 (.int .i64 y)) 1 (.int .i64 x))).later ((Below.refl _ _).drew)
          clear c2 a0 a1 f0 f1
          have HL2 := Lib.hid hl
          clear hl
          go_upto_region 21 with fail
          refine wp_abs (fun w2 => Lab w w2 (askThings xb gb ab ca nb ib 2 o (fun j => if j = 1 then .int .i64 x else if j = 0 then .int .i64 y else fa j) fn fi)) HL2.out ?_
          clear HL1 HL2
          rintro w2 hl
          obtain ⟨c0, c1, c2, c3, c4⟩ := ask_head hl
          obtain ⟨-, a0, -⟩ := ask_cells hl (i := 0) (by omega) hcap
          obtain ⟨-, a1, -⟩ := ask_cells hl (i := 1) (by omega) hcap
          rw [(HF.out 0 (by omega)).2.1] at a0
          rw [(HF.out 1 (by omega)).2.1] at a1
          simp only [List.getD_cons_zero, List.getD_cons_succ] at a0 a1
          have f0 := hl.fn3.frozen 0
          have f1 := hl.fn3.frozen 1
          have HL1 := Lib.hid hl
          clear hl c0 c1 c2 c4
          refine app_region21 c3 (by decide) a0 a1 f0 f1 ?_
          intro _ _ _ _ _ _ _ _ _ _ _ _ _ _ _ _ _ _ _ _ _ _
          have hl := ((ask_set_n (ask_set_n HL1.out 0 (.int .u64 (numD L y))) 1 (.int .u64 (numD L x)))).later ((Below.refl _ _).drew)
          clear c3 a0 a1 f0 f1
          have HL2 := Lib.hid hl
          clear hl
          go_upto_region 22 with fail
          refine wp_abs (fun w3 => Lab w w3 (askThings xb gb ab ca nb ib 2 o (fun j => if j = 1 then .int .i64 x else if j = 0 then .int .i64 y else fa j) (fun j => if j = 1 then .int .u64 (numD L x) else if j = 0 then .int .u64 (numD L y) else fn j) fi)) HL2.out ?_
          clear HL1 HL2
          rintro w3 hl
          obtain ⟨c0, c1, c2, c3, c4⟩ := ask_head hl
          obtain ⟨-, -, a0⟩ := ask_cells hl (i := 0) (by omega) hcap
          obtain ⟨-, -, a1⟩ := ask_cells hl (i := 1) (by omega) hcap
          rw [(HF.out 0 (by omega)).2.2] at a0
          rw [(HF.out 1 (by omega)).2.2] at a1
          simp only [List.getD_cons_zero, List.getD_cons_succ] at a0 a1
          have f0 := hl.fn4.frozen 0
          have f1 := hl.fn4.frozen 1
          have HL1 := Lib.hid hl
          clear hl c0 c1 c2 c3
          refine app_region22 c4 (by decide) a0 a1 f0 f1 ?_
          intro _ _ _ _ _ _ _ _ _ _ _ _ _ _ _ _ _ _ _ _ _ _
          have hl := ((ask_set_i (ask_set_i HL1.out 0 (.bool (isNum L y))) 1 (.bool (isNum L x)))).later ((Below.refl _ _).drew)
          clear c4 a0 a1 f0 f1
          have HL2 := Lib.hid hl
          clear hl
          go_wp2
          go_meet
          rw [HFIN.out]
          refine ⟨rfl, rfl, HA.out.nlt, HA.out.ncap, _, _, _, fun i hi => ?_, HL2.out⟩
          have : i = 0 ∨ i = 1 := by omega
          rcases this with rfl | rfl <;> exact ⟨rfl, rfl, rfl⟩
        · have hd : decide (swapA L o x y) = false := decide_eq_false hsw
          have hfin : ordA L o [x, y] = [x, y] := by rw [HORD.out, if_neg hsw]
          rw [hd]
          have HFIN := Lib.hid hfin
          clear hd hsw hfin
          go_wp2
          go_meet
          rw [HFIN.out]
          exact ⟨rfl, HA.out.later (below_drewN (Below.refl _ _) _)⟩
    · have hcf : decide (o = 4 ∨ o = 6 ∨ o = 9 ∨ o = 10 ∨ o = 11 ∨ o = 15 ∨ o = 16) = false := by
        unfold commN at hc; simpa using hc
      have hord : ordA L o xs = xs := by
        unfold ordA
        split
        · rw [if_neg (fun q => hc q.1)]
        · rfl
      rw [hcf] at hcm
      have HL := Lib.hid hl; have HCM := Lib.hid hcm; have HORD := Lib.hid hord
      clear hl hcm hf hlen hcf hord hc
      go_wp2
      go_quiet ((go_at_call 25; exact Calls.quiet_of_same ((HCM.out _).mono fun _ _ h => ⟨h.1, h.2.symm⟩)))
      go_wp2
      go_meet
      rw [HORD.out]
      exact ⟨rfl, HA.out.later (below_drewN (Below.refl _ _) _)⟩
  case rest =>
    obtain ⟨rfl, hcut⟩ := hcut
    refine hK _ _ ?_
    have hmem : ∀ t, t ∈ ordA L o xs ↔ t ∈ xs := by
      intro t
      unfold ordA
      split
      · split
        · simp [or_comm]
        · rfl
      · rfl
    exact sapp_rules hcut.below HG.out hcut.asked HO.out.1 HO.out.2.1 HO.out.2.2 (fun t ht => HYS.out.1 t ((hmem t).1 ht)) (fun h => HYS.out.2 fun t ht => h t ((hmem t).2 ht)) HREC.out
end
end Go.Proofs.Ytcpgiadhmmmafaa
