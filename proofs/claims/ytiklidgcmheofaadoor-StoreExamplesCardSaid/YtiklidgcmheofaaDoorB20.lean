/- FlT, StF, StLZ, StS: joined by wip/bundle.py. -/
import Derived.Test.YtiklidgcmheofaaDoorB1
import Derived.Test.YtiklidgcmheofaaDoorB2
import Derived.Test.YtiklidgcmheofaaDoorB3
import Derived.Test.YtiklidgcmheofaaDoorB4
import Derived.Test.YtiklidgcmheofaaDoorB5
import Derived.Test.YtiklidgcmheofaaDoorB6
import Derived.Test.YtiklidgcmheofaaDoorB7
import Derived.Test.YtiklidgcmheofaaDoorB8
import Derived.Test.YtiklidgcmheofaaDoorB9
import Derived.Test.YtiklidgcmheofaaDoorB10
import Derived.Test.YtiklidgcmheofaaDoorB11
import Derived.Test.YtiklidgcmheofaaDoorB12
import Derived.Test.YtiklidgcmheofaaDoorB13
import Derived.Test.YtiklidgcmheofaaDoorB14
import Derived.Test.YtiklidgcmheofaaDoorB15
import Derived.Test.YtiklidgcmheofaaDoorB16
import Derived.Test.YtiklidgcmheofaaDoorB17
import Derived.Test.YtiklidgcmheofaaDoorB18
import Derived.Test.YtiklidgcmheofaaDoorB19
import Derived.Test.YtiklidgcmheofaaDoorCards
import Derived.Lib.LaidTab
import Derived.OpenShut
import Derived.BigQuiet
namespace Go.Proofs.YtiklidgcmheofaaDoor
open Go.RowKit Go.Maps
set_option maxHeartbeats 12800000
section
variable {w wr : World} {W R : Int} {ch st : List ByteArray} {ars : List Int} {cs : List CodeD} {a1 a2 a3 a4 : Option Addr} {nc ns na nk c1 c2 c3 c4 p : Nat} {P : Prop}
set_option maxRecDepth 100000 in
theorem rcheck_rest3 {u0 u2 u3 u4 u5 u6 u7 u8 u9 u10 u11 u12 u13 u14 u15 u16 u17 u18 u19 u20 u21 u22 u23 u24 u25 u26 u27 u28 u29 u30 u31 u32 u33 u34 u35 u36 u37 u38 u39 u40 u41 u42 u43 u44 u45 u46 u47 u48 u49 u50 u51 u52 u53 u54 u55 u56 u57 u58 u59 u60 u61 u62 u63 u64 u65 u66 u67 u68 u69 u70 u71 u72 u73 u74 u75 u76 u77 u78 u79 u80 u81 u82 u83 u84 u85 u86 u87 u88 u89 u90 u91 u92 u93 u94 u95 u96 u97 u98 u99 u100 u101 u102 u103 u104 u105 u106 u107 u108 u109 u110 u111 u112 u113 u114 u115 u116 u117 u118 u119 u120 u121 u122 u123 u124 u125 u126 u127 u128 u129 u130 u131 u132 u133 u134 u135 u136 u137 u138 u139 u140 u141 u142 u143 u144 u145 u146 u147 u148 u149 u150 u151 u152 u153 u154 u155 u156 u157 u158 u159 u160 u161 u162 u163 u164 u165 u166 u167 u168 u169 u170 u171 u172 u173 u174 u175 u176 u177 u178 u179 u180 u181 u182 u183 u184 u185 u186 u187 u188 u189 u190 u191 u192 : Value} (hin : FlIn w W R ch st ars cs a1 a2 a3 a4 nc ns na nk c1 c2 c3 c4 P) (hx : FBx w wr p #[.int .i64 W, .int .i64 R, .slice a1 nc c1, .slice a2 ns c2, .slice a3 na c3, .slice a4 nk c4]) :
    Code.wp Tryd.prog (rcheckRest 3) (bodyPost Tryd.prog Tryd.f21 (ErrPost P w)) ⟨(List.toArray (u0 :: .pointer (some ⟨p, 0, none⟩) :: u2 :: u3 :: u4 :: u5 :: u6 :: u7 :: u8 :: u9 :: u10 :: u11 :: u12 :: u13 :: u14 :: u15 :: u16 :: u17 :: u18 :: u19 :: u20 :: u21 :: u22 :: u23 :: u24 :: u25 :: u26 :: u27 :: u28 :: u29 :: u30 :: u31 :: u32 :: u33 :: u34 :: u35 :: u36 :: u37 :: u38 :: u39 :: u40 :: u41 :: u42 :: u43 :: u44 :: u45 :: u46 :: u47 :: u48 :: u49 :: u50 :: u51 :: u52 :: u53 :: u54 :: u55 :: u56 :: u57 :: u58 :: u59 :: u60 :: u61 :: u62 :: u63 :: u64 :: u65 :: u66 :: u67 :: u68 :: u69 :: u70 :: u71 :: u72 :: u73 :: u74 :: u75 :: u76 :: u77 :: u78 :: u79 :: u80 :: u81 :: u82 :: u83 :: u84 :: u85 :: u86 :: u87 :: u88 :: u89 :: u90 :: u91 :: u92 :: u93 :: u94 :: u95 :: u96 :: u97 :: u98 :: u99 :: u100 :: u101 :: u102 :: u103 :: u104 :: u105 :: u106 :: u107 :: u108 :: u109 :: u110 :: u111 :: u112 :: u113 :: u114 :: u115 :: u116 :: u117 :: u118 :: u119 :: u120 :: u121 :: u122 :: u123 :: u124 :: u125 :: u126 :: u127 :: u128 :: u129 :: u130 :: u131 :: u132 :: u133 :: u134 :: u135 :: u136 :: u137 :: u138 :: u139 :: u140 :: u141 :: u142 :: u143 :: u144 :: u145 :: u146 :: u147 :: u148 :: u149 :: u150 :: u151 :: u152 :: u153 :: u154 :: u155 :: u156 :: u157 :: u158 :: u159 :: u160 :: u161 :: u162 :: u163 :: u164 :: u165 :: u166 :: u167 :: u168 :: u169 :: u170 :: u171 :: u172 :: u173 :: u174 :: u175 :: u176 :: u177 :: u178 :: u179 :: u180 :: u181 :: u182 :: u183 :: u184 :: u185 :: u186 :: u187 :: u188 :: u189 :: u190 :: u191 :: u192 :: [])), []⟩ wr := by
  have bk := hin.few.1
  have har := hin.of.arrays.laterF hx.below
  have HI := Lib.hid hin; have HX := Lib.hid hx; have HAR := Lib.hid har
  clear hin hx har
  conv => arg 2; whnf
  have q0 := cell_of_cells HX.out.f (i := 0) rfl
  have q1 := cell_of_cells HX.out.f (i := 1) rfl
  have q2 := cell_of_cells HX.out.f (i := 2) rfl
  have q3 := cell_of_cells HX.out.f (i := 3) rfl
  have q4 := cell_of_cells HX.out.f (i := 4) rfl
  have q5 := cell_of_cells HX.out.f (i := 5) rfl
  refine wp_seq_k ?_
  intro K1 hK1
  go_cut [3] (fun _ wx => (∀ n ∈ ars, 1 ≤ n ∧ n ≤ 64) ∧ wr = wx)
  case first =>
    go_wp2
    go_loop [3] (fun i => ∃ k : Nat, k ≤ na ∧ i = .int .i64 k ∧ ∀ n ∈ ars.take k, 1 ≤ n ∧ n ≤ 64) (fun i => na - (intOf i).toNat)
    case atStart => exact ⟨0, Nat.zero_le _, rfl, by simp⟩
    case round =>
      obtain ⟨k, hk, rfl, ha⟩ := hrel
      by_cases hlt : k < na
      · obtain ⟨a', n', c', e, hl', hx⟩ := HAR.out
        simp only [Value.slice.injEq] at e
        obtain ⟨rfl, rfl, rfl⟩ := e
        obtain ⟨b, off, rfl, hc⟩ := hx k hlt
        obtain ⟨x, hxk⟩ : ∃ x, ars[k]? = some x := ⟨_, List.getElem?_eq_getElem (by omega)⟩
        have ex : ars.getD k 0 = x := by rw [List.getD_eq_getElem?_getD, hxk]; rfl
        rw [ex] at hc
        have HXK := Lib.hid hxk; have HA := Lib.hid ha
        have hlt' : (k : Int) < (na : Int) := by omega
        have k0 : (0 : Int) ≤ (k : Int) := by omega
        clear hx hxk ha ex hl'
        by_cases hv : 1 ≤ x ∧ x ≤ 64
        · have j1 : decide (x < 1) = false := decide_eq_false (by omega)
          have j2 : decide ((64 : Int) < x) = false := decide_eq_false (by omega)
          have HV := Lib.hid hv
          clear hv
          go_wp2
          refine ⟨⟨k + 1, by omega, by go_num, fun n hn => ?_⟩, by simp [intOf]; omega⟩
          rw [List.take_add_one, HXK.out] at hn
          rcases List.mem_append.1 hn with hn | hn
          · exact HA.out n hn
          · obtain rfl : n = x := by simpa using hn
            exact HV.out
        · have HNO := Lib.hid (fun (h : P) => hv ((HI.out.iff.2 h).arrays x (List.mem_of_getElem? HXK.out)))
          have HV := Lib.hid hv
          clear hv
          go_wp2
          all_goals
            first
              | (go_ret
                 exact ErrPost.bad HNO.out HX.out.below)
              | (exfalso
                 have := HV.out
                 omega)
      · obtain rfl : k = na := by omega
        rw [List.take_of_length_le (by have := HI.out.lens; omega)] at ha
        have HA := Lib.hid ha
        clear ha
        go_wp2
        go_meet
        exact ⟨HA.out, rfl⟩
  obtain ⟨hars, rfl⟩ := hcut
  refine hK1 _ _ ?_
  exact rcheck_rest8 HI.out HX.out hars
end
set_option maxRecDepth 100000 in
theorem rcheck25_any {w : World} (f : FlatD) (v1 v2 v3 v4 : Value) (hf : FlatOf w f v1 v2 v3 v4) (hT : ShpOk w) :
    Calls Tryd.prog 21 #[.agg #[.int .i64 f.W, .int .i64 f.R, v1, v2, v3, v4]] w (ErrPost (FlatOk f) w) := by
  have hn1 := fun (wx : World) (hb : Below w.heap.size w wx) => rnames_any (hf.chans.later hb)
  have hn2 := fun (wx : World) (hb : Below w.heap.size w wx) => rnames_any (hf.sites.later hb)
  have HF := Lib.hid hf
  have HT := Lib.hid hT
  obtain ⟨a1, nc, c1, rfl, hl1, -⟩ := hf.chans
  obtain ⟨a2, ns, c2, rfl, hl2, -⟩ := hf.sites
  obtain ⟨a3, na, c3, rfl, hl3, -⟩ := hf.arrays.parts
  obtain ⟨a4, nk, c4, rfl, hl4, hm4, -⟩ := hf.codes
  have hin := fun (wx : World) (hb : Below w.heap.size w wx) (c : CodeD) (hc : c.Ok) (h1 : 1 ≤ f.W) (h2 : f.W ≤ 64) => finstr_any (a1 := a1) (a2 := a2) (a3 := a3) (a4 := a4) (nc := nc) (ns := ns) (na := na) (nk := nk) (c1 := c1) (c2 := c2) (c3 := c3) (c4 := c4) f h1 h2 c hc (hT.later hb)
  have HIN := Lib.hid hin
  have HN1 := Lib.hid hn1; have HN2 := Lib.hid hn2
  have HLL := Lib.hid (And.intro hl1 (And.intro hl2 (And.intro hl3 (And.intro hl4 hm4))))
  have HX0 := Lib.hid (FBx.mk (w := w) (p := w.heap.size) (fa := #[.int .i64 f.W, .int .i64 f.R, .slice a1 nc c1, .slice a2 ns c2, .slice a3 na c3, .slice a4 nk c4]) (Below.alloc (Below.refl w.heap.size w) (Nat.le_refl _) _) (heap_alloc_new w _))
  obtain ⟨W, R, ch, st, ars, cs⟩ := f
  simp only at HN1 HN2 HLL HIN HF HX0 ⊢
  obtain ⟨P, hP⟩ : ∃ P, FlatOk ⟨W, R, ch, st, ars, cs⟩ = P := ⟨_, rfl⟩
  rw [hP]
  have HP := Lib.hid (show FlatOk ⟨W, R, ch, st, ars, cs⟩ ↔ P by rw [hP])
  clear hf hT hn1 hn2 hin hl1 hl2 hl3 hl4 hm4 hP
  by_cases hWR : (1 ≤ W ∧ W ≤ 64) ∧ (0 ≤ R ∧ R ≤ 2097152)
  · obtain ⟨⟨w1, w2⟩, r1, r2⟩ := hWR
    have HWR := Lib.hid (And.intro (And.intro w1 w2) (And.intro r1 r2))
    have g1 : decide (W < 1) = false := decide_eq_false (by omega)
    have g2 : decide ((64 : Int) < W) = false := decide_eq_false (by omega)
    have g3 : decide (R < 0) = false := decide_eq_false (by omega)
    have g4 : decide ((2097152 : Int) < R) = false := decide_eq_false (by omega)
    clear w1 w2 r1 r2
    cases hb1 : namesB ch with
    | false =>
      simp only [hb1] at HN1
      have HB := Lib.hid hb1
      clear hb1
      go_enter Tryd.func21, Tryd.ntmps21
      go_wp2_with fail
      go_at_call 42
      refine (HN1.out _ HX0.out.below).mono ?_
      rintro e w5 ⟨rfl, hb5⟩
      have HX := Lib.hid (HX0.out.later hb5)
      clear hb5
      go_wp2
      go_ret
      exact ErrPost.bad (fun h => by have := (HP.out.2 h).chans; simp only [HB.out] at this; cases this) HX.out.below
    | true =>
      simp only [hb1] at HN1
      have HB1 := Lib.hid hb1
      clear hb1
      cases hb2 : namesB st with
      | false =>
        simp only [hb2] at HN2
        have HB := Lib.hid hb2
        clear hb2
        go_enter Tryd.func21, Tryd.ntmps21
        go_wp2_with fail
        go_at_call 42
        refine (HN1.out _ HX0.out.below).mono ?_
        rintro e w5 ⟨rfl, hb5⟩
        have HX := Lib.hid (HX0.out.later hb5)
        clear hb5
        have q0 := cell_of_cells HX.out.f (i := 0) rfl
        have q1 := cell_of_cells HX.out.f (i := 1) rfl
        have q2 := cell_of_cells HX.out.f (i := 2) rfl
        have q3 := cell_of_cells HX.out.f (i := 3) rfl
        have q4 := cell_of_cells HX.out.f (i := 4) rfl
        have q5 := cell_of_cells HX.out.f (i := 5) rfl
        go_wp2_with fail
        go_at_call 42
        refine (HN2.out _ HX.out.below).mono ?_
        rintro e w6 ⟨rfl, hb6⟩
        clear q0 q1 q2 q3 q4 q5
        replace HX := Lib.hid (HX.out.later hb6)
        clear hb6
        go_wp2
        go_ret
        exact ErrPost.bad (fun h => by have := (HP.out.2 h).sites; simp only [HB.out] at this; cases this) HX.out.below
      | true =>
        simp only [hb2] at HN2
        have HB2 := Lib.hid hb2
        clear hb2
        go_enter Tryd.func21, Tryd.ntmps21
        go_wp2_with fail
        go_at_call 42
        refine (HN1.out _ HX0.out.below).mono ?_
        rintro e w5 ⟨rfl, hb5⟩
        have HX := Lib.hid (HX0.out.later hb5)
        clear hb5
        have q0 := cell_of_cells HX.out.f (i := 0) rfl
        have q1 := cell_of_cells HX.out.f (i := 1) rfl
        have q2 := cell_of_cells HX.out.f (i := 2) rfl
        have q3 := cell_of_cells HX.out.f (i := 3) rfl
        have q4 := cell_of_cells HX.out.f (i := 4) rfl
        have q5 := cell_of_cells HX.out.f (i := 5) rfl
        go_wp2_with fail
        go_at_call 42
        refine (HN2.out _ HX.out.below).mono ?_
        rintro e w6 ⟨rfl, hb6⟩
        clear q0 q1 q2 q3 q4 q5
        replace HX := Lib.hid (HX.out.later hb6)
        clear hb6
        have q0 := cell_of_cells HX.out.f (i := 0) rfl
        have q1 := cell_of_cells HX.out.f (i := 1) rfl
        have q2 := cell_of_cells HX.out.f (i := 2) rfl
        have q3 := cell_of_cells HX.out.f (i := 3) rfl
        have q4 := cell_of_cells HX.out.f (i := 4) rfl
        have q5 := cell_of_cells HX.out.f (i := 5) rfl
        by_cases hn : na ≤ 32 ∧ 1 ≤ nk ∧ nk ≤ 4096
        · obtain ⟨n1, n2, n3⟩ := hn
          have HNN := Lib.hid (And.intro n1 (And.intro n2 n3))
          have k1 : decide ((32 : Int) < (na : Int)) = false := decide_eq_false (by omega)
          have k2 : decide ((nk : Int) < 1) = false := decide_eq_false (by omega)
          have k3 : decide ((4096 : Int) < (nk : Int)) = false := decide_eq_false (by omega)
          clear n1 n2 n3
          have hfi : FlIn w W R ch st ars cs a1 a2 a3 a4 nc ns na nk c1 c2 c3 c4 P := ⟨HF.out, HT.out, HWR.out, ⟨HB1.out, HB2.out⟩, by have := HLL.out; omega, HNN.out, HP.out⟩
          have HFI := Lib.hid hfi
          clear hfi
          go_upto_if 56 with fail
          go_cut [2] (fun s2 wx => w6 = wx)
          case first =>
            go_wp2
            go_meet
            rfl
          case rest =>
            obtain rfl := hcut
            exact (show ∀ (a : Act) (w : World), Code.wp Tryd.prog (rcheckRest 3) _ a w → _ by assumption) _ _ (rcheck_rest3 HFI.out HX.out)
        · have hn' : ¬ FlatOk ⟨W, R, ch, st, ars, cs⟩ := fun h => hn (by have h1 := h.na; have h2 := h.nk; have h3 := HLL.out; simp only at h1 h2; omega)
          have HNO := Lib.hid (fun h => hn' (HP.out.2 h)); have HNN := Lib.hid hn
          clear hn hn'
          go_wp2
          all_goals
            first
              | (go_ret
                 exact ErrPost.bad HNO.out HX.out.below)
              | (exfalso
                 have := HNN.out
                 omega)
  · have hno : ¬ FlatOk ⟨W, R, ch, st, ars, cs⟩ := fun h => hWR ⟨h.W, h.R⟩
    have HNO := Lib.hid (fun h => hno (HP.out.2 h)); have HWR := Lib.hid hWR
    clear hno hWR
    go_enter Tryd.func21, Tryd.ntmps21
    go_wp2_with fail
    all_goals
      first
        | (go_ret
           exact ErrPost.bad HNO.out HX0.out.below)
        | (exfalso
           have := HWR.out
           omega)
end Go.Proofs.YtiklidgcmheofaaDoor
namespace Go.Proofs.YtiklidgcmheofaaDoor
open Go.RowKit Go.Maps
set_option maxHeartbeats 3200000
/-- A small flat program. -/
def SmallP (f : FlatD) : Prop := FlatOk f ∧ (1 ≤ f.R ∧ f.R ≤ 8) ∧ (1 ≤ f.arrays.length ∧ f.arrays.length ≤ 4) ∧ ∀ s ∈ f.arrays, s ≤ 8
section
variable {w : World}
set_option maxRecDepth 100000 in
theorem small_any (f : FlatD) (v1 v2 v3 v4 : Value) (hf : FlatOf w f v1 v2 v3 v4) (hT : ShpOk w) :
    Calls Tryd.prog 7 #[.agg #[.int .i64 f.W, .int .i64 f.R, v1, v2, v3, v4]] w fun e w' => ∃ B : Bool, e = .returned (.bool B) ∧ (B = true ↔ SmallP f) ∧ Below w.heap.size w w' := by
  obtain ⟨a3, na, c3, rfl, hl3, -⟩ := hf.arrays.parts
  have hb := (Lab.nil (Below.refl w.heap.size w)).alloc #[.int .i64 f.W, .int .i64 f.R, v1, v2, (.slice a3 na c3), v4] 26
  obtain ⟨q, hq⟩ : ∃ q, w.heap.size = q := ⟨_, rfl⟩
  have hck := fun (wx : World) (hbx : Below w.heap.size w wx) => rcheck25_any f v1 v2 (.slice a3 na c3) v4 (hf.later hbx) (hT.later hbx)
  obtain ⟨W, R, ch, st, ars, cs⟩ := f
  simp only at hb hck ⊢
  simp only at hl3
  obtain ⟨P, hP⟩ : ∃ P, SmallP ⟨W, R, ch, st, ars, cs⟩ = P := ⟨_, rfl⟩
  rw [hP]
  have HP : Hid (P = (FlatOk ⟨W, R, ch, st, ars, cs⟩ ∧ (1 ≤ R ∧ R ≤ 8) ∧ (1 ≤ na ∧ na ≤ 4) ∧ ∀ s ∈ ars, s ≤ 8)) := Lib.hid (by rw [← hP, ← hl3]; rfl)
  have HF := Lib.hid hf; have HB := Lib.hid hb; have HV := Lib.hid hl3
  clear hf hT hb hP
  have cells : ∀ wx, Lab w wx [Thing.box w.heap.size 26 #[.int .i64 W, .int .i64 R, v1, v2, (.slice a3 na c3), v4]] → wx.cell? ⟨q, 0, none⟩ = some (.int .i64 W) ∧ wx.cell? ⟨q, 1, none⟩ = some (.int .i64 R) ∧ wx.cell? ⟨q, 2, none⟩ = some v1 ∧ wx.cell? ⟨q, 3, none⟩ = some v2 ∧ wx.cell? ⟨q, 4, none⟩ = some (.slice a3 na c3) ∧ wx.cell? ⟨q, 5, none⟩ = some v4 := fun wx hx => by
    have r : wx.heap[w.heap.size]? = some (.cells #[.int .i64 W, .int .i64 R, v1, v2, (.slice a3 na c3), v4] 26 (0, 0)) := hx.head
    rw [hq] at r
    exact ⟨cell_of_cells r (i := 0) rfl, cell_of_cells r (i := 1) rfl, cell_of_cells r (i := 2) rfl, cell_of_cells r (i := 3) rfl, cell_of_cells r (i := 4) rfl, cell_of_cells r (i := 5) rfl⟩
  have HC := Lib.hid cells
  clear cells
  by_cases hp : FlatOk ⟨W, R, ch, st, ars, cs⟩
  · have hk : ∀ wx, Below w.heap.size w wx → Calls Tryd.prog 21 #[.agg #[.int .i64 W, .int .i64 R, v1, v2, (.slice a3 na c3), v4]] wx fun e w' => e = .returned (.int .i64 0) ∧ Below wx.heap.size wx w' := fun wx hbx => (hck wx hbx).mono (by
      rintro e w' ⟨qv, rfl, hq | hq, hbb⟩
      · rw [hq.2]; exact ⟨rfl, hbb⟩
      · exact absurd hp hq.1)
    have HK := Lib.hid hk; have HPP := Lib.hid hp
    clear hck hk hp
    by_cases h1 : R < 1
    · have g1 : decide (R < 1) = true := decide_eq_true h1
      have HN := Lib.hid (show ¬ (FlatOk ⟨W, R, ch, st, ars, cs⟩ ∧ (1 ≤ R ∧ R ≤ 8) ∧ (1 ≤ na ∧ na ≤ 4) ∧ ∀ s ∈ ars, s ≤ 8) from fun h => by have := h.2.1.1; omega)
      go_enter Tryd.func7, Tryd.ntmps7
      go_upto_region 1 with fail
      refine wp_abs (fun wx => Lab w wx [Thing.box w.heap.size 26 #[.int .i64 W, .int .i64 R, v1, v2, (.slice a3 na c3), v4]]) HB.out ?_
      intro w1 hl
      obtain ⟨q0, q1, q2, q3, q4, q5⟩ := HC.out w1 hl
      have hchk := HK.out w1 hl.below
      have HCK := Lib.hid hchk; have HL := Lib.hid hl
      clear hchk hl
      go_wp2_with fail
      go_at_call 21
      refine HCK.out.mono ?_
      rintro e w5 ⟨rfl, hb5⟩
      have hl5 := HL.out.later hb5
      clear q0 q1 q2 q3 q4 q5 HCK hb5
      obtain ⟨q0, q1, q2, q3, q4, q5⟩ := HC.out w5 hl5
      have HL5 := Lib.hid hl5
      clear hl5
      go_wp2
      go_ret
      exact ⟨false, rfl, ⟨fun h => (by cases h), fun h => by rw [HP.out] at h; exact absurd h HN.out⟩, HL5.out.below⟩
    · have g1 : decide (R < 1) = false := decide_eq_false h1
      by_cases h2 : 8 < R
      · have g2 : decide (8 < R) = true := decide_eq_true h2
        have HN := Lib.hid (show ¬ (FlatOk ⟨W, R, ch, st, ars, cs⟩ ∧ (1 ≤ R ∧ R ≤ 8) ∧ (1 ≤ na ∧ na ≤ 4) ∧ ∀ s ∈ ars, s ≤ 8) from fun h => by have := h.2.1.2; omega)
        go_enter Tryd.func7, Tryd.ntmps7
        go_upto_region 1 with fail
        refine wp_abs (fun wx => Lab w wx [Thing.box w.heap.size 26 #[.int .i64 W, .int .i64 R, v1, v2, (.slice a3 na c3), v4]]) HB.out ?_
        intro w1 hl
        obtain ⟨q0, q1, q2, q3, q4, q5⟩ := HC.out w1 hl
        have hchk := HK.out w1 hl.below
        have HCK := Lib.hid hchk; have HL := Lib.hid hl
        clear hchk hl
        go_wp2_with fail
        go_at_call 21
        refine HCK.out.mono ?_
        rintro e w5 ⟨rfl, hb5⟩
        have hl5 := HL.out.later hb5
        clear q0 q1 q2 q3 q4 q5 HCK hb5
        obtain ⟨q0, q1, q2, q3, q4, q5⟩ := HC.out w5 hl5
        have HL5 := Lib.hid hl5
        clear hl5
        go_wp2
        go_ret
        exact ⟨false, rfl, ⟨fun h => (by cases h), fun h => by rw [HP.out] at h; exact absurd h HN.out⟩, HL5.out.below⟩
      · have g2 : decide (8 < R) = false := decide_eq_false h2
        by_cases h3 : na < 1
        · have g3 : decide ((na : Int) < 1) = true := decide_eq_true (by omega)
          have HN := Lib.hid (show ¬ (FlatOk ⟨W, R, ch, st, ars, cs⟩ ∧ (1 ≤ R ∧ R ≤ 8) ∧ (1 ≤ na ∧ na ≤ 4) ∧ ∀ s ∈ ars, s ≤ 8) from fun h => by have := h.2.2.1.1; omega)
          go_enter Tryd.func7, Tryd.ntmps7
          go_upto_region 1 with fail
          refine wp_abs (fun wx => Lab w wx [Thing.box w.heap.size 26 #[.int .i64 W, .int .i64 R, v1, v2, (.slice a3 na c3), v4]]) HB.out ?_
          intro w1 hl
          obtain ⟨q0, q1, q2, q3, q4, q5⟩ := HC.out w1 hl
          have hchk := HK.out w1 hl.below
          have HCK := Lib.hid hchk; have HL := Lib.hid hl
          clear hchk hl
          go_wp2_with fail
          go_at_call 21
          refine HCK.out.mono ?_
          rintro e w5 ⟨rfl, hb5⟩
          have hl5 := HL.out.later hb5
          clear q0 q1 q2 q3 q4 q5 HCK hb5
          obtain ⟨q0, q1, q2, q3, q4, q5⟩ := HC.out w5 hl5
          have HL5 := Lib.hid hl5
          clear hl5
          go_wp2
          go_ret
          exact ⟨false, rfl, ⟨fun h => (by cases h), fun h => by rw [HP.out] at h; exact absurd h HN.out⟩, HL5.out.below⟩
        · have g3 : decide ((na : Int) < 1) = false := decide_eq_false (by omega)
          by_cases h4 : 4 < na
          · have g4 : decide (4 < (na : Int)) = true := decide_eq_true (by omega)
            have HN := Lib.hid (show ¬ (FlatOk ⟨W, R, ch, st, ars, cs⟩ ∧ (1 ≤ R ∧ R ≤ 8) ∧ (1 ≤ na ∧ na ≤ 4) ∧ ∀ s ∈ ars, s ≤ 8) from fun h => by have := h.2.2.1.2; omega)
            go_enter Tryd.func7, Tryd.ntmps7
            go_upto_region 1 with fail
            refine wp_abs (fun wx => Lab w wx [Thing.box w.heap.size 26 #[.int .i64 W, .int .i64 R, v1, v2, (.slice a3 na c3), v4]]) HB.out ?_
            intro w1 hl
            obtain ⟨q0, q1, q2, q3, q4, q5⟩ := HC.out w1 hl
            have hchk := HK.out w1 hl.below
            have HCK := Lib.hid hchk; have HL := Lib.hid hl
            clear hchk hl
            go_wp2_with fail
            go_at_call 21
            refine HCK.out.mono ?_
            rintro e w5 ⟨rfl, hb5⟩
            have hl5 := HL.out.later hb5
            clear q0 q1 q2 q3 q4 q5 HCK hb5
            obtain ⟨q0, q1, q2, q3, q4, q5⟩ := HC.out w5 hl5
            have HL5 := Lib.hid hl5
            clear hl5
            go_wp2
            go_ret
            exact ⟨false, rfl, ⟨fun h => (by cases h), fun h => by rw [HP.out] at h; exact absurd h HN.out⟩, HL5.out.below⟩
          · have g4 : decide (4 < (na : Int)) = false := decide_eq_false (by omega)
            have hn4 : na ≤ 4 := by omega
            go_enter Tryd.func7, Tryd.ntmps7
            go_upto_region 1 with fail
            refine wp_abs (fun wx => Lab w wx [Thing.box w.heap.size 26 #[.int .i64 W, .int .i64 R, v1, v2, (.slice a3 na c3), v4]]) HB.out ?_
            intro w1 hl
            obtain ⟨q0, q1, q2, q3, q4, q5⟩ := HC.out w1 hl
            have hchk := HK.out w1 hl.below
            have HCK := Lib.hid hchk; have HL := Lib.hid hl
            clear hchk hl
            go_wp2_with fail
            go_at_call 21
            refine HCK.out.mono ?_
            rintro e w5 ⟨rfl, hb5⟩
            have hl5 := HL.out.later hb5
            clear q0 q1 q2 q3 q4 q5 HCK hb5
            obtain ⟨q0, q1, q2, q3, q4, q5⟩ := HC.out w5 hl5
            have HL5 := Lib.hid hl5
            clear hl5
            go_wp2
            clear q0 q1 q2 q3 q4 q5
            go_loopw [3] (fun v wx => ∃ i : Nat, i ≤ na ∧ v = .int .i64 i ∧ (∀ j, j < i → ars.getD j 0 ≤ 8) ∧ Lab w wx [Thing.box w.heap.size 26 #[.int .i64 W, .int .i64 R, v1, v2, (.slice a3 na c3), v4]]) (fun v _ => na - (intOf v).toNat)
            case atStart => exact ⟨0, Nat.zero_le _, rfl, fun j hj => by omega, HL5.out⟩
            case round =>
              clear HL5
              obtain ⟨i, hi, rfl, hall, hl⟩ := hrel
              obtain ⟨-, -, -, -, q4, -⟩ := HC.out _ hl
              by_cases hlt : i < na
              · have hlt' : (i : Int) < (na : Int) := by omega
                have i0 : (0 : Int) ≤ (i : Int) := by omega
                obtain ⟨a', n', c', e3, hl3', hcx⟩ := (HF.out.later hl.below).arrays
                simp only [Value.slice.injEq] at e3
                obtain ⟨rfl, rfl, rfl⟩ := e3
                obtain ⟨b3, off3, rfl, hci⟩ := hcx i hlt
                obtain ⟨x, hx⟩ : ∃ x, ars.getD i 0 = x := ⟨_, rfl⟩
                rw [hx] at hci
                have HL := Lib.hid hl; have HX := Lib.hid (And.intro hx hall)
                have hmem : Hid (x ∈ ars) := Lib.hid (by rw [← hx, List.getD_eq_getElem?_getD, List.getElem?_eq_getElem (by omega)]; exact List.getElem_mem _)
                clear hl hcx hall hl3' hx
                by_cases hx8 : 8 < x
                · have g5 : decide (8 < x) = true := decide_eq_true hx8
                  have HN := Lib.hid (show ¬ (FlatOk ⟨W, R, ch, st, ars, cs⟩ ∧ (1 ≤ R ∧ R ≤ 8) ∧ (1 ≤ na ∧ na ≤ 4) ∧ ∀ s ∈ ars, s ≤ 8) from fun h => by have := h.2.2.2 x hmem.out; omega)
                  clear hx8
                  go_wp2
                  go_ret
                  exact ⟨false, rfl, ⟨fun h => (by cases h), fun h => by rw [HP.out] at h; exact absurd h HN.out⟩, HL.out.below⟩
                · have g5 : decide (8 < x) = false := decide_eq_false hx8
                  have HX8 := Lib.hid hx8
                  clear hx8
                  go_wp2
                  go_roundw
                  case rel => exact ⟨i + 1, by omega, by go_num, fun j hj => by
                    by_cases e : j = i
                    · subst e; rw [HX.out.1]; have := HX8.out; omega
                    · exact HX.out.2 j (by omega), HL.out⟩
                  case measure => simp [intOf]; omega
              · obtain rfl : i = na := by omega
                have HL := Lib.hid hl; have HALL := Lib.hid hall
                have HG := Lib.hid (And.intro (And.intro g1 g2) (And.intro (And.intro h1 h2) (And.intro h3 h4)))
                clear hl hall
                go_wp2
                go_ret
                refine ⟨true, rfl, ⟨fun _ => ?_, fun _ => rfl⟩, HL.out.below⟩
                rw [HP.out]
                refine ⟨HPP.out, ⟨by omega, by omega⟩, ⟨by omega, by omega⟩, fun s hs => ?_⟩
                obtain ⟨j, hj, rfl⟩ := List.getElem_of_mem hs
                have := HALL.out j (by have := HV.out; omega)
                rwa [List.getD_eq_getElem?_getD, List.getElem?_eq_getElem hj] at this
  · have hk : ∀ wx, Below w.heap.size w wx → Calls Tryd.prog 21 #[.agg #[.int .i64 W, .int .i64 R, v1, v2, (.slice a3 na c3), v4]] wx fun e w' => e = .returned (.int .i64 2) ∧ Below wx.heap.size wx w' := fun wx hbx => (hck wx hbx).mono (by
      rintro e w' ⟨qv, rfl, hq | hq, hbb⟩
      · exact absurd hq.1 hp
      · rw [hq.2]; exact ⟨rfl, hbb⟩)
    have HK := Lib.hid hk
    have HN := Lib.hid (show ¬ (FlatOk ⟨W, R, ch, st, ars, cs⟩ ∧ (1 ≤ R ∧ R ≤ 8) ∧ (1 ≤ na ∧ na ≤ 4) ∧ ∀ s ∈ ars, s ≤ 8) from fun h => hp h.1)
    clear hck hk hp
    go_enter Tryd.func7, Tryd.ntmps7
    go_upto_region 1 with fail
    refine wp_abs (fun wx => Lab w wx [Thing.box w.heap.size 26 #[.int .i64 W, .int .i64 R, v1, v2, (.slice a3 na c3), v4]]) HB.out ?_
    intro w1 hl
    obtain ⟨q0, q1, q2, q3, q4, q5⟩ := HC.out w1 hl
    have hchk := HK.out w1 hl.below
    have HCK := Lib.hid hchk; have HL := Lib.hid hl
    clear hchk hl
    go_wp2_with fail
    go_at_call 21
    refine HCK.out.mono ?_
    rintro e w5 ⟨rfl, hb5⟩
    have hl5 := HL.out.later hb5
    clear q0 q1 q2 q3 q4 q5 HCK hb5
    obtain ⟨q0, q1, q2, q3, q4, q5⟩ := HC.out w5 hl5
    have HL5 := Lib.hid hl5
    clear hl5
    go_wp2
    go_ret
    exact ⟨false, rfl, ⟨fun h => (by cases h), fun h => by rw [HP.out] at h; exact absurd h HN.out⟩, HL5.out.below⟩
end
end Go.Proofs.YtiklidgcmheofaaDoor
namespace Go.Proofs.YtiklidgcmheofaaDoor
open Go.RowKit Go.Maps
set_option maxHeartbeats 3200000
theorem bothIn_of {w : World} {W nR : Nat} {ch st : List ByteArray} {ars : List Int} {cs : List CodeD} {v1 v2 v3 v4 vv : Value} {vals : List Int} (hf : FlatOf w ⟨W, nR, ch, st, ars, cs⟩ v1 v2 v3 v4) (hS : SmallP ⟨W, nR, ch, st, ars, cs⟩) (hv : SliceOf w .u64 vv vals) (hvu : U64s vals) (hn : vals.length ≤ 8) : BothIn w W nR ars vals v3 vv := by
  obtain ⟨h1, h2, h3, h4⟩ := hS
  simp only at h2 h3 h4
  exact ⟨hf.arrays, hv, hn, hvu, by omega, by omega, h3.1, h3.2, fun s hs => ⟨(h1.arrays s hs).1, h4 s hs⟩⟩
section
variable {w : World}
set_option maxRecDepth 100000 in
theorem storeZeros_walk (f : FlatD) (v1 v2 v3 v4 : Value) (num : Nat) (hnum : num < 18446744073709551616) (hf : FlatOf w f v1 v2 v3 v4) (hT : ShpOk w) :
    Calls Tryd.prog 4 #[.agg #[.int .i64 f.W, .int .i64 f.R, v1, v2, v3, v4], .int .u64 num] w fun e w' => e = .returned (.bool true) ∧ Below w.heap.size w w' := by
  have hb0 := (Lab.nil (Below.refl w.heap.size w)).alloc #[.int .i64 f.W, .int .i64 f.R, v1, v2, v3, v4] 26
  have cells : ∀ (wx : World) (us : List Thing), Lab w wx us → Thing.box w.heap.size 26 #[.int .i64 f.W, .int .i64 f.R, v1, v2, v3, v4] ∈ us → wx.cell? ⟨w.heap.size, 0, none⟩ = some (.int .i64 f.W) ∧ wx.cell? ⟨w.heap.size, 1, none⟩ = some (.int .i64 f.R) ∧ wx.cell? ⟨w.heap.size, 2, none⟩ = some v1 ∧ wx.cell? ⟨w.heap.size, 3, none⟩ = some v2 ∧ wx.cell? ⟨w.heap.size, 4, none⟩ = some v3 ∧ wx.cell? ⟨w.heap.size, 5, none⟩ = some v4 := fun wx us hx hm => by
    have r : wx.heap[w.heap.size]? = some (.cells #[.int .i64 f.W, .int .i64 f.R, v1, v2, v3, v4] 26 (0, 0)) := hx.holds _ hm
    exact ⟨cell_of_cells r (i := 0) rfl, cell_of_cells r (i := 1) rfl, cell_of_cells r (i := 2) rfl, cell_of_cells r (i := 3) rfl, cell_of_cells r (i := 4) rfl, cell_of_cells r (i := 5) rfl⟩
  obtain ⟨q, hq⟩ : ∃ q, w.heap.size = q := ⟨_, rfl⟩
  rw [hq] at hb0 cells
  have hsml : ∀ wx, Lab w wx [Thing.box q 26 #[.int .i64 f.W, .int .i64 f.R, v1, v2, v3, v4]] → Calls Tryd.prog 7 #[.agg #[.int .i64 f.W, .int .i64 f.R, v1, v2, v3, v4]] wx fun e w' => ∃ B : Bool, e = .returned (.bool B) ∧ (B = true ↔ SmallP f) ∧ Below wx.heap.size wx w' := fun wx hx => small_any f v1 v2 v3 v4 (hf.later hx.below) (hT.later hx.below)
  have HB := Lib.hid hb0; have HC := Lib.hid cells; have HF := Lib.hid (And.intro hf (And.intro hT True.intro)); have HSL := Lib.hid hsml
  clear hb0 cells hf hT hsml
  by_cases hS : SmallP f
  · have HS := Lib.hid hS
    obtain ⟨W', R', ch, st, ars, cs⟩ := f
    simp only at HB HC HF HSL ⊢
    obtain ⟨W, rfl⟩ : ∃ W : Nat, W' = (W : Int) := ⟨W'.toNat, by have := hS.1.W; simp only at this; omega⟩
    obtain ⟨nR, rfl⟩ : ∃ n : Nat, R' = (n : Int) := ⟨R'.toNat, by have := hS.1.R; simp only at this; omega⟩
    clear hS
    go_enter Tryd.func4, Tryd.ntmps4
    go_upto_region 1 with fail
    refine wp_abs (fun wx => Lab w wx [Thing.box q 26 #[.int .i64 W, .int .i64 nR, v1, v2, v3, v4]]) HB.out ?_
    intro w1 hl1
    obtain ⟨q0, q1, q2, q3, q4, q5⟩ := HC.out _ _ hl1 (by simp)
    have HSM := Lib.hid (HSL.out w1 hl1); have HL1 := Lib.hid hl1
    clear hl1 HB hq
    go_wp2_with fail
    go_at_call 7
    refine HSM.out.mono ?_
    rintro e w2 ⟨B, rfl, hB, hb2⟩
    obtain rfl : B = true := hB.2 HS.out
    have hl2 := HL1.out.later hb2
    clear q0 q1 q2 q3 q4 q5 HSM HL1 hb2 hB
    obtain ⟨q0, q1, q2, q3, q4, q5⟩ := HC.out _ _ hl2 (by simp)
    obtain ⟨vb, hvb⟩ : ∃ vb, w2.heap.size = vb := ⟨_, rfl⟩
    obtain ⟨wz, hwz⟩ : ∃ wz, w2.alloc (.cells #[.int .u64 1, .int .u64 2, .int .u64 3] 40) = wz := ⟨_, rfl⟩
    have hbz : Below w2.heap.size w2 wz := by rw [← hwz]; exact below_new _ _
    have hvals : SliceOf wz .u64 (.slice (some ⟨vb, 0, none⟩) 3 3) [1, 2, 3] := slice_of_box (T := 40) (xs := [1, 2, 3]) (by rw [← hwz, ← hvb]; exact heap_alloc_new w2 _)
    have hbt := hl2.below.trans (hbz.mono hl2.below.size)
    have hU : U64s [1, 2, 3] := by intro v hv; simp at hv; omega
    have z4 := cell_later hbz q4
    have HZ := Lib.hid (And.intro (HF.out.1.later hbt) (And.intro (HF.out.2.1.later hbt) (And.intro hvals (And.intro hbt (And.intro z4 hU)))))
    have HI := Lib.hid (bothIn_of (HF.out.1.later hbt) HS.out hvals hU (by decide))
    have hbg := Lab.bbegin (vals := [1, 2, 3]) (vv := (.slice (some ⟨vb, 0, none⟩) 3 3)) (HF.out.1.later hbt) (HF.out.2.1.later hbt) HS.out.1 ⟨_, _, _, rfl⟩ (Lab.nil (Below.refl wz.heap.size wz))
    have HBG := Lib.hid hbg
    clear hbg hl2 hbz hvals hbt z4 hU
    go_wp2_with fail
    go_at_call 16
    refine HBG.out.mono ?_
    rintro e w3 ⟨bb, gb, sb, rb, zt, y, z, L, F, I, rfl, hB, hyl, hzl, hl3⟩
    have hbo := hB.both (vals := [1, 2, 3]) (nR := nR) (fun s hs => HS.out.1.arrays s hs)
    have hsame := Lab.bsame HI.out hbo (by rw [zerosL_len, hyl]) (by rw [zerosL_len, hzl]) (by have := hB.phi; omega) hl3
    have HSA := Lib.hid hsame; have HBO := Lib.hid (And.intro hbo (And.intro hB.phi (And.intro hyl hzl)))
    clear hsame hbo hB hyl hzl hl3 HBG q0 q1 q2 q3 q4 q5 hvb hwz
    go_wp2_with fail
    go_at_call 17
    refine HSA.out.mono ?_
    rintro e w4 ⟨L1, F1, I1, rfl, hp1, hok1, hph1, hl4⟩
    have HL4 := Lib.hid (And.intro hp1 (And.intro hok1 (And.intro hph1 hl4)))
    clear hp1 hok1 hph1 hl4 HSA
    obtain ⟨a3, na, c3, hv3, hna, hsz⟩ := HZ.out.1.arrays
    simp only at hv3 hna hsz
    have HV3 := Lib.hid (And.intro hv3 (And.intro hna hsz))
    have hna4 : na ≤ 4 := by have := HS.out.2.2.1.2; simp only at this; omega
    have Z4 : Hid (wz.cell? ⟨q, 4, none⟩ = some (.slice a3 na c3)) := Lib.hid (by rw [← HV3.out.1]; exact HZ.out.2.2.2.2.1)
    clear hv3 hna hsz
    go_wp2
    go_loopw [6] (fun v wx => ∃ a : Nat, a ≤ na ∧ v = .int .i64 a ∧ ∃ (F I : List Nat) (L : List PNode), GOk W L ∧ phi W L ≤ 65 + 2 * a ∧ Lab wz wx (bothTs F I gb W 20000 L bb sb rb nR y z (List.replicate nR (zt : Int)) (List.replicate nR 0) (zerosL zt ars) (zerosL 0 ars) v1 v2 v3 v4 (.slice (some ⟨vb, 0, none⟩) 3 3) [])) (fun v _ => na - (intOf v).toNat)
    case atStart => exact ⟨0, Nat.zero_le _, rfl, F1, I1, L1, HL4.out.2.1, by have := HL4.out.2.2.1; have := HBO.out.2.1; omega, HL4.out.2.2.2⟩
    case round =>
      clear HL4
      obtain ⟨a, ha, rfl, F2, I2, L2, hok, hph, hl⟩ := hrel
      have z4 := cell_later hl.below Z4.out
      by_cases hlt : a < na
      · have hlt' : (a : Int) < (na : Int) := by omega
        have a0 : (0 : Int) ≤ (a : Int) := by omega
        obtain ⟨b3, off3, rfl, hca⟩ := HV3.out.2.2 a hlt
        obtain ⟨x, hx⟩ : ∃ x, ars[a]? = some x := ⟨_, List.getElem?_eq_getElem (by have := HV3.out.2.1; omega)⟩
        rw [List.getD_eq_getElem?_getD, hx] at hca
        have hxr := HI.out.each x (List.mem_of_getElem? hx)
        obtain ⟨s, rfl⟩ : ∃ s : Nat, x = (s : Int) := ⟨x.toNat, by omega⟩
        replace hca : wz.cell? ⟨b3, off3 + a, none⟩ = some (.int .i64 (s : Int)) := hca
        have ca := cell_later hl.below hca
        have hs8 : s ≤ 8 := by omega
        have hza : (zerosL zt ars)[a]? = some (List.replicate s (zt : Int)) := by unfold zerosL; rw [List.getElem?_map, hx]; rfl
        obtain ⟨L3, t, hg3, hph3, -, -, hnm⟩ := Lab.bnumber HI.out.vl HI.out.nvals HI.out.u64 hl (by rw [zerosL_len, HBO.out.2.2.1]) (by rw [zerosL_len, HBO.out.2.2.2]) hok (by omega) num hnum
        have HNM := Lib.hid hnm; have HG3 := Lib.hid (And.intro hg3 hph3); have HCA := Lib.hid (And.intro hca hza); have HPH := Lib.hid hph
        clear hnm hg3 hph3 hca hza hph hok hl hx hxr
        go_wp2_with fail
        go_at_call 18
        refine HNM.out.mono ?_
        rintro e w5 ⟨F3, I3, rfl, hl5⟩
        clear HNM z4 ca
        obtain ⟨c0, c1, c2, -, -, -, -⟩ := both_cells hl5.fourth
        have hins := Lab.sinside hl5 (by rw [zerosL_len, HBO.out.2.2.1]) HG3.out.1.ok a HCA.out.2 t HG3.out.1.lt (by simp; omega) (by have := HG3.out.2; have := HPH.out; omega)
        rw [List.length_replicate] at hins
        have HINS := Lib.hid hins
        clear hins hl5
        go_wp2_with fail
        go_at_call 19
        refine HINS.out.mono ?_
        rintro e w6 ⟨L4, t4, F4, I4, rfl, hg4, hph4, hl6⟩
        replace hl6 : Lab wz w6 (bothTs F4 I4 gb W 20000 L4 bb sb rb nR y z (List.replicate nR (zt : Int)) (List.replicate nR 0) (zerosL zt ars) (zerosL 0 ars) v1 v2 v3 v4 (.slice (some ⟨vb, 0, none⟩) 3 3) []) := hl6
        clear c0 c1 c2 HINS
        obtain ⟨c0, c1, c2, -, -, -, -⟩ := both_cells hl6.fourth
        have hev := eval_any hl6.gr (t4 : Int) [] (.slice none 0 0) ⟨none, 0, 0, rfl, rfl, fun i hi => by omega⟩ (by decide) (by intro v hv; simp at hv)
        rw [show evalR W [] L4 (t4 : Int) = (val W [] L4 t4, 0) by unfold evalR; rw [if_pos ⟨by omega, by have := hg4.lt; omega⟩, Int.toNat_natCast], hg4.val [], HG3.out.1.val []] at hev
        have HEV := Lib.hid hev; have HL6 := Lib.hid (And.intro hl6 (And.intro hg4.ok (show phi W L4 ≤ 65 + 2 * (a + 1) by have := HG3.out.2; have := HPH.out; omega)))
        clear hev hl6 hg4 hph4
        obtain ⟨m, hm⟩ : ∃ m, num % 2 ^ W = m := ⟨_, rfl⟩
        rw [hm] at HEV
        have HMM := Lib.hid hm
        clear hm
        have ws : IntKind.u64.wrap (s : Int) = (s : Int) := by rw [wrap_u64_nat, Nat.mod_eq_of_lt (by omega)]
        by_cases hms : (m : Int) < (s : Int)
        · have HE2 : Hid (Calls Tryd.prog 15 #[.pointer (some ⟨gb, 0, none⟩), .int .i64 t4, .slice none 0 0] w6 fun e w' => e = .returned (.tuple #[.int .u64 1, .int .i64 0]) ∧ Below w6.heap.size w6 w') := Lib.hid (by
            have := HEV.out
            rw [if_pos hms] at this
            exact this)
          have gms : decide (m < s) = true := decide_eq_true (by omega)
          clear HEV hms
          go_wp2_with fail
          go_at_call 15
          refine HE2.out.mono ?_
          rintro e w7 ⟨rfl, hb7⟩
          have hl7 := HL6.out.1.later hb7
          clear c0 c1 c2 HE2 hb7
          obtain ⟨c0, c1, c2, -, -, -, -⟩ := both_cells hl7.fourth
          have z4 := cell_later hl7.below Z4.out
          have ca := cell_later hl7.below HCA.out.1
          have r0 := (Lab.st_read (by rw [zerosL_len, HBO.out.2.2.2]) hl7.rot3).c0
          have htr := rtrim30 (w := w7.drew) r0 HL6.out.2.1.w1 HL6.out.2.1.w2 num (by omega)
          rw [HMM.out] at htr
          have HT := Lib.hid htr; have HL7 := Lib.hid hl7
          clear htr hl7 r0
          go_upto_region 12 with fail
          go_region_held3 (fun w' => w'.cell? ⟨bb, 2, none⟩ = some (.pointer (some ⟨rb, 0, none⟩)) ∧ w'.cell? ⟨q, 4, none⟩ = some (.slice (some ⟨b3, off3, none⟩) na c3) ∧ w'.cell? ⟨b3, off3 + a, none⟩ = some (.int .i64 (s : Int))) (first | exact ⟨by assumption, by assumption, by assumption⟩ | go_keep)
            (first | (go_at_call 20; refine HT.out.mono ?_; rintro e w8 ⟨rfl, rfl⟩))
          all_goals
            clear z4 ca c0 c1 c2
            go_wp2
            go_roundw
            case rel => exact ⟨a + 1, by omega, by go_num, F4, I4, L4, HL6.out.2.1, HL6.out.2.2, HL7.out.drewN 1⟩
            case measure => simp [intOf]; omega
        · have HE2 : Hid (Calls Tryd.prog 15 #[.pointer (some ⟨gb, 0, none⟩), .int .i64 t4, .slice none 0 0] w6 fun e w' => e = .returned (.tuple #[.int .u64 0, .int .i64 0]) ∧ Below w6.heap.size w6 w') := Lib.hid (by
            have := HEV.out
            rw [if_neg hms] at this
            exact this)
          have gms : decide (m < s) = false := decide_eq_false (by omega)
          clear HEV hms
          go_wp2_with fail
          go_at_call 15
          refine HE2.out.mono ?_
          rintro e w7 ⟨rfl, hb7⟩
          have hl7 := HL6.out.1.later hb7
          clear c0 c1 c2 HE2 hb7
          obtain ⟨c0, c1, c2, -, -, -, -⟩ := both_cells hl7.fourth
          have z4 := cell_later hl7.below Z4.out
          have ca := cell_later hl7.below HCA.out.1
          have r0 := (Lab.st_read (by rw [zerosL_len, HBO.out.2.2.2]) hl7.rot3).c0
          have htr := rtrim30 (w := w7.drew) r0 HL6.out.2.1.w1 HL6.out.2.1.w2 num (by omega)
          rw [HMM.out] at htr
          have HT := Lib.hid htr; have HL7 := Lib.hid hl7
          clear htr hl7 r0
          go_upto_region 12 with fail
          go_region_held3 (fun w' => w'.cell? ⟨bb, 2, none⟩ = some (.pointer (some ⟨rb, 0, none⟩)) ∧ w'.cell? ⟨q, 4, none⟩ = some (.slice (some ⟨b3, off3, none⟩) na c3) ∧ w'.cell? ⟨b3, off3 + a, none⟩ = some (.int .i64 (s : Int))) (first | exact ⟨by assumption, by assumption, by assumption⟩ | go_keep)
            (first | (go_at_call 20; refine HT.out.mono ?_; rintro e w8 ⟨rfl, rfl⟩))
          all_goals
            clear z4 ca c0 c1 c2
            go_wp2
            go_roundw
            case rel => exact ⟨a + 1, by omega, by go_num, F4, I4, L4, HL6.out.2.1, HL6.out.2.2, HL7.out.drewN 1⟩
            case measure => simp [intOf]; omega
      · obtain rfl : a = na := by omega
        have HL := Lib.hid hl
        clear hl hok hph
        go_wp2_with fail
        go_at_call 8
        refine (awake30_any (HZ.out.2.1.later HL.out.below)).mono ?_
        rintro e w6 ⟨rfl, hb6⟩
        have HB6 := Lib.hid hb6
        clear hb6
        go_wp2
        go_ret
        have h1 := HL.out.below.trans (HB6.out.mono HL.out.below.size)
        exact ⟨rfl, HZ.out.2.2.2.1.trans (h1.mono HZ.out.2.2.2.1.size)⟩
  · have HS := Lib.hid hS
    clear hS
    go_enter Tryd.func4, Tryd.ntmps4
    go_upto_region 1 with fail
    refine wp_abs (fun wx => Lab w wx [Thing.box q 26 #[.int .i64 f.W, .int .i64 f.R, v1, v2, v3, v4]]) HB.out ?_
    intro w1 hl1
    obtain ⟨q0, q1, q2, q3, q4, q5⟩ := HC.out _ _ hl1 (by simp)
    have HSM := Lib.hid (HSL.out w1 hl1); have HL1 := Lib.hid hl1
    clear hl1 HB hq
    go_wp2_with fail
    go_at_call 7
    refine HSM.out.mono ?_
    rintro e w2 ⟨B, rfl, hB, hb2⟩
    obtain rfl : B = false := by
      cases B
      · rfl
      · exact absurd (hB.1 rfl) HS.out
    have hl2 := HL1.out.later hb2
    clear q0 q1 q2 q3 q4 q5 HSM HL1 hb2 hB
    obtain ⟨q0, q1, q2, q3, q4, q5⟩ := HC.out _ _ hl2 (by simp)
    have HL := Lib.hid hl2
    clear hl2
    go_wp2_with fail
    go_at_call 8
    refine (awake30_any (HF.out.2.1.later HL.out.below)).mono ?_
    rintro e w6 ⟨rfl, hb6⟩
    have HB6 := Lib.hid hb6
    clear hb6
    go_wp2
    go_ret
    exact ⟨rfl, HL.out.below.trans (HB6.out.mono HL.out.below.size)⟩
end
end Go.Proofs.YtiklidgcmheofaaDoor
namespace Go.Proofs.YtiklidgcmheofaaDoor
open Go.RowKit Go.Maps
set_option maxHeartbeats 3200000
theorem list4' {α : Type} (cs : List α) (h : cs.length = 4) : ∃ c0 c1 c2 c3, cs = [c0, c1, c2, c3] := by
  match cs, h with
  | [c0, c1, c2, c3], _ => exact ⟨_, _, _, _, rfl⟩
theorem shape_of_cells {H : Type} {enc : TypeId × Value → H} {w : World} {base fu : Nat} {sp : Nat → Bool} {held : Bool} {cs : List Value} {b0 b1 b2 : Bool} {n : Int} {pl : List MemPlace}
    (h : DataW.trod enc Tryd.prog w base sp held fu 131 cs = some (.agg [.lit (.bool b0), .lit (.bool b1), .lit (.bool b2), .lit (.int .i64 n)], pl)) : cs = [.bool b0, .bool b1, .bool b2, .int .i64 n] := by
  obtain ⟨ys, m, _, hx, hl, hyl, hf⟩ := DataW.trod_struct Tryd.underlying131 h
  have h4 : Tryd.prog.cellsOf 131 = 4 := by kernel_rfl
  have hcl : cs.length = 4 := hl.trans h4
  obtain ⟨c0, c1, c2, c3, rfl⟩ := list4' cs hcl
  have hys : ys.map (·.1) = [DataW.lit (.bool b0), .lit (.bool b1), .lit (.bool b2), .lit (.int .i64 n)] := by
    have := congrArg Prod.fst hx
    simp only [DataW.agg.injEq] at this
    exact this.symm
  obtain ⟨y0, y1, y2, y3, rfl⟩ := list4' ys hyl
  simp only [List.map_cons, List.map_nil, List.cons.injEq, and_true] at hys
  obtain ⟨z0, z1, z2, z3⟩ := hys
  have q0 : Tryd.prog.cellsOf 4 = 1 := by kernel_rfl
  have q1 : Tryd.prog.cellsOf 3 = 1 := by kernel_rfl
  have g0 := hf 0 _ rfl
  replace g0 : DataW.trod enc Tryd.prog w base sp held m 4 (([c0, c1, c2, c3].drop 0).take (Tryd.prog.cellsOf 4)) = some y0 := g0
  rw [q0] at g0
  have g1 := hf 1 _ rfl
  replace g1 : DataW.trod enc Tryd.prog w base sp held m 4 (([c0, c1, c2, c3].drop 1).take (Tryd.prog.cellsOf 4)) = some y1 := g1
  rw [q0] at g1
  have g2 := hf 2 _ rfl
  replace g2 : DataW.trod enc Tryd.prog w base sp held m 4 (([c0, c1, c2, c3].drop 2).take (Tryd.prog.cellsOf 4)) = some y2 := g2
  rw [q0] at g2
  have g3 := hf 3 _ rfl
  replace g3 : DataW.trod enc Tryd.prog w base sp held m 3 (([c0, c1, c2, c3].drop 3).take (Tryd.prog.cellsOf 3)) = some y3 := g3
  rw [q1] at g3
  obtain ⟨x0, e0, r0⟩ := DataW.trod_bool Tryd.underlying4 g0
  obtain ⟨x1, e1, r1⟩ := DataW.trod_bool Tryd.underlying4 g1
  obtain ⟨x2, e2, r2⟩ := DataW.trod_bool Tryd.underlying4 g2
  obtain ⟨x3, e3, r3, -⟩ := DataW.trod_int Tryd.underlying3 g3
  subst r0 r1 r2 r3
  simp only [DataW.lit.injEq, Lit.bool.injEq, Lit.int.injEq, true_and] at z0 z1 z2 z3
  subst z0 z1 z2 z3
  simp only [List.drop_zero, List.drop_succ_cons, List.take_succ_cons, List.take_zero, List.cons.injEq, and_true] at e0 e1 e2 e3
  rw [e0, e1, e2, e3]
theorem gShp : Tryd.prog.globalNamed "weephole/flat.shapes" = some 0 := by kernel_rfl
theorem gShpType : (Tryd.prog.globals[0]?).map (·.type) = some 132 := by kernel_rfl
set_option maxRecDepth 100000 in
theorem shp_of_laid {W : World} (h : laidMet Tryd.prog [("weephole/flat.shapes", Rows.laid_weephole_flat_shapes)] W) : ShpOk W := by
  obtain ⟨ps, ⟨g', t', cs, fuel, p, q, hg', ht', hvar, hd, _, _⟩, _⟩ := h
  obtain rfl := Option.some.inj (gShp.symm.trans hg')
  obtain rfl := Option.some.inj (gShpType.symm.trans ht')
  obtain ⟨xs, m, _, hx, hcl, hxl, hf⟩ := DataW.trod_array Tryd.underlying132 hd
  have h4 : Tryd.prog.cellsOf 131 = 4 := by kernel_rfl
  rw [h4] at hf
  have hxs : DataW.agg (xs.map (·.1)) = Rows.laid_weephole_flat_shapes := by
    have := congrArg Prod.fst hx
    exact this.symm
  have at_ : ∀ (i : Nat) (b0 b1 b2 : Bool) (n : Int), i < 10 → (xs.map (·.1))[i]? = some (.agg [.lit (.bool b0), .lit (.bool b1), .lit (.bool b2), .lit (.int .i64 n)]) →
      W.cell? ⟨0, i * 4, none⟩ = some (.bool b0) ∧ W.cell? ⟨0, i * 4 + 1, none⟩ = some (.bool b1) ∧ W.cell? ⟨0, i * 4 + 2, none⟩ = some (.bool b2) ∧ W.cell? ⟨0, i * 4 + 3, none⟩ = some (.int .i64 n) := by
    intro i b0 b1 b2 n hi he
    rw [List.getElem?_map, Option.map_eq_some_iff] at he
    obtain ⟨⟨d, pl⟩, hxi, hd2⟩ := he
    simp only at hd2
    subst hd2
    have h1 := hf i hi
    rw [hxi] at h1
    have h2 := shape_of_cells h1
    have cell : ∀ j u, j < 4 → [Value.bool b0, .bool b1, .bool b2, .int .i64 n][j]? = some u → W.cell? ⟨0, i * 4 + j, none⟩ = some u := fun j u hj hu => by
      rw [← h2, List.getElem?_take, if_pos hj, List.getElem?_drop] at hu
      have := World.var?_cell gShp hvar (i * 4 + j)
      rw [this]
      simpa using hu
    exact ⟨cell 0 _ (by decide) rfl, cell 1 _ (by decide) rfl, cell 2 _ (by decide) rfl, cell 3 _ (by decide) rfl⟩
  unfold Rows.laid_weephole_flat_shapes at hxs
  simp only [DataW.agg.injEq] at hxs
  rw [hxs] at at_
  intro k hk
  have hk2 : k = 0 ∨ k = 1 ∨ k = 2 ∨ k = 3 ∨ k = 4 ∨ k = 5 ∨ k = 6 ∨ k = 7 ∨ k = 8 ∨ k = 9 := by omega
  rcases hk2 with rfl | rfl | rfl | rfl | rfl | rfl | rfl | rfl | rfl | rfl
  · exact at_ 0 _ _ _ _ (by decide) rfl
  · exact at_ 1 _ _ _ _ (by decide) rfl
  · exact at_ 2 _ _ _ _ (by decide) rfl
  · exact at_ 3 _ _ _ _ (by decide) rfl
  · exact at_ 4 _ _ _ _ (by decide) rfl
  · exact at_ 5 _ _ _ _ (by decide) rfl
  · exact at_ 6 _ _ _ _ (by decide) rfl
  · exact at_ 7 _ _ _ _ (by decide) rfl
  · exact at_ 8 _ _ _ _ (by decide) rfl
  · exact at_ 9 _ _ _ _ (by decide) rfl
end Go.Proofs.YtiklidgcmheofaaDoor
