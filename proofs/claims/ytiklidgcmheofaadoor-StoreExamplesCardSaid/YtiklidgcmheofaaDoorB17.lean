/- FlF, StV: joined by wip/bundle.py. -/
import Derived.Test.YtiklidgcmheofaaDoorB1
import Derived.Test.YtiklidgcmheofaaDoorB2
import Derived.Test.YtiklidgcmheofaaDoorB3
import Derived.Test.YtiklidgcmheofaaDoorB4
import Derived.Test.YtiklidgcmheofaaDoorB5
import Derived.Test.YtiklidgcmheofaaDoorB6
import Derived.Test.YtiklidgcmheofaaDoorB7
import Derived.Test.YtiklidgcmheofaaDoorB8
import Derived.Test.YtiklidgcmheofaaDoorB9
import Derived.Test.YtiklidgcmheofaaDoorB10
import Derived.Test.YtiklidgcmheofaaDoorB11
import Derived.Test.YtiklidgcmheofaaDoorB12
import Derived.Test.YtiklidgcmheofaaDoorB13
import Derived.Test.YtiklidgcmheofaaDoorB14
import Derived.Test.YtiklidgcmheofaaDoorB15
import Derived.Test.YtiklidgcmheofaaDoorB16
import Derived.BigQuiet
namespace Go.Proofs.YtiklidgcmheofaaDoor
open Go.RowKit Go.Maps
set_option maxHeartbeats 12800000
/-- A slice of instructions, as what is read. -/
def CodesOf (w : World) (v : Value) (l : List CodeD) : Prop :=
  ∃ a n cap, v = .slice a n cap ∧ l.length = n ∧ n ≤ 9223372036854775807 ∧ ∀ i, i < n → ∃ b off c, a = some ⟨b, off, none⟩ ∧ l[i]? = some c ∧ c.Ok ∧
    w.cell? ⟨b, off + i * 8, none⟩ = some (.int .u8 c.k) ∧ w.cell? ⟨b, off + i * 8 + 1, none⟩ = some (.int .u8 c.o) ∧ w.cell? ⟨b, off + i * 8 + 2, none⟩ = some (.int .i64 c.d) ∧ w.cell? ⟨b, off + i * 8 + 3, none⟩ = some (.int .i64 c.n) ∧
    w.cell? ⟨b, off + i * 8 + 4, none⟩ = some (.int .i64 c.ar) ∧ w.cell? ⟨b, off + i * 8 + 5, none⟩ = some (.int .u64 c.an) ∧ w.cell? ⟨b, off + i * 8 + 6, none⟩ = some (.int .i64 c.br) ∧ w.cell? ⟨b, off + i * 8 + 7, none⟩ = some (.int .u64 c.bn)
theorem CodesOf.later {w w' : World} {v : Value} {l : List CodeD} (h : CodesOf w v l) (hb : Below w.heap.size w w') : CodesOf w' v l := by
  obtain ⟨a, n, cap, rfl, hl, hm, hx⟩ := h
  refine ⟨a, n, cap, rfl, hl, hm, fun i hi => ?_⟩
  obtain ⟨b, off, c, h1, h2, h3, d0, d1, d2, d3, d4, d5, d6, d7⟩ := hx i hi
  exact ⟨b, off, c, h1, h2, h3, cell_later hb d0, cell_later hb d1, cell_later hb d2, cell_later hb d3, cell_later hb d4, cell_later hb d5, cell_later hb d6, cell_later hb d7⟩
theorem SliceOf.laterF {w w' : World} {k : IntKind} {v : Value} {xs : List Int} (h : SliceOf w k v xs) (hb : Below w.heap.size w w') : SliceOf w' k v xs := by
  obtain ⟨a, n, cap, rfl, hl, hx⟩ := h
  refine ⟨a, n, cap, rfl, hl, fun i hi => ?_⟩
  obtain ⟨b, off, h1, h2⟩ := hx i hi
  exact ⟨b, off, h1, cell_later hb h2⟩
/-- A flat program in its variable. -/
structure FBx (w wx : World) (p : Nat) (fa : Array Value) : Prop where
  below : Below w.heap.size w wx
  f : wx.heap[p]? = some (.cells fa 26 (0, 0))
theorem FBx.later {w wx wy : World} {p : Nat} {fa : Array Value} (h : FBx w wx p fa) (hb : Below wx.heap.size wx wy) : FBx w wy p fa :=
  ⟨h.below.trans (hb.mono h.below.size), (hb.block p (Array.getElem?_eq_some_iff.1 h.f).1).trans h.f⟩
/-- A flat program, as what is read. -/
structure FlatOf (w : World) (f : FlatD) (v1 v2 v3 v4 : Value) : Prop where
  chans : StrsOf w v1 f.chans
  sites : StrsOf w v2 f.sites
  arrays : SliceOf w .i64 v3 f.arrays
  codes : CodesOf w v4 f.codes
theorem FlatOf.later {w w' : World} {f : FlatD} {v1 v2 v3 v4 : Value} (h : FlatOf w f v1 v2 v3 v4) (hb : Below w.heap.size w w') : FlatOf w' f v1 v2 v3 v4 :=
  ⟨h.chans.later hb, h.sites.later hb, h.arrays.laterF hb, h.codes.later hb⟩
/-- A flat program is valid. -/
structure FlatOk (f : FlatD) : Prop where
  W : 1 ≤ f.W ∧ f.W ≤ 64
  R : 0 ≤ f.R ∧ f.R ≤ 2097152
  chans : namesB f.chans = true
  sites : namesB f.sites = true
  na : f.arrays.length ≤ 32
  nk : 1 ≤ f.codes.length ∧ f.codes.length ≤ 4096
  arrays : ∀ n ∈ f.arrays, 1 ≤ n ∧ n ≤ 64
  codes : ∀ c ∈ f.codes, InstrOk f.W f.R f.arrays.length f.chans.length f.sites.length f.codes.length c
  last : ∀ c, f.codes[f.codes.length - 1]? = some c → c.k = 9 ∨ c.k = 7
/-- An error or none. -/
def ErrPost (p : Prop) (w : World) : Ending → World → Prop := fun e w' => ∃ q : Int, e = .returned (.int .i64 q) ∧ (p ∧ q = 0 ∨ ¬ p ∧ q = 2) ∧ Below w.heap.size w w'
theorem ErrPost.bad {p : Prop} {w w' : World} (h : ¬ p) (hb : Below w.heap.size w w') : ErrPost p w (.returned (.int .i64 2)) w' := ⟨2, rfl, .inr ⟨h, rfl⟩, hb⟩
theorem ErrPost.good {p : Prop} {w w' : World} (h : p) (hb : Below w.heap.size w w') : ErrPost p w (.returned (.int .i64 0)) w' := ⟨0, rfl, .inl ⟨h, rfl⟩, hb⟩
noncomputable def fcheckRest (id : Nat) : Code := (Tryd.f29.body.bind (tailAt id)).getD .skip
/-- What the walk of a flat program leans on. -/
structure FlIn (w : World) (W R : Int) (ch st : List ByteArray) (ars : List Int) (cs : List CodeD) (a1 a2 a3 a4 : Option Addr) (nc ns na nk c1 c2 c3 c4 : Nat) (P : Prop) : Prop where
  of : FlatOf w ⟨W, R, ch, st, ars, cs⟩ (.slice a1 nc c1) (.slice a2 ns c2) (.slice a3 na c3) (.slice a4 nk c4)
  shp : ShpOk w
  wid : (1 ≤ W ∧ W ≤ 64) ∧ (0 ≤ R ∧ R ≤ 2097152)
  names : namesB ch = true ∧ namesB st = true
  lens : ch.length = nc ∧ st.length = ns ∧ ars.length = na ∧ cs.length = nk
  few : na ≤ 32 ∧ 1 ≤ nk ∧ nk ≤ 4096
  iff : FlatOk ⟨W, R, ch, st, ars, cs⟩ ↔ P
section
variable {w wr : World} {W R : Int} {ch st : List ByteArray} {ars : List Int} {cs : List CodeD} {a1 a2 a3 a4 : Option Addr} {nc ns na nk c1 c2 c3 c4 p : Nat} {P : Prop}
theorem FlIn.instr (h : FlIn w W R ch st ars cs a1 a2 a3 a4 nc ns na nk c1 c2 c3 c4 P) {wx : World} (hb : Below w.heap.size w wx) {c : CodeD} (hc : c.Ok) :
    Calls Tryd.prog 46 #[.agg #[.int .i64 W, .int .i64 R, .slice a1 nc c1, .slice a2 ns c2, .slice a3 na c3, .slice a4 nk c4], c.val] wx (BoolPost (InstrOk W R na nc ns nk c) wx) := finstr_any (a1 := a1) (a2 := a2) (a3 := a3) (a4 := a4) (nc := nc) (ns := ns) (na := na) (nk := nk) (c1 := c1) (c2 := c2) (c3 := c3) (c4 := c4) ⟨W, R, ch, st, ars, cs⟩ h.wid.1.1 h.wid.1.2 c hc (h.shp.later hb)
set_option maxRecDepth 100000 in
theorem fcheck_rest10 {u0 u2 u3 u4 u5 u6 u7 u8 u9 u10 u11 u12 u13 u14 u15 u16 u17 u18 u19 u20 u21 u22 u23 u24 u25 u26 u27 u28 u29 u30 u31 u32 u33 u34 u35 u36 u37 u38 u39 u40 u41 u42 u43 u44 u45 u46 u47 u48 u49 u50 u51 u52 u53 u54 u55 u56 u57 u58 u59 u60 u61 u62 u63 u64 u65 u66 u67 u68 u69 u70 u71 u72 u73 u74 u75 u76 u77 u78 u79 u80 u81 u82 u83 u84 u85 u86 u87 u88 u89 u90 u91 u92 u93 u94 u95 u96 u97 : Value} (hin : FlIn w W R ch st ars cs a1 a2 a3 a4 nc ns na nk c1 c2 c3 c4 P) (hx : FBx w wr p #[.int .i64 W, .int .i64 R, .slice a1 nc c1, .slice a2 ns c2, .slice a3 na c3, .slice a4 nk c4]) (hars : ∀ n ∈ ars, 1 ≤ n ∧ n ≤ 64) :
    Code.wp Tryd.prog (fcheckRest 10) (bodyPost Tryd.prog Tryd.f29 (ErrPost P w)) ⟨(List.toArray (u0 :: .pointer (some ⟨p, 0, none⟩) :: u2 :: u3 :: u4 :: u5 :: u6 :: u7 :: u8 :: u9 :: u10 :: u11 :: u12 :: u13 :: u14 :: u15 :: u16 :: u17 :: u18 :: u19 :: u20 :: u21 :: u22 :: u23 :: u24 :: u25 :: u26 :: u27 :: u28 :: u29 :: u30 :: u31 :: u32 :: u33 :: u34 :: u35 :: u36 :: u37 :: u38 :: u39 :: u40 :: u41 :: u42 :: u43 :: u44 :: u45 :: u46 :: u47 :: u48 :: u49 :: u50 :: u51 :: u52 :: u53 :: u54 :: u55 :: u56 :: u57 :: u58 :: u59 :: u60 :: u61 :: u62 :: u63 :: u64 :: u65 :: u66 :: u67 :: u68 :: u69 :: u70 :: u71 :: u72 :: u73 :: u74 :: u75 :: u76 :: u77 :: u78 :: u79 :: u80 :: u81 :: u82 :: u83 :: u84 :: u85 :: u86 :: u87 :: u88 :: u89 :: u90 :: u91 :: u92 :: u93 :: u94 :: u95 :: u96 :: u97 :: [])), []⟩ wr := by
  have HI := Lib.hid hin; have HX := Lib.hid hx; have HA := Lib.hid hars
  have bk := hin.few.2.2
  clear hin hx hars
  conv => arg 2; whnf
  have q0 := cell_of_cells HX.out.f (i := 0) rfl
  have q1 := cell_of_cells HX.out.f (i := 1) rfl
  have q2 := cell_of_cells HX.out.f (i := 2) rfl
  have q3 := cell_of_cells HX.out.f (i := 3) rfl
  have q4 := cell_of_cells HX.out.f (i := 4) rfl
  have q5 := cell_of_cells HX.out.f (i := 5) rfl
  go_wp2
  go_loopw [74] (fun i wx => ∃ j : Nat, j ≤ nk ∧ i = .int .i64 j ∧ (∀ c ∈ cs.take j, InstrOk W R na nc ns nk c) ∧ FBx w wx p #[.int .i64 W, .int .i64 R, .slice a1 nc c1, .slice a2 ns c2, .slice a3 na c3, .slice a4 nk c4]) (fun i _ => nk - (intOf i).toNat)
  case atStart => exact ⟨0, Nat.zero_le _, rfl, by simp, HX.out⟩
  case round =>
    clear q0 q1 q2 q3 q4 q5
    obtain ⟨j, hj, rfl, hcj, hbx⟩ := hrel
    replace HX := Lib.hid hbx
    obtain ⟨ak, n', cap', e, hl', hm', hx⟩ := HI.out.of.codes.later hbx.below
    simp only [Value.slice.injEq] at e
    obtain ⟨rfl, rfl, rfl⟩ := e
    have HCJ := Lib.hid hcj
    clear hcj hbx
    by_cases hlt : j < nk
    · obtain ⟨b, off, c, rfl, hck, hcok, d0, d1, d2, d3, d4, d5, d6, d7⟩ := hx j hlt
      have HCK := Lib.hid (And.intro hck hcok)
      have hlt' : (j : Int) < (nk : Int) := by omega
      have j0 : (0 : Int) ≤ (j : Int) := by omega
      clear hx hck hcok hl' hm'
      have q0 := cell_of_cells HX.out.f (i := 0) rfl
      have q1 := cell_of_cells HX.out.f (i := 1) rfl
      have q2 := cell_of_cells HX.out.f (i := 2) rfl
      have q3 := cell_of_cells HX.out.f (i := 3) rfl
      have q4 := cell_of_cells HX.out.f (i := 4) rfl
      have q5 := cell_of_cells HX.out.f (i := 5) rfl
      go_upto_region 13 with fail
      refine wp_abs (fun wx => FBx w wx p #[.int .i64 W, .int .i64 R, .slice a1 nc c1, .slice a2 ns c2, .slice a3 na c3, .slice (some ⟨b, off, none⟩) nk c4] ∧ wx.heap[wr.heap.size]? = some (.cells #[.int .u8 c.k, .int .u8 c.o, .int .i64 c.d, .int .i64 c.n, .int .i64 c.ar, .int .u64 c.an, .int .i64 c.br, .int .u64 c.bn] 100 (0, 0))) ⟨HX.out.later (below_new _ _), heap_alloc_new _ _⟩ ?_
      rintro w2 ⟨hx2, hcb⟩
      obtain ⟨g, hg⟩ : ∃ g, wr.heap.size = g := ⟨_, rfl⟩
      rw [hg] at hcb
      clear q0 q1 q2 q3 q4 q5 d0 d1 d2 d3 d4 d5 d6 d7
      replace HX := Lib.hid hx2
      clear hx2
      have q0 := cell_of_cells HX.out.f (i := 0) rfl
      have q1 := cell_of_cells HX.out.f (i := 1) rfl
      have q2 := cell_of_cells HX.out.f (i := 2) rfl
      have q3 := cell_of_cells HX.out.f (i := 3) rfl
      have q4 := cell_of_cells HX.out.f (i := 4) rfl
      have q5 := cell_of_cells HX.out.f (i := 5) rfl
      have e0 := cell_of_cells hcb (i := 0) rfl
      have e1 := cell_of_cells hcb (i := 1) rfl
      have e2 := cell_of_cells hcb (i := 2) rfl
      have e3 := cell_of_cells hcb (i := 3) rfl
      have e4 := cell_of_cells hcb (i := 4) rfl
      have e5 := cell_of_cells hcb (i := 5) rfl
      have e6 := cell_of_cells hcb (i := 6) rfl
      have e7 := cell_of_cells hcb (i := 7) rfl
      have hin := HI.out.instr HX.out.below HCK.out.2
      unfold CodeD.val at hin
      have HIN := Lib.hid hin
      clear hin hcb
      go_wp2_with fail
      go_at_call 46
      refine HIN.out.mono ?_
      rintro e w7 ⟨bb, rfl, hbi, hb7⟩
      clear q0 q1 q2 q3 q4 q5 e0 e1 e2 e3 e4 e5 e6 e7 HIN
      replace HX := Lib.hid (HX.out.later hb7)
      have HBI := Lib.hid hbi
      clear hb7 hbi hg
      cases bb with
      | false =>
        go_wp2
        go_ret
        exact ErrPost.bad (fun h => by
          have h1 := (HI.out.iff.2 h).codes c (List.mem_of_getElem? HCK.out.1)
          have h2 := HI.out.lens
          simp only at h1
          rw [h2.1, h2.2.1, h2.2.2.1, h2.2.2.2] at h1
          cases HBI.out.2 h1) HX.out.below
      | true =>
        go_wp2
        refine ⟨⟨j + 1, by omega, by go_num, fun x hxm => ?_, HX.out⟩, by simp [intOf]; omega⟩
        rw [List.take_add_one, HCK.out.1] at hxm
        rcases List.mem_append.1 hxm with hxm | hxm
        · exact HCJ.out x hxm
        · obtain rfl : x = c := by simpa using hxm
          exact HBI.out.1 (by simp)
    · obtain rfl : j = nk := by omega
      rw [List.take_of_length_le (by have := HI.out.lens; omega)] at HCJ
      have hfew := HI.out.few
      obtain ⟨b, off, c, rfl, hck, hcok, d0, -⟩ := hx (j - 1) (by omega)
      obtain ⟨m, rfl⟩ : ∃ m, j = m + 1 := ⟨j - 1, by omega⟩
      rw [Nat.add_sub_cancel] at hck d0
      have HCK := Lib.hid (And.intro hck hcok)
      have m0 : (m : Int) < ((m + 1 : Nat) : Int) := by omega
      have m1 : (0 : Int) ≤ (m : Int) := by omega
      have m2 : m + 1 ≤ 4096 := hfew.2.2
      have HM := Lib.hid hl'
      clear hx hck hcok hl' hm' hfew
      have q0 := cell_of_cells HX.out.f (i := 0) rfl
      have q1 := cell_of_cells HX.out.f (i := 1) rfl
      have q2 := cell_of_cells HX.out.f (i := 2) rfl
      have q3 := cell_of_cells HX.out.f (i := 3) rfl
      have q4 := cell_of_cells HX.out.f (i := 4) rfl
      have q5 := cell_of_cells HX.out.f (i := 5) rfl
      have hlast : ∀ c', cs[cs.length - 1]? = some c' → c' = c := fun c' h => by
        have h2 := HI.out.lens.2.2.2
        rw [h2, Nat.add_sub_cancel, HCK.out.1] at h
        exact (Option.some.inj h).symm
      have HLA := Lib.hid hlast
      clear hlast
      have hfin : (c.k = 9 ∨ c.k = 7) → P := fun hk => HI.out.iff.1 ⟨HI.out.wid.1, HI.out.wid.2, HI.out.names.1, HI.out.names.2, by have := HI.out.lens; have := HI.out.few; show ars.length ≤ 32; omega, by have := HI.out.lens; have := HI.out.few; show 1 ≤ cs.length ∧ cs.length ≤ 4096; omega, HA.out, fun c' hc' => by
        have h2 := HI.out.lens
        simp only
        rw [h2.1, h2.2.1, h2.2.2.1, h2.2.2.2]
        exact HCJ.out c' hc', fun c' h => by rw [HLA.out c' h]; exact hk⟩
      have hbad : ¬ (c.k = 9 ∨ c.k = 7) → ¬ P := fun hk h => hk ((HI.out.iff.2 h).last c (by have h2 := HI.out.lens.2.2.2; show cs[cs.length - 1]? = some c; rw [h2, Nat.add_sub_cancel]; exact HCK.out.1))
      have HFIN := Lib.hid (And.intro hfin hbad)
      clear hfin hbad
      obtain ⟨kk, hkk⟩ : ∃ kk, c.k = kk := ⟨_, rfl⟩
      rw [hkk] at d0 HFIN
      clear hkk
      by_cases h9 : kk = 9
      · have g1 : ((kk : Int) != 9) = false := by rw [bne_eq_false_iff_eq]; omega
        have H9 := Lib.hid h9
        clear h9
        go_wp2
        go_ret
        exact ErrPost.good (HFIN.out.1 (.inl H9.out)) HX.out.below
      · have g1 : ((kk : Int) != 9) = true := by rw [bne_iff_ne]; omega
        by_cases h7 : kk = 7
        · have g2 : ((kk : Int) != 7) = false := by rw [bne_eq_false_iff_eq]; omega
          have H7 := Lib.hid h7
          clear h9 h7
          go_wp2
          go_ret
          exact ErrPost.good (HFIN.out.1 (.inr H7.out)) HX.out.below
        · have g2 : ((kk : Int) != 7) = true := by rw [bne_iff_ne]; omega
          have HNO := Lib.hid (HFIN.out.2 (by omega))
          clear h9 h7
          go_wp2
          go_ret
          exact ErrPost.bad HNO.out HX.out.below
set_option maxRecDepth 100000 in
theorem fcheck_rest4 {u0 u2 u3 u4 u5 u6 u7 u8 u9 u10 u11 u12 u13 u14 u15 u16 u17 u18 u19 u20 u21 u22 u23 u24 u25 u26 u27 u28 u29 u30 u31 u32 u33 u34 u35 u36 u37 u38 u39 u40 u41 u42 u43 u44 u45 u46 u47 u48 u49 u50 u51 u52 u53 u54 u55 u56 u57 u58 u59 u60 u61 u62 u63 u64 u65 u66 u67 u68 u69 u70 u71 u72 u73 u74 u75 u76 u77 u78 u79 u80 u81 u82 u83 u84 u85 u86 u87 u88 u89 u90 u91 u92 u93 u94 u95 u96 u97 : Value} (hin : FlIn w W R ch st ars cs a1 a2 a3 a4 nc ns na nk c1 c2 c3 c4 P) (hx : FBx w wr p #[.int .i64 W, .int .i64 R, .slice a1 nc c1, .slice a2 ns c2, .slice a3 na c3, .slice a4 nk c4]) :
    Code.wp Tryd.prog (fcheckRest 4) (bodyPost Tryd.prog Tryd.f29 (ErrPost P w)) ⟨(List.toArray (u0 :: .pointer (some ⟨p, 0, none⟩) :: u2 :: u3 :: u4 :: u5 :: u6 :: u7 :: u8 :: u9 :: u10 :: u11 :: u12 :: u13 :: u14 :: u15 :: u16 :: u17 :: u18 :: u19 :: u20 :: u21 :: u22 :: u23 :: u24 :: u25 :: u26 :: u27 :: u28 :: u29 :: u30 :: u31 :: u32 :: u33 :: u34 :: u35 :: u36 :: u37 :: u38 :: u39 :: u40 :: u41 :: u42 :: u43 :: u44 :: u45 :: u46 :: u47 :: u48 :: u49 :: u50 :: u51 :: u52 :: u53 :: u54 :: u55 :: u56 :: u57 :: u58 :: u59 :: u60 :: u61 :: u62 :: u63 :: u64 :: u65 :: u66 :: u67 :: u68 :: u69 :: u70 :: u71 :: u72 :: u73 :: u74 :: u75 :: u76 :: u77 :: u78 :: u79 :: u80 :: u81 :: u82 :: u83 :: u84 :: u85 :: u86 :: u87 :: u88 :: u89 :: u90 :: u91 :: u92 :: u93 :: u94 :: u95 :: u96 :: u97 :: [])), []⟩ wr := by
  have bk := hin.few.1
  have har := hin.of.arrays.laterF hx.below
  have HI := Lib.hid hin; have HX := Lib.hid hx; have HAR := Lib.hid har
  clear hin hx har
  conv => arg 2; whnf
  have q0 := cell_of_cells HX.out.f (i := 0) rfl
  have q1 := cell_of_cells HX.out.f (i := 1) rfl
  have q2 := cell_of_cells HX.out.f (i := 2) rfl
  have q3 := cell_of_cells HX.out.f (i := 3) rfl
  have q4 := cell_of_cells HX.out.f (i := 4) rfl
  have q5 := cell_of_cells HX.out.f (i := 5) rfl
  refine wp_seq_k ?_
  intro K1 hK1
  go_cut [60] (fun _ wx => (∀ n ∈ ars, 1 ≤ n ∧ n ≤ 64) ∧ wr = wx)
  case first =>
    go_wp2
    go_loop [60] (fun i => ∃ k : Nat, k ≤ na ∧ i = .int .i64 k ∧ ∀ n ∈ ars.take k, 1 ≤ n ∧ n ≤ 64) (fun i => na - (intOf i).toNat)
    case atStart => exact ⟨0, Nat.zero_le _, rfl, by simp⟩
    case round =>
      obtain ⟨k, hk, rfl, ha⟩ := hrel
      by_cases hlt : k < na
      · obtain ⟨a', n', c', e, hl', hx⟩ := HAR.out
        simp only [Value.slice.injEq] at e
        obtain ⟨rfl, rfl, rfl⟩ := e
        obtain ⟨b, off, rfl, hc⟩ := hx k hlt
        obtain ⟨x, hxk⟩ : ∃ x, ars[k]? = some x := ⟨_, List.getElem?_eq_getElem (by omega)⟩
        have ex : ars.getD k 0 = x := by rw [List.getD_eq_getElem?_getD, hxk]; rfl
        rw [ex] at hc
        have HXK := Lib.hid hxk; have HA := Lib.hid ha
        have hlt' : (k : Int) < (na : Int) := by omega
        have k0 : (0 : Int) ≤ (k : Int) := by omega
        clear hx hxk ha ex hl'
        by_cases hv : 1 ≤ x ∧ x ≤ 64
        · have j1 : decide (x < 1) = false := decide_eq_false (by omega)
          have j2 : decide ((64 : Int) < x) = false := decide_eq_false (by omega)
          have HV := Lib.hid hv
          clear hv
          go_wp2
          refine ⟨⟨k + 1, by omega, by go_num, fun n hn => ?_⟩, by simp [intOf]; omega⟩
          rw [List.take_add_one, HXK.out] at hn
          rcases List.mem_append.1 hn with hn | hn
          · exact HA.out n hn
          · obtain rfl : n = x := by simpa using hn
            exact HV.out
        · have HNO := Lib.hid (fun (h : P) => hv ((HI.out.iff.2 h).arrays x (List.mem_of_getElem? HXK.out)))
          have HV := Lib.hid hv
          clear hv
          go_wp2
          all_goals
            first
              | (go_ret
                 exact ErrPost.bad HNO.out HX.out.below)
              | (exfalso
                 have := HV.out
                 omega)
      · obtain rfl : k = na := by omega
        rw [List.take_of_length_le (by have := HI.out.lens; omega)] at ha
        have HA := Lib.hid ha
        clear ha
        go_wp2
        go_meet
        exact ⟨HA.out, rfl⟩
  obtain ⟨hars, rfl⟩ := hcut
  refine hK1 _ _ ?_
  exact fcheck_rest10 HI.out HX.out hars
end
set_option maxRecDepth 100000 in
theorem fcheck_any {w : World} (f : FlatD) (v1 v2 v3 v4 : Value) (hf : FlatOf w f v1 v2 v3 v4) (hT : ShpOk w) :
    Calls Tryd.prog 29 #[.agg #[.int .i64 f.W, .int .i64 f.R, v1, v2, v3, v4]] w (ErrPost (FlatOk f) w) := by
  have hn1 := fun (wx : World) (hb : Below w.heap.size w wx) => fnames_any (hf.chans.later hb)
  have hn2 := fun (wx : World) (hb : Below w.heap.size w wx) => fnames_any (hf.sites.later hb)
  have HF := Lib.hid hf
  have HT := Lib.hid hT
  obtain ⟨a1, nc, c1, rfl, hl1, -⟩ := hf.chans
  obtain ⟨a2, ns, c2, rfl, hl2, -⟩ := hf.sites
  obtain ⟨a3, na, c3, rfl, hl3, -⟩ := hf.arrays.parts
  obtain ⟨a4, nk, c4, rfl, hl4, hm4, -⟩ := hf.codes
  have hin := fun (wx : World) (hb : Below w.heap.size w wx) (c : CodeD) (hc : c.Ok) (h1 : 1 ≤ f.W) (h2 : f.W ≤ 64) => finstr_any (a1 := a1) (a2 := a2) (a3 := a3) (a4 := a4) (nc := nc) (ns := ns) (na := na) (nk := nk) (c1 := c1) (c2 := c2) (c3 := c3) (c4 := c4) f h1 h2 c hc (hT.later hb)
  have HIN := Lib.hid hin
  have HN1 := Lib.hid hn1; have HN2 := Lib.hid hn2
  have HLL := Lib.hid (And.intro hl1 (And.intro hl2 (And.intro hl3 (And.intro hl4 hm4))))
  have HX0 := Lib.hid (FBx.mk (w := w) (p := w.heap.size) (fa := #[.int .i64 f.W, .int .i64 f.R, .slice a1 nc c1, .slice a2 ns c2, .slice a3 na c3, .slice a4 nk c4]) (Below.alloc (Below.refl w.heap.size w) (Nat.le_refl _) _) (heap_alloc_new w _))
  obtain ⟨W, R, ch, st, ars, cs⟩ := f
  simp only at HN1 HN2 HLL HIN HF HX0 ⊢
  obtain ⟨P, hP⟩ : ∃ P, FlatOk ⟨W, R, ch, st, ars, cs⟩ = P := ⟨_, rfl⟩
  rw [hP]
  have HP := Lib.hid (show FlatOk ⟨W, R, ch, st, ars, cs⟩ ↔ P by rw [hP])
  clear hf hT hn1 hn2 hin hl1 hl2 hl3 hl4 hm4 hP
  by_cases hWR : (1 ≤ W ∧ W ≤ 64) ∧ (0 ≤ R ∧ R ≤ 2097152)
  · obtain ⟨⟨w1, w2⟩, r1, r2⟩ := hWR
    have HWR := Lib.hid (And.intro (And.intro w1 w2) (And.intro r1 r2))
    have g1 : decide (1 ≤ W) = true := decide_eq_true w1
    have g2 : decide (W ≤ 64) = true := decide_eq_true w2
    have g3 : decide (0 ≤ R) = true := decide_eq_true r1
    have g4 : decide (R ≤ 2097152) = true := decide_eq_true r2
    clear w1 w2 r1 r2
    cases hb1 : namesB ch with
    | false =>
      simp only [hb1] at HN1
      have HB := Lib.hid hb1
      clear hb1
      go_enter Tryd.func29, Tryd.ntmps29
      go_wp2_with fail
      go_at_call 45
      refine (HN1.out _ HX0.out.below).mono ?_
      rintro e w5 ⟨rfl, hb5⟩
      have HX := Lib.hid (HX0.out.later hb5)
      clear hb5
      go_wp2
      go_ret
      exact ErrPost.bad (fun h => by have := (HP.out.2 h).chans; simp only [HB.out] at this; cases this) HX.out.below
    | true =>
      simp only [hb1] at HN1
      have HB1 := Lib.hid hb1
      clear hb1
      cases hb2 : namesB st with
      | false =>
        simp only [hb2] at HN2
        have HB := Lib.hid hb2
        clear hb2
        go_enter Tryd.func29, Tryd.ntmps29
        go_wp2_with fail
        go_at_call 45
        refine (HN1.out _ HX0.out.below).mono ?_
        rintro e w5 ⟨rfl, hb5⟩
        have HX := Lib.hid (HX0.out.later hb5)
        clear hb5
        have q0 := cell_of_cells HX.out.f (i := 0) rfl
        have q1 := cell_of_cells HX.out.f (i := 1) rfl
        have q2 := cell_of_cells HX.out.f (i := 2) rfl
        have q3 := cell_of_cells HX.out.f (i := 3) rfl
        have q4 := cell_of_cells HX.out.f (i := 4) rfl
        have q5 := cell_of_cells HX.out.f (i := 5) rfl
        go_wp2_with fail
        go_at_call 45
        refine (HN2.out _ HX.out.below).mono ?_
        rintro e w6 ⟨rfl, hb6⟩
        clear q0 q1 q2 q3 q4 q5
        replace HX := Lib.hid (HX.out.later hb6)
        clear hb6
        go_wp2
        go_ret
        exact ErrPost.bad (fun h => by have := (HP.out.2 h).sites; simp only [HB.out] at this; cases this) HX.out.below
      | true =>
        simp only [hb2] at HN2
        have HB2 := Lib.hid hb2
        clear hb2
        go_enter Tryd.func29, Tryd.ntmps29
        go_wp2_with fail
        go_at_call 45
        refine (HN1.out _ HX0.out.below).mono ?_
        rintro e w5 ⟨rfl, hb5⟩
        have HX := Lib.hid (HX0.out.later hb5)
        clear hb5
        have q0 := cell_of_cells HX.out.f (i := 0) rfl
        have q1 := cell_of_cells HX.out.f (i := 1) rfl
        have q2 := cell_of_cells HX.out.f (i := 2) rfl
        have q3 := cell_of_cells HX.out.f (i := 3) rfl
        have q4 := cell_of_cells HX.out.f (i := 4) rfl
        have q5 := cell_of_cells HX.out.f (i := 5) rfl
        go_wp2_with fail
        go_at_call 45
        refine (HN2.out _ HX.out.below).mono ?_
        rintro e w6 ⟨rfl, hb6⟩
        clear q0 q1 q2 q3 q4 q5
        replace HX := Lib.hid (HX.out.later hb6)
        clear hb6
        have q0 := cell_of_cells HX.out.f (i := 0) rfl
        have q1 := cell_of_cells HX.out.f (i := 1) rfl
        have q2 := cell_of_cells HX.out.f (i := 2) rfl
        have q3 := cell_of_cells HX.out.f (i := 3) rfl
        have q4 := cell_of_cells HX.out.f (i := 4) rfl
        have q5 := cell_of_cells HX.out.f (i := 5) rfl
        by_cases hn : na ≤ 32 ∧ 1 ≤ nk ∧ nk ≤ 4096
        · obtain ⟨n1, n2, n3⟩ := hn
          have HNN := Lib.hid (And.intro n1 (And.intro n2 n3))
          have k1 : decide ((32 : Int) < (na : Int)) = false := decide_eq_false (by omega)
          have k2 : decide ((nk : Int) < 1) = false := decide_eq_false (by omega)
          have k3 : decide ((4096 : Int) < (nk : Int)) = false := decide_eq_false (by omega)
          clear n1 n2 n3
          have hfi : FlIn w W R ch st ars cs a1 a2 a3 a4 nc ns na nk c1 c2 c3 c4 P := ⟨HF.out, HT.out, HWR.out, ⟨HB1.out, HB2.out⟩, by have := HLL.out; omega, HNN.out, HP.out⟩
          have HFI := Lib.hid hfi
          clear hfi
          go_upto_if 56 with fail
          go_cut [2] (fun s2 wx => w6 = wx)
          case first =>
            go_wp2
            go_meet
            rfl
          case rest =>
            obtain rfl := hcut
            exact (show ∀ (a : Act) (w : World), Code.wp Tryd.prog (fcheckRest 4) _ a w → _ by assumption) _ _ (fcheck_rest4 HFI.out HX.out)
        · have hn' : ¬ FlatOk ⟨W, R, ch, st, ars, cs⟩ := fun h => hn (by have h1 := h.na; have h2 := h.nk; have h3 := HLL.out; simp only at h1 h2; omega)
          have HNO := Lib.hid (fun h => hn' (HP.out.2 h)); have HNN := Lib.hid hn
          clear hn hn'
          go_wp2
          all_goals
            first
              | (go_ret
                 exact ErrPost.bad HNO.out HX.out.below)
              | (exfalso
                 have := HNN.out
                 omega)
  · have hno : ¬ FlatOk ⟨W, R, ch, st, ars, cs⟩ := fun h => hWR ⟨h.W, h.R⟩
    have HNO := Lib.hid (fun h => hno (HP.out.2 h)); have HWR := Lib.hid hWR
    clear hno hWR
    go_enter Tryd.func29, Tryd.ntmps29
    go_wp2_with fail
    all_goals
      first
        | (go_ret
           exact ErrPost.bad HNO.out HX0.out.below)
        | (exfalso
           have := HWR.out
           omega)
end Go.Proofs.YtiklidgcmheofaaDoor
namespace Go.Proofs.YtiklidgcmheofaaDoor
open Go.RowKit Go.Maps
set_option maxHeartbeats 3200000
section
variable {w0 wr w : World} {ts : List Thing}
theorem eq_rep {ys : List Int} {n : Nat} {z : Int} (hl : ys.length = n) (h : ∀ j, j < n → ys[j]? = some z) : ys = List.replicate n z := by
  refine List.ext_getElem? fun i => ?_
  rw [List.getElem?_replicate]
  by_cases hi : i < n
  · rw [if_pos hi, h i hi]
  · rw [if_neg hi, List.getElem?_eq_none (by omega)]
/-- zeros, the closure of New. -/
theorem Lab.new1 {b6 : Nat} {z : Int} (n : Nat) (hn : n ≤ 4194304) (h : Lab w0 wr (Thing.box b6 3 #[.int .i64 z] :: ts)) :
    Calls Tryd.prog 32 #[.int .i64 n, .pointer (some ⟨b6, 0, none⟩)] wr fun e w' => ∃ g, e = .returned (.slice (some ⟨g, 0, none⟩) n n) ∧ Lab w0 w' (Thing.numsK .i64 3 (.slice (some ⟨g, 0, none⟩) n n) (List.replicate n z) :: Thing.box b6 3 #[.int .i64 z] :: ts) := by
  have hmk := make_ints n hn
  have h1 := h.make_row n 3 (.int .i64 0) (by unfold maxLen; omega)
  obtain ⟨g, hg⟩ : ∃ g, wr.heap.size = g := ⟨_, rfl⟩
  rw [hg] at h1
  have H1 := Lib.hid h1
  clear h h1
  go_enter Tryd.func32, Tryd.ntmps32
  go_wp2
  clear hmk
  go_loopw [10] (fun v wx => ∃ (i : Nat) (ys : List Int), i ≤ n ∧ v = .int .i64 i ∧ ys.length = n ∧ (∀ j, j < i → ys[j]? = some z) ∧ Lab w0 wx (Thing.numsK .i64 3 (.slice (some ⟨g, 0, none⟩) n n) ys :: Thing.box b6 3 #[.int .i64 z] :: ts)) (fun v _ => n - (intOf v).toNat)
  case atStart =>
    refine ⟨0, List.replicate n 0, Nat.zero_le _, rfl, by simp, fun j hj => by omega, ?_⟩
    unfold Thing.numsK
    rw [List.length_replicate, List.map_replicate]
    exact H1.out
  case round =>
    clear H1
    obtain ⟨i, ys, hi, rfl, hyl, hys, hl⟩ := hrel
    by_cases hlt : i < n
    · have hlt' : (i : Int) < (n : Int) := by omega
      have i0 : (0 : Int) ≤ (i : Int) := by omega
      obtain ⟨c6, -⟩ := hl.boxc (b := b6) (T := 3) (v := .int .i64 z) (by simp)
      obtain ⟨yv, hyv⟩ : ∃ yv, ys[i]? = some yv := ⟨_, List.getElem?_eq_getElem (by omega)⟩
      obtain ⟨cg, fg⟩ := hl.numsK_cell hyl hyv
      have HL := Lib.hid (hl.numsK_set hyl i z); have HY := Lib.hid (And.intro hyl hys)
      clear hl hys hyl hyv
      go_wp2
      go_roundw
      case rel =>
        refine ⟨i + 1, ys.set i z, by omega, by go_num, by rw [List.length_set]; exact HY.out.1, fun j hj => ?_, HL.out⟩
        rw [List.getElem?_set]
        by_cases e : i = j
        · rw [if_pos e, if_pos (by have := HY.out.1; omega)]
        · rw [if_neg e]; exact HY.out.2 j (by omega)
      case measure => simp [intOf]; omega
    · obtain rfl : i = n := by omega
      have HL := Lib.hid hl; have HY := Lib.hid (eq_rep hyl hys)
      clear hl hyl hys
      go_wp2
      go_ret
      refine ⟨g, rfl, ?_⟩
      rw [← HY.out]
      exact HL.out
theorem step_append_run {P : Program} {ops : Array Oper} {o : Oper} {a : Act} {w w' : World} {K : Act → World → Prop} {Q : Exit → Act → World → Prop} {E0 : Prop} {X Y v : Value} {T : Nat} (s x : Operand) (hgd : o.guard = none)
    (ho : o.op = .call { callee := .builtin .append, args := #[s, x], argTypes := #[T, T] }) (hs : a.eval s = X) (hx : a.eval x = Y) (hr : (Builtin.append_ #[T, T] o.type #[X, Y]).run P w = .ok v w')
    (hK : K (a.put o.dst v) w') : if Region.wanted o (yielded ops a.tmps) = true then Oper.wp P o a w K Q else E0 := by
  have hw : Region.wanted o (yielded ops a.tmps) = true := by simp [Region.wanted, hgd]
  rw [if_pos hw]
  unfold Oper.wp execOp
  simp only [ho, resolve, invoke, builtin, Sem.run_bind, Sem.run_pure, Result.andThen_ok, List.map_toArray, List.map_cons, List.map_nil, hs, hx, hr]
  exact hK
theorem Tryd.infoInts : (Tryd.prog.info? 23).map (fun i => (i.zero, i.size, i.bytes)) = some (some (.slice none 0 0), 1, 24) := by kernel_rfl
/-- A row is appended to a list of lists. -/
theorem Lab.append_listsK {k : IntKind} {E Es : Nat} {ao lo : Option Addr} {m c n lc : Nat} {vs : List Value} {xss : List (List Int)} {ys : List Int} (T : Nat) (hm : vs.length = m) (hx : xss.length = m)
    (h : Lab w0 wr (Thing.numsK k E (.slice lo n lc) ys :: Thing.lists k E Es (.slice ao m c) vs xss :: ts)) (hn : m ≤ 999999999) (ht : Tryd.prog.underlying T = some (.slice Es)) (hi : (Tryd.prog.info? Es).map (fun i => (i.zero, i.size, i.bytes)) = some (some (.slice none 0 0), 1, 24)) :
    ∃ a' c' w', (Builtin.append_ #[T, T] T #[.slice ao m c, .slice (some ⟨wr.heap.size, 0, none⟩) 1 1]).run Tryd.prog (wr.alloc (.cells #[.slice lo n lc] Es)) = .ok (.slice a' (m + 1) c') w' ∧
      Lab w0 w' (Thing.lists k E Es (.slice a' (m + 1) c') (vs ++ [.slice lo n lc]) (xss ++ [ys]) :: ts) := by
  have h1 := (Lab.lists_row_open h.swap).rot3
  subst hm
  obtain ⟨a', c', w', hr, hl⟩ := run_append_row T T Es 24 (.slice none 0 0) h1.swap rfl (u := .slice lo n lc) rfl ht hi rfl (by decide) hn
  exact ⟨a', c', w', hr, Lab.lists_more hx hl⟩
/-- What New returns of a valid program. -/
def zerosL (z : Nat) (sizes : List Int) : List (List Int) := sizes.map fun s => List.replicate s.toNat (z : Int)
variable {F I : List Nat} {gb W room nR : Nat} {L : List PNode}
set_option maxRecDepth 100000 in
theorem Lab.snew {ch st : List ByteArray} {ars : List Int} {cs : List CodeD} {v1 v2 v3 v4 : Value} (hf : FlatOf w0 ⟨W, nR, ch, st, ars, cs⟩ v1 v2 v3 v4) (hT : ShpOk w0) (hF : FlatOk ⟨W, nR, ch, st, ars, cs⟩) (hok : GOk W L) (hr : phi W L + 1 < room)
    (h : Lab w0 wr (Thing.graph F I gb W room L :: ts)) :
    Calls Tryd.prog 10 #[.pointer (some ⟨gb, 0, none⟩), .agg #[.int .i64 W, .int .i64 nR, v1, v2, v3, v4]] wr fun e w' => ∃ (sb : Nat) (y : Lay) (z : Nat) (L' : List PNode) (F' I' : List Nat), e = .returned (.tuple #[.pointer (some ⟨sb, 0, none⟩), .int .i64 0]) ∧ Got W L L' z (fun _ => 0) ∧ phi W L' ≤ phi W L ∧ y.vs.length = ars.length ∧
      Lab w0 w' (Thing.graph F' I' gb W room L' :: Thing.gst gb sb y (List.replicate nR (z : Int)) (zerosL z ars) :: ts) := by
  obtain ⟨L', z, k1, k2, -, k3, -⟩ := got_const (room := room) hok 0 (by omega)
  have hgot : Got W L L' z (fun _ => 0) := k2.congr fun _ => by rw [Nat.zero_mod]; rfl
  have hph := k3 (by omega)
  have hR := hF.R
  have hars := hF.arrays
  have hna := hF.na
  simp only at hR hars hna
  have hb := h.alloc #[.int .i64 W, .int .i64 nR, v1, v2, v3, v4] 26
  obtain ⟨q, hq⟩ : ∃ q, wr.heap.size = q := ⟨_, rfl⟩
  rw [hq] at hb
  have HB := Lib.hid hb; have HF := Lib.hid (And.intro hf (And.intro hT hF)); have HG := Lib.hid (And.intro hgot (And.intro hph k1)); have HA := Lib.hid (And.intro hars hna)
  have hR2 : nR ≤ 2097152 := by omega
  clear hf hT hF hok hr h hb k1 k2 k3 hgot hph hR hars hna
  go_enter Tryd.func10, Tryd.ntmps10
  go_upto_region 3 with fail
  refine wp_abs (fun wx => Lab w0 wx (Thing.box q 26 #[.int .i64 W, .int .i64 nR, v1, v2, v3, v4] :: Thing.graph F I gb W room L :: ts)) HB.out ?_
  intro w1 hl
  have hrow : w1.heap[q]? = some (.cells #[.int .i64 W, .int .i64 nR, v1, v2, v3, v4] 26 (0, 0)) := hl.head
  have q0 := cell_of_cells hrow (i := 0) rfl
  have q1 := cell_of_cells hrow (i := 1) rfl
  have q2 := cell_of_cells hrow (i := 2) rfl
  have q3 := cell_of_cells hrow (i := 3) rfl
  have q4 := cell_of_cells hrow (i := 4) rfl
  have q5 := cell_of_cells hrow (i := 5) rfl
  have hchk : Calls Tryd.prog 29 #[.agg #[.int .i64 W, .int .i64 nR, v1, v2, v3, v4]] w1.drew fun e w' => e = .returned (.int .i64 0) ∧ Below w1.heap.size w1 w' := by
    have hbw : Below w0.heap.size w0 w1.drew := (hl.drewN 1).below
    refine (fcheck_any _ _ _ _ _ (HF.out.1.later hbw) (HF.out.2.1.later hbw)).mono ?_
    rintro e w' ⟨qv, rfl, hq | hq, hbb⟩
    · rw [hq.2]
      exact ⟨rfl, (below_drewN (Below.refl _ _) 1).trans hbb⟩
    · exact absurd HF.out.2.2 hq.1
  have HL1 := Lib.hid hl; have HC := Lib.hid hchk
  clear hl hchk hrow HB hq
  go_region_held3 (fun w' => w'.cell? ⟨q, 0, none⟩ = some (.int .i64 W) ∧ w'.cell? ⟨q, 1, none⟩ = some (.int .i64 nR) ∧ w'.cell? ⟨q, 2, none⟩ = some v1 ∧ w'.cell? ⟨q, 3, none⟩ = some v2 ∧ w'.cell? ⟨q, 4, none⟩ = some v3 ∧ w'.cell? ⟨q, 5, none⟩ = some v4) (first | exact ⟨by assumption, by assumption, by assumption, by assumption, by assumption, by assumption⟩ | go_keep)
    (first
      | (go_at_call 29; refine HC.out.mono ?_; rintro e w5 ⟨rfl, hb5⟩; have p0 := cell_later hb5 q0; have p1 := cell_later hb5 q1; have p2 := cell_later hb5 q2; have p3 := cell_later hb5 q3; have p4 := cell_later hb5 q4; have p5 := cell_later hb5 q5; have HL5 := Lib.hid (HL1.out.later hb5); clear hb5)
      | (go_at_call 30; refine (width_any HL5.out.swap.gr).mono ?_; rintro e w6 ⟨rfl, rfl⟩))
  all_goals
    clear p0 p1 p2 p3 p4 p5 q0 q1 q2 q3 q4 q5 HC HL1
    have hcc := const_any HL5.out.swap.gr 0 (by decide)
    rw [HG.out.2.2] at hcc
    have HCC := Lib.hid hcc
    clear hcc
    go_wp2_with fail
    go_at_call 31
    refine HCC.out.mono ?_
    intro e w6 hp
    obtain ⟨F2, I2, rfl, hl6⟩ := HL5.out.swap.gpost hp
    obtain ⟨b6, hb6⟩ : ∃ b6, w6.heap.size = b6 := ⟨_, rfl⟩
    have hl7 := hl6.alloc #[.int .i64 (z : Int)] 3
    rw [hb6] at hl7
    have HL7 := Lib.hid hl7
    clear hl6 hl7 hp HCC HL5
    go_upto_region 9 with fail
    refine wp_abs (fun wx => Lab w0 wx (Thing.box b6 3 #[.int .i64 (z : Int)] :: Thing.graph F2 I2 gb W room L' :: Thing.box q 26 #[.int .i64 W, .int .i64 nR, v1, v2, v3, v4] :: ts)) HL7.out ?_
    intro w7 hl7
    clear HL7 hb6
    have hrow : w7.heap[q]? = some (.cells #[.int .i64 W, .int .i64 nR, v1, v2, v3, v4] 26 (0, 0)) := hl7.third
    have q1 := cell_of_cells hrow (i := 1) rfl
    have HN := Lib.hid (Lab.new1 nR (by omega) hl7)
    clear hrow hl7
    go_wp2_with fail
    go_at_call 32
    refine HN.out.mono ?_
    rintro e w8 ⟨g, rfl, hl8⟩
    clear q1 HN
    obtain ⟨sb, hsb⟩ : ∃ sb, w8.heap.size = sb := ⟨_, rfl⟩
    have hl9 := hl8.alloc #[.pointer (some ⟨gb, 0, none⟩), .slice (some ⟨g, 0, none⟩) nR nR, .slice none 0 0] 82
    rw [hsb] at hl9
    have HL9 := Lib.hid hl9
    clear hl8 hl9
    go_upto_region 10 with fail
    refine wp_abs (fun wx => Lab w0 wx (Thing.lists .i64 3 23 (.slice none 0 0) [] (zerosL z (ars.take 0)) :: Thing.box sb 82 #[.pointer (some ⟨gb, 0, none⟩), .slice (some ⟨g, 0, none⟩) nR nR, .slice none 0 0] :: Thing.numsK .i64 3 (.slice (some ⟨g, 0, none⟩) nR nR) (List.replicate nR (z : Int)) :: Thing.box b6 3 #[.int .i64 (z : Int)] :: Thing.graph F2 I2 gb W room L' :: Thing.box q 26 #[.int .i64 W, .int .i64 nR, v1, v2, v3, v4] :: ts)) HL9.out.lists_none ?_
    intro w9 hl9
    clear HL9 hsb
    have hrow : w9.heap[q]? = some (.cells #[.int .i64 W, .int .i64 nR, v1, v2, v3, v4] 26 (0, 0)) := hl9.sixth
    have q4 := cell_of_cells hrow (i := 4) rfl
    obtain ⟨a3, na, c3, hv3, hl3, -⟩ := HF.out.1.arrays.parts
    simp only at hv3 hl3
    rw [hv3] at q4
    have HV := Lib.hid (And.intro hv3 hl3)
    have hna : na ≤ 32 := by have := HA.out.2; omega
    have H9 := Lib.hid hl9
    clear hrow hv3 hl3 hl9
    go_wp2
    clear q4
    go_loopw [43] (fun v wx => ∃ (i : Nat) (vs : List Value) (ao : Option Addr) (co : Nat), i ≤ na ∧ v = .int .i64 i ∧ vs.length = i ∧ Lab w0 wx (Thing.lists .i64 3 23 (.slice ao i co) vs (zerosL z (ars.take i)) :: Thing.box sb 82 #[.pointer (some ⟨gb, 0, none⟩), .slice (some ⟨g, 0, none⟩) nR nR, .slice ao i co] :: Thing.numsK .i64 3 (.slice (some ⟨g, 0, none⟩) nR nR) (List.replicate nR (z : Int)) :: Thing.box b6 3 #[.int .i64 (z : Int)] :: Thing.graph F2 I2 gb W room L' :: Thing.box q 26 #[.int .i64 W, .int .i64 nR, v1, v2, v3, v4] :: ts)) (fun v _ => na - (intOf v).toNat)
    case atStart => exact ⟨0, [], none, 0, Nat.zero_le _, rfl, rfl, H9.out⟩
    case round =>
      clear H9
      obtain ⟨i, vs, ao, co, hi, rfl, hvs, hl⟩ := hrel
      by_cases hlt : i < na
      · have hlt' : (i : Int) < (na : Int) := by omega
        have i0 : (0 : Int) ≤ (i : Int) := by omega
        have hsl := (HF.out.1.later hl.below).arrays
        rw [HV.out.1] at hsl
        obtain ⟨x, hx⟩ : ∃ x, ars[i]? = some x := ⟨_, List.getElem?_eq_getElem (by have := HV.out.2; omega)⟩
        have hxr := HA.out.1 x (List.mem_of_getElem? hx)
        obtain ⟨s, rfl⟩ : ∃ s : Nat, x = (s : Int) := ⟨x.toNat, by omega⟩
        obtain ⟨a', n', c', e3, hl3', hcx⟩ := hsl
        simp only [Value.slice.injEq] at e3
        obtain ⟨rfl, rfl, rfl⟩ := e3
        obtain ⟨b3, off3, rfl, hci⟩ := hcx i hlt
        replace hci : wr.cell? ⟨b3, off3 + i, none⟩ = some (.int .i64 (s : Int)) := by rw [hci, List.getD_eq_getElem?_getD, hx]; rfl
        have hrow : wr.heap[sb]? = some (.cells #[.pointer (some ⟨gb, 0, none⟩), .slice (some ⟨g, 0, none⟩) nR nR, .slice ao i co] 82 (0, 0)) := hl.second
        have c2 := cell_of_cells hrow (i := 2) rfl
        have hn1 := Lab.new1 s (by omega) (hl.rot4.drewN 1)
        have htk : zerosL z (ars.take (i + 1)) = zerosL z (ars.take i) ++ [List.replicate s (z : Int)] := by
          rw [← take_snoc' hx]
          unfold zerosL
          rw [List.map_append]; rfl
        have HN := Lib.hid hn1; have HVS := Lib.hid (And.intro hvs htk); have HX := Lib.hid hx; have HL0 := Lib.hid hl; have hs64 : s ≤ 64 := by omega
        clear hcx hrow hn1 hvs htk hx hxr hl hl3'
        go_upto_region 13 with fail
        refine wp_region_noPanic ?_
        refine wp_region_any (by kernel_rfl) (wpAny_of_T (S := SUpto (fun w => w.cell? ⟨sb, 2, none⟩ = some (.slice ao i co)) 12 [4]) _ _ _ _ ?_)
        have hS : SUpto (fun w => w.cell? ⟨sb, 2, none⟩ = some (.slice ao i co)) 12 [4] (Array.replicate 13 false) wr.drew := .inr ⟨rfl, c2⟩
        clear hci
        refine takeUD 0 47 (v := ?v0) rfl (by kernel_rfl) (by kernel_rfl) (by kernel_rfl) (by decide) (fun h => absurd h (by decide)) rfl (fun _ _ _ h => h) (Or.inl ⟨by rfl, ?hy0⟩) hS (fun hS => ?rest0)
        case hy0 =>
          intro w hSw
          skip
          clear hSw
          go_simp
          with_reducible rfl
        simp only [List.setIfInBounds_toArray, List.set_cons_zero, List.set_cons_succ]
        refine takeUD 1 48 (v := ?v1) rfl (by kernel_rfl) (by kernel_rfl) (by kernel_rfl) (by decide) (fun h => absurd h (by decide)) rfl (fun _ _ _ h => h) (Or.inl ⟨by rfl, ?hy1⟩) hS (fun hS => ?rest1)
        case hy1 =>
          intro w hSw
          skip
          clear hSw
          go_simp
          with_reducible rfl
        simp only [List.setIfInBounds_toArray, List.set_cons_zero, List.set_cons_succ]
        refine takeUD 2 49 (v := ?v2) rfl (by kernel_rfl) (by kernel_rfl) (by kernel_rfl) (by decide) (fun h => absurd h (by decide)) rfl (fun _ _ _ h => h) (Or.inl ⟨by rfl, ?hy2⟩) hS (fun hS => ?rest2)
        case hy2 =>
          intro w hSw
          skip
          clear hSw
          go_simp
          with_reducible rfl
        simp only [List.setIfInBounds_toArray, List.set_cons_zero, List.set_cons_succ]
        refine takeUD 3 50 (v := ?v3) rfl (by kernel_rfl) (by kernel_rfl) (by kernel_rfl) (by decide) (fun h => absurd h (by decide)) rfl (fun _ _ _ h => h) (Or.inl ⟨by rfl, ?hy3⟩) hS (fun hS => ?rest3)
        case hy3 =>
          intro w hSw
          skip
          clear hSw
          go_simp
          with_reducible rfl
        simp only [List.setIfInBounds_toArray, List.set_cons_zero, List.set_cons_succ]
        refine takeUD 4 51 (v := ?v4) rfl (by kernel_rfl) (by kernel_rfl) (by kernel_rfl) (by decide) (fun _ => by kernel_rfl) rfl (fun _ _ _ h => h) (Or.inl ⟨by rfl, ?hy4⟩) hS (fun hS => ?rest4)
        case hy4 =>
          intro w hSw
          have f0 := hSw (by decide)
          clear hSw
          go_simp
          with_reducible rfl
        simp only [List.setIfInBounds_toArray, List.set_cons_zero, List.set_cons_succ]
        refine takeUD 5 52 (v := ?v5) rfl (by kernel_rfl) (by kernel_rfl) (by kernel_rfl) (by decide) (fun h => absurd h (by decide)) rfl (fun _ _ _ h => h) (Or.inl ⟨by rfl, ?hy5⟩) hS (fun hS => ?rest5)
        case hy5 =>
          intro w hSw
          skip
          clear hSw
          go_simp
          with_reducible rfl
        simp only [List.setIfInBounds_toArray, List.set_cons_zero, List.set_cons_succ]
        refine takeUD 6 53 (v := ?v6) rfl (by kernel_rfl) (by kernel_rfl) (by kernel_rfl) (by decide) (fun h => absurd h (by decide)) rfl (fun _ _ _ h => h) (Or.inl ⟨by rfl, ?hy6⟩) hS (fun hS => ?rest6)
        case hy6 =>
          intro w hSw
          skip
          clear hSw
          go_simp
          with_reducible rfl
        simp only [List.setIfInBounds_toArray, List.set_cons_zero, List.set_cons_succ]
        clear c2
        refine wpAnyT_one (i := 7) (by kernel_rfl) rfl (fun K hK => ?_)
        go_simp
        go_at_call 32
        refine HN.out.mono ?_
        rintro e w5 ⟨g2, rfl, hl5⟩
        have hrow5 : w5.heap[sb]? = some (.cells #[.pointer (some ⟨gb, 0, none⟩), .slice (some ⟨g, 0, none⟩) nR nR, .slice ao i co] 82 (0, 0)) := hl5.fourth
        have c5 := cell_of_cells hrow5 (i := 2) rfl
        obtain ⟨a6, c6, w6, hrun, hl6⟩ := Lab.append_listsK 80 HVS.out.1 (by unfold zerosL; rw [List.length_map, List.length_take]; have := HV.out.2; omega) hl5.rot3.swap (by omega) Tryd.underlying80 Tryd.infoInts
        rw [← HVS.out.2] at hl6
        have hrow6 : w6.heap[sb]? = some (.cells #[.pointer (some ⟨gb, 0, none⟩), .slice (some ⟨g, 0, none⟩) nR nR, .slice ao i co] 82 (0, 0)) := hl6.third
        have c6' := cell_of_cells hrow6 (i := 2) rfl
        have f6 := frozen_of_cells (i := 2) hrow6
        have h7 : Lab w0 _ (Thing.box sb 82 #[.pointer (some ⟨gb, 0, none⟩), .slice (some ⟨g, 0, none⟩) nR nR, .slice a6 (i + 1) c6] :: _) := hl6.rot3.store 2 (.slice a6 (i + 1) c6)
        have HR := Lib.hid hrun; have H7 := Lib.hid h7.swap.rot4.rot3'
        clear hl5 hrow5 hl6 hrow6 hrun h7 HN HL0
        go_simp
        refine hK.out _ _ (.inr ⟨rfl, c5⟩) (fun hS => ?_)
        clear hK K hS
        refine wpAnyT_one (i := 8) (by kernel_rfl) rfl (fun K hK => ?_)
        go_simp
        refine hK.out _ _ (.inr ⟨rfl, cell_later (below_new _ _) c5⟩) (fun hS => ?_)
        clear hK K hS c5
        refine wpAnyT_one (i := 9) (by kernel_rfl) rfl (fun K hK => ?_)
        refine step_append_run (.tmp 51) (.tmp 55) rfl rfl rfl rfl HR.out ?_
        simp only [Act.put, List.setIfInBounds_toArray]
        refine hK.out _ _ (.inr ⟨rfl, c6'⟩) (fun hS => ?_)
        clear hK K HR
        refine wpAnyT_one (i := 10) (by kernel_rfl) rfl (fun K hK => ?_)
        go_simp
        refine hK.out _ _ (.inr ⟨rfl, c6'⟩) (fun hS => ?_)
        clear hK K hS
        refine wpAnyT_one (i := 11) (by kernel_rfl) rfl (fun K hK => ?_)
        go_simp
        refine hK.out _ _ (.inr ⟨rfl, c6'⟩) (fun hS => ?_)
        clear hK K hS
        refine wpAnyT_one (i := 12) (by kernel_rfl) rfl (fun K hK => ?_)
        go_simp
        refine hK.out _ _ (.inl ⟨rfl, by decide⟩) (fun hS => ?_)
        clear hK K hS c6' f6
        refine wpAnyT_done (by kernel_rfl) ?_ _
        refine NoPanic.normal ?_
        go_wp2
        go_roundw
        case rel => exact ⟨i + 1, _, _, _, by omega, by go_num, by rw [List.length_append, HVS.out.1]; rfl, H7.out⟩
        case measure => simp [intOf]; omega
      · obtain rfl : i = na := by omega
        have HL := Lib.hid hl; have HVS := Lib.hid hvs
        clear hl hvs
        go_wp2
        go_ret2
        refine ⟨sb, ⟨.slice (some ⟨g, 0, none⟩) nR nR, .slice ao i co, vs⟩, z, L', F2, I2, rfl, HG.out.1, HG.out.2.1, by rw [HVS.out, HV.out.2], ?_⟩
        have htk : ars.take i = ars := by rw [← HV.out.2]; exact List.take_length
        have h1 := HL.out
        rw [htk] at h1
        exact (Lab.st_shut h1.rot3').rot3.subl (.cons_cons _ (.cons_cons _ (.cons _ (.cons _ (List.Sublist.refl _)))))
end
end Go.Proofs.YtiklidgcmheofaaDoor
