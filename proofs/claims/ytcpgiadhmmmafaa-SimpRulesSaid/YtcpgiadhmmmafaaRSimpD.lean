/- The reference's simple terms: App behind the numbers. -/
import Derived.Test.YtcpgiadhmmmafaaRSimpC
import Derived.BigRegion
import Derived.Deep.RegionHeld3
namespace Go.Proofs.Ytcpgiadhmmmafaa
open Go.RowKit Go.Maps
set_option maxHeartbeats 1600000

noncomputable def rappRest14 : Code := (Try.f50.body.bind (tailR 14)).getD .skip
noncomputable def rappRest20 : Code := (Try.f50.body.bind (tailR 20)).getD .skip
noncomputable def rappRegion19 : Code := (Try.f50.body.bind (regionIn 19)).getD .skip
section
variable {w wr : World} {base : Nat} {F I : List Nat} {rb W room : Nat} {L : List PNode}
theorem cell_touch {w w' : World} {b i : Nat} {v : Value} (ht : Touch F w w') (hl : b < w.heap.size) (hb : b ∉ F) (hc : w.cell? ⟨b, i, none⟩ = some v) : w'.cell? ⟨b, i, none⟩ = some v := by
  rw [← hc]; unfold World.cell?; rw [ht.block b hl hb]
set_option maxRecDepth 100000 in
theorem rapp_region19 {u0 u1 u3 u4 u5 u6 u7 u8 u9 u10 u11 u12 u13 u14 u15 u16 u17 u18 u19 u20 u21 u22 u23 u24 u25 u26 u27 u28 u29 u30 u31 u32 u33 u34 u35 u36 u37 u38 u39 u40 u41 u42 u43 u44 u45 u46 u47 u48 u49 u50 u51 u52 u53 u54 u55 u56 u57 u58 u59 u60 u61 u62 u63 u64 u65 u66 u67 u68 u69 u70 u71 u72 u73 u74 u75 u76 u77 u78 u79 u80 u81 u82 u83 u84 u85 u86 u87 u88 u89 u90 u91 u92 u93 u94 u95 u96 u97 u98 u99 u100 u101 u102 u103 u104 u105 u106 u107 u108 u109 u110 u111 u112 u113 u114 u115 u116 u117 u118 u119 u120 u121 u122 u123 u124 u125 u126 u127 u128 u129 u130 u131 u132 u133 u134 u135 u136 u137 u138 u139 u140 u141 u142 u143 u144 u145 u146 u147 : Value} {Q : Exit → Act → World → Prop} {x y : Int} {g m : Nat} (hm : 2 ≤ m) (a0 : w.cell? ⟨g, 0, none⟩ = some (.int .i64 x)) (a1 : w.cell? ⟨g, 1, none⟩ = some (.int .i64 y)) (f0 : w.frozen? ⟨g, 0, none⟩ = false) (f1 : w.frozen? ⟨g, 1, none⟩ = false)
    (hQ : ∀ v100 v101 v102 v103 v104 v105 v106 v107 v108 v109 : Value, Q .normal ⟨(List.toArray (u0 :: u1 :: .slice (some ⟨g, 0, none⟩) 2 m :: u3 :: u4 :: u5 :: u6 :: u7 :: u8 :: u9 :: u10 :: u11 :: u12 :: u13 :: u14 :: u15 :: u16 :: u17 :: u18 :: u19 :: u20 :: u21 :: u22 :: u23 :: u24 :: u25 :: u26 :: u27 :: u28 :: u29 :: u30 :: u31 :: u32 :: u33 :: u34 :: u35 :: u36 :: u37 :: u38 :: u39 :: u40 :: u41 :: u42 :: u43 :: u44 :: u45 :: u46 :: u47 :: u48 :: u49 :: u50 :: u51 :: u52 :: u53 :: u54 :: u55 :: u56 :: u57 :: u58 :: u59 :: u60 :: u61 :: u62 :: u63 :: u64 :: u65 :: u66 :: u67 :: u68 :: u69 :: u70 :: u71 :: u72 :: u73 :: u74 :: u75 :: u76 :: u77 :: u78 :: u79 :: u80 :: u81 :: u82 :: u83 :: u84 :: u85 :: u86 :: u87 :: u88 :: u89 :: u90 :: u91 :: u92 :: u93 :: u94 :: u95 :: u96 :: u97 :: u98 :: u99 :: v100 :: v101 :: v102 :: v103 :: v104 :: v105 :: v106 :: v107 :: v108 :: v109 :: u110 :: u111 :: u112 :: u113 :: u114 :: u115 :: u116 :: u117 :: u118 :: u119 :: u120 :: u121 :: u122 :: u123 :: u124 :: u125 :: u126 :: u127 :: u128 :: u129 :: u130 :: u131 :: u132 :: u133 :: u134 :: u135 :: u136 :: u137 :: u138 :: u139 :: u140 :: u141 :: u142 :: u143 :: u144 :: u145 :: u146 :: u147 :: [])), []⟩ ((w.setCell ⟨g, 0, none⟩ (.int .i64 y)).setCell ⟨g, 1, none⟩ (.int .i64 x)).drew) :
    Code.wp Try.prog rappRegion19 Q ⟨(List.toArray (u0 :: u1 :: .slice (some ⟨g, 0, none⟩) 2 m :: u3 :: u4 :: u5 :: u6 :: u7 :: u8 :: u9 :: u10 :: u11 :: u12 :: u13 :: u14 :: u15 :: u16 :: u17 :: u18 :: u19 :: u20 :: u21 :: u22 :: u23 :: u24 :: u25 :: u26 :: u27 :: u28 :: u29 :: u30 :: u31 :: u32 :: u33 :: u34 :: u35 :: u36 :: u37 :: u38 :: u39 :: u40 :: u41 :: u42 :: u43 :: u44 :: u45 :: u46 :: u47 :: u48 :: u49 :: u50 :: u51 :: u52 :: u53 :: u54 :: u55 :: u56 :: u57 :: u58 :: u59 :: u60 :: u61 :: u62 :: u63 :: u64 :: u65 :: u66 :: u67 :: u68 :: u69 :: u70 :: u71 :: u72 :: u73 :: u74 :: u75 :: u76 :: u77 :: u78 :: u79 :: u80 :: u81 :: u82 :: u83 :: u84 :: u85 :: u86 :: u87 :: u88 :: u89 :: u90 :: u91 :: u92 :: u93 :: u94 :: u95 :: u96 :: u97 :: u98 :: u99 :: u100 :: u101 :: u102 :: u103 :: u104 :: u105 :: u106 :: u107 :: u108 :: u109 :: u110 :: u111 :: u112 :: u113 :: u114 :: u115 :: u116 :: u117 :: u118 :: u119 :: u120 :: u121 :: u122 :: u123 :: u124 :: u125 :: u126 :: u127 :: u128 :: u129 :: u130 :: u131 :: u132 :: u133 :: u134 :: u135 :: u136 :: u137 :: u138 :: u139 :: u140 :: u141 :: u142 :: u143 :: u144 :: u145 :: u146 :: u147 :: [])), []⟩ w := by
  have hm' : (2 : Int) ≤ (m : Int) := by omega
  have HQ := Lib.hid hQ
  clear hQ
  conv => arg 2; whnf
  go_region
  go_wp2
  exact HQ.out _ _ _ _ _ _ _ _ _ _
set_option maxRecDepth 100000 in
theorem rapp_two {u3 u4 u5 u6 u7 u8 u9 u10 u11 u12 u13 u14 u15 u16 u17 u18 u19 u20 u21 u22 u23 u24 u25 u26 u27 u28 u29 u30 u31 u32 u33 u34 u35 u36 u37 u38 u39 u40 u41 u42 u43 u44 u45 u46 u47 u48 u49 u50 u51 u52 u53 u54 u55 u56 u57 u58 u59 u60 u61 u62 u63 u64 u65 u66 u67 u68 u69 u70 u71 u72 u73 u74 u75 u76 u77 u78 u79 u80 u81 u82 u83 u84 u85 u86 u87 u88 u89 u90 u91 u92 u93 u94 u95 u96 u97 u98 u99 u100 u101 u102 u103 u104 u105 u106 u107 u108 u109 u110 u111 u112 u113 u114 u115 u116 u117 u118 u119 u120 u121 u122 u123 u124 u125 u126 u127 u128 u129 u130 u131 u132 u133 u134 u135 u136 u137 u138 u139 u140 u141 u142 u143 u144 u145 u146 u147 : Value} (hb : Below w.heap.size w wr) (h : RGr w base F I rb W room L) {o x y g m : Nat} (ho1 : 4 ≤ o) (ho2 : o ≤ 20) (_hm : 2 ≤ m) (hg1 : w.heap.size ≤ g) (hg2 : g < wr.heap.size) (d0 : wr.cell? ⟨g, 0, none⟩ = some (.int .i64 x)) (d1 : wr.cell? ⟨g, 1, none⟩ = some (.int .i64 y)) (hnn : ¬ (isNum L (x : Int) = true ∧ isNum L (y : Int) = true))
    (hrec : o = 11 → isNum L (x : Int) = false → ∀ (w2 : World) (va : Value), RGr w2 base F I rb W room L → SliceOf w2 .i64 va [(x : Int)] → Calls Try.prog 50 #[.pointer (some ⟨rb, 0, none⟩), .int .u8 2, va] w2 (RPost w2 base F I rb W room ((oneA L 2 x).res W room L))) :
    Code.wp Try.prog rappRest20 (bodyPost Try.prog Try.f50 (RPost w base F I rb W room ((twoA W L o x y).res W room L))) ⟨(List.toArray (.pointer (some ⟨rb, 0, none⟩) :: .int .u8 o :: .slice (some ⟨g, 0, none⟩) 2 m :: u3 :: u4 :: u5 :: u6 :: u7 :: u8 :: u9 :: u10 :: u11 :: u12 :: u13 :: u14 :: u15 :: u16 :: u17 :: u18 :: u19 :: u20 :: u21 :: u22 :: u23 :: u24 :: u25 :: u26 :: u27 :: u28 :: u29 :: u30 :: u31 :: u32 :: u33 :: u34 :: u35 :: u36 :: u37 :: u38 :: u39 :: u40 :: u41 :: u42 :: u43 :: u44 :: u45 :: u46 :: u47 :: u48 :: u49 :: u50 :: u51 :: u52 :: u53 :: u54 :: u55 :: u56 :: u57 :: u58 :: u59 :: u60 :: u61 :: u62 :: u63 :: u64 :: u65 :: u66 :: u67 :: u68 :: u69 :: u70 :: u71 :: u72 :: u73 :: u74 :: u75 :: u76 :: u77 :: u78 :: u79 :: u80 :: u81 :: u82 :: u83 :: u84 :: u85 :: u86 :: u87 :: u88 :: u89 :: u90 :: u91 :: u92 :: u93 :: u94 :: u95 :: u96 :: u97 :: u98 :: u99 :: u100 :: u101 :: u102 :: u103 :: u104 :: u105 :: u106 :: u107 :: u108 :: u109 :: u110 :: u111 :: u112 :: u113 :: u114 :: u115 :: u116 :: u117 :: u118 :: u119 :: u120 :: u121 :: u122 :: u123 :: u124 :: u125 :: u126 :: u127 :: u128 :: u129 :: u130 :: u131 :: u132 :: u133 :: u134 :: u135 :: u136 :: u137 :: u138 :: u139 :: u140 :: u141 :: u142 :: u143 :: u144 :: u145 :: u146 :: u147 :: [])), []⟩ wr := by
  have hb2 := hb.trans (((Below.refl wr.heap.size wr).drew).mono hb.size)
  have hc := rtwo_any (h.later hb2) o x y ho1 ho2 hnn hrec
  have hgF : g ∉ F := fun hm => by have := h.lt g hm; omega
  have HB := Lib.hid hb2; have HC := Lib.hid hc
  clear hb hb2 h hc hrec ho1 ho2 hnn
  conv => arg 2; whnf
  go_upto_region 24 with fail
  go_region_held3 (fun w' => w'.cell? ⟨g, 0, none⟩ = some (.int .i64 x) ∧ w'.cell? ⟨g, 1, none⟩ = some (.int .i64 y)) (first | exact ⟨d0, d1⟩ | exact ⟨by assumption, by assumption⟩ | go_keep | trivial)
    (first | (go_at_call 73; refine HC.out.mono ?_; intro e w4 hp; have ht : Touch F wr.drew w4 := (by obtain ⟨_, _, _, _, q, _⟩ := hp; exact q); have m0 := cell_touch ht hg2 hgF d0; have m1 := cell_touch ht hg2 hgF d1; skip; obtain ⟨F', I', rfl, hq⟩ := hp.later HB.out))
  all_goals go_wp2
  all_goals go_ret2
  all_goals exact ⟨F', I', rfl, hq⟩
set_option maxRecDepth 100000 in
theorem rapp_three {u3 u4 u5 u6 u7 u8 u9 u10 u11 u12 u13 u14 u15 u16 u17 u18 u19 u20 u21 u22 u23 u24 u25 u26 u27 u28 u29 u30 u31 u32 u33 u34 u35 u36 u37 u38 u39 u40 u41 u42 u43 u44 u45 u46 u47 u48 u49 u50 u51 u52 u53 u54 u55 u56 u57 u58 u59 u60 u61 u62 u63 u64 u65 u66 u67 u68 u69 u70 u71 u72 u73 u74 u75 u76 u77 u78 u79 u80 u81 u82 u83 u84 u85 u86 u87 u88 u89 u90 u91 u92 u93 u94 u95 u96 u97 u98 u99 u100 u101 u102 u103 u104 u105 u106 u107 u108 u109 u110 u111 u112 u113 u114 u115 u116 u117 u118 u119 u120 u121 u122 u123 u124 u125 u126 u127 u128 u129 u130 u131 u132 u133 u134 u135 u136 u137 u138 u139 u140 u141 u142 u143 u144 u145 u146 u147 : Value} (hb : Below w.heap.size w wr) (h : RGr w base F I rb W room L) {o x y z g m : Nat} (_hm : 3 ≤ m) (hg1 : w.heap.size ≤ g) (hg2 : g < wr.heap.size) (d0 : wr.cell? ⟨g, 0, none⟩ = some (.int .i64 x)) (d1 : wr.cell? ⟨g, 1, none⟩ = some (.int .i64 y)) (d2 : wr.cell? ⟨g, 2, none⟩ = some (.int .i64 z)) :
    Code.wp Try.prog rappRest20 (bodyPost Try.prog Try.f50 (RPost w base F I rb W room ((threeA L x y z).res W room L))) ⟨(List.toArray (.pointer (some ⟨rb, 0, none⟩) :: .int .u8 o :: .slice (some ⟨g, 0, none⟩) 3 m :: u3 :: u4 :: u5 :: u6 :: u7 :: u8 :: u9 :: u10 :: u11 :: u12 :: u13 :: u14 :: u15 :: u16 :: u17 :: u18 :: u19 :: u20 :: u21 :: u22 :: u23 :: u24 :: u25 :: u26 :: u27 :: u28 :: u29 :: u30 :: u31 :: u32 :: u33 :: u34 :: u35 :: u36 :: u37 :: u38 :: u39 :: u40 :: u41 :: u42 :: u43 :: u44 :: u45 :: u46 :: u47 :: u48 :: u49 :: u50 :: u51 :: u52 :: u53 :: u54 :: u55 :: u56 :: u57 :: u58 :: u59 :: u60 :: u61 :: u62 :: u63 :: u64 :: u65 :: u66 :: u67 :: u68 :: u69 :: u70 :: u71 :: u72 :: u73 :: u74 :: u75 :: u76 :: u77 :: u78 :: u79 :: u80 :: u81 :: u82 :: u83 :: u84 :: u85 :: u86 :: u87 :: u88 :: u89 :: u90 :: u91 :: u92 :: u93 :: u94 :: u95 :: u96 :: u97 :: u98 :: u99 :: u100 :: u101 :: u102 :: u103 :: u104 :: u105 :: u106 :: u107 :: u108 :: u109 :: u110 :: u111 :: u112 :: u113 :: u114 :: u115 :: u116 :: u117 :: u118 :: u119 :: u120 :: u121 :: u122 :: u123 :: u124 :: u125 :: u126 :: u127 :: u128 :: u129 :: u130 :: u131 :: u132 :: u133 :: u134 :: u135 :: u136 :: u137 :: u138 :: u139 :: u140 :: u141 :: u142 :: u143 :: u144 :: u145 :: u146 :: u147 :: [])), []⟩ wr := by
  have hb2 := hb.trans (((Below.refl wr.heap.size wr).drew).mono hb.size)
  have hc := rthree_any (h.later hb2) x y z
  have hgF : g ∉ F := fun hm => by have := h.lt g hm; omega
  have HB := Lib.hid hb2; have HC := Lib.hid hc
  clear hb hb2 h hc
  conv => arg 2; whnf
  go_upto_region 25 with fail
  go_region_held3 (fun w' => w'.cell? ⟨g, 0, none⟩ = some (.int .i64 x) ∧ w'.cell? ⟨g, 1, none⟩ = some (.int .i64 y) ∧ w'.cell? ⟨g, 2, none⟩ = some (.int .i64 z)) (first | exact ⟨d0, d1, d2⟩ | exact ⟨by assumption, by assumption, by assumption⟩ | go_keep | trivial)
    (first | (go_at_call 74; refine HC.out.mono ?_; intro e w4 hp; have ht : Touch F wr.drew w4 := (by obtain ⟨_, _, _, _, q, _⟩ := hp; exact q); have m0 := cell_touch ht hg2 hgF d0; have m1 := cell_touch ht hg2 hgF d1; have m2 := cell_touch ht hg2 hgF d2; obtain ⟨F', I', rfl, hq⟩ := hp.later HB.out))
  all_goals go_wp2
  all_goals go_ret2
  all_goals exact ⟨F', I', rfl, hq⟩
/-- What the copy of the arguments holds. -/
theorem copy_row {w wr : World} {v : Value} {xs : List Int} (h : OwnInts wr w.heap.size 3 .i64 v xs) (h0 : xs.length ≠ 0) : ∃ g c f, v = .slice (some ⟨g, 0, none⟩) xs.length c ∧ xs.length ≤ c ∧ w.heap.size ≤ g ∧ wr.rowIs g 3 c f ∧ ∀ i, i < xs.length → f i = .int .i64 (xs.getD i 0) := by
  obtain ⟨a, m, c, rfl⟩ := h.val
  obtain ⟨g, f, rfl, rfl, hg, hc, hrow, hf⟩ := row_of_owns h h0
  exact ⟨g, c, f, rfl, hc, hg, hrow, hf⟩
set_option maxRecDepth 100000 in
theorem rapp_tail1 {u3 u4 u5 u6 u7 u8 u9 u10 u11 u12 u13 u14 u15 u16 u17 u18 u19 u20 u21 u22 u23 u24 u25 u26 u27 u28 u29 u30 u31 u32 u33 u34 u35 u36 u37 u38 u39 u40 u41 u42 u43 u44 u45 u46 u47 u48 u49 u50 u51 u52 u53 u54 u55 u56 u57 u58 u59 u60 u61 u62 u63 u64 u65 u66 u67 u68 u69 u70 u71 u72 u73 u74 u75 u76 u77 u78 u79 u80 u81 u82 u83 u84 u85 u86 u87 u88 u89 u90 u91 u92 u93 u94 u95 u96 u97 u98 u99 u100 u101 u102 u103 u104 u105 u106 u107 u108 u109 u110 u111 u112 u113 u114 u115 u116 u117 u118 u119 u120 u121 u122 u123 u124 u125 u126 u127 u128 u129 u130 u131 u132 u133 u134 u135 u136 u137 u138 u139 u140 u141 u142 u143 u144 u145 u146 u147 : Value} (hb : Below w.heap.size w wr) (h : RGr w base F I rb W room L) {o x cap : Nat} {a : Option Addr} (ho : o = 2 ∨ o = 3) (hx : x < L.length) (hv : SliceOf wr .i64 (.slice a 1 cap) [(x : Int)]) :
    Code.wp Try.prog rappRest14 (bodyPost Try.prog Try.f50 (RPost w base F I rb W room ((oneA L o x).res W room L))) ⟨(List.toArray (.pointer (some ⟨rb, 0, none⟩) :: .int .u8 o :: .slice a 1 cap :: u3 :: u4 :: u5 :: u6 :: u7 :: u8 :: u9 :: u10 :: u11 :: u12 :: u13 :: u14 :: u15 :: u16 :: u17 :: u18 :: u19 :: u20 :: u21 :: u22 :: u23 :: u24 :: u25 :: u26 :: u27 :: u28 :: u29 :: u30 :: u31 :: u32 :: u33 :: u34 :: u35 :: u36 :: u37 :: u38 :: u39 :: u40 :: u41 :: u42 :: u43 :: u44 :: u45 :: u46 :: u47 :: u48 :: u49 :: u50 :: u51 :: u52 :: u53 :: u54 :: u55 :: u56 :: u57 :: u58 :: u59 :: u60 :: u61 :: u62 :: u63 :: u64 :: u65 :: u66 :: u67 :: u68 :: u69 :: u70 :: u71 :: u72 :: u73 :: u74 :: u75 :: u76 :: u77 :: u78 :: u79 :: u80 :: u81 :: u82 :: u83 :: u84 :: u85 :: u86 :: u87 :: u88 :: u89 :: u90 :: u91 :: u92 :: u93 :: u94 :: u95 :: u96 :: u97 :: u98 :: u99 :: u100 :: u101 :: u102 :: u103 :: u104 :: u105 :: u106 :: u107 :: u108 :: u109 :: u110 :: u111 :: u112 :: u113 :: u114 :: u115 :: u116 :: u117 :: u118 :: u119 :: u120 :: u121 :: u122 :: u123 :: u124 :: u125 :: u126 :: u127 :: u128 :: u129 :: u130 :: u131 :: u132 :: u133 :: u134 :: u135 :: u136 :: u137 :: u138 :: u139 :: u140 :: u141 :: u142 :: u143 :: u144 :: u145 :: u146 :: u147 :: [])), []⟩ wr := by
  have hcm := fun w' => rcomm_any o (by omega) (by omega) w'
  rw [show commN o = false by rcases ho with rfl | rfl <;> rfl] at hcm
  have HB := Lib.hid hb; have HG := Lib.hid h; have HV := Lib.hid hv; have HO := Lib.hid (And.intro ho hx); have HCM := Lib.hid hcm
  clear hb h hv ho hx hcm
  conv => arg 2; whnf
  go_wp2_with fail
  go_at_call 70
  refine (copyInts_any [(x : Int)] _ wr HV.out (by simp)).mono ?_
  rintro e w1 ⟨v1, rfl, hv1, hb1⟩
  obtain ⟨g, c, f, rfl, hc, hg, hrow, hf⟩ := copy_row hv1 (by simp)
  have d0 := hrow.cell (i := 0) (by simp at hc; omega)
  rw [hf 0 (by simp)] at d0
  have hb2 := HB.out.trans (hb1.mono HB.out.size)
  have HC := Lib.hid (rone_any (HG.out.later hb2) o x HO.out.1 HO.out.2)
  have HB2 := Lib.hid hb2
  have hc1 : 1 ≤ c := hc
  clear hv1 hb1 hb2 hrow hf hg hc
  go_wp2_with (first | (go_at_call 71; refine (HCM.out _).mono ?_; rintro e w2 ⟨rfl, rfl⟩))
  go_at_call 72
  refine HC.out.mono ?_
  intro e w4 hp
  obtain ⟨F', I', rfl, hrest⟩ := hp.later HB2.out
  have HQ := Lib.hid hrest
  clear hp hrest
  go_wp2
  go_ret2
  exact ⟨F', I', rfl, HQ.out⟩
set_option maxRecDepth 100000 in
theorem rapp_tail3 {u3 u4 u5 u6 u7 u8 u9 u10 u11 u12 u13 u14 u15 u16 u17 u18 u19 u20 u21 u22 u23 u24 u25 u26 u27 u28 u29 u30 u31 u32 u33 u34 u35 u36 u37 u38 u39 u40 u41 u42 u43 u44 u45 u46 u47 u48 u49 u50 u51 u52 u53 u54 u55 u56 u57 u58 u59 u60 u61 u62 u63 u64 u65 u66 u67 u68 u69 u70 u71 u72 u73 u74 u75 u76 u77 u78 u79 u80 u81 u82 u83 u84 u85 u86 u87 u88 u89 u90 u91 u92 u93 u94 u95 u96 u97 u98 u99 u100 u101 u102 u103 u104 u105 u106 u107 u108 u109 u110 u111 u112 u113 u114 u115 u116 u117 u118 u119 u120 u121 u122 u123 u124 u125 u126 u127 u128 u129 u130 u131 u132 u133 u134 u135 u136 u137 u138 u139 u140 u141 u142 u143 u144 u145 u146 u147 : Value} (hb : Below w.heap.size w wr) (h : RGr w base F I rb W room L) {x y z cap : Nat} {a : Option Addr} (hv : SliceOf wr .i64 (.slice a 3 cap) [(x : Int), y, z]) :
    Code.wp Try.prog rappRest14 (bodyPost Try.prog Try.f50 (RPost w base F I rb W room ((threeA L x y z).res W room L))) ⟨(List.toArray (.pointer (some ⟨rb, 0, none⟩) :: .int .u8 21 :: .slice a 3 cap :: u3 :: u4 :: u5 :: u6 :: u7 :: u8 :: u9 :: u10 :: u11 :: u12 :: u13 :: u14 :: u15 :: u16 :: u17 :: u18 :: u19 :: u20 :: u21 :: u22 :: u23 :: u24 :: u25 :: u26 :: u27 :: u28 :: u29 :: u30 :: u31 :: u32 :: u33 :: u34 :: u35 :: u36 :: u37 :: u38 :: u39 :: u40 :: u41 :: u42 :: u43 :: u44 :: u45 :: u46 :: u47 :: u48 :: u49 :: u50 :: u51 :: u52 :: u53 :: u54 :: u55 :: u56 :: u57 :: u58 :: u59 :: u60 :: u61 :: u62 :: u63 :: u64 :: u65 :: u66 :: u67 :: u68 :: u69 :: u70 :: u71 :: u72 :: u73 :: u74 :: u75 :: u76 :: u77 :: u78 :: u79 :: u80 :: u81 :: u82 :: u83 :: u84 :: u85 :: u86 :: u87 :: u88 :: u89 :: u90 :: u91 :: u92 :: u93 :: u94 :: u95 :: u96 :: u97 :: u98 :: u99 :: u100 :: u101 :: u102 :: u103 :: u104 :: u105 :: u106 :: u107 :: u108 :: u109 :: u110 :: u111 :: u112 :: u113 :: u114 :: u115 :: u116 :: u117 :: u118 :: u119 :: u120 :: u121 :: u122 :: u123 :: u124 :: u125 :: u126 :: u127 :: u128 :: u129 :: u130 :: u131 :: u132 :: u133 :: u134 :: u135 :: u136 :: u137 :: u138 :: u139 :: u140 :: u141 :: u142 :: u143 :: u144 :: u145 :: u146 :: u147 :: [])), []⟩ wr := by
  have hcm := fun w' => rcomm_any 21 (by omega) (by omega) w'
  rw [show commN 21 = false from rfl] at hcm
  have HB := Lib.hid hb; have HG := Lib.hid h; have HV := Lib.hid hv; have HCM := Lib.hid hcm
  clear hb h hv hcm
  conv => arg 2; whnf
  go_wp2_with fail
  go_at_call 70
  refine (copyInts_any [(x : Int), y, z] _ wr HV.out (by simp)).mono ?_
  rintro e w1 ⟨v1, rfl, hv1, hb1⟩
  obtain ⟨g, c, f, rfl, hc, hg, hrow, hf⟩ := copy_row hv1 (by simp)
  have hc3 : 3 ≤ c := hc
  have d0 := hrow.cell (i := 0) (by omega)
  have d1 := hrow.cell (i := 1) (by omega)
  have d2 := hrow.cell (i := 2) (by omega)
  rw [hf 0 (by simp)] at d0
  rw [hf 1 (by simp)] at d1
  rw [hf 2 (by simp)] at d2
  have hb2 := HB.out.trans (hb1.mono HB.out.size)
  have HD := Lib.hid (And.intro d0 (And.intro d1 d2))
  have HB2 := Lib.hid hb2
  have HGG := Lib.hid (And.intro (Nat.le_trans HB.out.size hg) hrow.lt)
  clear hv1 hb1 hb2 hrow hf hg hc d0 d1 d2
  go_upto_region 15 with fail
  rename_i K20 h20 K15 h15
  have H20 := Lib.hid h20
  clear h20
  go_wp2_with (first | (go_at_call 71; refine (HCM.out _).mono ?_; rintro e w2 ⟨rfl, rfl⟩))
  refine H20.out _ _ ?_
  exact rapp_three HB2.out HG.out hc3 HGG.out.1 HGG.out.2 HD.out.1 HD.out.2.1 HD.out.2.2
set_option maxRecDepth 100000 in
theorem rapp_tail2 {u3 u4 u5 u6 u7 u8 u9 u10 u11 u12 u13 u14 u15 u16 u17 u18 u19 u20 u21 u22 u23 u24 u25 u26 u27 u28 u29 u30 u31 u32 u33 u34 u35 u36 u37 u38 u39 u40 u41 u42 u43 u44 u45 u46 u47 u48 u49 u50 u51 u52 u53 u54 u55 u56 u57 u58 u59 u60 u61 u62 u63 u64 u65 u66 u67 u68 u69 u70 u71 u72 u73 u74 u75 u76 u77 u78 u79 u80 u81 u82 u83 u84 u85 u86 u87 u88 u89 u90 u91 u92 u93 u94 u95 u96 u97 u98 u99 u100 u101 u102 u103 u104 u105 u106 u107 u108 u109 u110 u111 u112 u113 u114 u115 u116 u117 u118 u119 u120 u121 u122 u123 u124 u125 u126 u127 u128 u129 u130 u131 u132 u133 u134 u135 u136 u137 u138 u139 u140 u141 u142 u143 u144 u145 u146 u147 : Value} (hb : Below w.heap.size w wr) (h : RGr w base F I rb W room L) {o x y cap : Nat} {a : Option Addr} (ho1 : 4 ≤ o) (ho2 : o ≤ 20) (hv : SliceOf wr .i64 (.slice a 2 cap) [(x : Int), y]) (hnn : ¬ (isNum L (x : Int) = true ∧ isNum L (y : Int) = true))
    (hrec : o = 11 → ∀ (x : Nat), x < L.length → isNum L (x : Int) = false → ∀ (w2 : World) (va : Value), RGr w2 base F I rb W room L → SliceOf w2 .i64 va [(x : Int)] → Calls Try.prog 50 #[.pointer (some ⟨rb, 0, none⟩), .int .u8 2, va] w2 (RPost w2 base F I rb W room ((oneA L 2 x).res W room L))) (hx : x < L.length) (hy : y < L.length) :
    Code.wp Try.prog rappRest14 (bodyPost Try.prog Try.f50 (RPost w base F I rb W room ((if swapA L o x y then twoA W L o y x else twoA W L o x y).res W room L))) ⟨(List.toArray (.pointer (some ⟨rb, 0, none⟩) :: .int .u8 o :: .slice a 2 cap :: u3 :: u4 :: u5 :: u6 :: u7 :: u8 :: u9 :: u10 :: u11 :: u12 :: u13 :: u14 :: u15 :: u16 :: u17 :: u18 :: u19 :: u20 :: u21 :: u22 :: u23 :: u24 :: u25 :: u26 :: u27 :: u28 :: u29 :: u30 :: u31 :: u32 :: u33 :: u34 :: u35 :: u36 :: u37 :: u38 :: u39 :: u40 :: u41 :: u42 :: u43 :: u44 :: u45 :: u46 :: u47 :: u48 :: u49 :: u50 :: u51 :: u52 :: u53 :: u54 :: u55 :: u56 :: u57 :: u58 :: u59 :: u60 :: u61 :: u62 :: u63 :: u64 :: u65 :: u66 :: u67 :: u68 :: u69 :: u70 :: u71 :: u72 :: u73 :: u74 :: u75 :: u76 :: u77 :: u78 :: u79 :: u80 :: u81 :: u82 :: u83 :: u84 :: u85 :: u86 :: u87 :: u88 :: u89 :: u90 :: u91 :: u92 :: u93 :: u94 :: u95 :: u96 :: u97 :: u98 :: u99 :: u100 :: u101 :: u102 :: u103 :: u104 :: u105 :: u106 :: u107 :: u108 :: u109 :: u110 :: u111 :: u112 :: u113 :: u114 :: u115 :: u116 :: u117 :: u118 :: u119 :: u120 :: u121 :: u122 :: u123 :: u124 :: u125 :: u126 :: u127 :: u128 :: u129 :: u130 :: u131 :: u132 :: u133 :: u134 :: u135 :: u136 :: u137 :: u138 :: u139 :: u140 :: u141 :: u142 :: u143 :: u144 :: u145 :: u146 :: u147 :: [])), []⟩ wr := by
  obtain ⟨A, hA⟩ : ∃ A, (if swapA L o (x : Int) y then twoA W L o y x else twoA W L o x y) = A := ⟨_, rfl⟩
  rw [hA]
  have HA := Lib.hid hA
  clear hA
  have hcm := fun w' => rcomm_any o (by omega) (by omega) w'
  have hsw : swapA L o x y ↔ commN o = true ∧ (isNum L (x : Int) = true ∨ isNum L (y : Int) = false ∧ (y : Int) < x) := Iff.rfl
  have HB := Lib.hid hb; have HG := Lib.hid h; have HV := Lib.hid hv; have HCM := Lib.hid hcm; have HREC := Lib.hid hrec; have HO := Lib.hid (And.intro ho1 (And.intro ho2 (And.intro hx (And.intro hy hnn)))); have HSW := Lib.hid hsw
  clear hb h hv hcm hrec ho1 ho2 hx hy hnn hsw
  conv => arg 2; whnf
  go_wp2_with fail
  go_at_call 70
  refine (copyInts_any [(x : Int), y] _ wr HV.out (by simp)).mono ?_
  rintro e w1 ⟨v1, rfl, hv1, hb1⟩
  obtain ⟨g, c, f, rfl, hc, hg, hrow, hf⟩ := copy_row hv1 (by simp)
  have hc2 : 2 ≤ c := hc
  have d0 := hrow.cell (i := 0) (by omega)
  have d1 := hrow.cell (i := 1) (by omega)
  have f0 := hrow.frozen 0
  have f1 := hrow.frozen 1
  rw [hf 0 (by simp)] at d0
  rw [hf 1 (by simp)] at d1
  simp only [List.getD_cons_zero, List.getD_cons_succ] at d0 d1
  have hb2 := HB.out.trans (hb1.mono HB.out.size)
  have HL := Lib.hid ((Lab.nil HB.out).new_fn hb1 hrow hg)
  have HD := Lib.hid (And.intro d0 (And.intro d1 (And.intro f0 f1)))
  have HB2 := Lib.hid hb2
  have HGG := Lib.hid (And.intro (Nat.le_trans HB.out.size hg) hrow.lt)
  have HN1 := Lib.hid (rnumber_any (HG.out.later hb2) (x : Int)); have HN2 := Lib.hid (rnumber_any (HG.out.later hb2) (y : Int))
  clear hv1 hb1 hb2 hrow hf hg hc f0 f1
  go_upto_region 15 with fail
  rename_i K20 h20 K15 h15
  have H20 := Lib.hid h20
  clear h20
  cases hcb : commN o with
  | false =>
    rw [hcb] at HCM
    have hns : ¬ swapA L o x y := fun hs => by have := (HSW.out.1 hs).1; rw [hcb] at this; cases this
    have hA := HA.out
    rw [if_neg hns] at hA
    subst hA
    clear hns hcb HSW d0 d1
    go_wp2_with (first | (go_at_call 71; refine (HCM.out _).mono ?_; rintro e w2 ⟨rfl, rfl⟩))
    refine H20.out _ _ ?_
    exact rapp_two HB2.out HG.out HO.out.1 HO.out.2.1 hc2 HGG.out.1 HGG.out.2 HD.out.1 HD.out.2.1 HO.out.2.2.2.2 (fun ho hn => HREC.out ho x HO.out.2.2.1 hn)
  | true =>
    rw [hcb] at HCM
    have hsw2 : swapA L o x y ↔ (isNum L (x : Int) = true ∨ isNum L (y : Int) = false ∧ (y : Int) < x) := HSW.out.trans ⟨fun h => h.2, fun h => ⟨hcb, h⟩⟩
    have HSW2 := Lib.hid hsw2
    clear hsw2 HSW hcb
    obtain ⟨nx, hnx⟩ : ∃ nx, isNum L (x : Int) = nx := ⟨_, rfl⟩
    obtain ⟨ny, hny⟩ : ∃ ny, isNum L (y : Int) = ny := ⟨_, rfl⟩
    rw [hnx] at HN1 HSW2
    rw [hny] at HN2 HSW2
    have HNX := Lib.hid (And.intro hnx hny)
    clear hnx hny
    generalize numD L (x : Int) = qx at *
    generalize numD L (y : Int) = qy at *
    go_upto_region 17 with (first | (go_at_call 71; refine (HCM.out _).mono ?_; rintro e w2 ⟨rfl, rfl⟩) | (go_at_call 32; refine HN1.out.mono ?_; rintro e w2 ⟨rfl, rfl⟩))
    clear HN1
    go_upto_region 18 with (go_at_call 32; refine HN2.out.mono ?_; rintro e w2 ⟨rfl, rfl⟩)
    clear HN2
    go_cut [99] (fun s99 wx => s99 = .bool (decide (swapA L o x y)) ∧ ∃ nq, wx = w1.drewN nq)
    case first =>
      cases nx with
      | true =>
        have hd : decide (swapA L o x y) = true := decide_eq_true (HSW2.out.2 (.inl rfl))
        have HD2 := Lib.hid hd
        clear hd
        go_quiet (fail)
        go_wp2
        go_meet
        exact ⟨by rw [HD2.out], _, rfl⟩
      | false =>
        cases ny with
        | true =>
          have hd : decide (swapA L o x y) = false := decide_eq_false fun h => (HSW2.out.1 h).elim (fun h => by cases h) (fun h => by cases h.1)
          have HD2 := Lib.hid hd
          clear hd
          go_quiet (fail)
          go_wp2
          go_meet
          exact ⟨by rw [HD2.out], _, rfl⟩
        | false =>
          by_cases hxy : (y : Int) < x
          · have hd : decide (swapA L o x y) = true := decide_eq_true (HSW2.out.2 (.inr ⟨rfl, hxy⟩))
            have HD2 := Lib.hid hd
            clear hd
            go_quiet (fail)
            go_wp2
            go_meet
            exact ⟨by rw [HD2.out], _, rfl⟩
          · have hd : decide (swapA L o x y) = false := decide_eq_false fun h => (HSW2.out.1 h).elim (fun h => by cases h) (fun h => hxy h.2)
            have HD2 := Lib.hid hd
            clear hd
            go_quiet (fail)
            go_wp2
            go_meet
            exact ⟨by rw [HD2.out], _, rfl⟩
    case rest =>
      obtain ⟨rfl, nq, rfl⟩ := hcut
      clear d0 d1
      have hb3 := HB2.out.trans ((below_drewN (Below.refl w1.heap.size w1) nq).mono HB2.out.size)
      by_cases hsw : swapA L o x y
      · have hA := HA.out
        rw [if_pos hsw] at hA
        subst hA
        rw [decide_eq_true hsw]
        have HB3 := Lib.hid hb3
        clear hsw hb3
        go_upto_region 19 with fail
        refine rapp_region19 hc2 HD.out.1 HD.out.2.1 HD.out.2.2.1 HD.out.2.2.2 ?_
        intro _ _ _ _ _ _ _ _ _ _
        have hl := ((((HL.out.drewN nq).set 0 (.int .i64 y)).set 1 (.int .i64 x))).drew1
        have e0 := hl.fn1.cell (i := 0) (by omega)
        have e1 := hl.fn1.cell (i := 1) (by omega)
        simp only [if_true, Nat.zero_ne_one, if_false] at e0 e1
        have hb4 := hl.below
        have hgl : g < _ := hl.fn1.lt
        go_wp2
        refine H20.out _ _ ?_
        exact rapp_two hb4 HG.out HO.out.1 HO.out.2.1 hc2 HGG.out.1 hgl e0 e1 (fun h => HO.out.2.2.2.2 ⟨h.2, h.1⟩) (fun ho hn => HREC.out ho y HO.out.2.2.2.1 hn)
      · have hA := HA.out
        rw [if_neg hsw] at hA
        subst hA
        rw [decide_eq_false hsw]
        have HB3 := Lib.hid hb3
        clear hsw hb3
        go_wp2
        refine H20.out _ _ ?_
        exact rapp_two HB3.out HG.out HO.out.1 HO.out.2.1 hc2 HGG.out.1 HGG.out.2 HD.out.1 HD.out.2.1 HO.out.2.2.2.2 (fun ho hn => HREC.out ho x HO.out.2.2.1 hn)
end
end Go.Proofs.Ytcpgiadhmmmafaa
