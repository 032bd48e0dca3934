/- SubE: joined by wip/bundle.py. -/
import Derived.Test.YteamnchoddegpaaGreatDoorB1
import Derived.Test.YteamnchoddegpaaGreatDoorB2
import Derived.Test.YteamnchoddegpaaGreatDoorB3
import Derived.Test.YteamnchoddegpaaGreatDoorB4
import Derived.Test.YteamnchoddegpaaGreatDoorB5
import Derived.Test.YteamnchoddegpaaGreatDoorB6
import Derived.Test.YteamnchoddegpaaGreatDoorB7
import Derived.Test.YteamnchoddegpaaGreatDoorB8
import Derived.Test.YteamnchoddegpaaGreatDoorB9
import Derived.Test.YteamnchoddegpaaGreatDoorB10
import Derived.Test.YteamnchoddegpaaGreatDoorB11
import Derived.Test.YteamnchoddegpaaGreatDoorB12
import Derived.Test.YteamnchoddegpaaGreatDoorB13
import Derived.Test.YteamnchoddegpaaGreatDoorB14
import Derived.BigQuiet
namespace Go.Proofs.YteamnchoddegpaaGreatDoor
open Go.RowKit Go.Maps
set_option maxHeartbeats 3200000
/-- What becomes of a node that occurs: the graph, the term, the error. -/
def nodeR (W room : Nat) (M : List PNode) (made : List Int) (ps : List (Int × Int)) (i : Nat) (n : PNode) : List PNode × Nat × Nat :=
  if n.2.2 = [] then (M, (subLf ps i n).toNat, 0) else simpR W room M n.1 (n.2.2.map fun a => made.getD a.toNat 0)
theorem nodeR_step {W room : Nat} {L0 M : List PNode} {O : Nat → Bool} {made : List Int} {ps : List (Int × Int)} {i : Nat} {n : PNode} (hn : L0[i]? = some n) (ho : O i = true) (hnn : 0 ≤ subLf ps i n) :
    madeStep W room L0 O (subLf ps) i (M, made, 0) = if (nodeR W room M made ps i n).2.2 = 0 then ((nodeR W room M made ps i n).1, made ++ [((nodeR W room M made ps i n).2.1 : Int)], 0) else ((nodeR W room M made ps i n).1, made, (nodeR W room M made ps i n).2.2) := by
  unfold nodeR
  by_cases hx : n.2.2 = []
  · rw [step_leaf hn ho hx, if_pos hx]
    simp only [↓reduceIte]
    rw [Int.toNat_of_nonneg hnn]
  · rw [step_app hn ho hx rfl, if_neg hx]
/-- The map of what became of terms. -/
def fBof (O : Nat → Bool) (made : List Int) (y : Nat) : Int → Option Value := fun k => if 0 ≤ k ∧ k < (y : Int) ∧ O k.toNat = true then some (.int .i64 (made.getD k.toNat 0)) else none
/-- The map of variables. -/
def fVof (ps : List (Int × Int)) : Int → Option Value := fun k => if 0 ≤ k then (subOf ps k.toNat).map (Value.int .i64) else none
section
variable {w0 wr w' : World} {ts : List Thing} {F I : List Nat} {gb W room pb mB mV cB cV p0 p1 xb : Nat} {L M : List PNode} {made : List Int} {ps : List (Int × Int)}
theorem node_any {i y : Nat} {nd : PNode} (h : Lab w0 wr (Thing.graph F I gb W room M :: (replThings pb gb mB mV (fBof (occ L y) made i) (fVof ps) cB cV ++ ts))) (hw : WFL L) (hg : GoodL W L) (hlen : L.length ≤ M.length) (hn : L[i]? = some nd) (hO : ∀ a ∈ nd.2.2, occ L y a.toNat = true) (va : Value) (hs : SliceOf wr .i64 va nd.2.2) {R : List PNode × Nat × Nat} (hR : nodeR W room M made ps i nd = R) (hnn : 0 ≤ subLf ps i nd) :
    Calls Tryz.prog 68 #[.pointer (some ⟨pb, 0, none⟩), .int .i64 i, .agg #[.int .u8 nd.1, .int .u64 nd.2.1, va]] wr fun e w' => e = nodeEnd R ∧ ∃ F' I', Lab w0 w' (Thing.graph F' I' gb W room R.1 :: (replThings pb gb mB mV (fBof (occ L y) made i) (fVof ps) cB cV ++ ts)) := by
  have hok := hw.ok nd (List.mem_of_getElem? hn)
  have hgd := hg nd (List.mem_of_getElem? hn)
  unfold nodeR at hR
  by_cases hx : nd.2.2 = []
  · rw [if_pos hx] at hR
    rw [hx] at hs
    have hl := h.perm (ts' := replThings pb gb mB mV (fBof (occ L y) made i) (fVof ps) cB cV ++ (Thing.graph F I gb W room M :: ts)) List.perm_middle.symm
    have hv : ∀ v, fVof ps (nd.2.1 : Int) = some v → ∃ s, v = .int .i64 s := fun v hv => by
      unfold fVof at hv
      rw [if_pos (by omega), Option.map_eq_some_iff] at hv
      obtain ⟨s, -, rfl⟩ := hv
      exact ⟨s, rfl⟩
    refine (node_leaf hl i nd.1 nd.2.1 hok.2.1 va hs (r := subLf ps i nd) ?_ hv).mono ?_
    · unfold subLf
      by_cases h1 : nd.1 = 1
      · rw [if_pos h1, if_pos h1]
        unfold fVof
        rw [if_pos (by omega), Int.toNat_natCast]
        cases subOf ps nd.2.1 with
        | none => rfl
        | some s => rfl
      · rw [if_neg h1, if_neg h1]
    · rintro e w2 ⟨rfl, hl2⟩
      subst hR
      refine ⟨?_, F, I, hl2.perm List.perm_middle⟩
      unfold nodeEnd
      simp only [↓reduceIte]
      rw [Int.toNat_of_nonneg hnn]
  · rw [if_neg hx] at hR
    have ha := good_app hgd hx
    have hl3 : nd.2.2.length ≤ 3 := by rw [hok.2.2]; exact aryN_le _
    refine (node_app h i nd.1 nd.2.1 (by omega) (by omega) va nd.2.2 hs hx hl3 (fun a ha => ?_) (fun a => made.getD a.toNat 0) (fun a ha => ?_) hR)
    · have h1 := hw.args i nd hn a ha
      have h2 : i < L.length := (List.getElem?_eq_some_iff.1 hn).1
      have h3 : M.length ≤ 1048576 := by have := h.gr.len; have := h.gr.r2; omega
      omega
    · have h1 := hw.args i nd hn a ha
      unfold fBof
      rw [if_pos ⟨h1.1, h1.2, hO a ha⟩]
noncomputable def subRegion (id : Nat) : Code := (Tryz.f38.body.bind (regionIn id)).getD .skip
set_option maxRecDepth 100000 in
theorem sub_region38 {u0 u1 u2 u3 u4 u5 u6 u7 u8 u9 u10 u12 u13 u14 u15 u16 u17 u18 u21 u22 u23 u24 u25 u26 u27 u28 u29 u30 u31 u32 u33 u34 u35 u36 u37 u38 u39 u40 u41 u42 u43 u44 u45 u46 u47 u48 u49 u50 u51 u52 u53 u54 u55 u56 u57 u58 u59 u60 u61 u62 u63 u64 u65 u66 u67 u68 u69 u70 u71 u72 u73 u74 u75 u76 u77 u78 u79 u80 u81 u82 u83 u84 u85 u86 u87 u88 u89 u90 u91 u92 u93 u94 u95 u96 u97 u98 u99 u100 u101 u102 u103 u104 u105 u106 u107 u108 u109 u110 u111 u112 u113 u114 u115 u116 u117 u118 u119 u120 u121 u122 u123 u124 u125 u126 u127 u128 u129 u130 u131 u132 u133 u134 u135 u136 u137 u138 u139 u140 u141 u142 u143 u144 u145 u146 u147 u148 u149 : Value} {Q : Exit → Act → World → Prop} {ds : List Deferred} {y z : Nat} {nd : PNode} {va : Value} (h : Lab w0 wr (Thing.graph F I gb W room M :: Thing.box xb 88 #[.int .u8 nd.1, .int .u64 nd.2.1, va] :: Thing.reads va nd.2.2 :: (replThings pb gb mB mV (fBof (occ L z) made y) (fVof ps) cB cV ++ ts)))
    (hw : WFL L) (hg : GoodL W L) (hlen : L.length ≤ M.length) (hn : L[y]? = some nd) (hO : ∀ a ∈ nd.2.2, occ L z a.toNat = true) (hnn : 0 ≤ subLf ps y nd) {R : List PNode × Nat × Nat} (hR : nodeR W room M made ps y nd = R) (he : R.2.2 = 0)
    (hQ : ∀ (v134 v135 v136 v137 v138 v139 v140 v141 v142 : Value) (w2 : World), (∃ F' I' c', Lab w0 w2 (Thing.mapf 3 .i64 mB (fun k => if k = (y : Int) then some (.int .i64 R.2.1) else fBof (occ L z) made y k) c' :: Thing.graph F' I' gb W room R.1 :: Thing.box pb 130 #[.pointer (some ⟨gb, 0, none⟩), .map (some mB), .map (some mV)] :: Thing.mapf 43 .u64 mV (fVof ps) cV :: ts)) →
      Q .normal ⟨(List.toArray (u0 :: u1 :: u2 :: u3 :: u4 :: u5 :: u6 :: u7 :: u8 :: u9 :: u10 :: .pointer (some ⟨pb, 0, none⟩) :: u12 :: u13 :: u14 :: u15 :: u16 :: u17 :: u18 :: .int .i64 y :: .pointer (some ⟨xb, 0, none⟩) :: u21 :: u22 :: u23 :: u24 :: u25 :: u26 :: u27 :: u28 :: u29 :: u30 :: u31 :: u32 :: u33 :: u34 :: u35 :: u36 :: u37 :: u38 :: u39 :: u40 :: u41 :: u42 :: u43 :: u44 :: u45 :: u46 :: u47 :: u48 :: u49 :: u50 :: u51 :: u52 :: u53 :: u54 :: u55 :: u56 :: u57 :: u58 :: u59 :: u60 :: u61 :: u62 :: u63 :: u64 :: u65 :: u66 :: u67 :: u68 :: u69 :: u70 :: u71 :: u72 :: u73 :: u74 :: u75 :: u76 :: u77 :: u78 :: u79 :: u80 :: u81 :: u82 :: u83 :: u84 :: u85 :: u86 :: u87 :: u88 :: u89 :: u90 :: u91 :: u92 :: u93 :: u94 :: u95 :: u96 :: u97 :: u98 :: u99 :: u100 :: u101 :: u102 :: u103 :: u104 :: u105 :: u106 :: u107 :: u108 :: u109 :: u110 :: u111 :: u112 :: u113 :: u114 :: u115 :: u116 :: u117 :: u118 :: u119 :: u120 :: u121 :: u122 :: u123 :: u124 :: u125 :: u126 :: u127 :: u128 :: u129 :: u130 :: u131 :: u132 :: u133 :: v134 :: v135 :: v136 :: v137 :: v138 :: v139 :: v140 :: v141 :: v142 :: u143 :: u144 :: u145 :: u146 :: u147 :: u148 :: u149 :: [])), ds⟩ w2) :
    Code.wp Tryz.prog (subRegion 38) Q ⟨(List.toArray (u0 :: u1 :: u2 :: u3 :: u4 :: u5 :: u6 :: u7 :: u8 :: u9 :: u10 :: .pointer (some ⟨pb, 0, none⟩) :: u12 :: u13 :: u14 :: u15 :: u16 :: u17 :: u18 :: .int .i64 y :: .pointer (some ⟨xb, 0, none⟩) :: u21 :: u22 :: u23 :: u24 :: u25 :: u26 :: u27 :: u28 :: u29 :: u30 :: u31 :: u32 :: u33 :: u34 :: u35 :: u36 :: u37 :: u38 :: u39 :: u40 :: u41 :: u42 :: u43 :: u44 :: u45 :: u46 :: u47 :: u48 :: u49 :: u50 :: u51 :: u52 :: u53 :: u54 :: u55 :: u56 :: u57 :: u58 :: u59 :: u60 :: u61 :: u62 :: u63 :: u64 :: u65 :: u66 :: u67 :: u68 :: u69 :: u70 :: u71 :: u72 :: u73 :: u74 :: u75 :: u76 :: u77 :: u78 :: u79 :: u80 :: u81 :: u82 :: u83 :: u84 :: u85 :: u86 :: u87 :: u88 :: u89 :: u90 :: u91 :: u92 :: u93 :: u94 :: u95 :: u96 :: u97 :: u98 :: u99 :: u100 :: u101 :: u102 :: u103 :: u104 :: u105 :: u106 :: u107 :: u108 :: u109 :: u110 :: u111 :: u112 :: u113 :: u114 :: u115 :: u116 :: u117 :: u118 :: u119 :: u120 :: u121 :: u122 :: u123 :: u124 :: u125 :: u126 :: u127 :: u128 :: u129 :: u130 :: u131 :: u132 :: u133 :: u134 :: u135 :: u136 :: u137 :: u138 :: u139 :: u140 :: u141 :: u142 :: u143 :: u144 :: u145 :: u146 :: u147 :: u148 :: u149 :: [])), ds⟩ wr := by
  have hy : y < 1048576 := by
    have h2 : y < L.length := (List.getElem?_eq_some_iff.1 hn).1
    have := h.gr.len; have := h.gr.r2; omega
  have hl := h.perm (ts' := Thing.graph F I gb W room M :: (replThings pb gb mB mV (fBof (occ L z) made y) (fVof ps) cB cV ++ (Thing.box xb 88 #[.int .u8 nd.1, .int .u64 nd.2.1, va] :: Thing.reads va nd.2.2 :: ts))) (.cons _ (List.perm_append_comm_assoc [Thing.box xb 88 #[.int .u8 nd.1, .int .u64 nd.2.1, va], Thing.reads va nd.2.2] (replThings pb gb mB mV (fBof (occ L z) made y) (fVof ps) cB cV) ts))
  obtain ⟨p0, p1, p2⟩ := cells3 hl.box2
  obtain ⟨x0, x1, x2⟩ := cells3 h.box2
  obtain ⟨a, m, c, rfl, -, -⟩ := (reads_slice h.third).parts
  have hcall := node_any hl.drew1 hw hg hlen hn hO _ (reads_slice h.drew1.third) hR hnn
  have hne : nodeEnd R = .returned (.int .i64 R.2.1) := by unfold nodeEnd; rw [if_pos he]
  rw [hne] at hcall
  have HQ := Lib.hid hQ; have HC := Lib.hid hcall
  clear hQ hcall hl h hne hw hg hlen hn hO hnn hR he
  conv => arg 2; whnf
  go_region_held3 (fun w' => w'.cell? ⟨pb, 1, none⟩ = some (.map (some mB)) ∧ w'.cell? ⟨xb, 0, none⟩ = some (.int .u8 nd.1) ∧ w'.cell? ⟨xb, 1, none⟩ = some (.int .u64 nd.2.1) ∧ w'.cell? ⟨xb, 2, none⟩ = some (.slice a m c)) (first | exact ⟨p1, x0, x1, x2⟩ | exact ⟨by assumption, by assumption, by assumption, by assumption⟩ | go_keep)
    (first | (go_at_call 68; refine HC.out.mono ?_; intro e w4 hp; obtain ⟨rfl, F2, I2, hl3⟩ := hp; obtain ⟨m0, m1, m2⟩ := cells3 hl3.box2; have hmp := Lab.mput (T := 127) (E := 3) (k := (y : Int)) hl3.rot3 Tryz.underlying3 Tryz.underlying127 (wf_i64 (by omega) (by omega)) (.int .i64 R.2.1); obtain ⟨hput, hlm⟩ := hmp; obtain ⟨n0, n1, n2⟩ := cells3 hlm.box3; obtain ⟨y0, y1, y2⟩ := cells3 (hl3.mem_box (b := xb) (T := 88) (arr := #[.int .u8 nd.1, .int .u64 nd.2.1, .slice a m c]) (by simp)); obtain ⟨z0, z1, z2⟩ := cells3 (hlm.mem_box (b := xb) (T := 88) (arr := #[.int .u8 nd.1, .int .u64 nd.2.1, .slice a m c]) (by simp))))
  exact HQ.out _ _ _ _ _ _ _ _ _ _ ⟨F2, I2, _, hlm.sub (.cons_cons _ (.cons_cons _ (.cons_cons _ (.cons_cons _ (.cons _ (.cons _ (List.Sublist.refl _)))))))⟩
set_option maxRecDepth 100000 in
theorem sub_region38_bad {u0 u1 u2 u3 u4 u5 u6 u7 u8 u9 u10 u12 u13 u14 u15 u16 u17 u18 u21 u22 u23 u24 u25 u26 u27 u28 u29 u30 u31 u32 u33 u34 u35 u36 u37 u38 u39 u40 u41 u42 u43 u44 u45 u46 u47 u48 u49 u50 u51 u52 u53 u54 u55 u56 u57 u58 u59 u60 u61 u62 u63 u64 u65 u66 u67 u68 u69 u70 u71 u72 u73 u74 u75 u76 u77 u78 u79 u80 u81 u82 u83 u84 u85 u86 u87 u88 u89 u90 u91 u92 u93 u94 u95 u96 u97 u98 u99 u100 u101 u102 u103 u104 u105 u106 u107 u108 u109 u110 u111 u112 u113 u114 u115 u116 u117 u118 u119 u120 u121 u122 u123 u124 u125 u126 u127 u128 u129 u130 u131 u132 u133 u134 u135 u136 u137 u138 u139 u140 u141 u142 u143 u144 u145 u146 u147 u148 u149 : Value} {Q : Exit → Act → World → Prop} {ds : List Deferred} {y z : Nat} {nd : PNode} {va : Value} (h : Lab w0 wr (Thing.graph F I gb W room M :: Thing.box xb 88 #[.int .u8 nd.1, .int .u64 nd.2.1, va] :: Thing.reads va nd.2.2 :: (replThings pb gb mB mV (fBof (occ L z) made y) (fVof ps) cB cV ++ ts)))
    (hw : WFL L) (hg : GoodL W L) (hlen : L.length ≤ M.length) (hn : L[y]? = some nd) (hO : ∀ a ∈ nd.2.2, occ L z a.toNat = true) (hnn : 0 ≤ subLf ps y nd) {R : List PNode × Nat × Nat} (hR : nodeR W room M made ps y nd = R) (he : R.2.2 ≠ 0)
    (hQ : ∀ (tmps : Array Value) (w2 : World), tmps.getD 8 undef = u8 → tmps.getD 9 undef = u9 → (∃ F' I', Lab w0 w2 (Thing.graph F' I' gb W room R.1 :: (replThings pb gb mB mV (fBof (occ L z) made y) (fVof ps) cB cV ++ ts))) →
      Q (.panic [{ v := .iface 132 (.agg #[.int .i64 R.2.2]), recovered := false }]) ⟨tmps, ds⟩ w2) :
    Code.wp Tryz.prog (subRegion 38) Q ⟨(List.toArray (u0 :: u1 :: u2 :: u3 :: u4 :: u5 :: u6 :: u7 :: u8 :: u9 :: u10 :: .pointer (some ⟨pb, 0, none⟩) :: u12 :: u13 :: u14 :: u15 :: u16 :: u17 :: u18 :: .int .i64 y :: .pointer (some ⟨xb, 0, none⟩) :: u21 :: u22 :: u23 :: u24 :: u25 :: u26 :: u27 :: u28 :: u29 :: u30 :: u31 :: u32 :: u33 :: u34 :: u35 :: u36 :: u37 :: u38 :: u39 :: u40 :: u41 :: u42 :: u43 :: u44 :: u45 :: u46 :: u47 :: u48 :: u49 :: u50 :: u51 :: u52 :: u53 :: u54 :: u55 :: u56 :: u57 :: u58 :: u59 :: u60 :: u61 :: u62 :: u63 :: u64 :: u65 :: u66 :: u67 :: u68 :: u69 :: u70 :: u71 :: u72 :: u73 :: u74 :: u75 :: u76 :: u77 :: u78 :: u79 :: u80 :: u81 :: u82 :: u83 :: u84 :: u85 :: u86 :: u87 :: u88 :: u89 :: u90 :: u91 :: u92 :: u93 :: u94 :: u95 :: u96 :: u97 :: u98 :: u99 :: u100 :: u101 :: u102 :: u103 :: u104 :: u105 :: u106 :: u107 :: u108 :: u109 :: u110 :: u111 :: u112 :: u113 :: u114 :: u115 :: u116 :: u117 :: u118 :: u119 :: u120 :: u121 :: u122 :: u123 :: u124 :: u125 :: u126 :: u127 :: u128 :: u129 :: u130 :: u131 :: u132 :: u133 :: u134 :: u135 :: u136 :: u137 :: u138 :: u139 :: u140 :: u141 :: u142 :: u143 :: u144 :: u145 :: u146 :: u147 :: u148 :: u149 :: [])), ds⟩ wr := by
  have hy : y < 1048576 := by
    have h2 : y < L.length := (List.getElem?_eq_some_iff.1 hn).1
    have := h.gr.len; have := h.gr.r2; omega
  have hl := h.perm (ts' := Thing.graph F I gb W room M :: (replThings pb gb mB mV (fBof (occ L z) made y) (fVof ps) cB cV ++ (Thing.box xb 88 #[.int .u8 nd.1, .int .u64 nd.2.1, va] :: Thing.reads va nd.2.2 :: ts))) (.cons _ (List.perm_append_comm_assoc [Thing.box xb 88 #[.int .u8 nd.1, .int .u64 nd.2.1, va], Thing.reads va nd.2.2] (replThings pb gb mB mV (fBof (occ L z) made y) (fVof ps) cB cV) ts))
  obtain ⟨p0, p1, p2⟩ := cells3 hl.box2
  obtain ⟨x0, x1, x2⟩ := cells3 h.box2
  obtain ⟨a, m, c, rfl, -, -⟩ := (reads_slice h.third).parts
  have hcall := node_any hl.drew1 hw hg hlen hn hO _ (reads_slice h.drew1.third) hR hnn
  have hne : nodeEnd R = .panicked [{ v := .iface 132 (.agg #[.int .i64 R.2.2]), recovered := false }] := by unfold nodeEnd; rw [if_neg he]
  rw [hne] at hcall
  refine Code.wp_mono (P := Tryz.prog) (c := subRegion 38) (Q := fun e av w2 => match e with | .panic chn => chn = [{ v := .iface 132 (.agg #[.int .i64 R.2.2]), recovered := false }] ∧ av.tmps.getD 8 undef = u8 ∧ av.tmps.getD 9 undef = u9 ∧ av.defers = ds ∧ ∃ F' I', Lab w0 w2 (Thing.graph F' I' gb W room R.1 :: (replThings pb gb mB mV (fBof (occ L z) made y) (fVof ps) cB cV ++ (Thing.box xb 88 #[.int .u8 nd.1, .int .u64 nd.2.1, .slice a m c] :: Thing.reads (.slice a m c) nd.2.2 :: ts))) | _ => False) (Q' := Q) (fun e a w2 h => by
    cases e <;> simp only at h
    obtain ⟨rfl, h8, h9, hd, F2, I2, hl⟩ := h
    obtain ⟨tm, dd⟩ := a
    simp only at hd h8 h9
    subst hd
    exact hQ tm w2 h8 h9 ⟨F2, I2, hl.sub (.cons_cons _ (.cons_cons _ (.cons_cons _ (.cons_cons _ (.cons _ (.cons _ (List.Sublist.refl _)))))))⟩) ?_
  clear hQ
  have hq : ∀ (d : Option Tmp), d ≠ some 8 → d ≠ some 9 → ∀ (a : Act) (v : Value), (a.put d v).tmps.getD 8 undef = a.tmps.getD 8 undef ∧ (a.put d v).tmps.getD 9 undef = a.tmps.getD 9 undef ∧ (a.put d v).defers = a.defers := by
    intro d h8 h9 a v
    cases d with
    | none => exact ⟨rfl, rfl, rfl⟩
    | some d =>
      refine ⟨?_, ?_, rfl⟩
      · show (a.tmps.setIfInBounds d v).getD 8 undef = _
        simp only [Array.getD_eq_getD_getElem?]
        rw [Array.getElem?_setIfInBounds_ne (fun e => h8 (by rw [e]))]
      · show (a.tmps.setIfInBounds d v).getD 9 undef = _
        simp only [Array.getD_eq_getD_getElem?]
        rw [Array.getElem?_setIfInBounds_ne (fun e => h9 (by rw [e]))]
  have HQ := Lib.hid True.intro; have HC := Lib.hid hcall
  clear hcall hl h hne hw hg hlen hn hO hnn hR he
  conv => arg 2; whnf
  refine wp_region_held_drew (S := fun w' => w'.cell? ⟨pb, 1, none⟩ = some (.map (some mB)) ∧ w'.cell? ⟨xb, 0, none⟩ = some (.int .u8 nd.1) ∧ w'.cell? ⟨xb, 1, none⟩ = some (.int .u64 nd.2.1) ∧ w'.cell? ⟨xb, 2, none⟩ = some (.slice a m c)) (by kernel_rfl) ⟨p1, x0, x1, x2⟩ (fun hHeld => ?_)
  refine wpAnyH_take (i := 0) (v := ?v0) rfl (by kernel_rfl) (by kernel_rfl) (by kernel_rfl) ?hq0 (Or.inl ⟨by rfl, ?hy0⟩) hHeld ?rest0
  case hy0 =>
    intro w hSw
    (try dsimp only at hSw)
    go_simp
    with_reducible rfl
  case hq0 =>
    intro cc aa ww hh
    have q := hq (some 134) (by decide) (by decide) aa
    exact ⟨hh.1, (q _).1.symm.trans hh.2.1, (q _).2.1.symm.trans hh.2.2.1, (q _).2.2.symm.trans hh.2.2.2.1, hh.2.2.2.2⟩
  simp only [Act.put, List.setIfInBounds_toArray]
  refine wpAnyH_take (i := 1) (v := ?v1) rfl (by kernel_rfl) (by kernel_rfl) (by kernel_rfl) ?hq1 (Or.inl ⟨by rfl, ?hy1⟩) hHeld ?rest1
  case hy1 =>
    intro w hSw
    (try dsimp only at hSw)
    go_simp
    with_reducible rfl
  case hq1 =>
    intro cc aa ww hh
    have q := hq (some 135) (by decide) (by decide) aa
    exact ⟨hh.1, (q _).1.symm.trans hh.2.1, (q _).2.1.symm.trans hh.2.2.1, (q _).2.2.symm.trans hh.2.2.2.1, hh.2.2.2.2⟩
  simp only [Act.put]
  refine wpAnyH_take (i := 2) (v := ?v2) rfl (by kernel_rfl) (by kernel_rfl) (by kernel_rfl) ?hq2 (Or.inl ⟨by rfl, ?hy2⟩) hHeld ?rest2
  case hy2 =>
    intro w hSw
    (try dsimp only at hSw)
    go_simp
    with_reducible rfl
  case hq2 =>
    intro cc aa ww hh
    have q := hq (some 136) (by decide) (by decide) aa
    exact ⟨hh.1, (q _).1.symm.trans hh.2.1, (q _).2.1.symm.trans hh.2.2.1, (q _).2.2.symm.trans hh.2.2.2.1, hh.2.2.2.2⟩
  simp only [Act.put]
  refine wpAnyH_take (i := 3) (v := ?v3) rfl (by kernel_rfl) (by kernel_rfl) (by kernel_rfl) ?hq3 (Or.inl ⟨by rfl, ?hy3⟩) hHeld ?rest3
  case hy3 =>
    intro w hSw
    (try dsimp only at hSw)
    go_simp
    with_reducible rfl
  case hq3 =>
    intro cc aa ww hh
    have q := hq (some 137) (by decide) (by decide) aa
    exact ⟨hh.1, (q _).1.symm.trans hh.2.1, (q _).2.1.symm.trans hh.2.2.1, (q _).2.2.symm.trans hh.2.2.2.1, hh.2.2.2.2⟩
  simp only [Act.put]
  refine wpAnyH_take (i := 4) (v := ?v4) rfl (by kernel_rfl) (by kernel_rfl) (by kernel_rfl) ?hq4 (Or.inl ⟨by rfl, ?hy4⟩) hHeld ?rest4
  case hy4 =>
    intro w hSw
    (try dsimp only at hSw)
    go_simp
    with_reducible rfl
  case hq4 =>
    intro cc aa ww hh
    have q := hq (some 138) (by decide) (by decide) aa
    exact ⟨hh.1, (q _).1.symm.trans hh.2.1, (q _).2.1.symm.trans hh.2.2.1, (q _).2.2.symm.trans hh.2.2.2.1, hh.2.2.2.2⟩
  simp only [Act.put]
  refine wpAnyH_take (i := 5) (v := ?v5) rfl (by kernel_rfl) (by kernel_rfl) (by kernel_rfl) ?hq5 (Or.inl ⟨by rfl, ?hy5⟩) hHeld ?rest5
  case hy5 =>
    intro w hSw
    (try dsimp only at hSw)
    go_simp
    with_reducible rfl
  case hq5 =>
    intro cc aa ww hh
    have q := hq (some 139) (by decide) (by decide) aa
    exact ⟨hh.1, (q _).1.symm.trans hh.2.1, (q _).2.1.symm.trans hh.2.2.1, (q _).2.2.symm.trans hh.2.2.2.1, hh.2.2.2.2⟩
  simp only [Act.put]
  refine wpAnyH_take (i := 6) (v := ?v6) rfl (by kernel_rfl) (by kernel_rfl) (by kernel_rfl) ?hq6 (Or.inl ⟨by rfl, ?hy6⟩) hHeld ?rest6
  case hy6 =>
    intro w hSw
    (try dsimp only at hSw)
    go_simp
    with_reducible rfl
  case hq6 =>
    intro cc aa ww hh
    have q := hq (some 140) (by decide) (by decide) aa
    exact ⟨hh.1, (q _).1.symm.trans hh.2.1, (q _).2.1.symm.trans hh.2.2.1, (q _).2.2.symm.trans hh.2.2.2.1, hh.2.2.2.2⟩
  simp only [Act.put]
  refine wpAnyH_take (i := 7) (v := ?v7) rfl (by kernel_rfl) (by kernel_rfl) (by kernel_rfl) ?hq7 (Or.inl ⟨by rfl, ?hy7⟩) hHeld ?rest7
  case hy7 =>
    intro w hSw
    (try dsimp only at hSw)
    go_simp
    with_reducible rfl
  case hq7 =>
    intro cc aa ww hh
    have q := hq (some 141) (by decide) (by decide) aa
    exact ⟨hh.1, (q _).1.symm.trans hh.2.1, (q _).2.1.symm.trans hh.2.2.1, (q _).2.2.symm.trans hh.2.2.2.1, hh.2.2.2.2⟩
  simp only [Act.put]
  refine wpAnyH_ready (rs := [8]) (by kernel_rfl) (by simp) ?_
  refine AllReadyH.cons (o := _) rfl (fun K hK => ?_) ?_
  · go_simp
    go_at_call 68
    refine HC.out.mono ?_
    intro e w4 hp
    obtain ⟨rfl, F2, I2, hl3⟩ := hp
    exact ⟨rfl, F2, I2, hl3⟩
  · exact AllReadyH.nil
end
end Go.Proofs.YteamnchoddegpaaGreatDoor
namespace Go.Proofs.YteamnchoddegpaaGreatDoor
open Go.RowKit Go.Maps
set_option maxHeartbeats 3200000
theorem sub_results {tmps : Array Value} {p0 p1 : Nat} {w : World} {a b : Int} (t0 : tmps.getD 8 undef = .pointer (some ⟨p0, 0, none⟩)) (t1 : tmps.getD 9 undef = .pointer (some ⟨p1, 0, none⟩)) (c0 : w.cell? ⟨p0, 0, none⟩ = some (.int .i64 a)) (c1 : w.cell? ⟨p1, 0, none⟩ = some (.int .i64 b)) :
    (results Tryz.f38 tmps).run Tryz.prog w = .ok (.tuple #[.int .i64 a, .int .i64 b]) w := by
  have t0' : tmps[8]?.getD undef = .pointer (some ⟨p0, 0, none⟩) := by simpa using t0
  have t1' : tmps[9]?.getD undef = .pointer (some ⟨p1, 0, none⟩) := by simpa using t1
  unfold results
  rw [Tryz.results38]
  simp [go_sem, t0', t1', c0, c1]
theorem sub_invoke (p0 p1 : Nat) (w : World) : (invoke (.fn (.func 66) #[.pointer (some ⟨p0, 0, none⟩), .pointer (some ⟨p1, 0, none⟩)]) #[]).run Tryz.prog w = .ok (.enter 66 #[.pointer (some ⟨p0, 0, none⟩), .pointer (some ⟨p1, 0, none⟩)]) w := by
  kernel_rfl
theorem getD_app {l m : List Int} {i : Nat} (h : i < l.length) (d : Int) : (l ++ m).getD i d = l.getD i d := by
  rw [List.getD_eq_getElem?_getD, List.getElem?_append_left h, ← List.getD_eq_getElem?_getD]
theorem sub_idle {tmps : Array Value} {p0 p1 : Nat} {w : World} {a b : Int} {R : Ending → World → Prop} (t0 : tmps.getD 8 undef = .pointer (some ⟨p0, 0, none⟩)) (t1 : tmps.getD 9 undef = .pointer (some ⟨p1, 0, none⟩)) (c0 : w.cell? ⟨p0, 0, none⟩ = some (.int .i64 a)) (c1 : w.cell? ⟨p1, 0, none⟩ = some (.int .i64 b))
    (hR : R (.returned (.tuple #[.int .i64 a, .int .i64 b])) w) : Leaves Tryz.prog Tryz.f38 tmps R (subDefer p0 p1) .returning w := by
  refine leaves_cons (f := 66) (args := #[.pointer (some ⟨p0, 0, none⟩), .pointer (some ⟨p1, 0, none⟩)]) (by intro h; cases h) (sub_invoke p0 p1 _) ((catch_idle _ _ _).mono ?_)
  rintro e u' w' ⟨rfl, rfl, rfl⟩
  exact ⟨_, sub_results t0 t1 c0 c1, hR⟩
theorem sub_full {tmps : Array Value} {w0 w : World} {ts : List Thing} {p0 p1 : Nat} {a b : Int} {f : Nat} {R : Ending → World → Prop} (h : Lab w0 w (Thing.box p0 3 #[.int .i64 a] :: Thing.box p1 36 #[.int .i64 b] :: ts)) (t0 : tmps.getD 8 undef = .pointer (some ⟨p0, 0, none⟩)) (t1 : tmps.getD 9 undef = .pointer (some ⟨p1, 0, none⟩)) (hpq : p0 ≠ p1)
    (hR : ∀ w', Lab w0 w' ts → R (.returned (.tuple #[.int .i64 0, .int .i64 f])) w') : Leaves Tryz.prog Tryz.f38 tmps R (subDefer p0 p1) (.panicking [{ v := .iface 132 (.agg #[.int .i64 f]), recovered := false }]) w := by
  have c0 : w.cell? ⟨p0, 0, none⟩ = some (.int .i64 a) := by rw [cell_of_row w p0 0 _ _ _ h.box1]; rfl
  have c1 : w.cell? ⟨p1, 0, none⟩ = some (.int .i64 b) := by rw [cell_of_row w p1 0 _ _ _ h.box2]; rfl
  refine leaves_cons (f := 66) (args := #[.pointer (some ⟨p0, 0, none⟩), .pointer (some ⟨p1, 0, none⟩)]) (by intro h; cases h) (sub_invoke p0 p1 _) ((catch_full _ _ a b f [] w c0 c1 (frozen_of_row w p0 0 _ _ h.box1) (frozen_of_row w p1 0 _ _ h.box2) (by intro h; injection h with h; exact hpq h) (Array.getElem?_eq_some_iff.1 h.box1).1 (Array.getElem?_eq_some_iff.1 h.box2).1).mono ?_)
  rintro e u' w' ⟨rfl, rfl, w2, hb, rfl⟩
  have h2 := (((h.later hb).store 0 (.int .i64 0)).swap.store 0 (.int .i64 f)).swap.drew1
  refine ⟨_, sub_results (a := 0) (b := f) t0 t1 ?_ ?_, hR _ h2.drop.drop⟩
  · rw [cell_of_row _ p0 0 _ _ _ h2.box1]; rfl
  · rw [cell_of_row _ p1 0 _ _ _ h2.box2]; rfl
theorem fB_skip {O : Nat → Bool} {made : List Int} {y : Nat} {v : Int} (hl : made.length = y) (hO : O y = false) : ∀ k, fBof O made y k = fBof O (made ++ [v]) (y + 1) k := by
  intro k
  unfold fBof
  by_cases h : 0 ≤ k ∧ k < (y : Int) ∧ O k.toNat = true
  · rw [if_pos h, if_pos ⟨h.1, by omega, h.2.2⟩, getD_app (by omega)]
  · rw [if_neg h, if_neg]
    rintro ⟨h1, h2, h3⟩
    by_cases e : k = (y : Int)
    · subst e; rw [Int.toNat_natCast, hO] at h3; cases h3
    · exact h ⟨h1, by omega, h3⟩
theorem fB_put {O : Nat → Bool} {made : List Int} {y : Nat} {v : Int} (hl : made.length = y) (hO : O y = true) : ∀ k, (if k = (y : Int) then some (.int .i64 v) else fBof O made y k) = fBof O (made ++ [v]) (y + 1) k := by
  intro k
  unfold fBof
  by_cases e : k = (y : Int)
  · subst e
    rw [if_pos rfl, if_pos ⟨by omega, by omega, by rw [Int.toNat_natCast]; exact hO⟩, Int.toNat_natCast, List.getD_eq_getElem?_getD, List.getElem?_append_right (by omega), hl, Nat.sub_self]
    rfl
  · rw [if_neg e]
    by_cases h : 0 ≤ k ∧ k < (y : Int) ∧ O k.toNat = true
    · rw [if_pos h, if_pos ⟨h.1, by omega, h.2.2⟩, getD_app (by omega)]
    · rw [if_neg h, if_neg]
      rintro ⟨h1, h2, h3⟩
      exact h ⟨h1, by omega, h3⟩
/-- What Subst keeps while it makes nodes anew. -/
def subThings (F I : List Nat) (gb W room : Nat) (M : List PNode) (pb mB mV : Nat) (fB fV : Int → Option Value) (cB cV ob nb p0 p1 z : Nat) (I2 : List Nat) (L : List PNode) : List Thing :=
  Thing.graph F I gb W room M :: (replThings pb gb mB mV fB fV cB cV ++ [Thing.fn ob 4 (z + 1) (fun i => .bool (occ L z i)), Thing.taken I2 nb (z + 1) L (occ L z) (-1) (-1), Thing.box p0 3 #[.int .i64 0], Thing.box p1 36 #[.int .i64 0]])
section
variable {w0 wr w' : World} {ts : List Thing} {F I : List Nat} {gb W room pb mB mV cB cV p0 p1 xb ob nb z : Nat} {I2 : List Nat} {L M : List PNode} {made : List Int} {ps : List (Int × Int)} {fB fV : Int → Option Value}
theorem Lab.sub_fn (h : Lab w0 wr (subThings F I gb W room M pb mB mV fB fV cB cV ob nb p0 p1 z I2 L ++ ts)) : wr.rowIs ob 4 (z + 1) (fun i => .bool (occ L z i)) := h.holds (Thing.fn ob 4 (z + 1) (fun i => .bool (occ L z i))) (by simp [subThings])
theorem Lab.sub_taken (h : Lab w0 wr (subThings F I gb W room M pb mB mV fB fV cB cV ob nb p0 p1 z I2 L ++ ts)) : Taken wr I2 nb (z + 1) L (occ L z) (-1) (-1) := h.holds (Thing.taken I2 nb (z + 1) L (occ L z) (-1) (-1)) (by simp [subThings])
theorem Lab.sub_repl (h : Lab w0 wr (subThings F I gb W room M pb mB mV fB fV cB cV ob nb p0 p1 z I2 L ++ ts)) : wr.heap[pb]? = some (.cells #[.pointer (some ⟨gb, 0, none⟩), .map (some mB), .map (some mV)] 130 (0, 0)) := h.mem_box (by simp [subThings, replThings])
theorem Lab.sub_mB (h : Lab w0 wr (subThings F I gb W room M pb mB mV fB fV cB cV ob nb p0 p1 z I2 L ++ ts)) : MapF Tryz.prog 3 .i64 wr mB fB cB := h.holds (Thing.mapf 3 .i64 mB fB cB) (by simp [subThings, replThings])
theorem Lab.sub_box0 (h : Lab w0 wr (subThings F I gb W room M pb mB mV fB fV cB cV ob nb p0 p1 z I2 L ++ ts)) : wr.heap[p0]? = some (.cells #[.int .i64 0] 3 (0, 0)) := h.mem_box (by simp [subThings])
theorem Lab.sub_box1 (h : Lab w0 wr (subThings F I gb W room M pb mB mV fB fV cB cV ob nb p0 p1 z I2 L ++ ts)) : wr.heap[p1]? = some (.cells #[.int .i64 0] 36 (0, 0)) := h.mem_box (by simp [subThings])
theorem Lab.sub_ne (h : Lab w0 wr (subThings F I gb W room M pb mB mV fB fV cB cV ob nb p0 p1 z I2 L ++ ts)) : p0 ≠ p1 := by
  have h1 : Lab w0 wr [Thing.box p0 3 #[.int .i64 0], Thing.box p1 36 #[.int .i64 0]] := h.sub (by
    show List.Sublist _ (_ :: _ :: _ :: _ :: _ :: _ :: _ :: _ :: ts)
    exact .cons _ (.cons _ (.cons _ (.cons _ (.cons _ (.cons _ (.cons_cons _ (.cons_cons _ (List.nil_sublist _)))))))))
  intro e
  exact (((List.pairwise_cons.1 h1.apart).1 _ (List.mem_singleton.2 rfl)).1 p0 (by simp [Thing.box])).1 (by simp [Thing.box, e])
/-- What Subst answers, once the nodes are taken. -/
def SubPost (w0 : World) (gb W room : Nat) (ts : List Thing) (R : List PNode × Nat × Nat) : Ending → World → Prop := fun e w' => ∃ F' I', e = .returned (.tuple #[.int .i64 R.2.1, .int .i64 R.2.2]) ∧ Lab w0 w' (Thing.graph F' I' gb W room R.1 :: ts)
set_option maxRecDepth 100000 in
theorem sub_rest34 {u2 u3 u4 u5 u6 u7 u10 u12 u13 u16 u17 u18 u19 u20 u21 u22 u23 u24 u25 u26 u27 u28 u29 u30 u31 u32 u33 u34 u35 u36 u37 u38 u39 u40 u41 u42 u43 u44 u45 u46 u47 u48 u49 u50 u51 u52 u53 u54 u55 u56 u57 u58 u59 u60 u61 u62 u63 u64 u65 u66 u67 u68 u69 u70 u71 u72 u73 u74 u75 u76 u77 u78 u79 u80 u81 u82 u83 u84 u85 u86 u87 u88 u89 u90 u91 u92 u93 u94 u95 u96 u97 u98 u99 u100 u101 u102 u103 u104 u105 u106 u107 u108 u109 u110 u111 u112 u113 u114 u115 u116 u117 u118 u119 u120 u121 u122 u123 u124 u125 u126 u127 u128 u129 u130 u131 u132 u133 u134 u135 u136 u137 u138 u139 u140 u141 u142 u143 u144 u145 u146 u147 u148 u149 : Value} (h : Lab w0 wr (subThings F I gb W room L pb mB mV (fBof (occ L z) [] 0) (fVof ps) cB cV ob nb p0 p1 z I2 L ++ ts)) (hz : z < L.length) (hw : WFL L) (hg : GoodL W L) (hps : SubOk L ps) {R : List PNode × Nat × Nat} (hR : madeEnd z (madeRun W room L (occ L z) (subLf ps) (z + 1)) = R) :
    Code.wp Tryz.prog (subRest 34) (bodyPostD Tryz.prog Tryz.f38 (SubPost w0 gb W room ts R)) ⟨(List.toArray (.pointer (some ⟨gb, 0, none⟩) :: .int .i64 z :: u2 :: u3 :: u4 :: u5 :: u6 :: u7 :: .pointer (some ⟨p0, 0, none⟩) :: .pointer (some ⟨p1, 0, none⟩) :: u10 :: .pointer (some ⟨pb, 0, none⟩) :: u12 :: u13 :: .slice (some ⟨ob, 0, none⟩) (z + 1) (z + 1) :: .slice (some ⟨nb, 0, none⟩) (z + 1) (z + 1) :: u16 :: u17 :: u18 :: u19 :: u20 :: u21 :: u22 :: u23 :: u24 :: u25 :: u26 :: u27 :: u28 :: u29 :: u30 :: u31 :: u32 :: u33 :: u34 :: u35 :: u36 :: u37 :: u38 :: u39 :: u40 :: u41 :: u42 :: u43 :: u44 :: u45 :: u46 :: u47 :: u48 :: u49 :: u50 :: u51 :: u52 :: u53 :: u54 :: u55 :: u56 :: u57 :: u58 :: u59 :: u60 :: u61 :: u62 :: u63 :: u64 :: u65 :: u66 :: u67 :: u68 :: u69 :: u70 :: u71 :: u72 :: u73 :: u74 :: u75 :: u76 :: u77 :: u78 :: u79 :: u80 :: u81 :: u82 :: u83 :: u84 :: u85 :: u86 :: u87 :: u88 :: u89 :: u90 :: u91 :: u92 :: u93 :: u94 :: u95 :: u96 :: u97 :: u98 :: u99 :: u100 :: u101 :: u102 :: u103 :: u104 :: u105 :: u106 :: u107 :: u108 :: u109 :: u110 :: u111 :: u112 :: u113 :: u114 :: u115 :: u116 :: u117 :: u118 :: u119 :: u120 :: u121 :: u122 :: u123 :: u124 :: u125 :: u126 :: u127 :: u128 :: u129 :: u130 :: u131 :: u132 :: u133 :: u134 :: u135 :: u136 :: u137 :: u138 :: u139 :: u140 :: u141 :: u142 :: u143 :: u144 :: u145 :: u146 :: u147 :: u148 :: u149 :: [])), subDefer p0 p1⟩ wr := by
  have hll : L.length ≤ 1048576 := by have := h.gr.len; have := h.gr.r2; omega
  have hW : W ≤ 64 := h.gr.w2
  obtain ⟨MR, hMR⟩ : ∃ MR, madeRun W room L (occ L z) (subLf ps) = MR := ⟨_, rfl⟩
  have h0 : MR 0 = (L, [], 0) := by rw [← hMR]; rfl
  rw [hMR] at hR
  have HL := Lib.hid h; have HMR := Lib.hid hMR; have H0 := Lib.hid h0; have HR := Lib.hid hR; have HW := Lib.hid (And.intro hw (And.intro hg hps))
  clear h hMR h0 hR hw hg hps
  conv => arg 2; whnf
  go_wp2
  go_loopw [125] (fun i wx => ∃ y : Nat, y ≤ z + 1 ∧ i = .int .i64 y ∧ (MR y).2.2 = 0 ∧ ∃ F4 I4 c4, Lab w0 wx (subThings F4 I4 gb W room (MR y).1 pb mB mV (fBof (occ L z) (MR y).2.1 y) (fVof ps) c4 cV ob nb p0 p1 z I2 L ++ ts)) (fun i _ => z + 1 - (intOf i).toNat)
  case atStart =>
    refine ⟨0, by omega, rfl, by rw [H0.out], F, I, cB, ?_⟩
    rw [H0.out]
    exact HL.out
  case round =>
    obtain ⟨y, hy, rfl, hmr, F4, I4, c4, hl⟩ := hrel
    have HMR0 := Lib.hid hmr
    clear hmr HL
    by_cases hlt : y < z + 1
    · obtain ⟨nd, hi⟩ : ∃ nd, L[y]? = some nd := ⟨_, List.getElem?_eq_getElem (by omega)⟩
      have hmlen : (MR y).2.1.length = y := by rw [← HMR.out]; exact madeRun_len (by omega) (by rw [HMR.out]; exact HMR0.out)
      have HI := Lib.hid hi; have HML := Lib.hid hmlen
      clear hi hmlen
      cases hO : occ L z y with
      | false =>
        obtain ⟨a, b, v, m, k, q0, q1, q2⟩ := Taken.cells hl.sub_taken (t := y) (by omega)
        obtain ⟨xq, hxb⟩ : ∃ xq, wr.heap.size = xq := ⟨_, rfl⟩
        have hl2 := hl.alloc #[.int .u8 a, .int .u64 b, .slice v m k] 88
        rw [hxb] at hl2
        have HO := Lib.hid hO; have HL9 := Lib.hid hl2.drop
        clear hl hl2 hO
        go_upto_region 37 with fail
        clear hxb q0 q1 q2
        refine wp_abs (fun w1 => Lab w0 w1 (subThings F4 I4 gb W room (MR y).1 pb mB mV (fBof (occ L z) (MR y).2.1 y) (fVof ps) c4 cV ob nb p0 p1 z I2 L ++ ts)) HL9.out ?_
        clear HL9
        rintro w6 hl
        have d1 := hl.sub_fn.cell (i := y) (by omega)
        rw [HO.out] at d1
        have HL9 := Lib.hid hl
        clear hl
        go_wp2
        go_roundw
        case rel =>
          have hM : MR (y + 1) = ((MR y).1, (MR y).2.1 ++ [(y : Int)], 0) := by rw [← HMR.out, madeRun_succ (by rw [HMR.out]; exact HMR0.out), step_skip HI.out HO.out]
          refine ⟨y + 1, by omega, by go_num, by rw [hM], F4, I4, c4, ?_⟩
          rw [hM, ← funext (fB_skip HML.out HO.out)]
          exact HL9.out
        case measure => simp [intOf]; omega
      | true =>
        obtain ⟨vx, q0, q1, q2, hl1⟩ := (hl.perm (ts' := Thing.taken I2 nb (z + 1) L (occ L z) (-1) (-1) :: Thing.graph F4 I4 gb W room (MR y).1 :: (replThings pb gb mB mV (fBof (occ L z) (MR y).2.1 y) (fVof ps) c4 cV ++ (Thing.fn ob 4 (z + 1) (fun i => .bool (occ L z i)) :: Thing.box p0 3 #[.int .i64 0] :: Thing.box p1 36 #[.int .i64 0] :: ts))) (List.perm_middle (l₁ := [_, _, _, _, _]))).reads (t := y) (by omega) (by omega) hO HI.out
        obtain ⟨ax, mx, cx, rfl, hmx, -⟩ := (reads_slice hl1.head).parts
        obtain ⟨xq, hxb⟩ : ∃ xq, wr.heap.size = xq := ⟨_, rfl⟩
        have hl2 := hl1.alloc #[.int .u8 nd.1, .int .u64 nd.2.1, .slice ax mx cx] 88
        rw [hxb] at hl2
        have HO := Lib.hid hO; have HL9 := Lib.hid hl2
        clear hl hl1 hl2 hO hmx
        go_upto_region 37 with fail
        clear hxb q0 q1 q2
        refine wp_abs (fun w1 => Lab w0 w1 (Thing.graph F4 I4 gb W room (MR y).1 :: Thing.box xq 88 #[.int .u8 nd.1, .int .u64 nd.2.1, .slice ax mx cx] :: Thing.reads (.slice ax mx cx) nd.2.2 :: (replThings pb gb mB mV (fBof (occ L z) (MR y).2.1 y) (fVof ps) c4 cV ++ (Thing.taken I2 nb (z + 1) L (occ L z) (-1) (-1) :: Thing.fn ob 4 (z + 1) (fun i => .bool (occ L z i)) :: Thing.box p0 3 #[.int .i64 0] :: Thing.box p1 36 #[.int .i64 0] :: ts)))) ((HL9.out.perm (List.perm_middle (l₁ := [_, _, _]))).perm (.cons _ (.cons _ (.cons _ (List.perm_middle (l₁ := replThings pb gb mB mV (fBof (occ L z) (MR y).2.1 y) (fVof ps) c4 cV)).symm)))) ?_
        clear HL9
        rintro w6 hl
        have d1 : w6.rowIs ob 4 (z + 1) (fun i => .bool (occ L z i)) := hl.holds (Thing.fn ob 4 (z + 1) (fun i => .bool (occ L z i))) (by simp [replThings])
        have d1 := d1.cell (i := y) (by omega)
        rw [HO.out] at d1
        obtain ⟨R2, hR2⟩ : ∃ R2, nodeR W room (MR y).1 (MR y).2.1 ps y nd = R2 := ⟨_, rfl⟩
        have hnn : 0 ≤ subLf ps y nd := subLf_nonneg HW.out.2.2 y nd
        have hyz : y ≤ z := by omega
        have hOa : ∀ a ∈ nd.2.2, occ L z a.toNat = true := fun a ha => occ_args HW.out.1 hyz HO.out a (by unfold argsOf; rw [HI.out]; exact ha)
        have hlm : L.length ≤ (MR y).1.length := by
          have := (made_inv (O := occ L z) hW HW.out.1 HW.out.2.1 (subLf_ok HW.out.2.2) y (by omega) (by rw [HMR.out]; exact HMR0.out)).pre
          rw [HMR.out] at this
          exact this.length_le
        have hstep : MR (y + 1) = if R2.2.2 = 0 then (R2.1, (MR y).2.1 ++ [(R2.2.1 : Int)], 0) else (R2.1, (MR y).2.1, R2.2.2) := by
          rw [← HMR.out, madeRun_succ (by rw [HMR.out]; exact HMR0.out), HMR.out]
          have := nodeR_step (W := W) (room := room) (M := (MR y).1) (made := (MR y).2.1) (ps := ps) HI.out HO.out hnn
          rw [hR2] at this
          rw [← this, ← HMR0.out]
        have HL9 := Lib.hid hl; have HF := Lib.hid (And.intro hnn (And.intro hOa (And.intro hlm hstep))); have HR2 := Lib.hid hR2
        clear hl hnn hOa hlm hstep hR2
        go_upto_region 38 with fail
        clear d1
        by_cases he : R2.2.2 = 0
        · refine sub_region38 (HL9.out.drewN 0) HW.out.1 HW.out.2.1 HF.out.2.2.1 HI.out HF.out.2.1 HF.out.1 HR2.out he ?_
          rintro _ _ _ _ _ _ _ _ _ w7 ⟨F5, I5, c5, hl⟩
          have hM : MR (y + 1) = (R2.1, (MR y).2.1 ++ [(R2.2.1 : Int)], 0) := HF.out.2.2.2.trans (if_pos he)
          have HL10 := Lib.hid (hl.mapf_congr (fB_put HML.out HO.out)); have HM := Lib.hid hM
          clear hl hM HL9
          go_wp2
          go_roundw
          case rel =>
            refine ⟨y + 1, by omega, by go_num, by rw [HM.out], F5, I5, c5, ?_⟩
            rw [HM.out]
            exact HL10.out.rot3'.perm (.cons _ (.cons _ (.cons _ (.cons _ (.swap _ _ _)))))
          case measure => simp [intOf]; omega
        · refine sub_region38_bad (HL9.out.drewN 0) HW.out.1 HW.out.2.1 HF.out.2.2.1 HI.out HF.out.2.1 HF.out.1 HR2.out he ?_
          rintro tm w7 h8 h9 ⟨F5, I5, hl⟩
          have hM : MR (y + 1) = (R2.1, (MR y).2.1, R2.2.2) := HF.out.2.2.2.trans (if_neg he)
          have hend : MR (z + 1) = (R2.1, (MR y).2.1, R2.2.2) := by
            rw [← hM, ← HMR.out]
            exact madeRun_stop (by rw [HMR.out, hM]; exact he) (by omega)
          have hRR : R = (R2.1, 0, R2.2.2) := by
            rw [← HR.out]
            unfold madeEnd
            rw [hend]
            exact if_neg he
          subst hRR
          show Leaves Tryz.prog Tryz.f38 tm (SubPost w0 gb W room ts _) (subDefer p0 p1) (.panicking _) w7
          have hl2 : Lab w0 w7 (Thing.box p0 3 #[.int .i64 0] :: Thing.box p1 36 #[.int .i64 0] :: Thing.graph F5 I5 gb W room R2.1 :: ts) := by
            have := hl.sub (ts' := Thing.graph F5 I5 gb W room R2.1 :: Thing.box p0 3 #[.int .i64 0] :: Thing.box p1 36 #[.int .i64 0] :: ts) (.cons_cons _ (.cons _ (.cons _ (.cons _ (.cons _ (.cons _ (List.Sublist.refl _)))))))
            exact this.rot3'
          refine sub_full hl2 h8 h9 ?_ (fun w8 hl8 => ⟨F5, I5, rfl, hl8⟩)
          intro e
          exact (((List.pairwise_cons.1 hl2.apart).1 (Thing.box p1 36 #[.int .i64 0]) (by simp)).1 p0 (by simp [Thing.box])).1 (by simp [Thing.box, e])
    · obtain rfl : y = z + 1 := by omega
      have hinv := made_inv (O := occ L z) hW HW.out.1 HW.out.2.1 (subLf_ok HW.out.2.2) (z + 1) (by omega) (by rw [HMR.out]; exact HMR0.out)
      rw [HMR.out] at hinv
      obtain ⟨q, hq⟩ := Int.eq_ofNat_of_zero_le (hinv.at_ z ((MR (z + 1)).2.1.getD z 0) (by rw [List.getD_eq_getElem?_getD, List.getElem?_eq_getElem (by rw [hinv.many]; omega)]; rfl)).1
      have hRR : R = ((MR (z + 1)).1, q, 0) := by
        rw [← HR.out]
        unfold madeEnd
        rw [if_pos HMR0.out, hq]; rfl
      subst hRR
      have hfB : fBof (occ L z) (MR (z + 1)).2.1 (z + 1) (z : Int) = some (.int .i64 q) := by
        unfold fBof
        rw [if_pos ⟨by omega, by omega, by rw [Int.toNat_natCast]; exact occ_top L z⟩, Int.toNat_natCast, hq]
      have hlook := fun n => (hl.sub_mB.block (w' := wr.drewN n) rfl).hit (T := 127) (E := 3) Tryz.underlying3 Tryz.underlying127 (wf_i64 (k := (z : Int)) (by omega) (by omega)) hfB false
      have hlook0 := hl.sub_mB.hit (T := 127) (E := 3) Tryz.underlying3 Tryz.underlying127 (wf_i64 (k := (z : Int)) (by omega) (by omega)) hfB false
      obtain ⟨r0, r1, r2⟩ := cells3 hl.sub_repl
      have b0 : wr.cell? ⟨p0, 0, none⟩ = some (.int .i64 0) := by rw [cell_of_row wr p0 0 _ _ _ hl.sub_box0]; rfl
      have b1 : wr.cell? ⟨p1, 0, none⟩ = some (.int .i64 0) := by rw [cell_of_row wr p1 0 _ _ _ hl.sub_box1]; rfl
      have f0 := frozen_of_row wr p0 0 _ _ hl.sub_box0
      have f1 := frozen_of_row wr p1 0 _ _ hl.sub_box1
      have hne := hl.sub_ne
      have HL9 := Lib.hid hl; have HQ := Lib.hid hq
      clear hl hq hinv hfB
      go_wp2
      have hl2 : Lab w0 wr (Thing.box p0 3 #[.int .i64 0] :: Thing.box p1 36 #[.int .i64 0] :: Thing.graph F4 I4 gb W room (MR (z + 1)).1 :: ts) := by
        have := HL9.out.sub (ts' := Thing.graph F4 I4 gb W room (MR (z + 1)).1 :: Thing.box p0 3 #[.int .i64 0] :: Thing.box p1 36 #[.int .i64 0] :: ts) (.cons_cons _ (.cons _ (.cons _ (.cons _ (.cons _ (.cons _ (List.Sublist.refl _)))))))
        exact this.rot3'
      have hl3 := ((hl2.store 0 (.int .i64 q)).swap.store 0 (.int .i64 0)).swap
      refine sub_idle (p0 := p0) (p1 := p1) (a := q) (b := 0) rfl rfl ?_ ?_ ⟨F4, I4, rfl, hl3.drop.drop⟩
      · rw [cell_of_row _ p0 0 _ _ _ hl3.box1]; rfl
      · rw [cell_of_row _ p1 0 _ _ _ hl3.box2]; rfl
end
end Go.Proofs.YteamnchoddegpaaGreatDoor
namespace Go.Proofs.YteamnchoddegpaaGreatDoor
open Go.RowKit Go.Maps
set_option maxHeartbeats 3200000
/-- What was made since joins what was there. -/
theorem Lab.join {w0 wr wx : World} {ts us : List Thing} (h : Lab w0 wr ts) (hu : Lab wr wx us) (hR : ∀ u ∈ us, ∀ k, k ∈ u.R → wr.heap.size ≤ k) : Lab w0 wx (us ++ ts) := by
  have hl := h.later hu.below
  refine ⟨hl.below, fun t ht => ?_, fun t ht k hk => ?_, fun t ht => ?_, List.pairwise_append.2 ⟨hu.apart, hl.apart, fun u h1 t h2 => ⟨fun k hk => ⟨fun h3 => ?_, fun h3 => ?_⟩, fun k hk h3 => ?_⟩⟩⟩
  · rcases List.mem_append.1 ht with h1 | h1
    · exact hu.holds t h1
    · exact hl.holds t h1
  · rcases List.mem_append.1 ht with h1 | h1
    · exact Nat.le_trans h.below.size (hu.low t h1 k hk)
    · exact hl.low t h1 k hk
  · rcases List.mem_append.1 ht with h1 | h1
    · exact hu.high t h1
    · exact hl.high t h1
  · have := hu.low u h1 k hk; have := h.high t h2 k (.inl h3); omega
  · have := hu.low u h1 k hk; have := h.high t h2 k (.inr h3); omega
  · have := hR u h1 k hk; have := h.high t h2 k (.inl h3); omega
theorem take_snoc2 {ps : List (Int × Int)} {k : Nat} {p : Int × Int} (h : ps[k]? = some p) : ps.take (k + 1) = ps.take k ++ [p] := by
  rw [List.take_add_one, h]; rfl
theorem subOf_snoc (ps : List (Int × Int)) (p : Int × Int) (j : Nat) : subOf (ps ++ [p]) j = (subOf ps j).or (if p.1 = (j : Int) then some p.2 else none) := by
  unfold subOf
  rw [List.find?_append]
  by_cases h : p.1 = (j : Int)
  · cases List.find? (fun p => p.1 == (j : Int)) ps <;> simp [h]
  · have : (p.1 == (j : Int)) = false := by simp [h]
    cases List.find? (fun p => p.1 == (j : Int)) ps <;> simp [h]
theorem fV_put {ps : List (Int × Int)} {k : Nat} {v u : Int} (h : ps[k]? = some (v, u)) (hv : 0 ≤ v) (hn : v ∉ (ps.take k).map (·.1)) : ∀ j, (if j = v then some (.int .i64 u) else fVof (ps.take k) j) = fVof (ps.take (k + 1)) j := by
  intro j
  rw [take_snoc2 h]
  unfold fVof
  by_cases e : j = v
  · subst e
    rw [if_pos rfl, if_pos hv, subOf_snoc, if_pos (by show j = _; omega)]
    have : subOf (ps.take k) j.toNat = none := subOf_none.2 fun s hs => hn (List.mem_map.2 ⟨_, hs, by show (j.toNat : Int) = j; omega⟩)
    rw [this]; rfl
  · rw [if_neg e]
    by_cases h0 : 0 ≤ j
    · rw [if_pos h0, if_pos h0, subOf_snoc, if_neg (by show ¬ v = _; omega), Option.or_none]
    · rw [if_neg h0, if_neg h0]
theorem fV_skip {ps : List (Int × Int)} {k : Nat} {v u : Int} (h : ps[k]? = some (v, u)) (hv : ¬ 0 ≤ v) : ∀ j, fVof (ps.take k) j = fVof (ps.take (k + 1)) j := by
  intro j
  rw [take_snoc2 h]
  unfold fVof
  by_cases h0 : 0 ≤ j
  · rw [if_pos h0, if_pos h0, subOf_snoc, if_neg (by show ¬ v = _; omega), Option.or_none]
  · rw [if_neg h0, if_neg h0]
/-- The variables that were seen. -/
def seenS (ps : List (Int × Int)) (k : Nat) : Int → Bool := fun j => decide (j ∈ (ps.take k).map (·.1))
theorem seen_put {ps : List (Int × Int)} {k : Nat} {v u : Int} (h : ps[k]? = some (v, u)) : (fun j => if j = v then true else seenS ps k j) = seenS ps (k + 1) := by
  funext j
  unfold seenS
  rw [take_map_snoc h]
  by_cases e : j = v
  · simp [e]
  · simp [e]
/-- What Subst answers. -/
def subst2R (W room : Nat) (L : List PNode) (t : Int) (vs us : List Int) : List PNode × Nat × Nat :=
  if 0 ≤ t ∧ t < (L.length : Int) then (if vs.length = us.length then substR W room L t (vs.zip us) else (L, 0, 2)) else (L, 0, 3)
section
variable {w0 wr w' : World} {ts : List Thing} {F I : List Nat} {gb W room : Nat} {L : List PNode}
/-- Subst ends early: an error, and nothing else. -/
theorem sub_early {tmps : Array Value} {p0 p1 : Nat} {w1 : World} {us : List Thing} {f : Nat} {a b : Int} (h : Lab w0 wr (Thing.graph F I gb W room L :: ts)) (hl : Lab wr w1 (Thing.box p0 3 #[.int .i64 a] :: Thing.box p1 36 #[.int .i64 b] :: us)) (t0 : tmps.getD 8 undef = .pointer (some ⟨p0, 0, none⟩)) (t1 : tmps.getD 9 undef = .pointer (some ⟨p1, 0, none⟩)) :
    Leaves Tryz.prog Tryz.f38 tmps (SubPost w0 gb W room ts (L, 0, f)) [] .returning ((w1.setCell ⟨p0, 0, none⟩ (.int .i64 0)).setCell ⟨p1, 0, none⟩ (.int .i64 f)) := by
  have h2 := ((hl.store 0 (.int .i64 0)).swap.store 0 (.int .i64 f)).swap
  refine ⟨_, sub_results (a := 0) (b := f) t0 t1 ?_ ?_, F, I, rfl, h.later h2.below⟩
  · rw [cell_of_row _ p0 0 _ _ _ h2.box1]; rfl
  · rw [cell_of_row _ p1 0 _ _ _ h2.box2]; rfl
/-- What Subst has made ahead of its first loop. -/
def sub1Things (p0 p1 gb mS mB mV pb : Nat) (S : Int → Bool) (cS : Nat) (fV : Int → Option Value) (cV : Nat) : List Thing :=
  [Thing.box p0 3 #[.int .i64 0], Thing.box p1 36 #[.int .i64 0], Thing.mapf 3 .i64 mS (setF S) cS, Thing.mapf 43 .u64 mV fV cV, Thing.box pb 130 #[.pointer (some ⟨gb, 0, none⟩), .map (some mB), .map (some mV)], Thing.mapf 3 .i64 mB (fun _ => none) 0]
theorem sub1_start {w1 : World} {p0 p1 mS mB mV pb : Nat} (h : Lab wr w1 [Thing.box pb 130 #[.pointer (some ⟨gb, 0, none⟩), .map (some mB), .map (some mV)], Thing.mapf 43 .u64 mV (fun _ => none) 0, Thing.mapf 3 .i64 mB (fun _ => none) 0, Thing.mapf 3 .i64 mS (fun _ => none) 0, Thing.box p0 3 #[.int .i64 0], Thing.box p1 36 #[.int .i64 0]]) :
    Lab wr w1 (sub1Things p0 p1 gb mS mB mV pb (fun _ => false) 0 (fun _ => none) 0) := by
  have h1 := h.perm (ts' := [Thing.box p0 3 #[.int .i64 0], Thing.box p1 36 #[.int .i64 0], Thing.mapf 3 .i64 mS (fun _ => none) 0, Thing.mapf 43 .u64 mV (fun _ => none) 0, Thing.box pb 130 #[.pointer (some ⟨gb, 0, none⟩), .map (some mB), .map (some mV)], Thing.mapf 3 .i64 mB (fun _ => none) 0])
    ((List.perm_append_comm (l₁ := [_, _, _, _]) (l₂ := [_, _])).trans (.cons _ (.cons _ ((List.perm_append_comm (l₁ := [_, _, _]) (l₂ := [_])).trans (.cons _ (.swap _ _ _))))))
  exact (h1.rot3.mapf_congr (g := setF fun _ => false) (fun _ => rfl)).rot3'
theorem Lab.congr_seen {w1 : World} {p0 p1 mS mB mV pb cS cV : Nat} {S S' : Int → Bool} {fV : Int → Option Value} (h : Lab wr w1 (sub1Things p0 p1 gb mS mB mV pb S cS fV cV)) (e : ∀ j, S' j = S j) : Lab wr w1 (sub1Things p0 p1 gb mS mB mV pb S' cS fV cV) := by rw [funext e]; exact h
theorem Lab.congr_vars {w1 : World} {p0 p1 mS mB mV pb cS cV : Nat} {S : Int → Bool} {fV fV' : Int → Option Value} (h : Lab wr w1 (sub1Things p0 p1 gb mS mB mV pb S cS fV cV)) (e : ∀ j, fV' j = fV j) : Lab wr w1 (sub1Things p0 p1 gb mS mB mV pb S cS fV' cV) := by rw [funext e]; exact h
set_option maxRecDepth 100000 in
theorem Lab.subst {wq : World} (h : Lab w0 wq (Thing.graph F I gb W room L :: ts)) (t : Int) (vv uv : Value) (vs us : List Int) (hv : SliceOf wq .i64 vv vs) (hu : SliceOf wq .i64 uv us) (hg : GoodL W L) (hvi : ∀ v ∈ vs, (Lit.int .i64 v).wf = true) (hnv : vs.length ≤ 9223372036854775807) (hnu : us.length ≤ 9223372036854775807) {R : List PNode × Nat × Nat} (hR : subst2R W room L t vs us = R) :
    Calls Tryz.prog 38 #[.pointer (some ⟨gb, 0, none⟩), .int .i64 t, vv, uv] wq (SubPost w0 gb W room ts R) := by
  obtain ⟨va, n, vc, rfl, hvn, -⟩ := hv.parts
  obtain ⟨ua, m, uc, rfl, hum, -⟩ := hu.parts
  have hlen : ∀ wx, Below wq.heap.size wq wx → Calls Tryz.prog 22 #[.pointer (some ⟨gb, 0, none⟩)] wx fun e w' => e = .returned (.int .i64 L.length) ∧ wx = w' := fun wx hb => (len_any (h.later hb).gr).mono fun e w' h => h
  have hl0 := (((Lab.nil (Below.refl wq.heap.size wq)).alloc #[.int .i64 0] 3).alloc #[.int .i64 0] 36).swap
  obtain ⟨p0, hp0⟩ : ∃ p0, wq.heap.size = p0 := ⟨_, rfl⟩
  rw [alsz, hp0] at hl0
  obtain ⟨ps, hps⟩ : ∃ ps, vs.zip us = ps := ⟨_, rfl⟩
  have hwf := h.gr.wf
  have HL := Lib.hid h; have HLEN := Lib.hid hlen; have HL0 := Lib.hid hl0; have HR := Lib.hid hR; have HV := Lib.hid (And.intro hv (And.intro hvn hvi)); have HU := Lib.hid (And.intro hu hum); have HP := Lib.hid hps; have HG := Lib.hid (And.intro hg hwf)
  have hn1 : n ≤ 9223372036854775807 := by omega
  have hm1 : m ≤ 9223372036854775807 := by omega
  have hll : L.length ≤ 1048576 := by have := h.gr.len; have := h.gr.r2; omega
  clear h hlen hl0 hR hv hvn hvi hu hum hps hg hwf hnv hnu
  go_enter_defers Tryz.func38, Tryz.ntmps38
  go_upto_region 3 with fail
  clear hp0
  have hne : p0 ≠ p0 + 1 := by omega
  generalize p0 + 1 = p1 at HL0 hne ⊢
  refine wp_abs (fun w1 => Lab wq w1 [Thing.box p0 3 #[.int .i64 0], Thing.box p1 36 #[.int .i64 0]]) HL0.out ?_
  clear HL0
  rintro w1 hl
  have b0 : w1.cell? ⟨p0, 0, none⟩ = some (.int .i64 0) := by rw [cell_of_row w1 p0 0 _ _ _ hl.box1]; rfl
  have b1 : w1.cell? ⟨p1, 0, none⟩ = some (.int .i64 0) := by rw [cell_of_row w1 _ 0 _ _ _ hl.box2]; rfl
  have f0 := frozen_of_row w1 p0 0 _ _ hl.box1
  have f1 := frozen_of_row w1 p1 0 _ _ hl.box2
  have HL1 := Lib.hid hl
  clear hl
  by_cases ht : 0 ≤ t ∧ t < (L.length : Int)
  case neg =>
    have hRR : R = (L, 0, 3) := by rw [← HR.out]; unfold subst2R; rw [if_neg ht]
    subst hRR
    by_cases ht0 : t < 0
    · go_wp2_with (go_at_call 22; refine (HLEN.out _ HL1.out.below).mono ?_; rintro e w' ⟨rfl, rfl⟩)
      exact sub_early HL.out HL1.out rfl rfl
    · have ht1 : (L.length : Int) ≤ t := by omega
      go_wp2_with (go_at_call 22; refine (HLEN.out _ HL1.out.below).mono ?_; rintro e w' ⟨rfl, rfl⟩)
      exact sub_early HL.out HL1.out rfl rfl
  case pos =>
    have ht0 : ¬ t < 0 := by omega
    have ht1 : ¬ (L.length : Int) ≤ t := by omega
    by_cases hnm : n = m
    case neg =>
      have hRR : R = (L, 0, 2) := by rw [← HR.out]; unfold subst2R; rw [if_pos ht, if_neg (by rw [HV.out.2.1, HU.out.2]; exact hnm)]
      subst hRR
      have q0 : ((n : Int) != (m : Int)) = true := by rw [bne_iff_ne]; omega
      go_wp2_with (go_at_call 22; refine (HLEN.out _ HL1.out.below).mono ?_; rintro e w' ⟨rfl, rfl⟩)
      exact sub_early HL.out HL1.out rfl rfl
    case pos =>
      subst hnm
      have q0 : ((n : Int) != (n : Int)) = false := by simp
      obtain ⟨mS, hmS⟩ : ∃ mS, w1.heap.size = mS := ⟨_, rfl⟩
      have hl2 := (((HL1.out.new_map 3 .i64).new_map 3 .i64).new_map 43 .u64).alloc #[.pointer (some ⟨gb, 0, none⟩), .map (some (mS + 1)), .map (some (mS + 2))] 130
      simp only [alsz] at hl2
      rw [hmS] at hl2
      have HL2 := Lib.hid hl2
      clear hl2
      have hmm := @run_makeMap Tryz.prog
      go_upto_region 9 with (go_at_call 22; refine (HLEN.out _ HL1.out.below).mono ?_; rintro e w' ⟨rfl, rfl⟩)
      clear hmS hmm
      have hl2 := HL2.out
      clear HL2
      simp only [show mS + 2 = mS + 1 + 1 from rfl] at hl2
      generalize mS + 1 + 1 + 1 = pb at hl2 ⊢
      generalize mS + 1 + 1 = mV at hl2 ⊢
      generalize mS + 1 = mB at hl2 ⊢
      refine wp_abs (fun w2 => Lab wq w2 (sub1Things p0 p1 gb mS mB mV pb (fun _ => false) 0 (fun _ => none) 0)) (sub1_start hl2) ?_
      clear hl2 HL1
      rintro w2 hl
      have hl2 := (hl.congr_seen (S' := seenS ps 0) (fun j => by unfold seenS; simp)).congr_vars (fV' := fVof (ps.take 0)) (fun j => by unfold fVof subOf; simp)
      have HL1 := Lib.hid hl2
      clear hl hl2 b0 b1 f0 f1
      go_wp2
      rename_i K hK
      have HK := Lib.hid hK
      clear hK
      go_loopw [44] (fun i wx => ∃ k : Nat, k ≤ n ∧ i = .int .i64 k ∧ subErr L ps k = 0 ∧ ∃ cS cV, Lab wq wx (sub1Things p0 p1 gb mS mB mV pb (seenS ps k) cS (fVof (ps.take k)) cV)) (fun i _ => n - (intOf i).toNat)
      case atStart => exact ⟨0, by omega, rfl, rfl, 0, 0, HL1.out⟩
      case round =>
        clear HL1
        obtain ⟨k, hk, rfl, hse, cS, cV, hl⟩ := hrel
        have b0 : wr.cell? ⟨p0, 0, none⟩ = some (.int .i64 0) := by rw [cell_of_row wr p0 0 _ _ _ hl.box1]; rfl
        have b1 : wr.cell? ⟨p1, 0, none⟩ = some (.int .i64 0) := by rw [cell_of_row wr _ 0 _ _ _ hl.box2]; rfl
        have f0 := frozen_of_row wr p0 0 _ _ hl.box1
        have f1 := frozen_of_row wr p1 0 _ _ hl.box2
        by_cases hlt : k < n
        · have hlt' : (k : Int) < (n : Int) := by omega
          obtain ⟨b, off, v, rfl, hc, hvk⟩ := (HV.out.1.below hl.below).parts' hlt
          obtain ⟨b2, off2, u, rfl, hc2, huk⟩ := (HU.out.1.below hl.below).parts' hlt
          have hp : ps[k]? = some (v, u) := by rw [← HP.out]; exact List.getElem?_zip_eq_some.2 ⟨hvk, huk⟩
          have hwv := HV.out.2.2 v (List.mem_of_getElem? hvk)
          have hsk := subErr_succ hse hp
          have hask := MapF.ask (T := 125) (E := 4) hl.third Tryz.underlying3 Tryz.underlying125 (zeroBool _) hwv
          have HL1 := Lib.hid hl; have HPK := Lib.hid hp; have HWV := Lib.hid hwv; have HUK := Lib.hid huk; have HSK := Lib.hid (And.intro hse hsk)
          have hend : ∀ f, subErr L ps (k + 1) = f → f ≠ 0 → R = (L, 0, f) := fun f h1 h2 => by
            have h3 := subErr_stop (L := L) (ps := ps) (k := k + 1) (by rw [h1]; exact h2) ps.length (by have := (List.getElem?_eq_some_iff.1 hp).1; omega)
            rw [← HR.out]
            unfold subst2R substR
            rw [if_pos ht, if_pos (by rw [HV.out.2.1, HU.out.2]), if_pos ht, HP.out, h3, h1, if_neg h2]
          have HEND := Lib.hid hend
          clear hl hvk huk hp hwv hse hsk hend
          by_cases hseen : seenS ps k v = true
          · have hRR : R = (L, 0, 8) := HEND.out 8 (by rw [HSK.out.2, if_pos (by simpa [seenS] using hseen)]) (by decide)
            rw [hseen] at hask
            subst hRR
            clear HEND HR
            go_wp2
            exact sub_early HL.out HL1.out rfl rfl
          · have hns : v ∉ (ps.take k).map (·.1) := fun e => hseen (by simpa [seenS] using e)
            have hsk := HSK.out.2
            rw [if_neg hns] at hsk
            rw [Bool.not_eq_true] at hseen
            rw [hseen] at hask
            have hgr := (HL.out.later HL1.out.below).gr
            have HGR := Lib.hid hgr; have HNS := Lib.hid hns; have HSK2 := Lib.hid hsk
            clear hgr hns hsk HSK
            by_cases hur : 0 ≤ u ∧ u < (L.length : Int)
            · have hu0 : decide (u < 0) = false := by simp; omega
              have hu1 : decide ((L.length : Int) ≤ u) = false := by simp; omega
              go_upto_region 14 with fail
              go_quiet ((first | (go_at_call 22; exact len_quiet HGR.out _)))
              go_upto_region 16 with fail
              clear hask hc hc2 b0 b1 f0 f1 HGR
              refine wp_abs (fun w3 => Lab wq w3 (sub1Things p0 p1 gb mS mB mV pb (seenS ps k) cS (fVof (ps.take k)) cV)) (HL1.out.drewN _) ?_
              clear HL1
              rintro w3 hl
              obtain ⟨hr1, c1, hl2⟩ := Lab.sput (T := 125) (E := 4) (k := v) ⟨cS, hl.rot3⟩ Tryz.underlying3 Tryz.underlying125 HWV.out
              rw [seen_put HPK.out] at hl2
              have HL2 := Lib.hid hl2.rot3'
              clear hl hl2
              go_upto_region 17 with fail
              clear hr1
              refine wp_abs (fun w3 => Lab wq w3 (sub1Things p0 p1 gb mS mB mV pb (seenS ps (k + 1)) c1 (fVof (ps.take k)) cV)) HL2.out ?_
              clear HL2
              rintro w4 hl
              have hse1 : subErr L ps (k + 1) = 0 := by rw [HSK2.out, if_pos hur]
              have HSE := Lib.hid hse1
              clear HSK2 HEND
              by_cases hv0 : 0 ≤ v
              · have hvmax : v ≤ 9223372036854775807 := by have := HWV.out; simp [Lit.wf, IntKind.min, IntKind.max, IntKind.signed, IntKind.bits] at this; omega
                have hvm : IntKind.u64.wrap v = v := by simp [IntKind.wrap, IntKind.bits, IntKind.signed]; omega
                obtain ⟨hput, hl2⟩ := Lab.mput (T := 128) (E := 3) (k := v) hl.drew1.rot4 Tryz.underlying43 Tryz.underlying128 (wf_u64 hv0 (by omega)) (.int .i64 u)
                obtain ⟨q0, q1, q2⟩ := cells3 (hl.mem_box (b := pb) (T := 130) (arr := #[.pointer (some ⟨gb, 0, none⟩), .map (some mB), .map (some mV)]) (by simp [sub1Things]))
                obtain ⟨y0, y1, y2⟩ := cells3 (hl2.mem_box (b := pb) (T := 130) (arr := #[.pointer (some ⟨gb, 0, none⟩), .map (some mB), .map (some mV)]) (by simp))
                have hc2 := (HU.out.1.below hl.below).at HUK.out
                have hc3 := (HU.out.1.below hl2.below).at HUK.out
                have hl3 := hl2.mapf_congr (fV_put HPK.out hv0 HNS.out)
                have HL3 := Lib.hid (hl3.perm ((List.perm_middle (l₁ := [_, _, _])).symm))
                clear hl hl2 hl3
                go_upto_region 18 with fail
                go_region_held3 (fun w' => w'.cell? ⟨pb, 2, none⟩ = some (.map (some mV)) ∧ w'.cell? ⟨b2, off2 + k, none⟩ = some (.int .i64 u)) (first | exact ⟨q2, hc2⟩ | exact ⟨by assumption, by assumption⟩ | go_keep) (fail)
                go_wp2
                go_roundw
                case rel => exact ⟨k + 1, by omega, by go_num, HSE.out, c1, _, HL3.out⟩
                case measure => simp [intOf]; omega
              · have HL3 := Lib.hid (hl.congr_vars fun j => (fV_skip HPK.out hv0 j).symm)
                clear hl
                go_wp2
                go_roundw
                case rel => exact ⟨k + 1, by omega, by go_num, HSE.out, c1, cV, HL3.out⟩
                case measure => simp [intOf]; omega
            · have hRR : R = (L, 0, 3) := HEND.out 3 (by rw [HSK2.out, if_neg hur]) (by decide)
              subst hRR
              clear HEND HR
              by_cases hu0' : u < 0
              · have hu0 : decide (u < 0) = true := by simp; omega
                go_upto_region 14 with fail
                go_quiet ((first | (go_at_call 22; exact len_quiet HGR.out _)))
                go_wp2
                exact sub_early HL.out (HL1.out.drewN _) rfl rfl
              · have hu0 : decide (u < 0) = false := by simp; omega
                have hu1 : decide ((L.length : Int) ≤ u) = true := by simp; omega
                go_upto_region 14 with fail
                go_quiet ((first | (go_at_call 22; exact len_quiet HGR.out _)))
                go_wp2
                exact sub_early HL.out (HL1.out.drewN _) rfl rfl
        · obtain rfl : k = n := by omega
          obtain ⟨z, rfl⟩ := Int.eq_ofNat_of_zero_le ht.1
          have hpl : ps.length = k := by rw [← HP.out, List.length_zip, HV.out.2.1, HU.out.2]; exact Nat.min_self _
          have hok : SubOk L ps := subErr_end (by rw [hpl]; exact hse)
          rw [List.take_of_length_le (by omega)] at hl
          have hz : z < L.length := by omega
          have hRR : madeEnd z (madeRun W room L (occ L z) (subLf ps) (z + 1)) = R := by
            rw [← HR.out]
            unfold subst2R
            rw [if_pos ht, if_pos (by rw [HV.out.2.1, HU.out.2]), HP.out, substR_in hz hok]
          have hj := HL.out.join hl (fun u hu k hk => by
            simp only [sub1Things, List.mem_cons, List.not_mem_nil, or_false] at hu
            rcases hu with rfl | rfl | rfl | rfl | rfl | rfl <;> simp [Thing.box, Thing.mapf] at hk)
          have hj2 : Lab w0 wr (Thing.graph F I gb W room L :: (sub1Things p0 p1 gb mS mB mV pb (seenS ps k) cS (fVof ps) cV ++ ts)) := hj.perm List.perm_middle
          have HJ := Lib.hid hj2; have HOK := Lib.hid hok; have HRR := Lib.hid hRR
          clear hl hj hj2 hok hRR b0 b1 f0 f1 hse
          go_wp2
          refine HK.out _ _ ?_
          refine sub_rest20 (p0 := p0) (p1 := p1) (pb := pb) hz HJ.out ?_
          intros
          rename_i hl5
          have hl6 := hl5.sub (ts' := [_, _, _, _, _, _, _, _] ++ ts) (.cons_cons _ (.cons_cons _ (.cons_cons _ (.cons_cons _ (.cons_cons _ (.cons _ (.cons_cons _ (.cons_cons _ (.cons_cons _ (List.Sublist.refl _))))))))))
          have hl7 := hl6.perm (List.Perm.append_right ts ((List.perm_append_comm (l₁ := [_, _, _, _, _]) (l₂ := [_, _, _])).trans ((List.Perm.append_right [_, _, _, _, _] (List.perm_append_comm (l₁ := [_]) (l₂ := [_, _]))).trans (List.perm_middle (l₁ := [_, _, _, _, _]) (l₂ := [_, _])))))
          have hl8 := (hl7.rot3.mapf_congr (g := fBof (occ L z) [] 0) (fun j => by unfold fBof; rw [if_neg (by omega)])).rot3'
          exact sub_rest34 hl8 hz HG.out.2 HG.out.1 HOK.out HRR.out
end
end Go.Proofs.YteamnchoddegpaaGreatDoor
