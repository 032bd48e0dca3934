/- Package subst: what a node becomes, whichever; the region that notes it. -/
import Derived.Test.YtcpgiadhmmmafaaSubC
import Derived.Test.YtcpgiadhmmmafaaSubD
import Derived.Test.YtcpgiadhmmmafaaSimpK
namespace Go.Proofs.Ytcpgiadhmmmafaa
open Go.RowKit Go.Maps
set_option maxHeartbeats 3200000

/-- What becomes of a node that occurs: the graph, the term, the error. -/
def nodeR (W room : Nat) (M : List PNode) (made : List Int) (ps : List (Int × Int)) (i : Nat) (n : PNode) : List PNode × Nat × Nat :=
  if n.2.2 = [] then (M, (subLf ps i n).toNat, 0) else simpR W room M n.1 (n.2.2.map fun a => made.getD a.toNat 0)
theorem nodeR_step {W room : Nat} {L0 M : List PNode} {O : Nat → Bool} {made : List Int} {ps : List (Int × Int)} {i : Nat} {n : PNode} (hn : L0[i]? = some n) (ho : O i = true) (hnn : 0 ≤ subLf ps i n) :
    madeStep W room L0 O (subLf ps) i (M, made, 0) = if (nodeR W room M made ps i n).2.2 = 0 then ((nodeR W room M made ps i n).1, made ++ [((nodeR W room M made ps i n).2.1 : Int)], 0) else ((nodeR W room M made ps i n).1, made, (nodeR W room M made ps i n).2.2) := by
  unfold nodeR
  by_cases hx : n.2.2 = []
  · rw [step_leaf hn ho hx, if_pos hx]
    simp only [↓reduceIte]
    rw [Int.toNat_of_nonneg hnn]
  · rw [step_app hn ho hx rfl, if_neg hx]
/-- The map of what became of terms. -/
def fBof (O : Nat → Bool) (made : List Int) (y : Nat) : Int → Option Value := fun k => if 0 ≤ k ∧ k < (y : Int) ∧ O k.toNat = true then some (.int .i64 (made.getD k.toNat 0)) else none
/-- The map of variables. -/
def fVof (ps : List (Int × Int)) : Int → Option Value := fun k => if 0 ≤ k then (subOf ps k.toNat).map (Value.int .i64) else none
section
variable {w0 wr w' : World} {ts : List Thing} {F I : List Nat} {gb W room pb mB mV cB cV p0 p1 xb : Nat} {L M : List PNode} {made : List Int} {ps : List (Int × Int)}
theorem node_any {i y : Nat} {nd : PNode} (h : Lab w0 wr (Thing.graph F I gb W room M :: (replThings pb gb mB mV (fBof (occ L y) made i) (fVof ps) cB cV ++ ts))) (hw : WFL L) (hg : GoodL W L) (hlen : L.length ≤ M.length) (hn : L[i]? = some nd) (hO : ∀ a ∈ nd.2.2, occ L y a.toNat = true) (va : Value) (hs : SliceOf wr .i64 va nd.2.2) {R : List PNode × Nat × Nat} (hR : nodeR W room M made ps i nd = R) (hnn : 0 ≤ subLf ps i nd) :
    Calls Try.prog 62 #[.pointer (some ⟨pb, 0, none⟩), .int .i64 i, .agg #[.int .u8 nd.1, .int .u64 nd.2.1, va]] wr fun e w' => e = nodeEnd R ∧ ∃ F' I', Lab w0 w' (Thing.graph F' I' gb W room R.1 :: (replThings pb gb mB mV (fBof (occ L y) made i) (fVof ps) cB cV ++ ts)) := by
  have hok := hw.ok nd (List.mem_of_getElem? hn)
  have hgd := hg nd (List.mem_of_getElem? hn)
  unfold nodeR at hR
  by_cases hx : nd.2.2 = []
  · rw [if_pos hx] at hR
    rw [hx] at hs
    have hl := h.perm (ts' := replThings pb gb mB mV (fBof (occ L y) made i) (fVof ps) cB cV ++ (Thing.graph F I gb W room M :: ts)) List.perm_middle.symm
    have hv : ∀ v, fVof ps (nd.2.1 : Int) = some v → ∃ s, v = .int .i64 s := fun v hv => by
      unfold fVof at hv
      rw [if_pos (by omega), Option.map_eq_some_iff] at hv
      obtain ⟨s, -, rfl⟩ := hv
      exact ⟨s, rfl⟩
    refine (node_leaf hl i nd.1 nd.2.1 hok.2.1 va hs (r := subLf ps i nd) ?_ hv).mono ?_
    · unfold subLf
      by_cases h1 : nd.1 = 1
      · rw [if_pos h1, if_pos h1]
        unfold fVof
        rw [if_pos (by omega), Int.toNat_natCast]
        cases subOf ps nd.2.1 with
        | none => rfl
        | some s => rfl
      · rw [if_neg h1, if_neg h1]
    · rintro e w2 ⟨rfl, hl2⟩
      subst hR
      refine ⟨?_, F, I, hl2.perm List.perm_middle⟩
      unfold nodeEnd
      simp only [↓reduceIte]
      rw [Int.toNat_of_nonneg hnn]
  · rw [if_neg hx] at hR
    have ha := good_app hgd hx
    have hl3 : nd.2.2.length ≤ 3 := by rw [hok.2.2]; exact aryN_le _
    refine (node_app h i nd.1 nd.2.1 (by omega) (by omega) va nd.2.2 hs hx hl3 (fun a ha => ?_) (fun a => made.getD a.toNat 0) (fun a ha => ?_) hR)
    · have h1 := hw.args i nd hn a ha
      have h2 : i < L.length := (List.getElem?_eq_some_iff.1 hn).1
      have h3 : M.length ≤ 1048576 := by have := h.gr.len; have := h.gr.r2; omega
      omega
    · have h1 := hw.args i nd hn a ha
      unfold fBof
      rw [if_pos ⟨h1.1, h1.2, hO a ha⟩]
noncomputable def subRegion (id : Nat) : Code := (Try.f39.body.bind (regionIn id)).getD .skip
set_option maxRecDepth 100000 in
theorem sub_region38 {u0 u1 u2 u3 u4 u5 u6 u7 u8 u9 u10 u12 u13 u14 u15 u16 u17 u18 u21 u22 u23 u24 u25 u26 u27 u28 u29 u30 u31 u32 u33 u34 u35 u36 u37 u38 u39 u40 u41 u42 u43 u44 u45 u46 u47 u48 u49 u50 u51 u52 u53 u54 u55 u56 u57 u58 u59 u60 u61 u62 u63 u64 u65 u66 u67 u68 u69 u70 u71 u72 u73 u74 u75 u76 u77 u78 u79 u80 u81 u82 u83 u84 u85 u86 u87 u88 u89 u90 u91 u92 u93 u94 u95 u96 u97 u98 u99 u100 u101 u102 u103 u104 u105 u106 u107 u108 u109 u110 u111 u112 u113 u114 u115 u116 u117 u118 u119 u120 u121 u122 u123 u124 u125 u126 u127 u128 u129 u130 u131 u132 u133 u134 u135 u136 u137 u138 u139 u140 u141 u142 u143 u144 u145 u146 u147 u148 u149 : Value} {Q : Exit → Act → World → Prop} {ds : List Deferred} {y z : Nat} {nd : PNode} {va : Value} (h : Lab w0 wr (Thing.graph F I gb W room M :: Thing.box xb 106 #[.int .u8 nd.1, .int .u64 nd.2.1, va] :: Thing.reads va nd.2.2 :: (replThings pb gb mB mV (fBof (occ L z) made y) (fVof ps) cB cV ++ ts)))
    (hw : WFL L) (hg : GoodL W L) (hlen : L.length ≤ M.length) (hn : L[y]? = some nd) (hO : ∀ a ∈ nd.2.2, occ L z a.toNat = true) (hnn : 0 ≤ subLf ps y nd) {R : List PNode × Nat × Nat} (hR : nodeR W room M made ps y nd = R) (he : R.2.2 = 0)
    (hQ : ∀ (v134 v135 v136 v137 v138 v139 v140 v141 v142 : Value) (w2 : World), (∃ F' I' c', Lab w0 w2 (Thing.mapf 3 .i64 mB (fun k => if k = (y : Int) then some (.int .i64 R.2.1) else fBof (occ L z) made y k) c' :: Thing.graph F' I' gb W room R.1 :: Thing.box pb 132 #[.pointer (some ⟨gb, 0, none⟩), .map (some mB), .map (some mV)] :: Thing.mapf 22 .u64 mV (fVof ps) cV :: ts)) →
      Q .normal ⟨(List.toArray (u0 :: u1 :: u2 :: u3 :: u4 :: u5 :: u6 :: u7 :: u8 :: u9 :: u10 :: .pointer (some ⟨pb, 0, none⟩) :: u12 :: u13 :: u14 :: u15 :: u16 :: u17 :: u18 :: .int .i64 y :: .pointer (some ⟨xb, 0, none⟩) :: u21 :: u22 :: u23 :: u24 :: u25 :: u26 :: u27 :: u28 :: u29 :: u30 :: u31 :: u32 :: u33 :: u34 :: u35 :: u36 :: u37 :: u38 :: u39 :: u40 :: u41 :: u42 :: u43 :: u44 :: u45 :: u46 :: u47 :: u48 :: u49 :: u50 :: u51 :: u52 :: u53 :: u54 :: u55 :: u56 :: u57 :: u58 :: u59 :: u60 :: u61 :: u62 :: u63 :: u64 :: u65 :: u66 :: u67 :: u68 :: u69 :: u70 :: u71 :: u72 :: u73 :: u74 :: u75 :: u76 :: u77 :: u78 :: u79 :: u80 :: u81 :: u82 :: u83 :: u84 :: u85 :: u86 :: u87 :: u88 :: u89 :: u90 :: u91 :: u92 :: u93 :: u94 :: u95 :: u96 :: u97 :: u98 :: u99 :: u100 :: u101 :: u102 :: u103 :: u104 :: u105 :: u106 :: u107 :: u108 :: u109 :: u110 :: u111 :: u112 :: u113 :: u114 :: u115 :: u116 :: u117 :: u118 :: u119 :: u120 :: u121 :: u122 :: u123 :: u124 :: u125 :: u126 :: u127 :: u128 :: u129 :: u130 :: u131 :: u132 :: u133 :: v134 :: v135 :: v136 :: v137 :: v138 :: v139 :: v140 :: v141 :: v142 :: u143 :: u144 :: u145 :: u146 :: u147 :: u148 :: u149 :: [])), ds⟩ w2) :
    Code.wp Try.prog (subRegion 38) Q ⟨(List.toArray (u0 :: u1 :: u2 :: u3 :: u4 :: u5 :: u6 :: u7 :: u8 :: u9 :: u10 :: .pointer (some ⟨pb, 0, none⟩) :: u12 :: u13 :: u14 :: u15 :: u16 :: u17 :: u18 :: .int .i64 y :: .pointer (some ⟨xb, 0, none⟩) :: u21 :: u22 :: u23 :: u24 :: u25 :: u26 :: u27 :: u28 :: u29 :: u30 :: u31 :: u32 :: u33 :: u34 :: u35 :: u36 :: u37 :: u38 :: u39 :: u40 :: u41 :: u42 :: u43 :: u44 :: u45 :: u46 :: u47 :: u48 :: u49 :: u50 :: u51 :: u52 :: u53 :: u54 :: u55 :: u56 :: u57 :: u58 :: u59 :: u60 :: u61 :: u62 :: u63 :: u64 :: u65 :: u66 :: u67 :: u68 :: u69 :: u70 :: u71 :: u72 :: u73 :: u74 :: u75 :: u76 :: u77 :: u78 :: u79 :: u80 :: u81 :: u82 :: u83 :: u84 :: u85 :: u86 :: u87 :: u88 :: u89 :: u90 :: u91 :: u92 :: u93 :: u94 :: u95 :: u96 :: u97 :: u98 :: u99 :: u100 :: u101 :: u102 :: u103 :: u104 :: u105 :: u106 :: u107 :: u108 :: u109 :: u110 :: u111 :: u112 :: u113 :: u114 :: u115 :: u116 :: u117 :: u118 :: u119 :: u120 :: u121 :: u122 :: u123 :: u124 :: u125 :: u126 :: u127 :: u128 :: u129 :: u130 :: u131 :: u132 :: u133 :: u134 :: u135 :: u136 :: u137 :: u138 :: u139 :: u140 :: u141 :: u142 :: u143 :: u144 :: u145 :: u146 :: u147 :: u148 :: u149 :: [])), ds⟩ wr := by
  have hy : y < 1048576 := by
    have h2 : y < L.length := (List.getElem?_eq_some_iff.1 hn).1
    have := h.gr.len; have := h.gr.r2; omega
  have hl := h.perm (ts' := Thing.graph F I gb W room M :: (replThings pb gb mB mV (fBof (occ L z) made y) (fVof ps) cB cV ++ (Thing.box xb 106 #[.int .u8 nd.1, .int .u64 nd.2.1, va] :: Thing.reads va nd.2.2 :: ts))) (.cons _ (List.perm_append_comm_assoc [Thing.box xb 106 #[.int .u8 nd.1, .int .u64 nd.2.1, va], Thing.reads va nd.2.2] (replThings pb gb mB mV (fBof (occ L z) made y) (fVof ps) cB cV) ts))
  obtain ⟨p0, p1, p2⟩ := cells3 hl.box2
  obtain ⟨x0, x1, x2⟩ := cells3 h.box2
  obtain ⟨a, m, c, rfl, -, -⟩ := (reads_slice h.third).parts
  have hcall := node_any hl.drew1 hw hg hlen hn hO _ (reads_slice h.drew1.third) hR hnn
  have hne : nodeEnd R = .returned (.int .i64 R.2.1) := by unfold nodeEnd; rw [if_pos he]
  rw [hne] at hcall
  have HQ := Lib.hid hQ; have HC := Lib.hid hcall
  clear hQ hcall hl h hne hw hg hlen hn hO hnn hR he
  conv => arg 2; whnf
  go_region_held3 (fun w' => w'.cell? ⟨pb, 1, none⟩ = some (.map (some mB)) ∧ w'.cell? ⟨xb, 0, none⟩ = some (.int .u8 nd.1) ∧ w'.cell? ⟨xb, 1, none⟩ = some (.int .u64 nd.2.1) ∧ w'.cell? ⟨xb, 2, none⟩ = some (.slice a m c)) (first | exact ⟨p1, x0, x1, x2⟩ | exact ⟨by assumption, by assumption, by assumption, by assumption⟩ | go_keep)
    (first | (go_at_call 62; refine HC.out.mono ?_; intro e w4 hp; obtain ⟨rfl, F2, I2, hl3⟩ := hp; obtain ⟨m0, m1, m2⟩ := cells3 hl3.box2; have hmp := Lab.mput (T := 129) (E := 3) (k := (y : Int)) hl3.rot3 Try.underlying3 Try.underlying129 (wf_i64 (by omega) (by omega)) (.int .i64 R.2.1); obtain ⟨hput, hlm⟩ := hmp; obtain ⟨n0, n1, n2⟩ := cells3 hlm.box3; obtain ⟨y0, y1, y2⟩ := cells3 (hl3.mem_box (b := xb) (T := 106) (arr := #[.int .u8 nd.1, .int .u64 nd.2.1, .slice a m c]) (by simp)); obtain ⟨z0, z1, z2⟩ := cells3 (hlm.mem_box (b := xb) (T := 106) (arr := #[.int .u8 nd.1, .int .u64 nd.2.1, .slice a m c]) (by simp [replThings]))))
  exact HQ.out _ _ _ _ _ _ _ _ _ _ ⟨F2, I2, _, hlm.sub (.cons_cons _ (.cons_cons _ (.cons_cons _ (.cons_cons _ (.cons _ (.cons _ (List.Sublist.refl _)))))))⟩
set_option maxRecDepth 100000 in
theorem sub_region38_bad {u0 u1 u2 u3 u4 u5 u6 u7 u8 u9 u10 u12 u13 u14 u15 u16 u17 u18 u21 u22 u23 u24 u25 u26 u27 u28 u29 u30 u31 u32 u33 u34 u35 u36 u37 u38 u39 u40 u41 u42 u43 u44 u45 u46 u47 u48 u49 u50 u51 u52 u53 u54 u55 u56 u57 u58 u59 u60 u61 u62 u63 u64 u65 u66 u67 u68 u69 u70 u71 u72 u73 u74 u75 u76 u77 u78 u79 u80 u81 u82 u83 u84 u85 u86 u87 u88 u89 u90 u91 u92 u93 u94 u95 u96 u97 u98 u99 u100 u101 u102 u103 u104 u105 u106 u107 u108 u109 u110 u111 u112 u113 u114 u115 u116 u117 u118 u119 u120 u121 u122 u123 u124 u125 u126 u127 u128 u129 u130 u131 u132 u133 u134 u135 u136 u137 u138 u139 u140 u141 u142 u143 u144 u145 u146 u147 u148 u149 : Value} {Q : Exit → Act → World → Prop} {ds : List Deferred} {y z : Nat} {nd : PNode} {va : Value} (h : Lab w0 wr (Thing.graph F I gb W room M :: Thing.box xb 106 #[.int .u8 nd.1, .int .u64 nd.2.1, va] :: Thing.reads va nd.2.2 :: (replThings pb gb mB mV (fBof (occ L z) made y) (fVof ps) cB cV ++ ts)))
    (hw : WFL L) (hg : GoodL W L) (hlen : L.length ≤ M.length) (hn : L[y]? = some nd) (hO : ∀ a ∈ nd.2.2, occ L z a.toNat = true) (hnn : 0 ≤ subLf ps y nd) {R : List PNode × Nat × Nat} (hR : nodeR W room M made ps y nd = R) (he : R.2.2 ≠ 0)
    (hQ : ∀ (tmps : Array Value) (w2 : World), tmps.getD 8 undef = u8 → tmps.getD 9 undef = u9 → (∃ F' I', Lab w0 w2 (Thing.graph F' I' gb W room R.1 :: (replThings pb gb mB mV (fBof (occ L z) made y) (fVof ps) cB cV ++ ts))) →
      Q (.panic [{ v := .iface 134 (.agg #[.int .i64 R.2.2]), recovered := false }]) ⟨tmps, ds⟩ w2) :
    Code.wp Try.prog (subRegion 38) Q ⟨(List.toArray (u0 :: u1 :: u2 :: u3 :: u4 :: u5 :: u6 :: u7 :: u8 :: u9 :: u10 :: .pointer (some ⟨pb, 0, none⟩) :: u12 :: u13 :: u14 :: u15 :: u16 :: u17 :: u18 :: .int .i64 y :: .pointer (some ⟨xb, 0, none⟩) :: u21 :: u22 :: u23 :: u24 :: u25 :: u26 :: u27 :: u28 :: u29 :: u30 :: u31 :: u32 :: u33 :: u34 :: u35 :: u36 :: u37 :: u38 :: u39 :: u40 :: u41 :: u42 :: u43 :: u44 :: u45 :: u46 :: u47 :: u48 :: u49 :: u50 :: u51 :: u52 :: u53 :: u54 :: u55 :: u56 :: u57 :: u58 :: u59 :: u60 :: u61 :: u62 :: u63 :: u64 :: u65 :: u66 :: u67 :: u68 :: u69 :: u70 :: u71 :: u72 :: u73 :: u74 :: u75 :: u76 :: u77 :: u78 :: u79 :: u80 :: u81 :: u82 :: u83 :: u84 :: u85 :: u86 :: u87 :: u88 :: u89 :: u90 :: u91 :: u92 :: u93 :: u94 :: u95 :: u96 :: u97 :: u98 :: u99 :: u100 :: u101 :: u102 :: u103 :: u104 :: u105 :: u106 :: u107 :: u108 :: u109 :: u110 :: u111 :: u112 :: u113 :: u114 :: u115 :: u116 :: u117 :: u118 :: u119 :: u120 :: u121 :: u122 :: u123 :: u124 :: u125 :: u126 :: u127 :: u128 :: u129 :: u130 :: u131 :: u132 :: u133 :: u134 :: u135 :: u136 :: u137 :: u138 :: u139 :: u140 :: u141 :: u142 :: u143 :: u144 :: u145 :: u146 :: u147 :: u148 :: u149 :: [])), ds⟩ wr := by
  have hy : y < 1048576 := by
    have h2 : y < L.length := (List.getElem?_eq_some_iff.1 hn).1
    have := h.gr.len; have := h.gr.r2; omega
  have hl := h.perm (ts' := Thing.graph F I gb W room M :: (replThings pb gb mB mV (fBof (occ L z) made y) (fVof ps) cB cV ++ (Thing.box xb 106 #[.int .u8 nd.1, .int .u64 nd.2.1, va] :: Thing.reads va nd.2.2 :: ts))) (.cons _ (List.perm_append_comm_assoc [Thing.box xb 106 #[.int .u8 nd.1, .int .u64 nd.2.1, va], Thing.reads va nd.2.2] (replThings pb gb mB mV (fBof (occ L z) made y) (fVof ps) cB cV) ts))
  obtain ⟨p0, p1, p2⟩ := cells3 hl.box2
  obtain ⟨x0, x1, x2⟩ := cells3 h.box2
  obtain ⟨a, m, c, rfl, -, -⟩ := (reads_slice h.third).parts
  have hcall := node_any hl.drew1 hw hg hlen hn hO _ (reads_slice h.drew1.third) hR hnn
  have hne : nodeEnd R = .panicked [{ v := .iface 134 (.agg #[.int .i64 R.2.2]), recovered := false }] := by unfold nodeEnd; rw [if_neg he]
  rw [hne] at hcall
  refine Code.wp_mono (P := Try.prog) (c := subRegion 38) (Q := fun e av w2 => match e with | .panic chn => chn = [{ v := .iface 134 (.agg #[.int .i64 R.2.2]), recovered := false }] ∧ av.tmps.getD 8 undef = u8 ∧ av.tmps.getD 9 undef = u9 ∧ av.defers = ds ∧ ∃ F' I', Lab w0 w2 (Thing.graph F' I' gb W room R.1 :: (replThings pb gb mB mV (fBof (occ L z) made y) (fVof ps) cB cV ++ (Thing.box xb 106 #[.int .u8 nd.1, .int .u64 nd.2.1, .slice a m c] :: Thing.reads (.slice a m c) nd.2.2 :: ts))) | _ => False) (Q' := Q) (fun e a w2 h => by
    cases e <;> simp only at h
    obtain ⟨rfl, h8, h9, hd, F2, I2, hl⟩ := h
    obtain ⟨tm, dd⟩ := a
    simp only at hd h8 h9
    subst hd
    exact hQ tm w2 h8 h9 ⟨F2, I2, hl.sub (.cons_cons _ (.cons_cons _ (.cons_cons _ (.cons_cons _ (.cons _ (.cons _ (List.Sublist.refl _)))))))⟩) ?_
  clear hQ
  have hq : ∀ (d : Option Tmp), d ≠ some 8 → d ≠ some 9 → ∀ (a : Act) (v : Value), (a.put d v).tmps.getD 8 undef = a.tmps.getD 8 undef ∧ (a.put d v).tmps.getD 9 undef = a.tmps.getD 9 undef ∧ (a.put d v).defers = a.defers := by
    intro d h8 h9 a v
    cases d with
    | none => exact ⟨rfl, rfl, rfl⟩
    | some d =>
      refine ⟨?_, ?_, rfl⟩
      · show (a.tmps.setIfInBounds d v).getD 8 undef = _
        simp only [Array.getD_eq_getD_getElem?]
        rw [Array.getElem?_setIfInBounds_ne (fun e => h8 (by rw [e]))]
      · show (a.tmps.setIfInBounds d v).getD 9 undef = _
        simp only [Array.getD_eq_getD_getElem?]
        rw [Array.getElem?_setIfInBounds_ne (fun e => h9 (by rw [e]))]
  have HQ := Lib.hid True.intro; have HC := Lib.hid hcall
  clear hcall hl h hne hw hg hlen hn hO hnn hR he
  conv => arg 2; whnf
  refine wp_region_held_drew (S := fun w' => w'.cell? ⟨pb, 1, none⟩ = some (.map (some mB)) ∧ w'.cell? ⟨xb, 0, none⟩ = some (.int .u8 nd.1) ∧ w'.cell? ⟨xb, 1, none⟩ = some (.int .u64 nd.2.1) ∧ w'.cell? ⟨xb, 2, none⟩ = some (.slice a m c)) (by kernel_rfl) ⟨p1, x0, x1, x2⟩ (fun hHeld => ?_)
  refine wpAnyH_take (i := 0) (v := ?v0) rfl (by kernel_rfl) (by kernel_rfl) (by kernel_rfl) ?hq0 (Or.inl ⟨by rfl, ?hy0⟩) hHeld ?rest0
  case hy0 =>
    intro w hSw
    (try dsimp only at hSw)
    go_simp
    with_reducible rfl
  case hq0 =>
    intro cc aa ww hh
    have q := hq (some 134) (by decide) (by decide) aa
    exact ⟨hh.1, (q _).1.symm.trans hh.2.1, (q _).2.1.symm.trans hh.2.2.1, (q _).2.2.symm.trans hh.2.2.2.1, hh.2.2.2.2⟩
  simp only [Act.put, List.setIfInBounds_toArray]
  refine wpAnyH_take (i := 1) (v := ?v1) rfl (by kernel_rfl) (by kernel_rfl) (by kernel_rfl) ?hq1 (Or.inl ⟨by rfl, ?hy1⟩) hHeld ?rest1
  case hy1 =>
    intro w hSw
    (try dsimp only at hSw)
    go_simp
    with_reducible rfl
  case hq1 =>
    intro cc aa ww hh
    have q := hq (some 135) (by decide) (by decide) aa
    exact ⟨hh.1, (q _).1.symm.trans hh.2.1, (q _).2.1.symm.trans hh.2.2.1, (q _).2.2.symm.trans hh.2.2.2.1, hh.2.2.2.2⟩
  simp only [Act.put]
  refine wpAnyH_take (i := 2) (v := ?v2) rfl (by kernel_rfl) (by kernel_rfl) (by kernel_rfl) ?hq2 (Or.inl ⟨by rfl, ?hy2⟩) hHeld ?rest2
  case hy2 =>
    intro w hSw
    (try dsimp only at hSw)
    go_simp
    with_reducible rfl
  case hq2 =>
    intro cc aa ww hh
    have q := hq (some 136) (by decide) (by decide) aa
    exact ⟨hh.1, (q _).1.symm.trans hh.2.1, (q _).2.1.symm.trans hh.2.2.1, (q _).2.2.symm.trans hh.2.2.2.1, hh.2.2.2.2⟩
  simp only [Act.put]
  refine wpAnyH_take (i := 3) (v := ?v3) rfl (by kernel_rfl) (by kernel_rfl) (by kernel_rfl) ?hq3 (Or.inl ⟨by rfl, ?hy3⟩) hHeld ?rest3
  case hy3 =>
    intro w hSw
    (try dsimp only at hSw)
    go_simp
    with_reducible rfl
  case hq3 =>
    intro cc aa ww hh
    have q := hq (some 137) (by decide) (by decide) aa
    exact ⟨hh.1, (q _).1.symm.trans hh.2.1, (q _).2.1.symm.trans hh.2.2.1, (q _).2.2.symm.trans hh.2.2.2.1, hh.2.2.2.2⟩
  simp only [Act.put]
  refine wpAnyH_take (i := 4) (v := ?v4) rfl (by kernel_rfl) (by kernel_rfl) (by kernel_rfl) ?hq4 (Or.inl ⟨by rfl, ?hy4⟩) hHeld ?rest4
  case hy4 =>
    intro w hSw
    (try dsimp only at hSw)
    go_simp
    with_reducible rfl
  case hq4 =>
    intro cc aa ww hh
    have q := hq (some 138) (by decide) (by decide) aa
    exact ⟨hh.1, (q _).1.symm.trans hh.2.1, (q _).2.1.symm.trans hh.2.2.1, (q _).2.2.symm.trans hh.2.2.2.1, hh.2.2.2.2⟩
  simp only [Act.put]
  refine wpAnyH_take (i := 5) (v := ?v5) rfl (by kernel_rfl) (by kernel_rfl) (by kernel_rfl) ?hq5 (Or.inl ⟨by rfl, ?hy5⟩) hHeld ?rest5
  case hy5 =>
    intro w hSw
    (try dsimp only at hSw)
    go_simp
    with_reducible rfl
  case hq5 =>
    intro cc aa ww hh
    have q := hq (some 139) (by decide) (by decide) aa
    exact ⟨hh.1, (q _).1.symm.trans hh.2.1, (q _).2.1.symm.trans hh.2.2.1, (q _).2.2.symm.trans hh.2.2.2.1, hh.2.2.2.2⟩
  simp only [Act.put]
  refine wpAnyH_take (i := 6) (v := ?v6) rfl (by kernel_rfl) (by kernel_rfl) (by kernel_rfl) ?hq6 (Or.inl ⟨by rfl, ?hy6⟩) hHeld ?rest6
  case hy6 =>
    intro w hSw
    (try dsimp only at hSw)
    go_simp
    with_reducible rfl
  case hq6 =>
    intro cc aa ww hh
    have q := hq (some 140) (by decide) (by decide) aa
    exact ⟨hh.1, (q _).1.symm.trans hh.2.1, (q _).2.1.symm.trans hh.2.2.1, (q _).2.2.symm.trans hh.2.2.2.1, hh.2.2.2.2⟩
  simp only [Act.put]
  refine wpAnyH_take (i := 7) (v := ?v7) rfl (by kernel_rfl) (by kernel_rfl) (by kernel_rfl) ?hq7 (Or.inl ⟨by rfl, ?hy7⟩) hHeld ?rest7
  case hy7 =>
    intro w hSw
    (try dsimp only at hSw)
    go_simp
    with_reducible rfl
  case hq7 =>
    intro cc aa ww hh
    have q := hq (some 141) (by decide) (by decide) aa
    exact ⟨hh.1, (q _).1.symm.trans hh.2.1, (q _).2.1.symm.trans hh.2.2.1, (q _).2.2.symm.trans hh.2.2.2.1, hh.2.2.2.2⟩
  simp only [Act.put]
  refine wpAnyH_ready (rs := [8]) (by kernel_rfl) (by simp) ?_
  refine AllReadyH.cons (o := _) rfl (fun K hK => ?_) ?_
  · go_simp
    go_at_call 62
    refine HC.out.mono ?_
    intro e w4 hp
    obtain ⟨rfl, F2, I2, hl3⟩ := hp
    exact ⟨rfl, F2, I2, hl3⟩
  · exact AllReadyH.nil
end
end Go.Proofs.Ytcpgiadhmmmafaa
