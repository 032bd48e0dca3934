/- SubA: joined by wip/bundle.py. -/
import Derived.Test.YteamnchoddegpaaGreatDoorB1
import Derived.Test.YteamnchoddegpaaGreatDoorB2
import Derived.Test.YteamnchoddegpaaGreatDoorB3
import Derived.Test.YteamnchoddegpaaGreatDoorB4
import Derived.Test.YteamnchoddegpaaGreatDoorB5
import Derived.Test.YteamnchoddegpaaGreatDoorB6
import Derived.Test.YteamnchoddegpaaGreatDoorB7
import Derived.Test.YteamnchoddegpaaGreatDoorB8
import Derived.Test.YteamnchoddegpaaGreatDoorB9
import Derived.Test.YteamnchoddegpaaGreatDoorB10
import Derived.Test.YteamnchoddegpaaGreatDoorB11
import Derived.Test.YteamnchoddegpaaGreatDoorB12
import Derived.Test.YteamnchoddegpaaGreatDoorB13
import Derived.WalkSmall
import Derived.Defers
import Derived.Recover
import Derived.BigQuiet
namespace Go.Proofs.YteamnchoddegpaaGreatDoor
open Go.RowKit Go.Maps
set_option maxHeartbeats 1600000
/-- A replacer, with its maps, ahead of its graph. -/
def replThings (pb gb mB mV : Nat) (fB fV : Int → Option Value) (cB cV : Nat) : List Thing :=
  [Thing.box pb 130 #[.pointer (some ⟨gb, 0, none⟩), .map (some mB), .map (some mV)], Thing.mapf 3 .i64 mB fB cB, Thing.mapf 43 .u64 mV fV cV]
theorem zeroInt (w : World) : (zeroValue 3).run Tryz.prog w = .ok (.int .i64 0) w := by kernel_rfl
section
variable {w0 wr w' : World} {ts : List Thing} {F I : List Nat} {gb W room pb mB mV cB cV : Nat} {L : List PNode} {fB fV : Int → Option Value}
set_option maxRecDepth 100000 in
/-- A leaf. -/
theorem node_leaf (h : Lab w0 wr (replThings pb gb mB mV fB fV cB cV ++ ts)) (t : Int) (o num : Nat) (hnum : num ≤ 18446744073709551615) (va : Value) (hs : SliceOf wr .i64 va []) {r : Int} (hr : r = if o = 1 then (match fV num with | some (.int .i64 s) => s | _ => t) else t) (hfV : ∀ v, fV num = some v → ∃ s, v = .int .i64 s) :
    Calls Tryz.prog 68 #[.pointer (some ⟨pb, 0, none⟩), .int .i64 t, .agg #[.int .u8 o, .int .u64 num, va]] wr fun e w' => e = .returned (.int .i64 r) ∧ Lab w0 w' (replThings pb gb mB mV fB fV cB cV ++ ts) := by
  obtain ⟨a, m, c, rfl, hm, -⟩ := hs.parts
  obtain rfl : m = 0 := hm.symm
  obtain ⟨q, hq⟩ : ∃ q, wr.heap.size = q := ⟨_, rfl⟩
  have hl1 := h.alloc #[.int .u8 o, .int .u64 num, .slice a 0 c] 88
  rw [hq] at hl1
  have HL1 := Lib.hid hl1; have HR := Lib.hid hr; have HF := Lib.hid hfV
  clear h hl1 hs hm hr hfV
  go_enter Tryz.func68, Tryz.ntmps68
  go_upto_region 1 with fail
  clear hq
  refine wp_abs (fun w1 => Lab w0 w1 (Thing.box q 88 #[.int .u8 o, .int .u64 num, .slice a 0 c] :: (replThings pb gb mB mV fB fV cB cV ++ ts))) HL1.out ?_
  rintro w1 hl
  clear HL1
  obtain ⟨d0, d1, d2⟩ := cells3 hl.box1
  obtain ⟨p0, p1, p2⟩ := cells3 hl.box2
  have hmV : MapF Tryz.prog 43 .u64 w1 mV fV cV := hl.fourth
  by_cases ho : o = 1
  · have q0 : ((o : Int) == 1) = true := by rw [beq_iff_eq]; omega
    have hr := HR.out
    rw [if_pos ho] at hr
    cases hv : fV num with
    | none =>
      have hlook := hmV.miss (T := 128) (E := 3) Tryz.underlying43 Tryz.underlying128 (zeroInt _) (wf_u64 (k := (num : Int)) (by omega) (by omega)) hv true
      have hlook' := fun n => (hmV.block (w' := w1.drewN n) rfl).miss (T := 128) (E := 3) Tryz.underlying43 Tryz.underlying128 (zeroInt _) (wf_u64 (k := (num : Int)) (by omega) (by omega)) hv true
      rw [hv] at hr
      subst hr
      have HL := Lib.hid hl
      clear hl hmV hv ho HR HF
      go_wp2
      go_quiet (fail)
      go_wp2
      go_ret
      exact ⟨rfl, (HL.out.drop).drewN _⟩
    | some v =>
      obtain ⟨s, rfl⟩ := HF.out v hv
      have hlook := hmV.hit (T := 128) (E := 3) Tryz.underlying43 Tryz.underlying128 (wf_u64 (k := (num : Int)) (by omega) (by omega)) hv true
      have hlook' := fun n => (hmV.block (w' := w1.drewN n) rfl).hit (T := 128) (E := 3) Tryz.underlying43 Tryz.underlying128 (wf_u64 (k := (num : Int)) (by omega) (by omega)) hv true
      rw [hv] at hr
      simp only at hr
      subst hr
      have HL := Lib.hid hl
      clear hl hmV hv ho HR HF
      go_wp2
      go_quiet (fail)
      go_wp2
      go_ret
      exact ⟨rfl, (HL.out.drop).drewN _⟩
  · have q0 : ((o : Int) == 1) = false := by rw [beq_eq_false_iff_ne]; omega
    have hr := HR.out
    rw [if_neg ho] at hr
    subst hr
    have HL := Lib.hid hl
    clear hl hmV ho HR HF p0 p1 p2
    go_wp2
    go_ret
    exact ⟨rfl, HL.out.drop⟩
end
end Go.Proofs.YteamnchoddegpaaGreatDoor
namespace Go.Proofs.YteamnchoddegpaaGreatDoor
open Go.RowKit Go.Maps
set_option maxHeartbeats 1600000
/-- The deferred closure, of a frame that returns. -/
theorem catch_idle (p q : Addr) (w : World) :
    CallsD Tryz.prog 66 #[.pointer (some p), .pointer (some q)] .returning w fun e u' w' => e = .returned (.tuple #[]) ∧ u' = .returning ∧ w' = w := by
  refine callsD_of_wpS Tryz.func66 rfl fun c₀ cs hu => ?_
  apply wpS_seq
  apply wpS_region
  simp [wpOpsS, go_sem, recoverD, hu, Tryz.ntmps66, Exit.thenS]
  refine wpS_of_wp ?_
  go_wp2
  cases c₀
  simp_all [bodyPostS, results, Tryz.results66]
noncomputable def catchRest : Code := (Tryz.f66.body.bind fun c => match c with | .seq _ b => some b | _ => none).getD .skip
set_option maxRecDepth 100000 in
theorem catch_rest (p q : Addr) (x y : Int) (f : Nat) (w : World) (hp : w.cell? p = some (.int .i64 x)) (hq : w.cell? q = some (.int .i64 y)) (hz : w.frozen? p = false) (hz2 : w.frozen? q = false) (hpq : p ≠ q) (hpl : p.block < w.heap.size) (hql : q.block < w.heap.size) (Q : Exit → Act → World → Prop)
    (hQ : ∀ t w2, Below w.heap.size w w2 → Q .normal ⟨t, []⟩ ((w2.setCell p (.int .i64 0)).setCell q (.int .i64 f)).drew) :
    Code.wp Tryz.prog catchRest Q ⟨#[.pointer (some p), .pointer (some q), undef, undef, undef, .iface 132 (.agg #[.int .i64 f]), undef, undef, undef, undef, undef, undef, undef], []⟩ w := by
  have HQ := Lib.hid hQ
  clear hQ
  have hne : ∀ w, (binOp BinOp.eql 20 (.iface 132 (.agg #[.int .i64 f])) .nilIface).run Tryz.prog w = .ok (.bool false) w := fun _ => by rfl
  have hta : ∀ w, (Instr.typeAssert (.iface 132 (.agg #[.int .i64 f])) 20 132 true).run Tryz.prog w = .ok (.tuple #[.agg #[.int .i64 f], .bool true]) w := fun _ => by kernel_rfl
  conv => arg 2; whnf
  go_upto_region 7 with fail
  refine wp_abs (fun w2 => Below w.heap.size w w2 ∧ w2.heap[w.heap.size]? = some (.cells #[.int .i64 f] 132 (0, 0))) ⟨below_new w _, heap_alloc_new w _⟩ ?_
  rintro w2 ⟨hb, hx⟩
  have c0 : w2.cell? ⟨w.heap.size, 0, none⟩ = some (.int .i64 f) := by rw [cell_of_row w2 _ 0 _ _ _ hx]; rfl
  have c1 := cell_later hb hp
  have c2 := cell_later hb hq
  have z1 : w2.frozen? p = false := by rw [← hz]; unfold World.frozen?; rw [hb.block _ hpl]
  have z2 : w2.frozen? q = false := by rw [← hz2]; unfold World.frozen?; rw [hb.block _ hql]
  have n1 : p.block ≠ w.heap.size := by omega
  have n2 : q.block ≠ w.heap.size := by omega
  clear hp hq hz hz2 hne hta
  go_region_held3 (fun w' => w'.cell? ⟨w.heap.size, 0, none⟩ = some (.int .i64 f)) (first | exact c0 | assumption | go_keep) (fail)
  go_wp2
  exact HQ.out _ _ hb
/-- The deferred closure, of a frame that panics. -/
theorem catch_full (p q : Addr) (x y : Int) (f : Nat) (older : List PanicEntry) (w : World) (hp : w.cell? p = some (.int .i64 x)) (hq : w.cell? q = some (.int .i64 y)) (hz : w.frozen? p = false) (hz2 : w.frozen? q = false) (hpq : p ≠ q) (hpl : p.block < w.heap.size) (hql : q.block < w.heap.size) :
    CallsD Tryz.prog 66 #[.pointer (some p), .pointer (some q)] (.panicking ({ v := .iface 132 (.agg #[.int .i64 f]), recovered := false } :: older)) w fun e u' w' =>
      e = .returned (.tuple #[]) ∧ u' = .panicking ({ v := .iface 132 (.agg #[.int .i64 f]), recovered := true } :: older) ∧ ∃ w2, Below w.heap.size w w2 ∧ w' = ((w2.setCell p (.int .i64 0)).setCell q (.int .i64 f)).drew := by
  refine callsD_of_wpS Tryz.func66 rfl fun c₀ cs hu => ?_
  simp only [Tryz.ntmps66, List.size_toArray, List.length_cons, List.length_nil, Nat.reduceAdd, Nat.reduceSub, Array.replicate_succ, Array.replicate_zero, List.push_toArray, List.append_toArray, List.nil_append, List.cons_append]
  apply wpS_seq
  apply wpS_region
  simp [wpOpsS, go_sem, recoverD, hu, Exit.thenS]
  refine wpS_of_wp (catch_rest p q x y f w hp hq hz hz2 hpq hpl hql _ fun t w2 hb => ?_)
  simp [bodyPostS, results, Tryz.results66]
  exact ⟨w2, hb, rfl⟩
end Go.Proofs.YteamnchoddegpaaGreatDoor
namespace Go.Proofs.YteamnchoddegpaaGreatDoor
open Go.RowKit Go.Maps
set_option maxHeartbeats 3200000
/-- How node ends. -/
def nodeEnd (R : List PNode × Nat × Nat) : Ending :=
  if R.2.2 = 0 then .returned (.int .i64 R.2.1) else .panicked [{ v := .iface 132 (.agg #[.int .i64 R.2.2]), recovered := false }]
section
variable {w0 wr w' : World} {ts : List Thing} {F I : List Nat} {gb W room pb mB mV cB cV : Nat} {L : List PNode} {fB fV : Int → Option Value}
set_option maxRecDepth 100000 in
theorem node_app (h : Lab w0 wr (Thing.graph F I gb W room L :: (replThings pb gb mB mV fB fV cB cV ++ ts))) (t : Int) (o num : Nat) (ho : o ≤ 255) (ho1 : o ≠ 1) (va : Value) (xs : List Int) (hs : SliceOf wr .i64 va xs) (hx0 : xs ≠ []) (hx3 : xs.length ≤ 3)
    (hxi : ∀ a ∈ xs, (0 : Int) ≤ a ∧ a ≤ 9223372036854775807) (mm : Int → Int) (hB : ∀ a ∈ xs, fB a = some (.int .i64 (mm a))) {R : List PNode × Nat × Nat} (hR : simpR W room L o (xs.map mm) = R) :
    Calls Tryz.prog 68 #[.pointer (some ⟨pb, 0, none⟩), .int .i64 t, .agg #[.int .u8 o, .int .u64 num, va]] wr fun e w' => e = nodeEnd R ∧ ∃ F' I', Lab w0 w' (Thing.graph F' I' gb W room R.1 :: (replThings pb gb mB mV fB fV cB cV ++ ts)) := by
  obtain ⟨a, m, c, rfl, hm, -⟩ := hs.parts
  have hm0 : m ≠ 0 := fun e => hx0 (List.length_eq_zero_iff.1 (by omega))
  have hm3 : m ≤ 3 := by omega
  have hq0 : ((m : Int) == 0) = false := by rw [beq_eq_false_iff_ne]; omega
  have hq1 : ((o : Int) == 1) = false := by rw [beq_eq_false_iff_ne]; omega
  have hmk := fun w => run_make_row' (P := Tryz.prog) 24 3 (.int .i64 0) 8 Tryz.underlying24 Tryz.infoI64 rfl .i64 .i64 m (by omega) (by omega) (w := w)
  obtain ⟨q, hq⟩ : ∃ q, wr.heap.size = q := ⟨_, rfl⟩
  have hl1 := h.alloc #[.int .u8 o, .int .u64 num, .slice a m c] 88
  have hs1 := hs.below (below_new wr (.cells #[.int .u8 o, .int .u64 num, .slice a m c] 88))
  rw [hq] at hl1
  have HL := Lib.hid hl1; have HS := Lib.hid hs1; have HR := Lib.hid hR; have HB := Lib.hid hB; have HM := Lib.hid hm; have HXI := Lib.hid hxi
  clear h hl1 hs1 hs hR hB hx0 hx3 hm hxi
  go_enter Tryz.func68, Tryz.ntmps68
  go_upto_region 1 with fail
  clear hq
  refine wp_abs (fun w1 => Lab w0 w1 (Thing.box q 88 #[.int .u8 o, .int .u64 num, .slice a m c] :: Thing.graph F I gb W room L :: (replThings pb gb mB mV fB fV cB cV ++ ts)) ∧ SliceOf w1 .i64 (.slice a m c) xs) ⟨HL.out, HS.out⟩ ?_
  clear HL HS
  rintro w1 ⟨hl, hs⟩
  obtain ⟨e0, e1, e2⟩ := cells3 hl.box1
  obtain ⟨ab, hab⟩ : ∃ ab, w1.heap.size = ab := ⟨_, rfl⟩
  have hl2 := (Lab.nil (Below.refl w1.heap.size w1)).make1 m 3 (.int .i64 0)
  rw [hab] at hl2
  have HL := Lib.hid hl.swap; have HS := Lib.hid hs; have HL2 := Lib.hid hl2
  clear hl hs hl2
  go_upto_region 8 with fail
  clear hab hmk e0 e1 e2
  refine wp_abs (fun w2 => Lab w1 w2 [Thing.fn ab 3 m (fun _ => .int .i64 0)]) HL2.out ?_
  clear HL2
  rintro w2 hl
  obtain ⟨e0, e1, e2⟩ := cells3 (HL.out.later hl.below).box2
  have HL2 := Lib.hid hl
  clear hl
  go_wp2
  go_loopw [41] (fun i wx => ∃ k : Nat, k ≤ m ∧ i = .int .i64 k ∧ Lab w1 wx [Thing.fn ab 3 m (fun j => .int .i64 (if j < k then (xs.map mm).getD j 0 else 0))]) (fun i _ => m - (intOf i).toNat)
  case atStart => exact ⟨0, by omega, rfl, HL2.out.fn_congr fun i _ => by simp⟩
  case round =>
    clear HL2 e0 e1 e2
    obtain ⟨k, hk, rfl, hl⟩ := hrel
    have hg := HL.out.later hl.below
    have hbp := hg.box3
    obtain ⟨p0, p1, p2⟩ := cells3 hbp
    by_cases hlt : k < m
    · have hlt' : (k : Int) < (m : Int) := by omega
      obtain ⟨b, off, u, rfl, hc, hu⟩ := (HS.out.below hl.below).parts' hlt
      have hmem := List.mem_of_getElem? hu
      have hui := HXI.out u hmem
      have hlook := MapF.hit (T := 127) (E := 3) hg.fourth Tryz.underlying3 Tryz.underlying127 (wf_i64 (k := u) (by omega) (by omega)) (HB.out u hmem) false
      have d1 := hl.fn1.cell hlt
      have f1 := hl.fn1.frozen k
      have hval : (xs.map mm).getD k 0 = mm u := by rw [List.getD_eq_getElem?_getD, List.getElem?_map, hu]; rfl
      have HL3 := Lib.hid hl; have HV := Lib.hid hval
      clear hl hg hbp hmem hval hu hui p2
      go_wp2
      go_roundw
      case rel =>
        refine ⟨k + 1, by omega, by go_num, (HL3.out.set k (.int .i64 (mm u))).fn_congr fun j _ => ?_⟩
        by_cases e : j = k
        · subst e; rw [if_pos rfl, if_pos (by omega), HV.out]
        · rw [if_neg e]
          by_cases e2 : j < k
          · rw [if_pos e2, if_pos (by omega)]
          · rw [if_neg e2, if_neg (by omega)]
      case measure => simp [intOf]; omega
    · obtain rfl : k = m := by omega
      have hlt' : ¬ (k : Int) < (k : Int) := by omega
      have hsl2 : SliceOf wr (.i64) (.slice (some ⟨ab, 0, none⟩) k k) (xs.map mm) := slice_of_row hl.fn1 (by rw [List.length_map]; exact HM.out) (fun j hj => by rw [if_pos hj])
      have hgd := hg.drew1
      have hcall := sapp_any hgd.gr o ho (xs.map mm) _ (hsl2.below ((Below.refl _ _).drew))
      rw [HR.out] at hcall
      obtain ⟨e0, e1, e2⟩ := cells3 hg.box2
      have HG := Lib.hid hgd; have HC := Lib.hid hcall
      clear hl hg hbp hsl2 hgd hcall p1 p2 e1 e2
      go_upto_region 13 with fail
      go_region_held3 (fun w' => w'.cell? ⟨pb, 0, none⟩ = some (.pointer (some ⟨gb, 0, none⟩)) ∧ w'.cell? ⟨q, 0, none⟩ = some (.int .u8 o)) (first | exact ⟨p0, e0⟩ | exact ⟨by assumption, by assumption⟩ | go_keep | trivial)
        (first | (go_at_call 85; refine HC.out.mono ?_; intro e w4 hp; obtain ⟨F2, I2, rfl, hl3⟩ := HG.out.gpost hp; obtain ⟨m0, -, -⟩ := cells3 hl3.box2; obtain ⟨n0, -, -⟩ := cells3 hl3.box3))
      have HL3 := Lib.hid hl3
      clear hl3
      obtain ⟨L9, t9, e9⟩ := R
      by_cases he : e9 = 0
      · subst he
        go_wp2
        go_ret
        exact ⟨rfl, F2, I2, HL3.out.swap.drop⟩
      · have q3 : ((e9 : Int) != 0) = true := by rw [bne_iff_ne]; omega
        have hne : nodeEnd (L9, t9, e9) = .panicked [{ v := .iface 132 (.agg #[.int .i64 e9]), recovered := false }] := by unfold nodeEnd; rw [if_neg he]
        have HNE := Lib.hid hne
        clear hne he
        go_wp2
        exact ⟨rfl, HNE.out.symm, F2, I2, HL3.out.swap.drop⟩
end
end Go.Proofs.YteamnchoddegpaaGreatDoor
namespace Go.Proofs.YteamnchoddegpaaGreatDoor
open Go.RowKit Go.Maps
set_option maxHeartbeats 3200000
noncomputable def subRest (k : Nat) : Code := (Tryz.f38.body.bind (tailAt k)).getD .skip
/-- The deferred closure, with what it captured. -/
def subDefer (p0 p1 : Nat) : List Deferred := [{ target := .fn (.func 66) #[.pointer (some ⟨p0, 0, none⟩), .pointer (some ⟨p1, 0, none⟩)], args := #[] }]
section
variable {w0 wr w' : World} {ts : List Thing} {F I : List Nat} {gb W room pb mB mV cB cV p0 p1 : Nat} {L : List PNode} {fB fV : Int → Option Value}
set_option maxRecDepth 100000 in
theorem sub_rest20 {u2 u3 u4 u5 u6 u7 u10 u12 u13 u14 u15 u16 u17 u18 u19 u20 u21 u22 u23 u24 u25 u26 u27 u28 u29 u30 u31 u32 u33 u34 u35 u36 u37 u38 u39 u40 u41 u42 u43 u44 u45 u46 u47 u48 u49 u50 u51 u52 u53 u54 u55 u56 u57 u58 u59 u60 u61 u62 u63 u64 u65 u66 u67 u68 u69 u70 u71 u72 u73 u74 u75 u76 u77 u78 u79 u80 u81 u82 u83 u84 u85 u86 u87 u88 u89 u90 u91 u92 u93 u94 u95 u96 u97 u98 u99 u100 u101 u102 u103 u104 u105 u106 u107 u108 u109 u110 u111 u112 u113 u114 u115 u116 u117 u118 u119 u120 u121 u122 u123 u124 u125 u126 u127 u128 u129 u130 u131 u132 u133 u134 u135 u136 u137 u138 u139 u140 u141 u142 u143 u144 u145 u146 u147 u148 u149 : Value} {R : Ending → World → Prop} {z : Nat} (hz : z < L.length) (h : Lab w0 wr (Thing.graph F I gb W room L :: ts))
    (hR : ∀ (w5 : World) (ob nb : Nat) (I2 : List Nat) {u2 u3 u4 u5 u6 u7 u10 u12 u13 u16 u17 u18 u19 u20 u21 u22 u23 u24 u25 u26 u27 u28 u29 u30 u31 u32 u33 u34 u35 u36 u37 u38 u39 u40 u41 u42 u43 u44 u45 u46 u47 u48 u49 u50 u51 u52 u53 u54 u55 u56 u57 u58 u59 u60 u61 u62 u63 u64 u65 u66 u67 u68 u69 u70 u71 u72 u73 u74 u75 u76 u77 u78 u79 u80 u81 u82 u83 u84 u85 u86 u87 u88 u89 u90 u91 u92 u93 u94 u95 u96 u97 u98 u99 u100 u101 u102 u103 u104 u105 u106 u107 u108 u109 u110 u111 u112 u113 u114 u115 u116 u117 u118 u119 u120 u121 u122 u123 u124 u125 u126 u127 u128 u129 u130 u131 u132 u133 u134 u135 u136 u137 u138 u139 u140 u141 u142 u143 u144 u145 u146 u147 u148 u149 : Value}, Lab w0 w5 (Thing.fn ob 4 (z + 1) (fun i => .bool (occ L z i)) :: Thing.taken I2 nb (z + 1) L (occ L z) (-1) (-1) :: Thing.graph F I gb W room L :: ts) →
      Code.wp Tryz.prog (subRest 34) (bodyPostD Tryz.prog Tryz.f38 R) ⟨(List.toArray (.pointer (some ⟨gb, 0, none⟩) :: .int .i64 z :: u2 :: u3 :: u4 :: u5 :: u6 :: u7 :: .pointer (some ⟨p0, 0, none⟩) :: .pointer (some ⟨p1, 0, none⟩) :: u10 :: .pointer (some ⟨pb, 0, none⟩) :: u12 :: u13 :: .slice (some ⟨ob, 0, none⟩) (z + 1) (z + 1) :: .slice (some ⟨nb, 0, none⟩) (z + 1) (z + 1) :: u16 :: u17 :: u18 :: u19 :: u20 :: u21 :: u22 :: u23 :: u24 :: u25 :: u26 :: u27 :: u28 :: u29 :: u30 :: u31 :: u32 :: u33 :: u34 :: u35 :: u36 :: u37 :: u38 :: u39 :: u40 :: u41 :: u42 :: u43 :: u44 :: u45 :: u46 :: u47 :: u48 :: u49 :: u50 :: u51 :: u52 :: u53 :: u54 :: u55 :: u56 :: u57 :: u58 :: u59 :: u60 :: u61 :: u62 :: u63 :: u64 :: u65 :: u66 :: u67 :: u68 :: u69 :: u70 :: u71 :: u72 :: u73 :: u74 :: u75 :: u76 :: u77 :: u78 :: u79 :: u80 :: u81 :: u82 :: u83 :: u84 :: u85 :: u86 :: u87 :: u88 :: u89 :: u90 :: u91 :: u92 :: u93 :: u94 :: u95 :: u96 :: u97 :: u98 :: u99 :: u100 :: u101 :: u102 :: u103 :: u104 :: u105 :: u106 :: u107 :: u108 :: u109 :: u110 :: u111 :: u112 :: u113 :: u114 :: u115 :: u116 :: u117 :: u118 :: u119 :: u120 :: u121 :: u122 :: u123 :: u124 :: u125 :: u126 :: u127 :: u128 :: u129 :: u130 :: u131 :: u132 :: u133 :: u134 :: u135 :: u136 :: u137 :: u138 :: u139 :: u140 :: u141 :: u142 :: u143 :: u144 :: u145 :: u146 :: u147 :: u148 :: u149 :: [])), subDefer p0 p1⟩ w5) :
    Code.wp Tryz.prog (subRest 20) (bodyPostD Tryz.prog Tryz.f38 R) ⟨(List.toArray (.pointer (some ⟨gb, 0, none⟩) :: .int .i64 z :: u2 :: u3 :: u4 :: u5 :: u6 :: u7 :: .pointer (some ⟨p0, 0, none⟩) :: .pointer (some ⟨p1, 0, none⟩) :: u10 :: .pointer (some ⟨pb, 0, none⟩) :: u12 :: u13 :: u14 :: u15 :: u16 :: u17 :: u18 :: u19 :: u20 :: u21 :: u22 :: u23 :: u24 :: u25 :: u26 :: u27 :: u28 :: u29 :: u30 :: u31 :: u32 :: u33 :: u34 :: u35 :: u36 :: u37 :: u38 :: u39 :: u40 :: u41 :: u42 :: u43 :: u44 :: u45 :: u46 :: u47 :: u48 :: u49 :: u50 :: u51 :: u52 :: u53 :: u54 :: u55 :: u56 :: u57 :: u58 :: u59 :: u60 :: u61 :: u62 :: u63 :: u64 :: u65 :: u66 :: u67 :: u68 :: u69 :: u70 :: u71 :: u72 :: u73 :: u74 :: u75 :: u76 :: u77 :: u78 :: u79 :: u80 :: u81 :: u82 :: u83 :: u84 :: u85 :: u86 :: u87 :: u88 :: u89 :: u90 :: u91 :: u92 :: u93 :: u94 :: u95 :: u96 :: u97 :: u98 :: u99 :: u100 :: u101 :: u102 :: u103 :: u104 :: u105 :: u106 :: u107 :: u108 :: u109 :: u110 :: u111 :: u112 :: u113 :: u114 :: u115 :: u116 :: u117 :: u118 :: u119 :: u120 :: u121 :: u122 :: u123 :: u124 :: u125 :: u126 :: u127 :: u128 :: u129 :: u130 :: u131 :: u132 :: u133 :: u134 :: u135 :: u136 :: u137 :: u138 :: u139 :: u140 :: u141 :: u142 :: u143 :: u144 :: u145 :: u146 :: u147 :: u148 :: u149 :: [])), []⟩ wr := by
  have hmf : ∀ (fn : Fn) (first cap : Array Value) (w : World), (Instr.makeFunc fn first cap).run Tryz.prog w = .ok (.func fn first cap) w := fun _ _ _ _ => rfl
  have hll : L.length ≤ 1048576 := by have := h.gr.len; have := h.gr.r2; omega
  have hwf := h.gr.wf
  have hmk1 : ∀ w, (Instr.makeSlice 84 (.int .i64 ((z : Int) + 1)) (.int .i64 ((z : Int) + 1))).run Tryz.prog w = .ok (.slice (some ⟨w.heap.size, 0, none⟩) (z + 1) (z + 1)) (w.alloc (.cells (madeCells #[.bool false] (z + 1)) 4)) :=
    run_make_row' (P := Tryz.prog) 84 4 (.bool false) 1 Tryz.underlying84 Tryz.infoBool rfl .i64 .i64 (z + 1) (by omega) (by omega)
  have hmk2 : ∀ w, (Instr.makeSlice 73 (.int .i64 ((z : Int) + 1)) (.int .i64 ((z : Int) + 1))).run Tryz.prog w = .ok (.slice (some ⟨w.heap.size, 0, none⟩) (z + 1) (z + 1)) (w.alloc (.cells (madeCells #[.int .u8 0, .int .u64 0, .slice none 0 0] ((z + 1) * 3)) 88)) :=
    make_nodes (z + 1) (by omega)
  obtain ⟨ob, hob⟩ : ∃ ob, wr.heap.size = ob := ⟨_, rfl⟩
  have hl1 := h.make1 (z + 1) 4 (.bool false)
  rw [hob] at hl1
  have HL1 := Lib.hid hl1; have HR := Lib.hid hR; have HWF := Lib.hid hwf
  clear h hl1 hR hwf
  conv => arg 2; whnf
  go_upto_region 22 with fail
  clear hob hmk1
  refine wp_abs (fun w1 => Lab w0 w1 (Thing.fn ob 4 (z + 1) (fun _ => .bool false) :: Thing.graph F I gb W room L :: ts)) HL1.out ?_
  clear HL1
  rintro w1 hl
  have hcl := hl.fn1.cell (i := z) (by omega)
  have hfr := hl.fn1.frozen z
  have hl2 := ((hl.set z (.bool true)).fn_congr (g := fun i => .bool (i == z)) (fun i _ => by by_cases e : i = z <;> simp [e]))
  have HL1 := Lib.hid hl2
  clear hl hl2
  go_upto_region 23 with fail
  refine wp_abs (fun w1 => Lab w0 w1 (Thing.fn ob 4 (z + 1) (fun i => .bool (i == z)) :: Thing.graph F I gb W room L :: ts)) HL1.out ?_
  clear HL1 hcl hfr
  rintro w2 hl
  obtain ⟨nb, hnb⟩ : ∃ nb, w2.heap.size = nb := ⟨_, rfl⟩
  have hl2 := (hl.make (n := (z + 1) * 3) (madeCells #[.int .u8 0, .int .u64 0, .slice none 0 0] ((z + 1) * 3)) 88 _ (size_madeCells _ _) (fun i hi => madeCells_at _ _ i hi))
  have hl3 := hl2.say (s' := Thing.taken [] nb (z + 1) L (fun i => i == z) (z : Int) (z : Int)) (by rw [← hnb]; rfl) (fun _ hk => hk) (fun hh => by
    have := Taken.start (L := L) (need := fun i => i == z) hh (shape_made (z + 1))
    rw [hnb, show (((z + 1 : Nat) : Int) - 1) = (z : Int) by omega] at this
    exact this)
  have HL3 := Lib.hid hl3.swap
  clear hl hl2 hl3
  go_upto_region 24 with fail
  clear hnb hmk2
  refine wp_abs (fun w1 => Lab w0 w1 (Thing.fn ob 4 (z + 1) (fun i => .bool (i == z)) :: Thing.taken [] nb (z + 1) L (fun i => i == z) (z : Int) (z : Int) :: Thing.graph F I gb W room L :: ts)) HL3.out ?_
  clear HL3
  rintro w3 hl
  have HL3 := Lib.hid hl
  clear hl
  go_wp2
  rename_i K hK
  have HK := Lib.hid hK
  clear hK
  go_loopw [16] (fun i wr => ∃ c : Int, -1 ≤ c ∧ c ≤ (z : Int) ∧ i = .int .i64 c ∧ ∃ need I2, occDown L (c + 1).toNat need = occ L z ∧ Lab w0 wr (Thing.fn ob 4 (z + 1) (fun i => .bool (need i)) :: Thing.taken I2 nb (z + 1) L need c c :: Thing.graph F I gb W room L :: ts)) (fun i _ => (intOf i + 1).toNat)
  case atStart => exact ⟨(z : Int), by omega, by omega, rfl, fun i => i == z, [], rfl, HL3.out⟩
  case round =>
    obtain ⟨c, hc0, hcM, rfl, need, I2, hnd, hl⟩ := hrel
    by_cases hcn : 0 ≤ c
    · obtain ⟨y, rfl⟩ := Int.eq_ofNat_of_zero_le hcn
      have hcl := hl.fn1.cell (i := y) (by omega)
      obtain ⟨nd, hi⟩ : ∃ nd, L[y]? = some nd := ⟨_, List.getElem?_eq_getElem (by omega)⟩
      rw [show ((y : Int) + 1).toNat = y + 1 by omega] at hnd
      by_cases hne : need y = true
      · rw [hne] at hcl
        have HL6 := Lib.hid hl; have HND2 := Lib.hid hnd; have HI := Lib.hid hi; have HNE := Lib.hid hne
        have hgx : Gr wr 0 F I gb W room L := hl.third
        have HGx := Lib.hid hgx
        clear hl hnd hi hne hgx
        go_wp2_with fail
        go_at_call 67
        refine (node_at HGx.out y nd HI.out).mono ?_
        rintro e w3 ⟨va, rfl, hva, hb3⟩
        obtain ⟨aa, am, ac, rfl⟩ := hva.val
        have hl7 := (HL6.out.new_ints hb3 hva).rot3
        obtain ⟨f0, hf0, -⟩ := hl7.taken
        have q0 := hf0.cell (i := y * 3) (by omega)
        have q1 := hf0.cell (i := y * 3 + 1) (by omega)
        have q2 := hf0.cell (i := y * 3 + 2) (by omega)
        have p0 := hf0.frozen (y * 3)
        have p1 := hf0.frozen (y * 3 + 1)
        have p2 := hf0.frozen (y * 3 + 2)
        have HL7 := Lib.hid hl7
        clear hl7 hf0 hva hb3
        go_upto_region 29 with fail
        refine wp_abs (fun w4 => ∃ I3, Lab w0 w4 (Thing.taken I3 nb (z + 1) L need ((y : Int) - 1) y :: Thing.fn ob 4 (z + 1) (fun i => .bool (need i)) :: Thing.graph F I gb W room L :: ts)) ⟨_, HL7.out.taken_store HI.out (by omega)⟩ ?_
        rintro w4 ⟨I3, hl8⟩
        obtain ⟨vx, -, -, c2, hvx, -⟩ := hl8.taken.at (by omega) (by omega) HNE.out HI.out
        obtain ⟨ax, mx, cx, rfl, hmx, hcx⟩ := hvx.slice.parts
        have hmx3 : mx ≤ 3 := by
          have := (HWF.out.ok nd (List.mem_of_getElem? HI.out)).2.2
          have := aryN_le nd.1
          omega
        have hargs := HWF.out.args y nd HI.out
        have HL8 := Lib.hid hl8; have HVX := Lib.hid hvx; have HMX := Lib.hid hmx; have HCX := Lib.hid hcx; have HARGS := Lib.hid hargs
        clear hl8 hvx hmx hcx q0 q1 q2 p0 p1 p2 hargs
        go_wp2
        go_loopw [115] (fun i wr => ∃ k : Nat, k ≤ mx ∧ i = .int .i64 k ∧ KeepI w4 wr ∧ Lab w0 wr (Thing.fn ob 4 (z + 1) (fun i => .bool (markA need (nd.2.2.take k) i)) :: Thing.taken I3 nb (z + 1) L (markA need (nd.2.2.take k)) ((y : Int) - 1) y :: Thing.graph F I gb W room L :: ts)) (fun i _ => mx - (intOf i).toNat)
        case atStart => exact ⟨0, by omega, rfl, KeepI.refl _, by rw [List.take_zero, markA_nil]; exact HL8.out.swap⟩
        case round =>
          obtain ⟨k, hk, rfl, hki, hl⟩ := hrel
          by_cases hlt3 : k < mx
          · obtain ⟨b, off, u, rfl, hc, hu⟩ := ((HVX.out.ints hki).slice).parts' hlt3
            have hmem := List.mem_of_getElem? hu
            obtain ⟨g, rfl⟩ := Int.eq_ofNat_of_zero_le (HARGS.out u hmem).1
            have hgz : (g : Int) < (y : Int) := (HARGS.out _ hmem).2
            have hgM : (g : Int) < (z : Int) + 1 := by omega
            have hcl2 := hl.fn1.cell (i := g) (by omega)
            have hfr2 := hl.fn1.frozen g
            have HL9 := Lib.hid hl; have HU := Lib.hid hu; have HKI := Lib.hid hki
            clear hl hu hmem hki
            go_wp2
            go_roundw
            case rel =>
              have hl6 := (HL9.out.set g (.bool true)).fn_congr (g := fun i => .bool (markA need (nd.2.2.take (k + 1)) i)) (fun i _ => by rw [← markA_snoc HU.out]; by_cases e : i = g <;> simp [e])
              refine ⟨k + 1, by omega, by go_num, HKI.out.trans (KeepI.set HL9.out.fn1 (by decide) _ _), (hl6.swap.taken_congr (fun i hi => ?_) (fun i hi => ?_)).swap⟩
              · rw [← markA_snoc HU.out]
                exact if_neg (by omega)
              · rw [← markA_snoc HU.out]
                show (if i = g then true else _) = true
                split
                · rfl
                · exact hi
            case measure => simp [intOf]; omega
          · obtain rfl : k = mx := by omega
            rw [List.take_of_length_le (by rw [HMX.out]; exact Nat.le_refl _), markA_all HI.out HNE.out] at hl
            have HL9 := Lib.hid hl
            clear hl hki
            go_wp2
            go_roundw
            case rel =>
              refine ⟨(y : Int) - 1, by omega, by omega, by go_num, occStep L y need, I3, ?_, (HL9.out.swap.taken_close HI.out (fun a ha => ?_)).swap⟩
              · rw [show ((y : Int) - 1 + 1).toNat = y by omega]; exact HND2.out
              · unfold occStep argsOf
                rw [HI.out, HNE.out]
                have : (nd.2.2.any fun b => b.toNat == a.toNat) = true := List.any_eq_true.2 ⟨a, ha, by simp⟩
                simp only [Bool.true_and, this, Bool.or_true]
            case measure => simp [intOf] <;> omega
      · rw [Bool.not_eq_true] at hne
        rw [hne] at hcl
        have HL6 := Lib.hid hl; have HND2 := Lib.hid hnd; have HNE := Lib.hid hne
        clear hl hnd hi hne
        go_wp2
        go_roundw
        case rel =>
          refine ⟨(y : Int) - 1, by omega, by omega, by go_num, need, I2, ?_, (HL6.out.swap.taken_skip HNE.out).swap⟩
          rw [show ((y : Int) - 1 + 1).toNat = y by omega, ← HND2.out]
          show _ = occDown L y (occStep L y need)
          rw [occStep_no HNE.out]
        case measure => simp [intOf] <;> omega
    · obtain rfl : c = -1 := by omega
      have hnd' : need = occ L z := hnd
      subst hnd'
      have HL6 := Lib.hid hl
      clear hl hnd HL3
      go_wp2
      refine HK.out _ _ ?_
      exact HR.out _ _ _ _ HL6.out
end
end Go.Proofs.YteamnchoddegpaaGreatDoor
