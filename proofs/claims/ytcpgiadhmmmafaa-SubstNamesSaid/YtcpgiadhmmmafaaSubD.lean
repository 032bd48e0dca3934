/- Package subst: the nodes that occur are taken. -/
import Derived.Test.YtcpgiadhmmmafaaSubC
import Derived.Test.YtcpgiadhmmmafaaPlainU
import Derived.Test.YtcpgiadhmmmafaaSimpI
namespace Go.Proofs.Ytcpgiadhmmmafaa
open Go.RowKit Go.Maps
set_option maxHeartbeats 3200000

noncomputable def subRest (k : Nat) : Code := (Try.f39.body.bind (tailAt k)).getD .skip
/-- The deferred closure, with what it captured. -/
def subDefer (p0 p1 : Nat) : List Deferred := [{ target := .fn (.func 61) #[.pointer (some ⟨p0, 0, none⟩), .pointer (some ⟨p1, 0, none⟩)], args := #[] }]
section
variable {w0 wr w' : World} {ts : List Thing} {F I : List Nat} {gb W room pb mB mV cB cV p0 p1 : Nat} {L : List PNode} {fB fV : Int → Option Value}
set_option maxRecDepth 100000 in
theorem sub_rest20 {u2 u3 u4 u5 u6 u7 u10 u12 u13 u14 u15 u16 u17 u18 u19 u20 u21 u22 u23 u24 u25 u26 u27 u28 u29 u30 u31 u32 u33 u34 u35 u36 u37 u38 u39 u40 u41 u42 u43 u44 u45 u46 u47 u48 u49 u50 u51 u52 u53 u54 u55 u56 u57 u58 u59 u60 u61 u62 u63 u64 u65 u66 u67 u68 u69 u70 u71 u72 u73 u74 u75 u76 u77 u78 u79 u80 u81 u82 u83 u84 u85 u86 u87 u88 u89 u90 u91 u92 u93 u94 u95 u96 u97 u98 u99 u100 u101 u102 u103 u104 u105 u106 u107 u108 u109 u110 u111 u112 u113 u114 u115 u116 u117 u118 u119 u120 u121 u122 u123 u124 u125 u126 u127 u128 u129 u130 u131 u132 u133 u134 u135 u136 u137 u138 u139 u140 u141 u142 u143 u144 u145 u146 u147 u148 u149 : Value} {R : Ending → World → Prop} {z : Nat} (hz : z < L.length) (h : Lab w0 wr (Thing.graph F I gb W room L :: ts))
    (hR : ∀ (w5 : World) (ob nb : Nat) (I2 : List Nat) {u2 u3 u4 u5 u6 u7 u10 u12 u13 u16 u17 u18 u19 u20 u21 u22 u23 u24 u25 u26 u27 u28 u29 u30 u31 u32 u33 u34 u35 u36 u37 u38 u39 u40 u41 u42 u43 u44 u45 u46 u47 u48 u49 u50 u51 u52 u53 u54 u55 u56 u57 u58 u59 u60 u61 u62 u63 u64 u65 u66 u67 u68 u69 u70 u71 u72 u73 u74 u75 u76 u77 u78 u79 u80 u81 u82 u83 u84 u85 u86 u87 u88 u89 u90 u91 u92 u93 u94 u95 u96 u97 u98 u99 u100 u101 u102 u103 u104 u105 u106 u107 u108 u109 u110 u111 u112 u113 u114 u115 u116 u117 u118 u119 u120 u121 u122 u123 u124 u125 u126 u127 u128 u129 u130 u131 u132 u133 u134 u135 u136 u137 u138 u139 u140 u141 u142 u143 u144 u145 u146 u147 u148 u149 : Value}, Lab w0 w5 (Thing.fn ob 4 (z + 1) (fun i => .bool (occ L z i)) :: Thing.taken I2 nb (z + 1) L (occ L z) (-1) (-1) :: Thing.graph F I gb W room L :: ts) →
      Code.wp Try.prog (subRest 34) (bodyPostD Try.prog Try.f39 R) ⟨(List.toArray (.pointer (some ⟨gb, 0, none⟩) :: .int .i64 z :: u2 :: u3 :: u4 :: u5 :: u6 :: u7 :: .pointer (some ⟨p0, 0, none⟩) :: .pointer (some ⟨p1, 0, none⟩) :: u10 :: .pointer (some ⟨pb, 0, none⟩) :: u12 :: u13 :: .slice (some ⟨ob, 0, none⟩) (z + 1) (z + 1) :: .slice (some ⟨nb, 0, none⟩) (z + 1) (z + 1) :: u16 :: u17 :: u18 :: u19 :: u20 :: u21 :: u22 :: u23 :: u24 :: u25 :: u26 :: u27 :: u28 :: u29 :: u30 :: u31 :: u32 :: u33 :: u34 :: u35 :: u36 :: u37 :: u38 :: u39 :: u40 :: u41 :: u42 :: u43 :: u44 :: u45 :: u46 :: u47 :: u48 :: u49 :: u50 :: u51 :: u52 :: u53 :: u54 :: u55 :: u56 :: u57 :: u58 :: u59 :: u60 :: u61 :: u62 :: u63 :: u64 :: u65 :: u66 :: u67 :: u68 :: u69 :: u70 :: u71 :: u72 :: u73 :: u74 :: u75 :: u76 :: u77 :: u78 :: u79 :: u80 :: u81 :: u82 :: u83 :: u84 :: u85 :: u86 :: u87 :: u88 :: u89 :: u90 :: u91 :: u92 :: u93 :: u94 :: u95 :: u96 :: u97 :: u98 :: u99 :: u100 :: u101 :: u102 :: u103 :: u104 :: u105 :: u106 :: u107 :: u108 :: u109 :: u110 :: u111 :: u112 :: u113 :: u114 :: u115 :: u116 :: u117 :: u118 :: u119 :: u120 :: u121 :: u122 :: u123 :: u124 :: u125 :: u126 :: u127 :: u128 :: u129 :: u130 :: u131 :: u132 :: u133 :: u134 :: u135 :: u136 :: u137 :: u138 :: u139 :: u140 :: u141 :: u142 :: u143 :: u144 :: u145 :: u146 :: u147 :: u148 :: u149 :: [])), subDefer p0 p1⟩ w5) :
    Code.wp Try.prog (subRest 20) (bodyPostD Try.prog Try.f39 R) ⟨(List.toArray (.pointer (some ⟨gb, 0, none⟩) :: .int .i64 z :: u2 :: u3 :: u4 :: u5 :: u6 :: u7 :: .pointer (some ⟨p0, 0, none⟩) :: .pointer (some ⟨p1, 0, none⟩) :: u10 :: .pointer (some ⟨pb, 0, none⟩) :: u12 :: u13 :: u14 :: u15 :: u16 :: u17 :: u18 :: u19 :: u20 :: u21 :: u22 :: u23 :: u24 :: u25 :: u26 :: u27 :: u28 :: u29 :: u30 :: u31 :: u32 :: u33 :: u34 :: u35 :: u36 :: u37 :: u38 :: u39 :: u40 :: u41 :: u42 :: u43 :: u44 :: u45 :: u46 :: u47 :: u48 :: u49 :: u50 :: u51 :: u52 :: u53 :: u54 :: u55 :: u56 :: u57 :: u58 :: u59 :: u60 :: u61 :: u62 :: u63 :: u64 :: u65 :: u66 :: u67 :: u68 :: u69 :: u70 :: u71 :: u72 :: u73 :: u74 :: u75 :: u76 :: u77 :: u78 :: u79 :: u80 :: u81 :: u82 :: u83 :: u84 :: u85 :: u86 :: u87 :: u88 :: u89 :: u90 :: u91 :: u92 :: u93 :: u94 :: u95 :: u96 :: u97 :: u98 :: u99 :: u100 :: u101 :: u102 :: u103 :: u104 :: u105 :: u106 :: u107 :: u108 :: u109 :: u110 :: u111 :: u112 :: u113 :: u114 :: u115 :: u116 :: u117 :: u118 :: u119 :: u120 :: u121 :: u122 :: u123 :: u124 :: u125 :: u126 :: u127 :: u128 :: u129 :: u130 :: u131 :: u132 :: u133 :: u134 :: u135 :: u136 :: u137 :: u138 :: u139 :: u140 :: u141 :: u142 :: u143 :: u144 :: u145 :: u146 :: u147 :: u148 :: u149 :: [])), []⟩ wr := by
  have hmf : ∀ (fn : Fn) (first cap : Array Value) (w : World), (Instr.makeFunc fn first cap).run Try.prog w = .ok (.func fn first cap) w := fun _ _ _ _ => rfl
  have hll : L.length ≤ 1048576 := by have := h.gr.len; have := h.gr.r2; omega
  have hwf := h.gr.wf
  have hmk1 : ∀ w, (Instr.makeSlice 115 (.int .i64 ((z : Int) + 1)) (.int .i64 ((z : Int) + 1))).run Try.prog w = .ok (.slice (some ⟨w.heap.size, 0, none⟩) (z + 1) (z + 1)) (w.alloc (.cells (madeCells #[.bool false] (z + 1)) 4)) :=
    run_make_row' (P := Try.prog) 115 4 (.bool false) 1 Try.underlying115 Try.infoBool rfl .i64 .i64 (z + 1) (by omega) (by omega)
  have hmk2 : ∀ w, (Instr.makeSlice 40 (.int .i64 ((z : Int) + 1)) (.int .i64 ((z : Int) + 1))).run Try.prog w = .ok (.slice (some ⟨w.heap.size, 0, none⟩) (z + 1) (z + 1)) (w.alloc (.cells (madeCells #[.int .u8 0, .int .u64 0, .slice none 0 0] ((z + 1) * 3)) 106)) :=
    make_nodes (z + 1) (by omega)
  obtain ⟨ob, hob⟩ : ∃ ob, wr.heap.size = ob := ⟨_, rfl⟩
  have hl1 := h.make1 (z + 1) 4 (.bool false)
  rw [hob] at hl1
  have HL1 := Lib.hid hl1; have HR := Lib.hid hR; have HWF := Lib.hid hwf
  clear h hl1 hR hwf
  conv => arg 2; whnf
  go_upto_region 22 with fail
  clear hob hmk1
  refine wp_abs (fun w1 => Lab w0 w1 (Thing.fn ob 4 (z + 1) (fun _ => .bool false) :: Thing.graph F I gb W room L :: ts)) HL1.out ?_
  clear HL1
  rintro w1 hl
  have hcl := hl.fn1.cell (i := z) (by omega)
  have hfr := hl.fn1.frozen z
  have hl2 := ((hl.set z (.bool true)).fn_congr (g := fun i => .bool (i == z)) (fun i _ => by by_cases e : i = z <;> simp [e]))
  have HL1 := Lib.hid hl2
  clear hl hl2
  go_upto_region 23 with fail
  refine wp_abs (fun w1 => Lab w0 w1 (Thing.fn ob 4 (z + 1) (fun i => .bool (i == z)) :: Thing.graph F I gb W room L :: ts)) HL1.out ?_
  clear HL1 hcl hfr
  rintro w2 hl
  obtain ⟨nb, hnb⟩ : ∃ nb, w2.heap.size = nb := ⟨_, rfl⟩
  have hl2 := (hl.make (n := (z + 1) * 3) (madeCells #[.int .u8 0, .int .u64 0, .slice none 0 0] ((z + 1) * 3)) 106 _ (size_madeCells _ _) (fun i hi => madeCells_at _ _ i hi))
  have hl3 := hl2.say (s' := Thing.taken [] nb (z + 1) L (fun i => i == z) (z : Int) (z : Int)) (by rw [← hnb]; rfl) (fun _ hk => hk) (fun hh => by
    have := Taken.start (L := L) (need := fun i => i == z) hh (shape_made (z + 1))
    rw [hnb, show (((z + 1 : Nat) : Int) - 1) = (z : Int) by omega] at this
    exact this)
  have HL3 := Lib.hid hl3.swap
  clear hl hl2 hl3
  go_upto_region 24 with fail
  clear hnb hmk2
  refine wp_abs (fun w1 => Lab w0 w1 (Thing.fn ob 4 (z + 1) (fun i => .bool (i == z)) :: Thing.taken [] nb (z + 1) L (fun i => i == z) (z : Int) (z : Int) :: Thing.graph F I gb W room L :: ts)) HL3.out ?_
  clear HL3
  rintro w3 hl
  have HL3 := Lib.hid hl
  clear hl
  go_wp2
  rename_i K hK
  have HK := Lib.hid hK
  clear hK
  go_loopw [16] (fun i wr => ∃ c : Int, -1 ≤ c ∧ c ≤ (z : Int) ∧ i = .int .i64 c ∧ ∃ need I2, occDown L (c + 1).toNat need = occ L z ∧ Lab w0 wr (Thing.fn ob 4 (z + 1) (fun i => .bool (need i)) :: Thing.taken I2 nb (z + 1) L need c c :: Thing.graph F I gb W room L :: ts)) (fun i _ => (intOf i + 1).toNat)
  case atStart => exact ⟨(z : Int), by omega, by omega, rfl, fun i => i == z, [], rfl, HL3.out⟩
  case round =>
    obtain ⟨c, hc0, hcM, rfl, need, I2, hnd, hl⟩ := hrel
    by_cases hcn : 0 ≤ c
    · obtain ⟨y, rfl⟩ := Int.eq_ofNat_of_zero_le hcn
      have hcl := hl.fn1.cell (i := y) (by omega)
      obtain ⟨nd, hi⟩ : ∃ nd, L[y]? = some nd := ⟨_, List.getElem?_eq_getElem (by omega)⟩
      rw [show ((y : Int) + 1).toNat = y + 1 by omega] at hnd
      by_cases hne : need y = true
      · rw [hne] at hcl
        have HL6 := Lib.hid hl; have HND2 := Lib.hid hnd; have HI := Lib.hid hi; have HNE := Lib.hid hne
        have hgx : Gr wr 0 F I gb W room L := hl.third
        have HGx := Lib.hid hgx
        clear hl hnd hi hne hgx
        go_wp2_with fail
        go_at_call 52
        refine (node_at HGx.out y nd HI.out).mono ?_
        rintro e w3 ⟨va, rfl, hva, hb3⟩
        obtain ⟨aa, am, ac, rfl⟩ := hva.val
        have hl7 := (HL6.out.new_ints hb3 hva).rot3
        obtain ⟨f0, hf0, -⟩ := hl7.taken
        have q0 := hf0.cell (i := y * 3) (by omega)
        have q1 := hf0.cell (i := y * 3 + 1) (by omega)
        have q2 := hf0.cell (i := y * 3 + 2) (by omega)
        have p0 := hf0.frozen (y * 3)
        have p1 := hf0.frozen (y * 3 + 1)
        have p2 := hf0.frozen (y * 3 + 2)
        have HL7 := Lib.hid hl7
        clear hl7 hf0 hva hb3
        go_upto_region 29 with fail
        refine wp_abs (fun w4 => ∃ I3, Lab w0 w4 (Thing.taken I3 nb (z + 1) L need ((y : Int) - 1) y :: Thing.fn ob 4 (z + 1) (fun i => .bool (need i)) :: Thing.graph F I gb W room L :: ts)) ⟨_, HL7.out.taken_store HI.out (by omega)⟩ ?_
        rintro w4 ⟨I3, hl8⟩
        obtain ⟨vx, -, -, c2, hvx, -⟩ := hl8.taken.at (by omega) (by omega) HNE.out HI.out
        obtain ⟨ax, mx, cx, rfl, hmx, hcx⟩ := hvx.slice.parts
        have hmx3 : mx ≤ 3 := by
          have := (HWF.out.ok nd (List.mem_of_getElem? HI.out)).2.2
          have := aryN_le nd.1
          omega
        have hargs := HWF.out.args y nd HI.out
        have HL8 := Lib.hid hl8; have HVX := Lib.hid hvx; have HMX := Lib.hid hmx; have HCX := Lib.hid hcx; have HARGS := Lib.hid hargs
        clear hl8 hvx hmx hcx q0 q1 q2 p0 p1 p2 hargs
        go_wp2
        go_loopw [115] (fun i wr => ∃ k : Nat, k ≤ mx ∧ i = .int .i64 k ∧ KeepI w4 wr ∧ Lab w0 wr (Thing.fn ob 4 (z + 1) (fun i => .bool (markA need (nd.2.2.take k) i)) :: Thing.taken I3 nb (z + 1) L (markA need (nd.2.2.take k)) ((y : Int) - 1) y :: Thing.graph F I gb W room L :: ts)) (fun i _ => mx - (intOf i).toNat)
        case atStart => exact ⟨0, by omega, rfl, KeepI.refl _, by rw [List.take_zero, markA_nil]; exact HL8.out.swap⟩
        case round =>
          obtain ⟨k, hk, rfl, hki, hl⟩ := hrel
          by_cases hlt3 : k < mx
          · obtain ⟨b, off, u, rfl, hc, hu⟩ := ((HVX.out.ints hki).slice).parts' hlt3
            have hmem := List.mem_of_getElem? hu
            obtain ⟨g, rfl⟩ := Int.eq_ofNat_of_zero_le (HARGS.out u hmem).1
            have hgz : (g : Int) < (y : Int) := (HARGS.out _ hmem).2
            have hgM : (g : Int) < (z : Int) + 1 := by omega
            have hcl2 := hl.fn1.cell (i := g) (by omega)
            have hfr2 := hl.fn1.frozen g
            have HL9 := Lib.hid hl; have HU := Lib.hid hu; have HKI := Lib.hid hki
            clear hl hu hmem hki
            go_wp2
            go_roundw
            case rel =>
              have hl6 := (HL9.out.set g (.bool true)).fn_congr (g := fun i => .bool (markA need (nd.2.2.take (k + 1)) i)) (fun i _ => by rw [← markA_snoc HU.out]; by_cases e : i = g <;> simp [e])
              refine ⟨k + 1, by omega, by go_num, HKI.out.trans (KeepI.set HL9.out.fn1 (by decide) _ _), (hl6.swap.taken_congr (fun i hi => ?_) (fun i hi => ?_)).swap⟩
              · rw [← markA_snoc HU.out]
                exact if_neg (by omega)
              · rw [← markA_snoc HU.out]
                show (if i = g then true else _) = true
                split
                · rfl
                · exact hi
            case measure => simp [intOf]; omega
          · obtain rfl : k = mx := by omega
            rw [List.take_of_length_le (by rw [HMX.out]; exact Nat.le_refl _), markA_all HI.out HNE.out] at hl
            have HL9 := Lib.hid hl
            clear hl hki
            go_wp2
            go_roundw
            case rel =>
              refine ⟨(y : Int) - 1, by omega, by omega, by go_num, occStep L y need, I3, ?_, (HL9.out.swap.taken_close HI.out (fun a ha => ?_)).swap⟩
              · rw [show ((y : Int) - 1 + 1).toNat = y by omega]; exact HND2.out
              · unfold occStep argsOf
                rw [HI.out, HNE.out]
                have : (nd.2.2.any fun b => b.toNat == a.toNat) = true := List.any_eq_true.2 ⟨a, ha, by simp⟩
                simp only [Bool.true_and, this, Bool.or_true]
            case measure => simp [intOf] <;> omega
      · rw [Bool.not_eq_true] at hne
        rw [hne] at hcl
        have HL6 := Lib.hid hl; have HND2 := Lib.hid hnd; have HNE := Lib.hid hne
        clear hl hnd hi hne
        go_wp2
        go_roundw
        case rel =>
          refine ⟨(y : Int) - 1, by omega, by omega, by go_num, need, I2, ?_, (HL6.out.swap.taken_skip HNE.out).swap⟩
          rw [show ((y : Int) - 1 + 1).toNat = y by omega, ← HND2.out]
          show _ = occDown L y (occStep L y need)
          rw [occStep_no HNE.out]
        case measure => simp [intOf] <;> omega
    · obtain rfl : c = -1 := by omega
      have hnd' : need = occ L z := hnd
      subst hnd'
      have HL6 := Lib.hid hl
      clear hl hnd HL3
      go_wp2
      refine HK.out _ _ ?_
      exact HR.out _ _ _ _ HL6.out
end
end Go.Proofs.Ytcpgiadhmmmafaa
