/- StH3, StH4: joined by wip/bundle.py. -/
import Derived.Test.YtiklidgcmheofaaGreatDoorB1
import Derived.Test.YtiklidgcmheofaaGreatDoorB2
import Derived.Test.YtiklidgcmheofaaGreatDoorB3
import Derived.Test.YtiklidgcmheofaaGreatDoorB4
import Derived.Test.YtiklidgcmheofaaGreatDoorB5
import Derived.Test.YtiklidgcmheofaaGreatDoorB6
import Derived.Test.YtiklidgcmheofaaGreatDoorB7
import Derived.Test.YtiklidgcmheofaaGreatDoorB8
import Derived.Test.YtiklidgcmheofaaGreatDoorB9
import Derived.Test.YtiklidgcmheofaaGreatDoorB10
import Derived.Test.YtiklidgcmheofaaGreatDoorB11
import Derived.Test.YtiklidgcmheofaaGreatDoorB12
import Derived.Test.YtiklidgcmheofaaGreatDoorB13
import Derived.Test.YtiklidgcmheofaaGreatDoorB14
import Derived.Test.YtiklidgcmheofaaGreatDoorB15
import Derived.Test.YtiklidgcmheofaaGreatDoorB16
import Derived.Test.YtiklidgcmheofaaGreatDoorB17
import Derived.Test.YtiklidgcmheofaaGreatDoorB18
import Derived.BigQuiet
namespace Go.Proofs.YtiklidgcmheofaaGreatDoor
open Go.RowKit Go.Maps
set_option maxHeartbeats 6400000
section
variable {w0 wr w : World} {ts : List Thing} {F I : List Nat} {gb W room bb sb rb nR : Nat} {L : List PNode} {y z : Lay} {regs rregs vals sizes : List Int} {arrs rarrs : List (List Int)} {v1 v2 v3 v4 vv : Value}
set_option maxRecDepth 100000 in
theorem Lab.does_3 (hI : BothIn w0 W nR sizes vals v3 vv) (hb : BothOk W vals nR sizes L regs rregs arrs rarrs) (hy : arrs.length = y.vs.length) (hz : rarrs.length = z.vs.length) (hph : phi W L + 40 < room) (x : ActD) (hx : x.Ok) (hk : x.k % 6 = 3)
    (h : Lab w0 wr (bothTs F I gb W room L bb sb rb nR y z regs rregs arrs rarrs v1 v2 v3 v4 vv ts)) :
    Calls Tryz.prog 10 #[.pointer (some ⟨bb, 0, none⟩), x.val] wr (DoesPost w0 gb W room bb sb rb nR L z vals sizes v1 v2 v3 v4 vv ts) := by
  obtain ⟨a3, na, c3, e3, hna, hsz⟩ := hI.sz
  obtain ⟨av, nv, cv, ev, hnv, hvl⟩ := hI.vl
  subst e3 ev
  obtain ⟨n, hn⟩ : ∃ n, x.r % nR = n := ⟨_, rfl⟩
  obtain ⟨a, ha⟩ : ∃ a, x.ar % na = a := ⟨_, rfl⟩
  have hR1 := hI.R1; have hR2 := hI.R2
  have hA1 : 1 ≤ na := by have := hI.A1; omega
  have hA2 : na ≤ 4 := by have := hI.A2; omega
  have hnR : n < nR := by rw [← hn]; exact Nat.mod_lt _ (by omega)
  have haN : a < na := by rw [← ha]; exact Nat.mod_lt _ (by omega)
  have hmod1 := tmod_nat x.r nR
  rw [hn] at hmod1
  have hmod2 := tmod_nat x.ar na
  rw [ha] at hmod2
  have hmodk := tmod_nat x.k 6
  rw [hk] at hmodk
  replace hmodk : ((x.k : Int)).tmod 6 = 3 := hmodk
  have nR0 : ¬ nR = 0 := by omega
  have nA0 : ¬ na = 0 := by omega
  obtain ⟨xk, xr, xar, xa, xb, xn⟩ := hx
  have hb0 := h.alloc #[.int .u8 x.k, .int .u8 x.r, .int .u8 x.ar, .int .u8 x.a, .int .u8 x.b, .int .u64 x.n] 36
  obtain ⟨q, hq⟩ : ∃ q, wr.heap.size = q := ⟨_, rfl⟩
  rw [hq] at hb0
  replace hb0 := hb0.sink5
  have HI := Lib.hid hI; have HB := Lib.hid hb; have HY := Lib.hid (And.intro hy (And.intro hz hph)); have HL := Lib.hid hb0; have HS := Lib.hid (And.intro hna hsz); have HV := Lib.hid (And.intro hnv hvl); have HX := Lib.hid (And.intro xk (And.intro xr (And.intro xar (And.intro xa (And.intro xb xn))))); have HN := Lib.hid (And.intro hnR haN)
  clear hI hb hy hz hph h hb0 hna hsz hnv hvl hk hn ha
  unfold ActD.val
  go_enter Tryz.func10, Tryz.ntmps10
  go_upto_region 1 with fail
  refine wp_abs (fun wx => Lab w0 wx (bothTs F I gb W room L bb sb rb nR y z regs rregs arrs rarrs v1 v2 (.slice a3 na c3) v4 (.slice av nv cv) (Thing.box q 36 #[.int .u8 x.k, .int .u8 x.r, .int .u8 x.ar, .int .u8 x.a, .int .u8 x.b, .int .u64 x.n] :: ts))) HL.out ?_
  intro w1 hw1
  have hrow : w1.heap[q]? = some (.cells #[.int .u8 x.k, .int .u8 x.r, .int .u8 x.ar, .int .u8 x.a, .int .u8 x.b, .int .u64 x.n] 36 (0, 0)) := hw1.fifth
  have q0 := cell_of_cells hrow (i := 0) rfl
  have q1 := cell_of_cells hrow (i := 1) rfl
  have q2 := cell_of_cells hrow (i := 2) rfl
  have q3 := cell_of_cells hrow (i := 3) rfl
  have q4 := cell_of_cells hrow (i := 4) rfl
  have q5 := cell_of_cells hrow (i := 5) rfl
  obtain ⟨c0, c1, c2, -, c4, c7, c9⟩ := both_cells hw1.fourth
  clear hrow
  have HW1 := Lib.hid hw1
  clear hw1 HL hq
  go_quiet (fail)
  obtain ⟨xs, us, hxs, hus, hrel, hsize⟩ := HB.out.arrs.each a (by have := HS.out.1; have := HN.out.2; omega)
  obtain ⟨m, hm⟩ : ∃ m, us.length = m := ⟨_, rfl⟩
  rw [hm] at hsize
  have hm8 := HI.out.each _ (List.mem_of_getElem? hsize)
  have hm1 : 1 ≤ m := by omega
  have hm2 : m ≤ 8 := by omega
  have HA := Lib.hid (And.intro hxs (And.intro hus (And.intro hrel (And.intro hm hsize))))
  clear hxs hus hrel hm hsize hm8
  go_upto_region 20 with fail
  clear q0 q1 q2 q3 q4 q5 c0 c1 c2 c4 c7 c9
  refine wp_abs (fun wx => Lab w0 wx (bothTs F I gb W room L bb sb rb nR y z regs rregs arrs rarrs v1 v2 (.slice a3 na c3) v4 (.slice av nv cv) (Thing.box q 36 #[.int .u8 x.k, .int .u8 x.r, .int .u8 x.ar, .int .u8 x.a, .int .u8 x.b, .int .u64 x.n] :: ts))) (HW1.out.drewN _) ?_
  intro w2 hw2
  have hrow : w2.heap[q]? = some (.cells #[.int .u8 x.k, .int .u8 x.r, .int .u8 x.ar, .int .u8 x.a, .int .u8 x.b, .int .u64 x.n] 36 (0, 0)) := hw2.fifth
  have q0 := cell_of_cells hrow (i := 0) rfl
  have q1 := cell_of_cells hrow (i := 1) rfl
  have q2 := cell_of_cells hrow (i := 2) rfl
  have q3 := cell_of_cells hrow (i := 3) rfl
  have q4 := cell_of_cells hrow (i := 4) rfl
  have q5 := cell_of_cells hrow (i := 5) rfl
  obtain ⟨c0, c1, c2, -, c4, c7, c9⟩ := both_cells hw2.fourth
  clear hrow
  obtain ⟨ti, atv, -, hr2, hr3, hr4, hreg⟩ := Lab.breg HI.out.vl HI.out.nvals HI.out.u64 hw2 HY.out.1 HY.out.2.1 HB.out.regs HB.out.nregs hR1 (by omega) x.a xa
  have hatw := HB.out.ok.word vals ti
  rw [hr4] at hatw
  have hp64 := pow_le64 HB.out.ok.w2
  obtain ⟨at', rfl⟩ : ∃ at' : Nat, atv = (at' : Int) := ⟨atv.toNat, by omega⟩
  have hat64 : at' ≤ 18446744073709551615 := by omega
  have HREG := Lib.hid hreg; have HW2 := Lib.hid hw2
  have HGi := Lib.hid (And.intro HB.out.ok (And.intro (List.prefix_refl L) (And.intro (show phi W L ≤ phi W L + 1 by omega) (And.intro hr2 hr4))))
  clear hreg hw2 hr2 hr3 hr4 HW1 hatw hp64
  go_wp2_with fail
  go_at_call 13
  refine HREG.out.mono ?_
  rintro e w3 ⟨rfl, hb3⟩
  have hw3 := HW2.out.later hb3
  clear q0 q1 q2 q3 q4 q5 c0 c1 c2 c4 c7 c9
  clear HREG HW2 hb3
  have hrow : w3.heap[q]? = some (.cells #[.int .u8 x.k, .int .u8 x.r, .int .u8 x.ar, .int .u8 x.a, .int .u8 x.b, .int .u64 x.n] 36 (0, 0)) := hw3.fifth
  have q0 := cell_of_cells hrow (i := 0) rfl
  have q1 := cell_of_cells hrow (i := 1) rfl
  have q2 := cell_of_cells hrow (i := 2) rfl
  have q3 := cell_of_cells hrow (i := 3) rfl
  have q4 := cell_of_cells hrow (i := 4) rfl
  have q5 := cell_of_cells hrow (i := 5) rfl
  obtain ⟨c0, c1, c2, -, c4, c7, c9⟩ := both_cells hw3.fourth
  clear hrow
  have HW3 := Lib.hid hw3
  clear hw3
  go_upto_region 24 with fail
  clear q0 q1 q2 q3 q4 q5 c0 c1 c2 c4 c7 c9
  refine wp_abs (fun wx => Lab w0 wx (bothTs F I gb W room L bb sb rb nR y z regs rregs arrs rarrs v1 v2 (.slice a3 na c3) v4 (.slice av nv cv) (Thing.box q 36 #[.int .u8 x.k, .int .u8 x.r, .int .u8 x.ar, .int .u8 x.a, .int .u8 x.b, .int .u64 x.n] :: ts))) HW3.out ?_
  intro wi hwi
  have hrow : wi.heap[q]? = some (.cells #[.int .u8 x.k, .int .u8 x.r, .int .u8 x.ar, .int .u8 x.a, .int .u8 x.b, .int .u64 x.n] 36 (0, 0)) := hwi.fifth
  have q0 := cell_of_cells hrow (i := 0) rfl
  have q1 := cell_of_cells hrow (i := 1) rfl
  have q2 := cell_of_cells hrow (i := 2) rfl
  have q3 := cell_of_cells hrow (i := 3) rfl
  have q4 := cell_of_cells hrow (i := 4) rfl
  have q5 := cell_of_cells hrow (i := 5) rfl
  obtain ⟨c0, c1, c2, -, c4, c7, c9⟩ := both_cells hwi.fourth
  clear hrow
  have hins := Lab.sinside hwi HY.out.1 HGi.out.1 a HA.out.1 ti HGi.out.2.2.2.1 (by rw [HA.out.2.2.1.1, HA.out.2.2.2.1]; omega) (by have := HY.out.2.2; have := HGi.out.2.2.1; omega)
  rw [HA.out.2.2.1.1, HA.out.2.2.2.1] at hins
  have HINS := Lib.hid hins
  clear hins hwi
  go_wp2_with fail
  go_at_call 26
  refine HINS.out.mono ?_
  rintro e wj ⟨L3, t3, F3, I3, rfl, hg3, hph3, hwj⟩
  replace hwj : Lab w0 wj (bothTs F3 I3 gb W room L3 bb sb rb nR y z regs rregs arrs rarrs v1 v2 (.slice a3 na c3) v4 (.slice av nv cv) (Thing.box q 36 #[.int .u8 x.k, .int .u8 x.r, .int .u8 x.ar, .int .u8 x.a, .int .u8 x.b, .int .u64 x.n] :: ts)) := hwj
  clear q0 q1 q2 q3 q4 q5 c0 c1 c2 c4 c7 c9
  have HWJ := Lib.hid hwj; have HG3 := Lib.hid (And.intro hg3 (show phi W L3 ≤ phi W L + 2 by have := HGi.out.2.2.1; omega))
  clear hwj hg3 hph3 HINS
  go_upto_region 25 with fail
  refine wp_abs (fun wx => Lab w0 wx (bothTs F3 I3 gb W room L3 bb sb rb nR y z regs rregs arrs rarrs v1 v2 (.slice a3 na c3) v4 (.slice av nv cv) (Thing.box q 36 #[.int .u8 x.k, .int .u8 x.r, .int .u8 x.ar, .int .u8 x.a, .int .u8 x.b, .int .u64 x.n] :: ts))) HWJ.out ?_
  intro wk hwk
  have hrow : wk.heap[q]? = some (.cells #[.int .u8 x.k, .int .u8 x.r, .int .u8 x.ar, .int .u8 x.a, .int .u8 x.b, .int .u64 x.n] 36 (0, 0)) := hwk.fifth
  have q0 := cell_of_cells hrow (i := 0) rfl
  have q1 := cell_of_cells hrow (i := 1) rfl
  have q2 := cell_of_cells hrow (i := 2) rfl
  have q3 := cell_of_cells hrow (i := 3) rfl
  have q4 := cell_of_cells hrow (i := 4) rfl
  have q5 := cell_of_cells hrow (i := 5) rfl
  obtain ⟨c0, c1, c2, -, c4, c7, c9⟩ := both_cells hwk.fourth
  clear hrow
  have hev := eval_any (Gr.drewN hwk.gr 1) (t3 : Int) vals (.slice av nv cv) ((HI.out.vl.laterS hwk.below).laterS (below_drewN (Below.refl _ _) 1)) (by have := HI.out.nvals; omega) HI.out.u64
  rw [show evalR W vals L3 (t3 : Int) = (val W vals L3 t3, 0) by unfold evalR; rw [if_pos ⟨by omega, by have := HG3.out.1.lt; omega⟩, Int.toNat_natCast], HG3.out.1.val vals, HGi.out.2.2.2.2] at hev
  have hrin := fun (wx : World) (hx : Lab w0 wx (bothTs F3 I3 gb W room L3 bb sb rb nR y z regs rregs arrs rarrs v1 v2 (.slice a3 na c3) v4 (.slice av nv cv) (Thing.box q 36 #[.int .u8 x.k, .int .u8 x.r, .int .u8 x.ar, .int .u8 x.a, .int .u8 x.b, .int .u64 x.n] :: ts))) => rinside30 (Lab.st_read HY.out.2.1 hx.rot3) HA.out.2.1 (by rw [HA.out.2.2.2.1]; omega) at' hat64
  rw [HA.out.2.2.2.1] at hrin
  have HEV := Lib.hid hev; have HRIN := Lib.hid hrin; have HWK := Lib.hid (hwk.drewN 1)
  clear hev hrin hwk HWJ
  by_cases hlt : (at' : Int) < (m : Int)
  · have HE2 : Hid (Calls Tryz.prog 27 #[.pointer (some ⟨gb, 0, none⟩), .int .i64 t3, .slice av nv cv] wk.drew fun e w' => e = .returned (.tuple #[.int .u64 1, .int .i64 0]) ∧ Below wk.drew.heap.size wk.drew w') := Lib.hid (by
      have := HEV.out
      rw [if_pos hlt] at this
      exact this)
    have hdl : decide (at' < m) = true := decide_eq_true (by omega)
    have HR2 : Hid (∀ wx, Lab w0 wx (bothTs F3 I3 gb W room L3 bb sb rb nR y z regs rregs arrs rarrs v1 v2 (.slice a3 na c3) v4 (.slice av nv cv) (Thing.box q 36 #[.int .u8 x.k, .int .u8 x.r, .int .u8 x.ar, .int .u8 x.a, .int .u8 x.b, .int .u64 x.n] :: ts)) → Calls Tryz.prog 28 #[.pointer (some ⟨rb, 0, none⟩), .int .i64 a, .int .u64 at'] wx fun e w' => e = .returned (.bool true) ∧ wx = w') := Lib.hid (fun wx hx => by
      have := HRIN.out wx hx
      rw [hdl] at this
      exact this)
    clear HEV HRIN hdl
    go_region_held3 (fun w' => w'.cell? ⟨bb, 0, none⟩ = some (.pointer (some ⟨gb, 0, none⟩)) ∧ w'.cell? ⟨bb, 9, none⟩ = some (.slice av nv cv)) (first | exact ⟨by assumption, by assumption⟩ | go_keep)
      (first | (go_at_call 27; refine HE2.out.mono ?_; rintro e wl ⟨rfl, hbl⟩; have u0 := cell_later hbl (show wk.drew.cell? ⟨bb, 0, none⟩ = _ from c0); have u9 := cell_later hbl (show wk.drew.cell? ⟨bb, 9, none⟩ = _ from c9); have HWL := Lib.hid (HWK.out.later hbl); clear hbl))
    clear u0 u9 HE2 HWK
    go_upto_region 26 with fail
    clear q0 q1 q2 q3 q4 q5 c0 c1 c2 c4 c7 c9
    refine wp_abs (fun wx => Lab w0 wx (bothTs F3 I3 gb W room L3 bb sb rb nR y z regs rregs arrs rarrs v1 v2 (.slice a3 na c3) v4 (.slice av nv cv) (Thing.box q 36 #[.int .u8 x.k, .int .u8 x.r, .int .u8 x.ar, .int .u8 x.a, .int .u8 x.b, .int .u64 x.n] :: ts))) HWL.out ?_
    intro wm hwm
    have hrow : wm.heap[q]? = some (.cells #[.int .u8 x.k, .int .u8 x.r, .int .u8 x.ar, .int .u8 x.a, .int .u8 x.b, .int .u64 x.n] 36 (0, 0)) := hwm.fifth
    have q0 := cell_of_cells hrow (i := 0) rfl
    have q1 := cell_of_cells hrow (i := 1) rfl
    have q2 := cell_of_cells hrow (i := 2) rfl
    have q3 := cell_of_cells hrow (i := 3) rfl
    have q4 := cell_of_cells hrow (i := 4) rfl
    have q5 := cell_of_cells hrow (i := 5) rfl
    obtain ⟨c0, c1, c2, -, c4, c7, c9⟩ := both_cells hwm.fourth
    clear hrow
    have hri := HR2.out wm hwm
    have HRI := Lib.hid hri; have HWM := Lib.hid hwm
    clear hri hwm HWL HR2
    go_wp2_with fail
    go_at_call 28
    refine HRI.out.mono ?_
    rintro e wn ⟨rfl, rfl⟩
    clear HRI
    go_upto_region 38 with fail
    clear q0 q1 q2 q3 q4 q5 c0 c1 c2 c4 c7 c9
    refine wp_abs (fun wx => Lab w0 wx (bothTs F3 I3 gb W room L3 bb sb rb nR y z regs rregs arrs rarrs v1 v2 (.slice a3 na c3) v4 (.slice av nv cv) (Thing.box q 36 #[.int .u8 x.k, .int .u8 x.r, .int .u8 x.ar, .int .u8 x.a, .int .u8 x.b, .int .u64 x.n] :: ts))) HWM.out ?_
    intro wo hwo
    have hrow : wo.heap[q]? = some (.cells #[.int .u8 x.k, .int .u8 x.r, .int .u8 x.ar, .int .u8 x.a, .int .u8 x.b, .int .u64 x.n] 36 (0, 0)) := hwo.fifth
    have q0 := cell_of_cells hrow (i := 0) rfl
    have q1 := cell_of_cells hrow (i := 1) rfl
    have q2 := cell_of_cells hrow (i := 2) rfl
    have q3 := cell_of_cells hrow (i := 3) rfl
    have q4 := cell_of_cells hrow (i := 4) rfl
    have q5 := cell_of_cells hrow (i := 5) rfl
    obtain ⟨c0, c1, c2, -, c4, c7, c9⟩ := both_cells hwo.fourth
    clear hrow
    have hp3 := HGi.out.2.1.trans HG3.out.1.pre
    have hld := Lab.sload (x := ti) HY.out.1 HA.out.1 (by rw [HA.out.2.2.1.1]; exact HA.out.2.2.2.1) hm1 (by omega) (fun e he => by
      have h1 := HA.out.2.2.1.mem e he
      have h2 := hp3.length_le
      omega) HG3.out.1.ok (Nat.lt_of_lt_of_le HGi.out.2.2.2.1 HG3.out.1.pre.length_le) (by have := HY.out.2.2; have := HG3.out.2; omega) hwo
    have HLD := Lib.hid hld; have HP3 := Lib.hid hp3
    clear hld hwo hp3 HWM
    go_wp2_with fail
    go_at_call 21
    refine HLD.out.mono ?_
    rintro e wp ⟨L4, t, F4, I4, rfl, hinv, hwp⟩
    replace hwp : Lab w0 wp (bothTs F4 I4 gb W room L4 bb sb rb nR y z regs rregs arrs rarrs v1 v2 (.slice a3 na c3) v4 (.slice av nv cv) (Thing.box q 36 #[.int .u8 x.k, .int .u8 x.r, .int .u8 x.ar, .int .u8 x.a, .int .u8 x.b, .int .u64 x.n] :: ts)) := hwp
    clear q0 q1 q2 q3 q4 q5 c0 c1 c2 c4 c7 c9
    clear HLD
    have hrow : wp.heap[q]? = some (.cells #[.int .u8 x.k, .int .u8 x.r, .int .u8 x.ar, .int .u8 x.a, .int .u8 x.b, .int .u64 x.n] 36 (0, 0)) := hwp.fifth
    have q0 := cell_of_cells hrow (i := 0) rfl
    have q1 := cell_of_cells hrow (i := 1) rfl
    have q2 := cell_of_cells hrow (i := 2) rfl
    have q3 := cell_of_cells hrow (i := 3) rfl
    have q4 := cell_of_cells hrow (i := 4) rfl
    have q5 := cell_of_cells hrow (i := 5) rfl
    obtain ⟨c0, c1, c2, -, c4, c7, c9⟩ := both_cells hwp.fourth
    clear hrow
    have hlv := load_val2 HA.out.2.2.1 HP3.out (k := at') (by rw [HA.out.2.2.2.1]; omega) (by rw [val_prefix HG3.out.1.pre HGi.out.2.2.2.1, HGi.out.2.2.2.2]) (by rw [HA.out.2.2.2.1]; exact hinv)
    obtain ⟨v, hv⟩ : ∃ v, val W vals L4 t = v := ⟨_, rfl⟩
    rw [hv] at hlv
    have hrl := rload30 (Lab.st_read HY.out.2.1 hwp.rot3) HA.out.2.1 (by rw [HA.out.2.2.2.1]; omega) at' hlv
    have his := Lab.bis HI.out.vl HI.out.nvals HI.out.u64 hwp t hinv.got.lt v
    rw [decide_eq_true hv] at his
    have HRL := Lib.hid hrl; have HIS := Lib.hid his; have HWP := Lib.hid hwp
    have HG := Lib.hid (And.intro hinv.got.ok (And.intro (HP3.out.trans hinv.got.pre) (And.intro (show phi W L4 ≤ phi W L + 18 by have := hinv.room; have := HG3.out.2; omega) (And.intro hinv.got.lt hv))))
    clear hrl his hwp hinv hv hlv
    go_wp2_with fail
    go_at_call 30
    refine HRL.out.mono ?_
    rintro e wq ⟨rfl, rfl⟩
    go_wp2_with fail
    go_at_call 16
    refine HIS.out.mono ?_
    rintro e wr' ⟨rfl, hbr⟩
    have hwr := HWP.out.later hbr
    clear q0 q1 q2 q3 q4 q5 c0 c1 c2 c4 c7 c9
    clear HRL HIS hbr HWP
    have hrow : wr'.heap[q]? = some (.cells #[.int .u8 x.k, .int .u8 x.r, .int .u8 x.ar, .int .u8 x.a, .int .u8 x.b, .int .u64 x.n] 36 (0, 0)) := hwr.fifth
    have q0 := cell_of_cells hrow (i := 0) rfl
    have q1 := cell_of_cells hrow (i := 1) rfl
    have q2 := cell_of_cells hrow (i := 2) rfl
    have q3 := cell_of_cells hrow (i := 3) rfl
    have q4 := cell_of_cells hrow (i := 4) rfl
    have q5 := cell_of_cells hrow (i := 5) rfl
    obtain ⟨c0, c1, c2, -, c4, c7, c9⟩ := both_cells hwr.fourth
    clear hrow
    have HWR := Lib.hid hwr
    clear hwr
    go_upto_region 42 with fail
    clear q0 q1 q2 q3 q4 q5 c0 c1 c2 c4 c7 c9
    refine wp_abs (fun wx => Lab w0 wx (bothTs F4 I4 gb W room L4 bb sb rb nR y z regs rregs arrs rarrs v1 v2 (.slice a3 na c3) v4 (.slice av nv cv) (Thing.box q 36 #[.int .u8 x.k, .int .u8 x.r, .int .u8 x.ar, .int .u8 x.a, .int .u8 x.b, .int .u64 x.n] :: ts))) HWR.out ?_
    intro wa hwa
    have hrow : wa.heap[q]? = some (.cells #[.int .u8 x.k, .int .u8 x.r, .int .u8 x.ar, .int .u8 x.a, .int .u8 x.b, .int .u64 x.n] 36 (0, 0)) := hwa.fifth
    have q0 := cell_of_cells hrow (i := 0) rfl
    have q1 := cell_of_cells hrow (i := 1) rfl
    have q2 := cell_of_cells hrow (i := 2) rfl
    have q3 := cell_of_cells hrow (i := 3) rfl
    have q4 := cell_of_cells hrow (i := 4) rfl
    have q5 := cell_of_cells hrow (i := 5) rfl
    obtain ⟨c0, c1, c2, -, c4, c7, c9⟩ := both_cells hwa.fourth
    clear hrow
    have hset := Lab.sset hwa HY.out.1 n t (by have h1 := HB.out.regs.1; have h2 := HB.out.nregs; have := HN.out.1; omega) HG.out.2.2.2.1
    have HSET := Lib.hid hset
    clear hset hwa
    go_wp2_with fail
    go_at_call 31
    refine HSET.out.mono ?_
    rintro e wb ⟨rfl, hwb⟩
    replace hwb : Lab w0 wb (bothTs F4 I4 gb W room L4 bb sb rb nR y z (regs.set n (t : Int)) rregs arrs rarrs v1 v2 (.slice a3 na c3) v4 (.slice av nv cv) (Thing.box q 36 #[.int .u8 x.k, .int .u8 x.r, .int .u8 x.ar, .int .u8 x.a, .int .u8 x.b, .int .u64 x.n] :: ts)) := hwb
    clear q0 q1 q2 q3 q4 q5 c0 c1 c2 c4 c7 c9 HSET
    have hrow : wb.heap[q]? = some (.cells #[.int .u8 x.k, .int .u8 x.r, .int .u8 x.ar, .int .u8 x.a, .int .u8 x.b, .int .u64 x.n] 36 (0, 0)) := hwb.fifth
    have q0 := cell_of_cells hrow (i := 0) rfl
    have q1 := cell_of_cells hrow (i := 1) rfl
    have q2 := cell_of_cells hrow (i := 2) rfl
    have q3 := cell_of_cells hrow (i := 3) rfl
    have q4 := cell_of_cells hrow (i := 4) rfl
    have q5 := cell_of_cells hrow (i := 5) rfl
    obtain ⟨c0, c1, c2, -, c4, c7, c9⟩ := both_cells hwb.fourth
    clear hrow
    obtain ⟨gg, cg, ug, hgv, hgc, hgf, hgs⟩ := Lab.rreg_set hwb.rot3 (n := n) (by have := HB.out.nregs; have := HN.out.1; omega)
    have hr1' := (Lab.st_read HY.out.2.1 hwb.rot3).c1
    rw [hgv] at hr1'
    obtain ⟨nr, hnr⟩ : ∃ nr, rregs.length = nr := ⟨_, rfl⟩
    rw [hnr] at hr1'
    have hnnr : (n : Int) < (nr : Int) := by have := HB.out.nregs; have := HN.out.1; omega
    have n0 : (0 : Int) ≤ (n : Int) := by omega
    have hgs1 : Lab w0 (wb.setCell ⟨gg, n, none⟩ (.int .u64 v)) (bothTs F4 I4 gb W room L4 bb sb rb nR y z (regs.set n (t : Int)) (rregs.set n v) arrs rarrs v1 v2 (.slice a3 na c3) v4 (.slice av nv cv) (Thing.box q 36 #[.int .u8 x.k, .int .u8 x.r, .int .u8 x.ar, .int .u8 x.a, .int .u8 x.b, .int .u64 x.n] :: ts)) := (hgs v).rot3'
    have HGS := Lib.hid hgs1
    clear hgs hgs1 hwb hgv hnr
    go_upto_region 45 with fail
    clear q0 q1 q2 q3 q4 q5 c0 c1 c2 c4 c7 c9 hr1' hgc hgf hnnr
    refine wp_abs (fun wx => Lab w0 wx (bothTs F4 I4 gb W room L4 bb sb rb nR y z (regs.set n (t : Int)) (rregs.set n v) arrs rarrs v1 v2 (.slice a3 na c3) v4 (.slice av nv cv) (Thing.box q 36 #[.int .u8 x.k, .int .u8 x.r, .int .u8 x.ar, .int .u8 x.a, .int .u8 x.b, .int .u64 x.n] :: ts))) HGS.out ?_
    intro wc hwc
    have hbn : BothOk W vals nR sizes L4 (regs.set n (t : Int)) (rregs.set n v) arrs rarrs := ⟨HG.out.1, (HB.out.regs.keep HG.out.2.1).set n HG.out.2.2.2.1 HG.out.2.2.2.2, by rw [List.length_set]; exact HB.out.nregs, HB.out.arrs.keep HG.out.2.1⟩
    have hsame := Lab.bsame HI.out hbn HY.out.1 HY.out.2.1 (by have := HY.out.2.2; have := HG.out.2.2.1; omega) hwc
    have HSAME := Lib.hid hsame; have HBN := Lib.hid hbn
    clear hsame hwc hbn HGS
    go_wp2_with fail
    go_at_call 9
    refine HSAME.out.mono ?_
    rintro e wd ⟨L9, F9, I9, rfl, hp9, hok9, hph9, hwd⟩
    have HWD := Lib.hid (And.intro hp9 (And.intro hok9 (And.intro hph9 hwd)))
    clear hp9 hok9 hph9 hwd HSAME
    go_wp2
    go_ret
    refine ⟨L9, F9, I9, y, regs.set n (t : Int), rregs.set n v, arrs, rarrs, rfl, HG.out.2.1.trans HWD.out.1, ⟨HWD.out.2.1, HBN.out.regs.keep HWD.out.1, HBN.out.nregs, HBN.out.arrs.keep HWD.out.1⟩, by have := HWD.out.2.2.1; have := HG.out.2.2.1; omega, HY.out.1, HY.out.2.1, ?_⟩
    exact HWD.out.2.2.2.subl (.cons_cons _ (.cons_cons _ (.cons_cons _ (.cons_cons _ (.cons _ (List.Sublist.refl _))))))
  · have HE2 : Hid (Calls Tryz.prog 27 #[.pointer (some ⟨gb, 0, none⟩), .int .i64 t3, .slice av nv cv] wk.drew fun e w' => e = .returned (.tuple #[.int .u64 0, .int .i64 0]) ∧ Below wk.drew.heap.size wk.drew w') := Lib.hid (by
      have := HEV.out
      rw [if_neg hlt] at this
      exact this)
    have hdl : decide (at' < m) = false := decide_eq_false (by omega)
    have HR2 : Hid (∀ wx, Lab w0 wx (bothTs F3 I3 gb W room L3 bb sb rb nR y z regs rregs arrs rarrs v1 v2 (.slice a3 na c3) v4 (.slice av nv cv) (Thing.box q 36 #[.int .u8 x.k, .int .u8 x.r, .int .u8 x.ar, .int .u8 x.a, .int .u8 x.b, .int .u64 x.n] :: ts)) → Calls Tryz.prog 28 #[.pointer (some ⟨rb, 0, none⟩), .int .i64 a, .int .u64 at'] wx fun e w' => e = .returned (.bool false) ∧ wx = w') := Lib.hid (fun wx hx => by
      have := HRIN.out wx hx
      rw [hdl] at this
      exact this)
    clear HEV HRIN hdl
    go_region_held3 (fun w' => w'.cell? ⟨bb, 0, none⟩ = some (.pointer (some ⟨gb, 0, none⟩)) ∧ w'.cell? ⟨bb, 9, none⟩ = some (.slice av nv cv)) (first | exact ⟨by assumption, by assumption⟩ | go_keep)
      (first | (go_at_call 27; refine HE2.out.mono ?_; rintro e wl ⟨rfl, hbl⟩; have u0 := cell_later hbl (show wk.drew.cell? ⟨bb, 0, none⟩ = _ from c0); have u9 := cell_later hbl (show wk.drew.cell? ⟨bb, 9, none⟩ = _ from c9); have HWL := Lib.hid (HWK.out.later hbl); clear hbl))
    clear u0 u9 HE2 HWK
    go_upto_region 26 with fail
    clear q0 q1 q2 q3 q4 q5 c0 c1 c2 c4 c7 c9
    refine wp_abs (fun wx => Lab w0 wx (bothTs F3 I3 gb W room L3 bb sb rb nR y z regs rregs arrs rarrs v1 v2 (.slice a3 na c3) v4 (.slice av nv cv) (Thing.box q 36 #[.int .u8 x.k, .int .u8 x.r, .int .u8 x.ar, .int .u8 x.a, .int .u8 x.b, .int .u64 x.n] :: ts))) HWL.out ?_
    intro wm hwm
    have hrow : wm.heap[q]? = some (.cells #[.int .u8 x.k, .int .u8 x.r, .int .u8 x.ar, .int .u8 x.a, .int .u8 x.b, .int .u64 x.n] 36 (0, 0)) := hwm.fifth
    have q0 := cell_of_cells hrow (i := 0) rfl
    have q1 := cell_of_cells hrow (i := 1) rfl
    have q2 := cell_of_cells hrow (i := 2) rfl
    have q3 := cell_of_cells hrow (i := 3) rfl
    have q4 := cell_of_cells hrow (i := 4) rfl
    have q5 := cell_of_cells hrow (i := 5) rfl
    obtain ⟨c0, c1, c2, -, c4, c7, c9⟩ := both_cells hwm.fourth
    clear hrow
    have hri := HR2.out wm hwm
    have HRI := Lib.hid hri; have HWM := Lib.hid hwm
    clear hri hwm HWL HR2
    go_wp2_with fail
    go_at_call 28
    refine HRI.out.mono ?_
    rintro e wn ⟨rfl, rfl⟩
    clear HRI
    go_wp2
    go_ret
    refine ⟨L3, F3, I3, y, regs, rregs, arrs, rarrs, rfl, HGi.out.2.1.trans HG3.out.1.pre, ⟨HG3.out.1.ok, HB.out.regs.keep (HGi.out.2.1.trans HG3.out.1.pre), HB.out.nregs, HB.out.arrs.keep (HGi.out.2.1.trans HG3.out.1.pre)⟩, by have := HG3.out.2; omega, HY.out.1, HY.out.2.1, ?_⟩
    exact HWM.out.subl (.cons_cons _ (.cons_cons _ (.cons_cons _ (.cons_cons _ (.cons _ (List.Sublist.refl _))))))
end
end Go.Proofs.YtiklidgcmheofaaGreatDoor
namespace Go.Proofs.YtiklidgcmheofaaGreatDoor
open Go.RowKit Go.Maps
set_option maxHeartbeats 6400000
section
variable {w0 wr w : World} {ts : List Thing} {F I : List Nat} {gb W room bb sb rb nR : Nat} {L : List PNode} {y z : Lay} {regs rregs vals sizes : List Int} {arrs rarrs : List (List Int)} {v1 v2 v3 v4 vv : Value}
set_option maxRecDepth 100000 in
theorem Lab.does_4 (hI : BothIn w0 W nR sizes vals v3 vv) (hb : BothOk W vals nR sizes L regs rregs arrs rarrs) (hy : arrs.length = y.vs.length) (hz : rarrs.length = z.vs.length) (hph : phi W L + 40 < room) (x : ActD) (hx : x.Ok) (hk : x.k % 6 = 4)
    (h : Lab w0 wr (bothTs F I gb W room L bb sb rb nR y z regs rregs arrs rarrs v1 v2 v3 v4 vv ts)) :
    Calls Tryz.prog 10 #[.pointer (some ⟨bb, 0, none⟩), x.val] wr (DoesPost w0 gb W room bb sb rb nR L z vals sizes v1 v2 v3 v4 vv ts) := by
  obtain ⟨a3, na, c3, e3, hna, hsz⟩ := hI.sz
  obtain ⟨av, nv, cv, ev, hnv, hvl⟩ := hI.vl
  subst e3 ev
  obtain ⟨n, hn⟩ : ∃ n, x.r % nR = n := ⟨_, rfl⟩
  obtain ⟨a, ha⟩ : ∃ a, x.ar % na = a := ⟨_, rfl⟩
  have hR1 := hI.R1; have hR2 := hI.R2
  have hA1 : 1 ≤ na := by have := hI.A1; omega
  have hA2 : na ≤ 4 := by have := hI.A2; omega
  have hnR : n < nR := by rw [← hn]; exact Nat.mod_lt _ (by omega)
  have haN : a < na := by rw [← ha]; exact Nat.mod_lt _ (by omega)
  have hmod1 := tmod_nat x.r nR
  rw [hn] at hmod1
  have hmod2 := tmod_nat x.ar na
  rw [ha] at hmod2
  have hmodk := tmod_nat x.k 6
  rw [hk] at hmodk
  replace hmodk : ((x.k : Int)).tmod 6 = 4 := hmodk
  have nR0 : ¬ nR = 0 := by omega
  have nA0 : ¬ na = 0 := by omega
  obtain ⟨xk, xr, xar, xa, xb, xn⟩ := hx
  have hb0 := h.alloc #[.int .u8 x.k, .int .u8 x.r, .int .u8 x.ar, .int .u8 x.a, .int .u8 x.b, .int .u64 x.n] 36
  obtain ⟨q, hq⟩ : ∃ q, wr.heap.size = q := ⟨_, rfl⟩
  rw [hq] at hb0
  replace hb0 := hb0.sink5
  have HI := Lib.hid hI; have HB := Lib.hid hb; have HY := Lib.hid (And.intro hy (And.intro hz hph)); have HL := Lib.hid hb0; have HS := Lib.hid (And.intro hna hsz); have HV := Lib.hid (And.intro hnv hvl); have HX := Lib.hid (And.intro xk (And.intro xr (And.intro xar (And.intro xa (And.intro xb xn))))); have HN := Lib.hid (And.intro hnR haN)
  clear hI hb hy hz hph h hb0 hna hsz hnv hvl hk hn ha
  unfold ActD.val
  go_enter Tryz.func10, Tryz.ntmps10
  go_upto_region 1 with fail
  refine wp_abs (fun wx => Lab w0 wx (bothTs F I gb W room L bb sb rb nR y z regs rregs arrs rarrs v1 v2 (.slice a3 na c3) v4 (.slice av nv cv) (Thing.box q 36 #[.int .u8 x.k, .int .u8 x.r, .int .u8 x.ar, .int .u8 x.a, .int .u8 x.b, .int .u64 x.n] :: ts))) HL.out ?_
  intro w1 hw1
  have hrow : w1.heap[q]? = some (.cells #[.int .u8 x.k, .int .u8 x.r, .int .u8 x.ar, .int .u8 x.a, .int .u8 x.b, .int .u64 x.n] 36 (0, 0)) := hw1.fifth
  have q0 := cell_of_cells hrow (i := 0) rfl
  have q1 := cell_of_cells hrow (i := 1) rfl
  have q2 := cell_of_cells hrow (i := 2) rfl
  have q3 := cell_of_cells hrow (i := 3) rfl
  have q4 := cell_of_cells hrow (i := 4) rfl
  have q5 := cell_of_cells hrow (i := 5) rfl
  obtain ⟨c0, c1, c2, -, c4, c7, c9⟩ := both_cells hw1.fourth
  clear hrow
  have HW1 := Lib.hid hw1
  clear hw1 HL hq
  go_quiet (fail)
  obtain ⟨xs, us, hxs, hus, hrel, hsize⟩ := HB.out.arrs.each a (by have := HS.out.1; have := HN.out.2; omega)
  obtain ⟨m, hm⟩ : ∃ m, us.length = m := ⟨_, rfl⟩
  rw [hm] at hsize
  have hm8 := HI.out.each _ (List.mem_of_getElem? hsize)
  have hm1 : 1 ≤ m := by omega
  have hm2 : m ≤ 8 := by omega
  have HA := Lib.hid (And.intro hxs (And.intro hus (And.intro hrel (And.intro hm hsize))))
  clear hxs hus hrel hm hsize hm8
  go_upto_region 20 with fail
  clear q0 q1 q2 q3 q4 q5 c0 c1 c2 c4 c7 c9
  refine wp_abs (fun wx => Lab w0 wx (bothTs F I gb W room L bb sb rb nR y z regs rregs arrs rarrs v1 v2 (.slice a3 na c3) v4 (.slice av nv cv) (Thing.box q 36 #[.int .u8 x.k, .int .u8 x.r, .int .u8 x.ar, .int .u8 x.a, .int .u8 x.b, .int .u64 x.n] :: ts))) (HW1.out.drewN _) ?_
  intro w2 hw2
  have hrow : w2.heap[q]? = some (.cells #[.int .u8 x.k, .int .u8 x.r, .int .u8 x.ar, .int .u8 x.a, .int .u8 x.b, .int .u64 x.n] 36 (0, 0)) := hw2.fifth
  have q0 := cell_of_cells hrow (i := 0) rfl
  have q1 := cell_of_cells hrow (i := 1) rfl
  have q2 := cell_of_cells hrow (i := 2) rfl
  have q3 := cell_of_cells hrow (i := 3) rfl
  have q4 := cell_of_cells hrow (i := 4) rfl
  have q5 := cell_of_cells hrow (i := 5) rfl
  obtain ⟨c0, c1, c2, -, c4, c7, c9⟩ := both_cells hw2.fourth
  clear hrow
  obtain ⟨ti, atv, -, hr2, hr3, hr4, hreg⟩ := Lab.breg HI.out.vl HI.out.nvals HI.out.u64 hw2 HY.out.1 HY.out.2.1 HB.out.regs HB.out.nregs hR1 (by omega) x.a xa
  have hatw := HB.out.ok.word vals ti
  rw [hr4] at hatw
  have hp64 := pow_le64 HB.out.ok.w2
  obtain ⟨at', rfl⟩ : ∃ at' : Nat, atv = (at' : Int) := ⟨atv.toNat, by omega⟩
  have hat64 : at' ≤ 18446744073709551615 := by omega
  have HREG := Lib.hid hreg; have HW2 := Lib.hid hw2
  have HGi := Lib.hid (And.intro HB.out.ok (And.intro (List.prefix_refl L) (And.intro (show phi W L ≤ phi W L + 1 by omega) (And.intro hr2 hr4))))
  clear hreg hw2 hr2 hr3 hr4 HW1 hatw hp64
  go_wp2_with fail
  go_at_call 13
  refine HREG.out.mono ?_
  rintro e w3 ⟨rfl, hb3⟩
  have hw3 := HW2.out.later hb3
  clear q0 q1 q2 q3 q4 q5 c0 c1 c2 c4 c7 c9
  clear HREG HW2 hb3
  have hrow : w3.heap[q]? = some (.cells #[.int .u8 x.k, .int .u8 x.r, .int .u8 x.ar, .int .u8 x.a, .int .u8 x.b, .int .u64 x.n] 36 (0, 0)) := hw3.fifth
  have q0 := cell_of_cells hrow (i := 0) rfl
  have q1 := cell_of_cells hrow (i := 1) rfl
  have q2 := cell_of_cells hrow (i := 2) rfl
  have q3 := cell_of_cells hrow (i := 3) rfl
  have q4 := cell_of_cells hrow (i := 4) rfl
  have q5 := cell_of_cells hrow (i := 5) rfl
  obtain ⟨c0, c1, c2, -, c4, c7, c9⟩ := both_cells hw3.fourth
  clear hrow
  have HW3 := Lib.hid hw3
  clear hw3
  go_upto_region 24 with fail
  clear q0 q1 q2 q3 q4 q5 c0 c1 c2 c4 c7 c9
  refine wp_abs (fun wx => Lab w0 wx (bothTs F I gb W room L bb sb rb nR y z regs rregs arrs rarrs v1 v2 (.slice a3 na c3) v4 (.slice av nv cv) (Thing.box q 36 #[.int .u8 x.k, .int .u8 x.r, .int .u8 x.ar, .int .u8 x.a, .int .u8 x.b, .int .u64 x.n] :: ts))) HW3.out ?_
  intro wi hwi
  have hrow : wi.heap[q]? = some (.cells #[.int .u8 x.k, .int .u8 x.r, .int .u8 x.ar, .int .u8 x.a, .int .u8 x.b, .int .u64 x.n] 36 (0, 0)) := hwi.fifth
  have q0 := cell_of_cells hrow (i := 0) rfl
  have q1 := cell_of_cells hrow (i := 1) rfl
  have q2 := cell_of_cells hrow (i := 2) rfl
  have q3 := cell_of_cells hrow (i := 3) rfl
  have q4 := cell_of_cells hrow (i := 4) rfl
  have q5 := cell_of_cells hrow (i := 5) rfl
  obtain ⟨c0, c1, c2, -, c4, c7, c9⟩ := both_cells hwi.fourth
  clear hrow
  have hins := Lab.sinside hwi HY.out.1 HGi.out.1 a HA.out.1 ti HGi.out.2.2.2.1 (by rw [HA.out.2.2.1.1, HA.out.2.2.2.1]; omega) (by have := HY.out.2.2; have := HGi.out.2.2.1; omega)
  rw [HA.out.2.2.1.1, HA.out.2.2.2.1] at hins
  have HINS := Lib.hid hins
  clear hins hwi
  go_wp2_with fail
  go_at_call 26
  refine HINS.out.mono ?_
  rintro e wj ⟨L3, t3, F3, I3, rfl, hg3, hph3, hwj⟩
  replace hwj : Lab w0 wj (bothTs F3 I3 gb W room L3 bb sb rb nR y z regs rregs arrs rarrs v1 v2 (.slice a3 na c3) v4 (.slice av nv cv) (Thing.box q 36 #[.int .u8 x.k, .int .u8 x.r, .int .u8 x.ar, .int .u8 x.a, .int .u8 x.b, .int .u64 x.n] :: ts)) := hwj
  clear q0 q1 q2 q3 q4 q5 c0 c1 c2 c4 c7 c9
  have HWJ := Lib.hid hwj; have HG3 := Lib.hid (And.intro hg3 (show phi W L3 ≤ phi W L + 2 by have := HGi.out.2.2.1; omega))
  clear hwj hg3 hph3 HINS
  go_upto_region 25 with fail
  refine wp_abs (fun wx => Lab w0 wx (bothTs F3 I3 gb W room L3 bb sb rb nR y z regs rregs arrs rarrs v1 v2 (.slice a3 na c3) v4 (.slice av nv cv) (Thing.box q 36 #[.int .u8 x.k, .int .u8 x.r, .int .u8 x.ar, .int .u8 x.a, .int .u8 x.b, .int .u64 x.n] :: ts))) HWJ.out ?_
  intro wk hwk
  have hrow : wk.heap[q]? = some (.cells #[.int .u8 x.k, .int .u8 x.r, .int .u8 x.ar, .int .u8 x.a, .int .u8 x.b, .int .u64 x.n] 36 (0, 0)) := hwk.fifth
  have q0 := cell_of_cells hrow (i := 0) rfl
  have q1 := cell_of_cells hrow (i := 1) rfl
  have q2 := cell_of_cells hrow (i := 2) rfl
  have q3 := cell_of_cells hrow (i := 3) rfl
  have q4 := cell_of_cells hrow (i := 4) rfl
  have q5 := cell_of_cells hrow (i := 5) rfl
  obtain ⟨c0, c1, c2, -, c4, c7, c9⟩ := both_cells hwk.fourth
  clear hrow
  have hev := eval_any (Gr.drewN hwk.gr 1) (t3 : Int) vals (.slice av nv cv) ((HI.out.vl.laterS hwk.below).laterS (below_drewN (Below.refl _ _) 1)) (by have := HI.out.nvals; omega) HI.out.u64
  rw [show evalR W vals L3 (t3 : Int) = (val W vals L3 t3, 0) by unfold evalR; rw [if_pos ⟨by omega, by have := HG3.out.1.lt; omega⟩, Int.toNat_natCast], HG3.out.1.val vals, HGi.out.2.2.2.2] at hev
  have hrin := fun (wx : World) (hx : Lab w0 wx (bothTs F3 I3 gb W room L3 bb sb rb nR y z regs rregs arrs rarrs v1 v2 (.slice a3 na c3) v4 (.slice av nv cv) (Thing.box q 36 #[.int .u8 x.k, .int .u8 x.r, .int .u8 x.ar, .int .u8 x.a, .int .u8 x.b, .int .u64 x.n] :: ts))) => rinside30 (Lab.st_read HY.out.2.1 hx.rot3) HA.out.2.1 (by rw [HA.out.2.2.2.1]; omega) at' hat64
  rw [HA.out.2.2.2.1] at hrin
  have HEV := Lib.hid hev; have HRIN := Lib.hid hrin; have HWK := Lib.hid (hwk.drewN 1)
  clear hev hrin hwk HWJ
  by_cases hlt : (at' : Int) < (m : Int)
  · have HE2 : Hid (Calls Tryz.prog 27 #[.pointer (some ⟨gb, 0, none⟩), .int .i64 t3, .slice av nv cv] wk.drew fun e w' => e = .returned (.tuple #[.int .u64 1, .int .i64 0]) ∧ Below wk.drew.heap.size wk.drew w') := Lib.hid (by
      have := HEV.out
      rw [if_pos hlt] at this
      exact this)
    have hdl : decide (at' < m) = true := decide_eq_true (by omega)
    have HR2 : Hid (∀ wx, Lab w0 wx (bothTs F3 I3 gb W room L3 bb sb rb nR y z regs rregs arrs rarrs v1 v2 (.slice a3 na c3) v4 (.slice av nv cv) (Thing.box q 36 #[.int .u8 x.k, .int .u8 x.r, .int .u8 x.ar, .int .u8 x.a, .int .u8 x.b, .int .u64 x.n] :: ts)) → Calls Tryz.prog 28 #[.pointer (some ⟨rb, 0, none⟩), .int .i64 a, .int .u64 at'] wx fun e w' => e = .returned (.bool true) ∧ wx = w') := Lib.hid (fun wx hx => by
      have := HRIN.out wx hx
      rw [hdl] at this
      exact this)
    clear HEV HRIN hdl
    go_region_held3 (fun w' => w'.cell? ⟨bb, 0, none⟩ = some (.pointer (some ⟨gb, 0, none⟩)) ∧ w'.cell? ⟨bb, 9, none⟩ = some (.slice av nv cv)) (first | exact ⟨by assumption, by assumption⟩ | go_keep)
      (first | (go_at_call 27; refine HE2.out.mono ?_; rintro e wl ⟨rfl, hbl⟩; have u0 := cell_later hbl (show wk.drew.cell? ⟨bb, 0, none⟩ = _ from c0); have u9 := cell_later hbl (show wk.drew.cell? ⟨bb, 9, none⟩ = _ from c9); have HWL := Lib.hid (HWK.out.later hbl); clear hbl))
    clear u0 u9 HE2 HWK
    go_upto_region 26 with fail
    clear q0 q1 q2 q3 q4 q5 c0 c1 c2 c4 c7 c9
    refine wp_abs (fun wx => Lab w0 wx (bothTs F3 I3 gb W room L3 bb sb rb nR y z regs rregs arrs rarrs v1 v2 (.slice a3 na c3) v4 (.slice av nv cv) (Thing.box q 36 #[.int .u8 x.k, .int .u8 x.r, .int .u8 x.ar, .int .u8 x.a, .int .u8 x.b, .int .u64 x.n] :: ts))) HWL.out ?_
    intro wm hwm
    have hrow : wm.heap[q]? = some (.cells #[.int .u8 x.k, .int .u8 x.r, .int .u8 x.ar, .int .u8 x.a, .int .u8 x.b, .int .u64 x.n] 36 (0, 0)) := hwm.fifth
    have q0 := cell_of_cells hrow (i := 0) rfl
    have q1 := cell_of_cells hrow (i := 1) rfl
    have q2 := cell_of_cells hrow (i := 2) rfl
    have q3 := cell_of_cells hrow (i := 3) rfl
    have q4 := cell_of_cells hrow (i := 4) rfl
    have q5 := cell_of_cells hrow (i := 5) rfl
    obtain ⟨c0, c1, c2, -, c4, c7, c9⟩ := both_cells hwm.fourth
    clear hrow
    have hri := HR2.out wm hwm
    have HRI := Lib.hid hri; have HWM := Lib.hid hwm
    clear hri hwm HWL HR2
    go_wp2_with fail
    go_at_call 28
    refine HRI.out.mono ?_
    rintro e wn ⟨rfl, rfl⟩
    clear HRI
    go_upto_region 31 with fail
    clear q0 q1 q2 q3 q4 q5 c0 c1 c2 c4 c7 c9
    refine wp_abs (fun wx => Lab w0 wx (bothTs F3 I3 gb W room L3 bb sb rb nR y z regs rregs arrs rarrs v1 v2 (.slice a3 na c3) v4 (.slice av nv cv) (Thing.box q 36 #[.int .u8 x.k, .int .u8 x.r, .int .u8 x.ar, .int .u8 x.a, .int .u8 x.b, .int .u64 x.n] :: ts))) HWM.out ?_
    intro wo hwo
    have hrow : wo.heap[q]? = some (.cells #[.int .u8 x.k, .int .u8 x.r, .int .u8 x.ar, .int .u8 x.a, .int .u8 x.b, .int .u64 x.n] 36 (0, 0)) := hwo.fifth
    have q0 := cell_of_cells hrow (i := 0) rfl
    have q1 := cell_of_cells hrow (i := 1) rfl
    have q2 := cell_of_cells hrow (i := 2) rfl
    have q3 := cell_of_cells hrow (i := 3) rfl
    have q4 := cell_of_cells hrow (i := 4) rfl
    have q5 := cell_of_cells hrow (i := 5) rfl
    obtain ⟨c0, c1, c2, -, c4, c7, c9⟩ := both_cells hwo.fourth
    clear hrow
    have hp3 := HGi.out.2.1.trans HG3.out.1.pre
    obtain ⟨t, v, -, hr2, hr3, hr4, hreg⟩ := Lab.breg HI.out.vl HI.out.nvals HI.out.u64 hwo HY.out.1 HY.out.2.1 (HB.out.regs.keep hp3) HB.out.nregs hR1 (by omega) x.b xb
    have HREG2 := Lib.hid hreg; have HWO := Lib.hid hwo; have HP3 := Lib.hid hp3; have HV2 := Lib.hid (And.intro hr2 hr4)
    clear hreg hwo hp3 hr2 hr3 hr4 HWM
    go_wp2_with fail
    go_at_call 13
    refine HREG2.out.mono ?_
    rintro e wp ⟨rfl, hbp⟩
    have hwp := HWO.out.later hbp
    clear q0 q1 q2 q3 q4 q5 c0 c1 c2 c4 c7 c9
    clear HREG2 HWO hbp
    have hrow : wp.heap[q]? = some (.cells #[.int .u8 x.k, .int .u8 x.r, .int .u8 x.ar, .int .u8 x.a, .int .u8 x.b, .int .u64 x.n] 36 (0, 0)) := hwp.fifth
    have q0 := cell_of_cells hrow (i := 0) rfl
    have q1 := cell_of_cells hrow (i := 1) rfl
    have q2 := cell_of_cells hrow (i := 2) rfl
    have q3 := cell_of_cells hrow (i := 3) rfl
    have q4 := cell_of_cells hrow (i := 4) rfl
    have q5 := cell_of_cells hrow (i := 5) rfl
    obtain ⟨c0, c1, c2, -, c4, c7, c9⟩ := both_cells hwp.fourth
    clear hrow
    have hput := Lab.sput (x := ti) (t := t) HY.out.1 HA.out.1 (by rw [HA.out.2.2.1.1]; exact HA.out.2.2.2.1) hm1 (by omega) (fun e he => by
      have h1 := HA.out.2.2.1.mem e he
      have h2 := HP3.out.length_le
      omega) HG3.out.1.ok (Nat.lt_of_lt_of_le HGi.out.2.2.2.1 HG3.out.1.pre.length_le) HV2.out.1 (by have := HY.out.2.2; have := HG3.out.2; omega) hwp
    have HPUT := Lib.hid hput
    clear hput hwp
    go_wp2_with fail
    go_at_call 20
    refine HPUT.out.mono ?_
    rintro e wq ⟨L4, ys, y', F4, I4, rfl, hinv, hyl, hwq⟩
    replace hwq : Lab w0 wq (bothTs F4 I4 gb W room L4 bb sb rb nR y' z regs rregs (arrs.set a ys) rarrs v1 v2 (.slice a3 na c3) v4 (.slice av nv cv) (Thing.box q 36 #[.int .u8 x.k, .int .u8 x.r, .int .u8 x.ar, .int .u8 x.a, .int .u8 x.b, .int .u64 x.n] :: ts)) := hwq
    clear q0 q1 q2 q3 q4 q5 c0 c1 c2 c4 c7 c9
    clear HPUT
    have hrow : wq.heap[q]? = some (.cells #[.int .u8 x.k, .int .u8 x.r, .int .u8 x.ar, .int .u8 x.a, .int .u8 x.b, .int .u64 x.n] 36 (0, 0)) := hwq.fifth
    have q0 := cell_of_cells hrow (i := 0) rfl
    have q1 := cell_of_cells hrow (i := 1) rfl
    have q2 := cell_of_cells hrow (i := 2) rfl
    have q3 := cell_of_cells hrow (i := 3) rfl
    have q4 := cell_of_cells hrow (i := 4) rfl
    have q5 := cell_of_cells hrow (i := 5) rfl
    obtain ⟨c0, c1, c2, -, c4, c7, c9⟩ := both_cells hwq.fourth
    clear hrow
    have hrp := Lab.rput30 hwq.rot3 HY.out.2.1 HA.out.2.1 (by rw [HA.out.2.2.2.1]; omega) at' (by rw [HA.out.2.2.2.1]; omega) v
    have hrel4 : RelL W vals L4 ys (us.set at' v) := by
      have h1 := PutInv.rel (at' := at') (by rw [HA.out.2.2.1.1, HA.out.2.2.2.1]; exact hinv) (HA.out.2.2.1.keep HP3.out) (by rw [val_prefix HG3.out.1.pre HGi.out.2.2.2.1]; exact HGi.out.2.2.2.2)
      rw [HV2.out.2] at h1
      exact h1
    have hbn : BothOk W vals nR sizes L4 regs rregs (arrs.set a ys) (rarrs.set a (us.set at' v)) :=
      ⟨hinv.ok, HB.out.regs.keep (HP3.out.trans hinv.pre), HB.out.nregs, HB.out.arrs.set (HP3.out.trans hinv.pre) hrel4 (by rw [List.length_set, HA.out.2.2.2.1]; exact HA.out.2.2.2.2)⟩
    have HRP := Lib.hid hrp; have HBN := Lib.hid (And.intro hbn (And.intro hyl (And.intro (HP3.out.trans hinv.pre) (show phi W L4 ≤ phi W L + 18 by have := hinv.room; have := HG3.out.2; omega))))
    clear hrp hbn hrel4 hinv hyl hwq
    go_wp2_with fail
    go_at_call 29
    refine HRP.out.mono ?_
    rintro e ws ⟨rfl, hws⟩
    replace hws : Lab w0 ws (bothTs F4 I4 gb W room L4 bb sb rb nR y' z regs rregs (arrs.set a ys) (rarrs.set a (us.set at' v)) v1 v2 (.slice a3 na c3) v4 (.slice av nv cv) (Thing.box q 36 #[.int .u8 x.k, .int .u8 x.r, .int .u8 x.ar, .int .u8 x.a, .int .u8 x.b, .int .u64 x.n] :: ts)) := hws.rot3'
    clear q0 q1 q2 q3 q4 q5 c0 c1 c2 c4 c7 c9
    have hsame := Lab.bsame HI.out HBN.out.1 HBN.out.2.1 (by rw [List.length_set]; exact HY.out.2.1) (by have := HY.out.2.2; have := HBN.out.2.2.2; omega) hws
    have HSAME := Lib.hid hsame
    clear hsame hws HRP
    go_wp2_with fail
    go_at_call 9
    refine HSAME.out.mono ?_
    rintro e wd ⟨L9, F9, I9, rfl, hp9, hok9, hph9, hwd⟩
    have HWD := Lib.hid (And.intro hp9 (And.intro hok9 (And.intro hph9 hwd)))
    clear hp9 hok9 hph9 hwd HSAME
    go_wp2
    go_ret
    refine ⟨L9, F9, I9, y', regs, rregs, arrs.set a ys, rarrs.set a (us.set at' v), rfl, HBN.out.2.2.1.trans HWD.out.1, ⟨HWD.out.2.1, HBN.out.1.regs.keep HWD.out.1, HBN.out.1.nregs, HBN.out.1.arrs.keep HWD.out.1⟩, by have := HWD.out.2.2.1; have := HBN.out.2.2.2; omega, HBN.out.2.1, by rw [List.length_set]; exact HY.out.2.1, ?_⟩
    exact HWD.out.2.2.2.subl (.cons_cons _ (.cons_cons _ (.cons_cons _ (.cons_cons _ (.cons _ (List.Sublist.refl _))))))
  · have HE2 : Hid (Calls Tryz.prog 27 #[.pointer (some ⟨gb, 0, none⟩), .int .i64 t3, .slice av nv cv] wk.drew fun e w' => e = .returned (.tuple #[.int .u64 0, .int .i64 0]) ∧ Below wk.drew.heap.size wk.drew w') := Lib.hid (by
      have := HEV.out
      rw [if_neg hlt] at this
      exact this)
    have hdl : decide (at' < m) = false := decide_eq_false (by omega)
    have HR2 : Hid (∀ wx, Lab w0 wx (bothTs F3 I3 gb W room L3 bb sb rb nR y z regs rregs arrs rarrs v1 v2 (.slice a3 na c3) v4 (.slice av nv cv) (Thing.box q 36 #[.int .u8 x.k, .int .u8 x.r, .int .u8 x.ar, .int .u8 x.a, .int .u8 x.b, .int .u64 x.n] :: ts)) → Calls Tryz.prog 28 #[.pointer (some ⟨rb, 0, none⟩), .int .i64 a, .int .u64 at'] wx fun e w' => e = .returned (.bool false) ∧ wx = w') := Lib.hid (fun wx hx => by
      have := HRIN.out wx hx
      rw [hdl] at this
      exact this)
    clear HEV HRIN hdl
    go_region_held3 (fun w' => w'.cell? ⟨bb, 0, none⟩ = some (.pointer (some ⟨gb, 0, none⟩)) ∧ w'.cell? ⟨bb, 9, none⟩ = some (.slice av nv cv)) (first | exact ⟨by assumption, by assumption⟩ | go_keep)
      (first | (go_at_call 27; refine HE2.out.mono ?_; rintro e wl ⟨rfl, hbl⟩; have u0 := cell_later hbl (show wk.drew.cell? ⟨bb, 0, none⟩ = _ from c0); have u9 := cell_later hbl (show wk.drew.cell? ⟨bb, 9, none⟩ = _ from c9); have HWL := Lib.hid (HWK.out.later hbl); clear hbl))
    clear u0 u9 HE2 HWK
    go_upto_region 26 with fail
    clear q0 q1 q2 q3 q4 q5 c0 c1 c2 c4 c7 c9
    refine wp_abs (fun wx => Lab w0 wx (bothTs F3 I3 gb W room L3 bb sb rb nR y z regs rregs arrs rarrs v1 v2 (.slice a3 na c3) v4 (.slice av nv cv) (Thing.box q 36 #[.int .u8 x.k, .int .u8 x.r, .int .u8 x.ar, .int .u8 x.a, .int .u8 x.b, .int .u64 x.n] :: ts))) HWL.out ?_
    intro wm hwm
    have hrow : wm.heap[q]? = some (.cells #[.int .u8 x.k, .int .u8 x.r, .int .u8 x.ar, .int .u8 x.a, .int .u8 x.b, .int .u64 x.n] 36 (0, 0)) := hwm.fifth
    have q0 := cell_of_cells hrow (i := 0) rfl
    have q1 := cell_of_cells hrow (i := 1) rfl
    have q2 := cell_of_cells hrow (i := 2) rfl
    have q3 := cell_of_cells hrow (i := 3) rfl
    have q4 := cell_of_cells hrow (i := 4) rfl
    have q5 := cell_of_cells hrow (i := 5) rfl
    obtain ⟨c0, c1, c2, -, c4, c7, c9⟩ := both_cells hwm.fourth
    clear hrow
    have hri := HR2.out wm hwm
    have HRI := Lib.hid hri; have HWM := Lib.hid hwm
    clear hri hwm HWL HR2
    go_wp2_with fail
    go_at_call 28
    refine HRI.out.mono ?_
    rintro e wn ⟨rfl, rfl⟩
    clear HRI
    go_wp2
    go_ret
    refine ⟨L3, F3, I3, y, regs, rregs, arrs, rarrs, rfl, HGi.out.2.1.trans HG3.out.1.pre, ⟨HG3.out.1.ok, HB.out.regs.keep (HGi.out.2.1.trans HG3.out.1.pre), HB.out.nregs, HB.out.arrs.keep (HGi.out.2.1.trans HG3.out.1.pre)⟩, by have := HG3.out.2; omega, HY.out.1, HY.out.2.1, ?_⟩
    exact HWM.out.subl (.cons_cons _ (.cons_cons _ (.cons_cons _ (.cons_cons _ (.cons _ (List.Sublist.refl _))))))
end
end Go.Proofs.YtiklidgcmheofaaGreatDoor
