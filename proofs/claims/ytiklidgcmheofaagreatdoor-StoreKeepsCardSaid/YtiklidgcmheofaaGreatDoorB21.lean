/- StH5, StI, FlR: joined by wip/bundle.py. -/
import Derived.Test.YtiklidgcmheofaaGreatDoorB1
import Derived.Test.YtiklidgcmheofaaGreatDoorB2
import Derived.Test.YtiklidgcmheofaaGreatDoorB3
import Derived.Test.YtiklidgcmheofaaGreatDoorB4
import Derived.Test.YtiklidgcmheofaaGreatDoorB5
import Derived.Test.YtiklidgcmheofaaGreatDoorB6
import Derived.Test.YtiklidgcmheofaaGreatDoorB7
import Derived.Test.YtiklidgcmheofaaGreatDoorB8
import Derived.Test.YtiklidgcmheofaaGreatDoorB9
import Derived.Test.YtiklidgcmheofaaGreatDoorB10
import Derived.Test.YtiklidgcmheofaaGreatDoorB11
import Derived.Test.YtiklidgcmheofaaGreatDoorB12
import Derived.Test.YtiklidgcmheofaaGreatDoorB13
import Derived.Test.YtiklidgcmheofaaGreatDoorB14
import Derived.Test.YtiklidgcmheofaaGreatDoorB15
import Derived.Test.YtiklidgcmheofaaGreatDoorB16
import Derived.Test.YtiklidgcmheofaaGreatDoorB17
import Derived.Test.YtiklidgcmheofaaGreatDoorB18
import Derived.Test.YtiklidgcmheofaaGreatDoorB19
import Derived.Test.YtiklidgcmheofaaGreatDoorB20
import Derived.BigQuiet
namespace Go.Proofs.YtiklidgcmheofaaGreatDoor
open Go.RowKit Go.Maps
set_option maxHeartbeats 6400000
section
variable {w0 wr w : World} {ts : List Thing} {F I : List Nat} {gb W room bb sb rb nR : Nat} {L : List PNode} {y z : Lay} {regs rregs vals sizes : List Int} {arrs rarrs : List (List Int)} {v1 v2 v3 v4 vv : Value}
set_option maxRecDepth 100000 in
theorem Lab.does_5 (hI : BothIn w0 W nR sizes vals v3 vv) (hb : BothOk W vals nR sizes L regs rregs arrs rarrs) (hy : arrs.length = y.vs.length) (hz : rarrs.length = z.vs.length) (hph : phi W L + 40 < room) (x : ActD) (hx : x.Ok) (hk : x.k % 6 = 5)
    (h : Lab w0 wr (bothTs F I gb W room L bb sb rb nR y z regs rregs arrs rarrs v1 v2 v3 v4 vv ts)) :
    Calls Tryz.prog 10 #[.pointer (some ⟨bb, 0, none⟩), x.val] wr (DoesPost w0 gb W room bb sb rb nR L z vals sizes v1 v2 v3 v4 vv ts) := by
  obtain ⟨a3, na, c3, e3, hna, hsz⟩ := hI.sz
  obtain ⟨av, nv, cv, ev, hnv, hvl⟩ := hI.vl
  subst e3 ev
  obtain ⟨n, hn⟩ : ∃ n, x.r % nR = n := ⟨_, rfl⟩
  obtain ⟨a, ha⟩ : ∃ a, x.ar % na = a := ⟨_, rfl⟩
  have hR1 := hI.R1; have hR2 := hI.R2
  have hA1 : 1 ≤ na := by have := hI.A1; omega
  have hA2 : na ≤ 4 := by have := hI.A2; omega
  have hnR : n < nR := by rw [← hn]; exact Nat.mod_lt _ (by omega)
  have haN : a < na := by rw [← ha]; exact Nat.mod_lt _ (by omega)
  have hmod1 := tmod_nat x.r nR
  rw [hn] at hmod1
  have hmod2 := tmod_nat x.ar na
  rw [ha] at hmod2
  have hmodk := tmod_nat x.k 6
  rw [hk] at hmodk
  replace hmodk : ((x.k : Int)).tmod 6 = 5 := hmodk
  have nR0 : ¬ nR = 0 := by omega
  have nA0 : ¬ na = 0 := by omega
  obtain ⟨xk, xr, xar, xa, xb, xn⟩ := hx
  have hb0 := h.alloc #[.int .u8 x.k, .int .u8 x.r, .int .u8 x.ar, .int .u8 x.a, .int .u8 x.b, .int .u64 x.n] 36
  obtain ⟨q, hq⟩ : ∃ q, wr.heap.size = q := ⟨_, rfl⟩
  rw [hq] at hb0
  replace hb0 := hb0.sink5
  have HI := Lib.hid hI; have HB := Lib.hid hb; have HY := Lib.hid (And.intro hy (And.intro hz hph)); have HL := Lib.hid hb0; have HS := Lib.hid (And.intro hna hsz); have HV := Lib.hid (And.intro hnv hvl); have HX := Lib.hid (And.intro xk (And.intro xr (And.intro xar (And.intro xa (And.intro xb xn))))); have HN := Lib.hid (And.intro hnR haN)
  clear hI hb hy hz hph h hb0 hna hsz hnv hvl hk hn ha
  unfold ActD.val
  go_enter Tryz.func10, Tryz.ntmps10
  go_upto_region 1 with fail
  refine wp_abs (fun wx => Lab w0 wx (bothTs F I gb W room L bb sb rb nR y z regs rregs arrs rarrs v1 v2 (.slice a3 na c3) v4 (.slice av nv cv) (Thing.box q 36 #[.int .u8 x.k, .int .u8 x.r, .int .u8 x.ar, .int .u8 x.a, .int .u8 x.b, .int .u64 x.n] :: ts))) HL.out ?_
  intro w1 hw1
  have hrow : w1.heap[q]? = some (.cells #[.int .u8 x.k, .int .u8 x.r, .int .u8 x.ar, .int .u8 x.a, .int .u8 x.b, .int .u64 x.n] 36 (0, 0)) := hw1.fifth
  have q0 := cell_of_cells hrow (i := 0) rfl
  have q1 := cell_of_cells hrow (i := 1) rfl
  have q2 := cell_of_cells hrow (i := 2) rfl
  have q3 := cell_of_cells hrow (i := 3) rfl
  have q4 := cell_of_cells hrow (i := 4) rfl
  have q5 := cell_of_cells hrow (i := 5) rfl
  obtain ⟨c0, c1, c2, -, c4, c7, c9⟩ := both_cells hw1.fourth
  clear hrow
  have HW1 := Lib.hid hw1
  clear hw1 HL hq
  go_quiet (fail)
  obtain ⟨xs, us, hxs, hus, hrel, hsize⟩ := HB.out.arrs.each a (by have := HS.out.1; have := HN.out.2; omega)
  obtain ⟨m, hm⟩ : ∃ m, us.length = m := ⟨_, rfl⟩
  rw [hm] at hsize
  have hm8 := HI.out.each _ (List.mem_of_getElem? hsize)
  have hm1 : 1 ≤ m := by omega
  have hm2 : m ≤ 8 := by omega
  have HA := Lib.hid (And.intro hxs (And.intro hus (And.intro hrel (And.intro hm hsize))))
  clear hxs hus hrel hm hsize hm8
  obtain ⟨nm, hnm⟩ : ∃ nm, x.n % 10 = nm := ⟨_, rfl⟩
  have hmod10 := tmod_nat x.n 10
  rw [hnm] at hmod10
  replace hmod10 : ((x.n : Int)).tmod 10 = (nm : Int) := hmod10
  have hnm10 : nm < 10 := by omega
  clear hnm
  go_upto_region 5 with fail
  clear q0 q1 q2 q3 q4 q5 c0 c1 c2 c4 c7 c9
  refine wp_abs (fun wx => Lab w0 wx (bothTs F I gb W room L bb sb rb nR y z regs rregs arrs rarrs v1 v2 (.slice a3 na c3) v4 (.slice av nv cv) (Thing.box q 36 #[.int .u8 x.k, .int .u8 x.r, .int .u8 x.ar, .int .u8 x.a, .int .u8 x.b, .int .u64 x.n] :: ts))) (HW1.out.drewN _) ?_
  intro w2 hw2
  have hrow : w2.heap[q]? = some (.cells #[.int .u8 x.k, .int .u8 x.r, .int .u8 x.ar, .int .u8 x.a, .int .u8 x.b, .int .u64 x.n] 36 (0, 0)) := hw2.fifth
  have q0 := cell_of_cells hrow (i := 0) rfl
  have q1 := cell_of_cells hrow (i := 1) rfl
  have q2 := cell_of_cells hrow (i := 2) rfl
  have q3 := cell_of_cells hrow (i := 3) rfl
  have q4 := cell_of_cells hrow (i := 4) rfl
  have q5 := cell_of_cells hrow (i := 5) rfl
  obtain ⟨c0, c1, c2, -, c4, c7, c9⟩ := both_cells hw2.fourth
  clear hrow
  have r0 := (Lab.st_read HY.out.2.1 hw2.rot3).c0
  have htr := rtrim30 (w := w2.drew) r0 HB.out.ok.w1 HB.out.ok.w2 nm (by omega)
  obtain ⟨at', hat⟩ : ∃ v : Nat, nm % 2 ^ W = v := ⟨_, rfl⟩
  rw [hat] at htr
  have hat64 : at' ≤ 18446744073709551615 := by have := Nat.mod_le nm (2 ^ W); omega
  have HT := Lib.hid htr; have HW2 := Lib.hid hw2; have HVV := Lib.hid hat
  clear htr hw2 hat r0 HW1
  go_region_held3 (fun w' => w'.cell? ⟨bb, 2, none⟩ = some (.pointer (some ⟨rb, 0, none⟩)) ∧ w'.cell? ⟨q, 5, none⟩ = some (.int .u64 x.n)) (first | exact ⟨by assumption, by assumption⟩ | go_keep)
    (first | (go_at_call 25; refine HT.out.mono ?_; rintro e w6 ⟨rfl, rfl⟩))
  go_upto_region 6 with fail
  clear q0 q1 q2 q3 q4 q5 c0 c1 c2 c4 c7 c9
  refine wp_abs (fun wx => Lab w0 wx (bothTs F I gb W room L bb sb rb nR y z regs rregs arrs rarrs v1 v2 (.slice a3 na c3) v4 (.slice av nv cv) (Thing.box q 36 #[.int .u8 x.k, .int .u8 x.r, .int .u8 x.ar, .int .u8 x.a, .int .u8 x.b, .int .u64 x.n] :: ts))) (HW2.out.drewN _) ?_
  intro w3 hw3
  have hrow : w3.heap[q]? = some (.cells #[.int .u8 x.k, .int .u8 x.r, .int .u8 x.ar, .int .u8 x.a, .int .u8 x.b, .int .u64 x.n] 36 (0, 0)) := hw3.fifth
  have q0 := cell_of_cells hrow (i := 0) rfl
  have q1 := cell_of_cells hrow (i := 1) rfl
  have q2 := cell_of_cells hrow (i := 2) rfl
  have q3 := cell_of_cells hrow (i := 3) rfl
  have q4 := cell_of_cells hrow (i := 4) rfl
  have q5 := cell_of_cells hrow (i := 5) rfl
  obtain ⟨c0, c1, c2, -, c4, c7, c9⟩ := both_cells hw3.fourth
  clear hrow
  obtain ⟨L2, ti, hg2, hph2, -, -, hnmb⟩ := Lab.bnumber HI.out.vl HI.out.nvals HI.out.u64 hw3 HY.out.1 HY.out.2.1 HB.out.ok (by have := HY.out.2.2; omega) nm (by omega)
  have HNM := Lib.hid hnmb
  have HGi := Lib.hid (And.intro hg2.ok (And.intro hg2.pre (And.intro hph2 (And.intro hg2.lt (show val W vals L2 ti = (at' : Int) by rw [hg2.val vals, HVV.out])))))
  clear hnmb hg2 hph2 hw3 HT HW2
  go_wp2_with fail
  go_at_call 22
  refine HNM.out.mono ?_
  rintro e w4 ⟨F2, I2, rfl, hw4⟩
  clear q0 q1 q2 q3 q4 q5 c0 c1 c2 c4 c7 c9
  have hrow : w4.heap[q]? = some (.cells #[.int .u8 x.k, .int .u8 x.r, .int .u8 x.ar, .int .u8 x.a, .int .u8 x.b, .int .u64 x.n] 36 (0, 0)) := hw4.fifth
  have q0 := cell_of_cells hrow (i := 0) rfl
  have q1 := cell_of_cells hrow (i := 1) rfl
  have q2 := cell_of_cells hrow (i := 2) rfl
  have q3 := cell_of_cells hrow (i := 3) rfl
  have q4 := cell_of_cells hrow (i := 4) rfl
  have q5 := cell_of_cells hrow (i := 5) rfl
  obtain ⟨c0, c1, c2, -, c4, c7, c9⟩ := both_cells hw4.fourth
  clear hrow
  have HW4 := Lib.hid hw4
  clear hw4 HNM
  go_upto_region 24 with fail
  clear q0 q1 q2 q3 q4 q5 c0 c1 c2 c4 c7 c9
  refine wp_abs (fun wx => Lab w0 wx (bothTs F2 I2 gb W room L2 bb sb rb nR y z regs rregs arrs rarrs v1 v2 (.slice a3 na c3) v4 (.slice av nv cv) (Thing.box q 36 #[.int .u8 x.k, .int .u8 x.r, .int .u8 x.ar, .int .u8 x.a, .int .u8 x.b, .int .u64 x.n] :: ts))) HW4.out ?_
  intro wi hwi
  have hrow : wi.heap[q]? = some (.cells #[.int .u8 x.k, .int .u8 x.r, .int .u8 x.ar, .int .u8 x.a, .int .u8 x.b, .int .u64 x.n] 36 (0, 0)) := hwi.fifth
  have q0 := cell_of_cells hrow (i := 0) rfl
  have q1 := cell_of_cells hrow (i := 1) rfl
  have q2 := cell_of_cells hrow (i := 2) rfl
  have q3 := cell_of_cells hrow (i := 3) rfl
  have q4 := cell_of_cells hrow (i := 4) rfl
  have q5 := cell_of_cells hrow (i := 5) rfl
  obtain ⟨c0, c1, c2, -, c4, c7, c9⟩ := both_cells hwi.fourth
  clear hrow
  have hins := Lab.sinside hwi HY.out.1 HGi.out.1 a HA.out.1 ti HGi.out.2.2.2.1 (by rw [HA.out.2.2.1.1, HA.out.2.2.2.1]; omega) (by have := HY.out.2.2; have := HGi.out.2.2.1; omega)
  rw [HA.out.2.2.1.1, HA.out.2.2.2.1] at hins
  have HINS := Lib.hid hins
  clear hins hwi
  go_wp2_with fail
  go_at_call 26
  refine HINS.out.mono ?_
  rintro e wj ⟨L3, t3, F3, I3, rfl, hg3, hph3, hwj⟩
  replace hwj : Lab w0 wj (bothTs F3 I3 gb W room L3 bb sb rb nR y z regs rregs arrs rarrs v1 v2 (.slice a3 na c3) v4 (.slice av nv cv) (Thing.box q 36 #[.int .u8 x.k, .int .u8 x.r, .int .u8 x.ar, .int .u8 x.a, .int .u8 x.b, .int .u64 x.n] :: ts)) := hwj
  clear q0 q1 q2 q3 q4 q5 c0 c1 c2 c4 c7 c9
  have HWJ := Lib.hid hwj; have HG3 := Lib.hid (And.intro hg3 (show phi W L3 ≤ phi W L + 2 by have := HGi.out.2.2.1; omega))
  clear hwj hg3 hph3 HINS
  go_upto_region 25 with fail
  refine wp_abs (fun wx => Lab w0 wx (bothTs F3 I3 gb W room L3 bb sb rb nR y z regs rregs arrs rarrs v1 v2 (.slice a3 na c3) v4 (.slice av nv cv) (Thing.box q 36 #[.int .u8 x.k, .int .u8 x.r, .int .u8 x.ar, .int .u8 x.a, .int .u8 x.b, .int .u64 x.n] :: ts))) HWJ.out ?_
  intro wk hwk
  have hrow : wk.heap[q]? = some (.cells #[.int .u8 x.k, .int .u8 x.r, .int .u8 x.ar, .int .u8 x.a, .int .u8 x.b, .int .u64 x.n] 36 (0, 0)) := hwk.fifth
  have q0 := cell_of_cells hrow (i := 0) rfl
  have q1 := cell_of_cells hrow (i := 1) rfl
  have q2 := cell_of_cells hrow (i := 2) rfl
  have q3 := cell_of_cells hrow (i := 3) rfl
  have q4 := cell_of_cells hrow (i := 4) rfl
  have q5 := cell_of_cells hrow (i := 5) rfl
  obtain ⟨c0, c1, c2, -, c4, c7, c9⟩ := both_cells hwk.fourth
  clear hrow
  have hev := eval_any (Gr.drewN hwk.gr 1) (t3 : Int) vals (.slice av nv cv) ((HI.out.vl.laterS hwk.below).laterS (below_drewN (Below.refl _ _) 1)) (by have := HI.out.nvals; omega) HI.out.u64
  rw [show evalR W vals L3 (t3 : Int) = (val W vals L3 t3, 0) by unfold evalR; rw [if_pos ⟨by omega, by have := HG3.out.1.lt; omega⟩, Int.toNat_natCast], HG3.out.1.val vals, HGi.out.2.2.2.2] at hev
  have hrin := fun (wx : World) (hx : Lab w0 wx (bothTs F3 I3 gb W room L3 bb sb rb nR y z regs rregs arrs rarrs v1 v2 (.slice a3 na c3) v4 (.slice av nv cv) (Thing.box q 36 #[.int .u8 x.k, .int .u8 x.r, .int .u8 x.ar, .int .u8 x.a, .int .u8 x.b, .int .u64 x.n] :: ts))) => rinside30 (Lab.st_read HY.out.2.1 hx.rot3) HA.out.2.1 (by rw [HA.out.2.2.2.1]; omega) at' hat64
  rw [HA.out.2.2.2.1] at hrin
  have HEV := Lib.hid hev; have HRIN := Lib.hid hrin; have HWK := Lib.hid (hwk.drewN 1)
  clear hev hrin hwk HWJ
  by_cases hlt : (at' : Int) < (m : Int)
  · have HE2 : Hid (Calls Tryz.prog 27 #[.pointer (some ⟨gb, 0, none⟩), .int .i64 t3, .slice av nv cv] wk.drew fun e w' => e = .returned (.tuple #[.int .u64 1, .int .i64 0]) ∧ Below wk.drew.heap.size wk.drew w') := Lib.hid (by
      have := HEV.out
      rw [if_pos hlt] at this
      exact this)
    have hdl : decide (at' < m) = true := decide_eq_true (by omega)
    have HR2 : Hid (∀ wx, Lab w0 wx (bothTs F3 I3 gb W room L3 bb sb rb nR y z regs rregs arrs rarrs v1 v2 (.slice a3 na c3) v4 (.slice av nv cv) (Thing.box q 36 #[.int .u8 x.k, .int .u8 x.r, .int .u8 x.ar, .int .u8 x.a, .int .u8 x.b, .int .u64 x.n] :: ts)) → Calls Tryz.prog 28 #[.pointer (some ⟨rb, 0, none⟩), .int .i64 a, .int .u64 at'] wx fun e w' => e = .returned (.bool true) ∧ wx = w') := Lib.hid (fun wx hx => by
      have := HRIN.out wx hx
      rw [hdl] at this
      exact this)
    clear HEV HRIN hdl
    go_region_held3 (fun w' => w'.cell? ⟨bb, 0, none⟩ = some (.pointer (some ⟨gb, 0, none⟩)) ∧ w'.cell? ⟨bb, 9, none⟩ = some (.slice av nv cv)) (first | exact ⟨by assumption, by assumption⟩ | go_keep)
      (first | (go_at_call 27; refine HE2.out.mono ?_; rintro e wl ⟨rfl, hbl⟩; have u0 := cell_later hbl (show wk.drew.cell? ⟨bb, 0, none⟩ = _ from c0); have u9 := cell_later hbl (show wk.drew.cell? ⟨bb, 9, none⟩ = _ from c9); have HWL := Lib.hid (HWK.out.later hbl); clear hbl))
    clear u0 u9 HE2 HWK
    go_upto_region 26 with fail
    clear q0 q1 q2 q3 q4 q5 c0 c1 c2 c4 c7 c9
    refine wp_abs (fun wx => Lab w0 wx (bothTs F3 I3 gb W room L3 bb sb rb nR y z regs rregs arrs rarrs v1 v2 (.slice a3 na c3) v4 (.slice av nv cv) (Thing.box q 36 #[.int .u8 x.k, .int .u8 x.r, .int .u8 x.ar, .int .u8 x.a, .int .u8 x.b, .int .u64 x.n] :: ts))) HWL.out ?_
    intro wm hwm
    have hrow : wm.heap[q]? = some (.cells #[.int .u8 x.k, .int .u8 x.r, .int .u8 x.ar, .int .u8 x.a, .int .u8 x.b, .int .u64 x.n] 36 (0, 0)) := hwm.fifth
    have q0 := cell_of_cells hrow (i := 0) rfl
    have q1 := cell_of_cells hrow (i := 1) rfl
    have q2 := cell_of_cells hrow (i := 2) rfl
    have q3 := cell_of_cells hrow (i := 3) rfl
    have q4 := cell_of_cells hrow (i := 4) rfl
    have q5 := cell_of_cells hrow (i := 5) rfl
    obtain ⟨c0, c1, c2, -, c4, c7, c9⟩ := both_cells hwm.fourth
    clear hrow
    have hri := HR2.out wm hwm
    have HRI := Lib.hid hri; have HWM := Lib.hid hwm
    clear hri hwm HWL HR2
    go_wp2_with fail
    go_at_call 28
    refine HRI.out.mono ?_
    rintro e wn ⟨rfl, rfl⟩
    clear HRI
    go_upto_region 31 with fail
    clear q0 q1 q2 q3 q4 q5 c0 c1 c2 c4 c7 c9
    refine wp_abs (fun wx => Lab w0 wx (bothTs F3 I3 gb W room L3 bb sb rb nR y z regs rregs arrs rarrs v1 v2 (.slice a3 na c3) v4 (.slice av nv cv) (Thing.box q 36 #[.int .u8 x.k, .int .u8 x.r, .int .u8 x.ar, .int .u8 x.a, .int .u8 x.b, .int .u64 x.n] :: ts))) HWM.out ?_
    intro wo hwo
    have hrow : wo.heap[q]? = some (.cells #[.int .u8 x.k, .int .u8 x.r, .int .u8 x.ar, .int .u8 x.a, .int .u8 x.b, .int .u64 x.n] 36 (0, 0)) := hwo.fifth
    have q0 := cell_of_cells hrow (i := 0) rfl
    have q1 := cell_of_cells hrow (i := 1) rfl
    have q2 := cell_of_cells hrow (i := 2) rfl
    have q3 := cell_of_cells hrow (i := 3) rfl
    have q4 := cell_of_cells hrow (i := 4) rfl
    have q5 := cell_of_cells hrow (i := 5) rfl
    obtain ⟨c0, c1, c2, -, c4, c7, c9⟩ := both_cells hwo.fourth
    clear hrow
    have hp3 := HGi.out.2.1.trans HG3.out.1.pre
    obtain ⟨t, v, -, hr2, hr3, hr4, hreg⟩ := Lab.breg HI.out.vl HI.out.nvals HI.out.u64 hwo HY.out.1 HY.out.2.1 (HB.out.regs.keep hp3) HB.out.nregs hR1 (by omega) x.b xb
    have HREG2 := Lib.hid hreg; have HWO := Lib.hid hwo; have HP3 := Lib.hid hp3; have HV2 := Lib.hid (And.intro hr2 hr4)
    clear hreg hwo hp3 hr2 hr3 hr4 HWM
    go_wp2_with fail
    go_at_call 13
    refine HREG2.out.mono ?_
    rintro e wp ⟨rfl, hbp⟩
    have hwp := HWO.out.later hbp
    clear q0 q1 q2 q3 q4 q5 c0 c1 c2 c4 c7 c9
    clear HREG2 HWO hbp
    have hrow : wp.heap[q]? = some (.cells #[.int .u8 x.k, .int .u8 x.r, .int .u8 x.ar, .int .u8 x.a, .int .u8 x.b, .int .u64 x.n] 36 (0, 0)) := hwp.fifth
    have q0 := cell_of_cells hrow (i := 0) rfl
    have q1 := cell_of_cells hrow (i := 1) rfl
    have q2 := cell_of_cells hrow (i := 2) rfl
    have q3 := cell_of_cells hrow (i := 3) rfl
    have q4 := cell_of_cells hrow (i := 4) rfl
    have q5 := cell_of_cells hrow (i := 5) rfl
    obtain ⟨c0, c1, c2, -, c4, c7, c9⟩ := both_cells hwp.fourth
    clear hrow
    have hput := Lab.sput (x := ti) (t := t) HY.out.1 HA.out.1 (by rw [HA.out.2.2.1.1]; exact HA.out.2.2.2.1) hm1 (by omega) (fun e he => by
      have h1 := HA.out.2.2.1.mem e he
      have h2 := HP3.out.length_le
      omega) HG3.out.1.ok (Nat.lt_of_lt_of_le HGi.out.2.2.2.1 HG3.out.1.pre.length_le) HV2.out.1 (by have := HY.out.2.2; have := HG3.out.2; omega) hwp
    have HPUT := Lib.hid hput
    clear hput hwp
    go_wp2_with fail
    go_at_call 20
    refine HPUT.out.mono ?_
    rintro e wq ⟨L4, ys, y', F4, I4, rfl, hinv, hyl, hwq⟩
    replace hwq : Lab w0 wq (bothTs F4 I4 gb W room L4 bb sb rb nR y' z regs rregs (arrs.set a ys) rarrs v1 v2 (.slice a3 na c3) v4 (.slice av nv cv) (Thing.box q 36 #[.int .u8 x.k, .int .u8 x.r, .int .u8 x.ar, .int .u8 x.a, .int .u8 x.b, .int .u64 x.n] :: ts)) := hwq
    clear q0 q1 q2 q3 q4 q5 c0 c1 c2 c4 c7 c9
    clear HPUT
    have hrow : wq.heap[q]? = some (.cells #[.int .u8 x.k, .int .u8 x.r, .int .u8 x.ar, .int .u8 x.a, .int .u8 x.b, .int .u64 x.n] 36 (0, 0)) := hwq.fifth
    have q0 := cell_of_cells hrow (i := 0) rfl
    have q1 := cell_of_cells hrow (i := 1) rfl
    have q2 := cell_of_cells hrow (i := 2) rfl
    have q3 := cell_of_cells hrow (i := 3) rfl
    have q4 := cell_of_cells hrow (i := 4) rfl
    have q5 := cell_of_cells hrow (i := 5) rfl
    obtain ⟨c0, c1, c2, -, c4, c7, c9⟩ := both_cells hwq.fourth
    clear hrow
    have hrp := Lab.rput30 hwq.rot3 HY.out.2.1 HA.out.2.1 (by rw [HA.out.2.2.2.1]; omega) at' (by rw [HA.out.2.2.2.1]; omega) v
    have hrel4 : RelL W vals L4 ys (us.set at' v) := by
      have h1 := PutInv.rel (at' := at') (by rw [HA.out.2.2.1.1, HA.out.2.2.2.1]; exact hinv) (HA.out.2.2.1.keep HP3.out) (by rw [val_prefix HG3.out.1.pre HGi.out.2.2.2.1]; exact HGi.out.2.2.2.2)
      rw [HV2.out.2] at h1
      exact h1
    have hbn : BothOk W vals nR sizes L4 regs rregs (arrs.set a ys) (rarrs.set a (us.set at' v)) :=
      ⟨hinv.ok, HB.out.regs.keep (HP3.out.trans hinv.pre), HB.out.nregs, HB.out.arrs.set (HP3.out.trans hinv.pre) hrel4 (by rw [List.length_set, HA.out.2.2.2.1]; exact HA.out.2.2.2.2)⟩
    have HRP := Lib.hid hrp; have HBN := Lib.hid (And.intro hbn (And.intro hyl (And.intro (HP3.out.trans hinv.pre) (show phi W L4 ≤ phi W L + 18 by have := hinv.room; have := HG3.out.2; omega))))
    clear hrp hbn hrel4 hinv hyl hwq
    go_wp2_with fail
    go_at_call 29
    refine HRP.out.mono ?_
    rintro e ws ⟨rfl, hws⟩
    replace hws : Lab w0 ws (bothTs F4 I4 gb W room L4 bb sb rb nR y' z regs rregs (arrs.set a ys) (rarrs.set a (us.set at' v)) v1 v2 (.slice a3 na c3) v4 (.slice av nv cv) (Thing.box q 36 #[.int .u8 x.k, .int .u8 x.r, .int .u8 x.ar, .int .u8 x.a, .int .u8 x.b, .int .u64 x.n] :: ts)) := hws.rot3'
    clear q0 q1 q2 q3 q4 q5 c0 c1 c2 c4 c7 c9
    have hsame := Lab.bsame HI.out HBN.out.1 HBN.out.2.1 (by rw [List.length_set]; exact HY.out.2.1) (by have := HY.out.2.2; have := HBN.out.2.2.2; omega) hws
    have HSAME := Lib.hid hsame
    clear hsame hws HRP
    go_wp2_with fail
    go_at_call 9
    refine HSAME.out.mono ?_
    rintro e wd ⟨L9, F9, I9, rfl, hp9, hok9, hph9, hwd⟩
    have HWD := Lib.hid (And.intro hp9 (And.intro hok9 (And.intro hph9 hwd)))
    clear hp9 hok9 hph9 hwd HSAME
    go_wp2
    go_ret
    refine ⟨L9, F9, I9, y', regs, rregs, arrs.set a ys, rarrs.set a (us.set at' v), rfl, HBN.out.2.2.1.trans HWD.out.1, ⟨HWD.out.2.1, HBN.out.1.regs.keep HWD.out.1, HBN.out.1.nregs, HBN.out.1.arrs.keep HWD.out.1⟩, by have := HWD.out.2.2.1; have := HBN.out.2.2.2; omega, HBN.out.2.1, by rw [List.length_set]; exact HY.out.2.1, ?_⟩
    exact HWD.out.2.2.2.subl (.cons_cons _ (.cons_cons _ (.cons_cons _ (.cons_cons _ (.cons _ (List.Sublist.refl _))))))
  · have HE2 : Hid (Calls Tryz.prog 27 #[.pointer (some ⟨gb, 0, none⟩), .int .i64 t3, .slice av nv cv] wk.drew fun e w' => e = .returned (.tuple #[.int .u64 0, .int .i64 0]) ∧ Below wk.drew.heap.size wk.drew w') := Lib.hid (by
      have := HEV.out
      rw [if_neg hlt] at this
      exact this)
    have hdl : decide (at' < m) = false := decide_eq_false (by omega)
    have HR2 : Hid (∀ wx, Lab w0 wx (bothTs F3 I3 gb W room L3 bb sb rb nR y z regs rregs arrs rarrs v1 v2 (.slice a3 na c3) v4 (.slice av nv cv) (Thing.box q 36 #[.int .u8 x.k, .int .u8 x.r, .int .u8 x.ar, .int .u8 x.a, .int .u8 x.b, .int .u64 x.n] :: ts)) → Calls Tryz.prog 28 #[.pointer (some ⟨rb, 0, none⟩), .int .i64 a, .int .u64 at'] wx fun e w' => e = .returned (.bool false) ∧ wx = w') := Lib.hid (fun wx hx => by
      have := HRIN.out wx hx
      rw [hdl] at this
      exact this)
    clear HEV HRIN hdl
    go_region_held3 (fun w' => w'.cell? ⟨bb, 0, none⟩ = some (.pointer (some ⟨gb, 0, none⟩)) ∧ w'.cell? ⟨bb, 9, none⟩ = some (.slice av nv cv)) (first | exact ⟨by assumption, by assumption⟩ | go_keep)
      (first | (go_at_call 27; refine HE2.out.mono ?_; rintro e wl ⟨rfl, hbl⟩; have u0 := cell_later hbl (show wk.drew.cell? ⟨bb, 0, none⟩ = _ from c0); have u9 := cell_later hbl (show wk.drew.cell? ⟨bb, 9, none⟩ = _ from c9); have HWL := Lib.hid (HWK.out.later hbl); clear hbl))
    clear u0 u9 HE2 HWK
    go_upto_region 26 with fail
    clear q0 q1 q2 q3 q4 q5 c0 c1 c2 c4 c7 c9
    refine wp_abs (fun wx => Lab w0 wx (bothTs F3 I3 gb W room L3 bb sb rb nR y z regs rregs arrs rarrs v1 v2 (.slice a3 na c3) v4 (.slice av nv cv) (Thing.box q 36 #[.int .u8 x.k, .int .u8 x.r, .int .u8 x.ar, .int .u8 x.a, .int .u8 x.b, .int .u64 x.n] :: ts))) HWL.out ?_
    intro wm hwm
    have hrow : wm.heap[q]? = some (.cells #[.int .u8 x.k, .int .u8 x.r, .int .u8 x.ar, .int .u8 x.a, .int .u8 x.b, .int .u64 x.n] 36 (0, 0)) := hwm.fifth
    have q0 := cell_of_cells hrow (i := 0) rfl
    have q1 := cell_of_cells hrow (i := 1) rfl
    have q2 := cell_of_cells hrow (i := 2) rfl
    have q3 := cell_of_cells hrow (i := 3) rfl
    have q4 := cell_of_cells hrow (i := 4) rfl
    have q5 := cell_of_cells hrow (i := 5) rfl
    obtain ⟨c0, c1, c2, -, c4, c7, c9⟩ := both_cells hwm.fourth
    clear hrow
    have hri := HR2.out wm hwm
    have HRI := Lib.hid hri; have HWM := Lib.hid hwm
    clear hri hwm HWL HR2
    go_wp2_with fail
    go_at_call 28
    refine HRI.out.mono ?_
    rintro e wn ⟨rfl, rfl⟩
    clear HRI
    go_wp2
    go_ret
    refine ⟨L3, F3, I3, y, regs, rregs, arrs, rarrs, rfl, HGi.out.2.1.trans HG3.out.1.pre, ⟨HG3.out.1.ok, HB.out.regs.keep (HGi.out.2.1.trans HG3.out.1.pre), HB.out.nregs, HB.out.arrs.keep (HGi.out.2.1.trans HG3.out.1.pre)⟩, by have := HG3.out.2; omega, HY.out.1, HY.out.2.1, ?_⟩
    exact HWM.out.subl (.cons_cons _ (.cons_cons _ (.cons_cons _ (.cons_cons _ (.cons _ (List.Sublist.refl _))))))
end
end Go.Proofs.YtiklidgcmheofaaGreatDoor
namespace Go.Proofs.YtiklidgcmheofaaGreatDoor
open Go.RowKit Go.Maps
set_option maxHeartbeats 3200000
section
variable {w0 wr w : World} {ts : List Thing} {F I : List Nat} {gb W room bb sb rb nR : Nat} {L : List PNode} {y z : Lay} {regs rregs vals sizes : List Int} {arrs rarrs : List (List Int)} {v1 v2 v3 v4 vv : Value}
theorem Lab.does (hI : BothIn w0 W nR sizes vals v3 vv) (hb : BothOk W vals nR sizes L regs rregs arrs rarrs) (hy : arrs.length = y.vs.length) (hz : rarrs.length = z.vs.length) (hph : phi W L + 40 < room) (x : ActD) (hx : x.Ok)
    (h : Lab w0 wr (bothTs F I gb W room L bb sb rb nR y z regs rregs arrs rarrs v1 v2 v3 v4 vv ts)) :
    Calls Tryz.prog 10 #[.pointer (some ⟨bb, 0, none⟩), x.val] wr (DoesPost w0 gb W room bb sb rb nR L z vals sizes v1 v2 v3 v4 vv ts) := by
  have hk : x.k % 6 = 0 ∨ x.k % 6 = 1 ∨ x.k % 6 = 2 ∨ x.k % 6 = 3 ∨ x.k % 6 = 4 ∨ x.k % 6 = 5 := by omega
  rcases hk with hk | hk | hk | hk | hk | hk
  · exact Lab.does_0 hI hb hy hz hph x hx hk h
  · exact Lab.does_1 hI hb hy hz hph x hx hk h
  · exact Lab.does_2 hI hb hy hz hph x hx hk h
  · exact Lab.does_3 hI hb hy hz hph x hx hk h
  · exact Lab.does_4 hI hb hy hz hph x hx hk h
  · exact Lab.does_5 hI hb hy hz hph x hx hk h
end
end Go.Proofs.YtiklidgcmheofaaGreatDoor
namespace Go.Proofs.YtiklidgcmheofaaGreatDoor
open Go.RowKit Go.Maps
set_option maxHeartbeats 12800000
section
variable {W R : Int} {a1 a2 a3 a4 : Option Addr} {nc ns na nk c1 c2 c3 c4 o an bn : Nat} {d n ar br : Int} {w : World}
theorem fields_results {tmps : Array Value} {p : Nat} {w : World} {x0 x1 x2 x3 x4 z : Value} (t4 : tmps.getD 4 undef = .pointer (some ⟨p, 0, none⟩)) (t5 : tmps.getD 5 undef = z)
    (d0 : w.cell? ⟨p, 0, none⟩ = some x0) (d1 : w.cell? ⟨p, 1, none⟩ = some x1) (d2 : w.cell? ⟨p, 2, none⟩ = some x2) (d3 : w.cell? ⟨p, 3, none⟩ = some x3) (d4 : w.cell? ⟨p, 4, none⟩ = some x4) :
    (results Tryz.f37 tmps).run Tryz.prog w = .ok (.tuple #[.agg #[x0, x1, x2, x3, x4], z]) w := by
  have t4' : tmps[4]?.getD undef = .pointer (some ⟨p, 0, none⟩) := by simpa using t4
  have t5' : tmps[5]?.getD undef = z := by simpa using t5
  unfold results
  rw [Tryz.results37]
  simp [go_sem, t4', t5', d0, d1, d2, d3, d4]
theorem fields_end {x y : Obj} {x0 x1 x2 x3 x4 z : Value} {tmps : Array Value} {ds : List Deferred} {Q : Ending → World → Prop} (t4 : tmps.getD 4 undef = .pointer (some ⟨w.heap.size + 1 + 1, 0, none⟩)) (t5 : tmps.getD 5 undef = z) (hd : ds = [])
    (hQ : Q (.returned (.tuple #[.agg #[x0, x1, x2, x3, x4], z])) (((w.alloc x).alloc y).alloc (.cells #[x0, x1, x2, x3, x4] 85))) :
    bodyPost Tryz.prog Tryz.f37 Q .ret { tmps := tmps, defers := ds } (((w.alloc x).alloc y).alloc (.cells #[x0, x1, x2, x3, x4] 85)) := by
  have h := (heap3 w x y (.cells #[x0, x1, x2, x3, x4] 85)).2.2
  exact bodyPost_ret (fields_results t4 t5 (cell_of_cells h (i := 0) rfl) (cell_of_cells h (i := 1) rfl) (cell_of_cells h (i := 2) rfl) (cell_of_cells h (i := 3) rfl) (cell_of_cells h (i := 4) rfl)) hd hQ
theorem fields_endD {x y : Obj} {x0 x1 x2 x3 x4 z : Value} {tmps : Array Value} {ds : List Deferred} {Q : Ending → World → Prop} (t4 : tmps.getD 4 undef = .pointer (some ⟨w.heap.size + 1 + 1, 0, none⟩)) (t5 : tmps.getD 5 undef = z) (hd : ds = [])
    (hQ : Q (.returned (.tuple #[.agg #[x0, x1, x2, x3, x4], z])) (((w.alloc x).alloc y).alloc (.cells #[x0, x1, x2, x3, x4] 85)).drew) :
    bodyPost Tryz.prog Tryz.f37 Q .ret { tmps := tmps, defers := ds } (((w.alloc x).alloc y).alloc (.cells #[x0, x1, x2, x3, x4] 85)).drew := by
  have h := (heap3 w x y (.cells #[x0, x1, x2, x3, x4] 85)).2.2
  exact bodyPost_ret (fields_results t4 t5 (cell_of_cells h (i := 0) rfl) (cell_of_cells h (i := 1) rfl) (cell_of_cells h (i := 2) rfl) (cell_of_cells h (i := 3) rfl) (cell_of_cells h (i := 4) rfl)) hd hQ
/-- What Fields gives. -/
def FieldsPost (p : Prop) (x0 x1 x2 x3 : Bool) (x4 : Int) (w : World) : Ending → World → Prop := fun e w' => Below w.heap.size w w' ∧
  ((p ∧ e = .returned (.tuple #[.agg #[.bool x0, .bool x1, .bool x2, .bool x3, .int .i64 x4], .bool true])) ∨ (¬ p ∧ ∃ y0 y1 y2 y3 : Bool, ∃ y4 : Int, e = .returned (.tuple #[.agg #[.bool y0, .bool y1, .bool y2, .bool y3, .int .i64 y4], .bool false])))
theorem fields_0 {p0 : Prop} (hp : p0) : Calls Tryz.prog 37 #[.agg #[.int .i64 W, .int .i64 R, .slice a1 nc c1, .slice a2 ns c2, .slice a3 na c3, .slice a4 nk c4], .agg #[.int .u8 0, .int .u8 o, .int .i64 d, .int .i64 n, .int .i64 ar, .int .u64 an, .int .i64 br, .int .u64 bn]] w (FieldsPost p0 true false true false 0 w) := by
  have HP := Lib.hid hp
  clear hp
  go_enter Tryz.func37, Tryz.ntmps37
  go_wp2
  exact fields_end rfl rfl rfl ⟨below3 w _ _ _, .inl ⟨HP.out, rfl⟩⟩
theorem fields_2 {p0 : Prop} (hp : p0) : Calls Tryz.prog 37 #[.agg #[.int .i64 W, .int .i64 R, .slice a1 nc c1, .slice a2 ns c2, .slice a3 na c3, .slice a4 nk c4], .agg #[.int .u8 2, .int .u8 o, .int .i64 d, .int .i64 n, .int .i64 ar, .int .u64 an, .int .i64 br, .int .u64 bn]] w (FieldsPost p0 true true true false (na : Int) w) := by
  have HP := Lib.hid hp
  clear hp
  go_enter Tryz.func37, Tryz.ntmps37
  go_wp2
  exact fields_end rfl rfl rfl ⟨below3 w _ _ _, .inl ⟨HP.out, rfl⟩⟩
theorem fields_3 {p0 : Prop} (hp : p0) : Calls Tryz.prog 37 #[.agg #[.int .i64 W, .int .i64 R, .slice a1 nc c1, .slice a2 ns c2, .slice a3 na c3, .slice a4 nk c4], .agg #[.int .u8 3, .int .u8 o, .int .i64 d, .int .i64 n, .int .i64 ar, .int .u64 an, .int .i64 br, .int .u64 bn]] w (FieldsPost p0 false true true true (na : Int) w) := by
  have HP := Lib.hid hp
  clear hp
  go_enter Tryz.func37, Tryz.ntmps37
  go_wp2
  exact fields_end rfl rfl rfl ⟨below3 w _ _ _, .inl ⟨HP.out, rfl⟩⟩
theorem fields_4 {p0 : Prop} (hp : p0) : Calls Tryz.prog 37 #[.agg #[.int .i64 W, .int .i64 R, .slice a1 nc c1, .slice a2 ns c2, .slice a3 na c3, .slice a4 nk c4], .agg #[.int .u8 4, .int .u8 o, .int .i64 d, .int .i64 n, .int .i64 ar, .int .u64 an, .int .i64 br, .int .u64 bn]] w (FieldsPost p0 true true false false (nc : Int) w) := by
  have HP := Lib.hid hp
  clear hp
  go_enter Tryz.func37, Tryz.ntmps37
  go_wp2
  exact fields_end rfl rfl rfl ⟨below3 w _ _ _, .inl ⟨HP.out, rfl⟩⟩
theorem fields_5 {p0 : Prop} (hp : p0) : Calls Tryz.prog 37 #[.agg #[.int .i64 W, .int .i64 R, .slice a1 nc c1, .slice a2 ns c2, .slice a3 na c3, .slice a4 nk c4], .agg #[.int .u8 5, .int .u8 o, .int .i64 d, .int .i64 n, .int .i64 ar, .int .u64 an, .int .i64 br, .int .u64 bn]] w (FieldsPost p0 false true true false (nc : Int) w) := by
  have HP := Lib.hid hp
  clear hp
  go_enter Tryz.func37, Tryz.ntmps37
  go_wp2
  exact fields_end rfl rfl rfl ⟨below3 w _ _ _, .inl ⟨HP.out, rfl⟩⟩
theorem fields_6 {p0 : Prop} (hp : p0) : Calls Tryz.prog 37 #[.agg #[.int .i64 W, .int .i64 R, .slice a1 nc c1, .slice a2 ns c2, .slice a3 na c3, .slice a4 nk c4], .agg #[.int .u8 6, .int .u8 o, .int .i64 d, .int .i64 n, .int .i64 ar, .int .u64 an, .int .i64 br, .int .u64 bn]] w (FieldsPost p0 true true true false (ns : Int) w) := by
  have HP := Lib.hid hp
  clear hp
  go_enter Tryz.func37, Tryz.ntmps37
  go_wp2
  exact fields_end rfl rfl rfl ⟨below3 w _ _ _, .inl ⟨HP.out, rfl⟩⟩
theorem fields_7 {p0 : Prop} (hp : p0) : Calls Tryz.prog 37 #[.agg #[.int .i64 W, .int .i64 R, .slice a1 nc c1, .slice a2 ns c2, .slice a3 na c3, .slice a4 nk c4], .agg #[.int .u8 7, .int .u8 o, .int .i64 d, .int .i64 n, .int .i64 ar, .int .u64 an, .int .i64 br, .int .u64 bn]] w (FieldsPost p0 false true false false (nk : Int) w) := by
  have HP := Lib.hid hp
  clear hp
  go_enter Tryz.func37, Tryz.ntmps37
  go_wp2
  exact fields_end rfl rfl rfl ⟨below3 w _ _ _, .inl ⟨HP.out, rfl⟩⟩
theorem fields_8 {p0 : Prop} (hp : p0) : Calls Tryz.prog 37 #[.agg #[.int .i64 W, .int .i64 R, .slice a1 nc c1, .slice a2 ns c2, .slice a3 na c3, .slice a4 nk c4], .agg #[.int .u8 8, .int .u8 o, .int .i64 d, .int .i64 n, .int .i64 ar, .int .u64 an, .int .i64 br, .int .u64 bn]] w (FieldsPost p0 false true true false (nk : Int) w) := by
  have HP := Lib.hid hp
  clear hp
  go_enter Tryz.func37, Tryz.ntmps37
  go_wp2
  exact fields_end rfl rfl rfl ⟨below3 w _ _ _, .inl ⟨HP.out, rfl⟩⟩
theorem fields_9 {p0 : Prop} (hp : p0) : Calls Tryz.prog 37 #[.agg #[.int .i64 W, .int .i64 R, .slice a1 nc c1, .slice a2 ns c2, .slice a3 na c3, .slice a4 nk c4], .agg #[.int .u8 9, .int .u8 o, .int .i64 d, .int .i64 n, .int .i64 ar, .int .u64 an, .int .i64 br, .int .u64 bn]] w (FieldsPost p0 false false false false 0 w) := by
  have HP := Lib.hid hp
  clear hp
  go_enter Tryz.func37, Tryz.ntmps37
  go_wp2
  exact fields_end rfl rfl rfl ⟨below3 w _ _ _, .inl ⟨HP.out, rfl⟩⟩
theorem fields_10 {k : Nat} (hk : 10 ≤ k) {p0 : Prop} (hp : ¬ p0) (x0 x1 x2 x3 : Bool) (x4 : Int) : Calls Tryz.prog 37 #[.agg #[.int .i64 W, .int .i64 R, .slice a1 nc c1, .slice a2 ns c2, .slice a3 na c3, .slice a4 nk c4], .agg #[.int .u8 k, .int .u8 o, .int .i64 d, .int .i64 n, .int .i64 ar, .int .u64 an, .int .i64 br, .int .u64 bn]] w (FieldsPost p0 x0 x1 x2 x3 x4 w) := by
  have HP := Lib.hid hp
  have g0 : ((k : Int) == 0) = false := by rw [beq_eq_false_iff_ne]; omega
  have g1 : ((k : Int) == 1) = false := by rw [beq_eq_false_iff_ne]; omega
  have g2 : ((k : Int) == 2) = false := by rw [beq_eq_false_iff_ne]; omega
  have g3 : ((k : Int) == 3) = false := by rw [beq_eq_false_iff_ne]; omega
  have g4 : ((k : Int) == 4) = false := by rw [beq_eq_false_iff_ne]; omega
  have g5 : ((k : Int) == 5) = false := by rw [beq_eq_false_iff_ne]; omega
  have g6 : ((k : Int) == 6) = false := by rw [beq_eq_false_iff_ne]; omega
  have g7 : ((k : Int) == 7) = false := by rw [beq_eq_false_iff_ne]; omega
  have g8 : ((k : Int) == 8) = false := by rw [beq_eq_false_iff_ne]; omega
  have g9 : ((k : Int) == 9) = false := by rw [beq_eq_false_iff_ne]; omega
  clear hp hk
  go_enter Tryz.func37, Tryz.ntmps37
  go_wp2
  exact fields_end rfl rfl rfl ⟨below3 w _ _ _, .inr ⟨HP.out, _, _, _, _, _, rfl⟩⟩
theorem fields_1 (ho : o ≤ 255) {p0 : Prop} (hp : p0 ↔ (2 ≤ o ∧ o ≤ 20)) : Calls Tryz.prog 37 #[.agg #[.int .i64 W, .int .i64 R, .slice a1 nc c1, .slice a2 ns c2, .slice a3 na c3, .slice a4 nk c4], .agg #[.int .u8 1, .int .u8 o, .int .i64 d, .int .i64 n, .int .i64 ar, .int .u64 an, .int .i64 br, .int .u64 bn]] w (FieldsPost p0 true false true (decide (aryN o = 2)) 0 w) := by
  have har := fun w => rarity_any (o : Int) (by omega) (by omega) w
  obtain ⟨m, hm⟩ : ∃ m : Int, (if 21 < (o : Int) then 0 else (aryN (o : Int).toNat : Int)) = m := ⟨_, rfl⟩
  obtain ⟨e1, he1⟩ : ∃ e1 : Int, (if 21 < (o : Int) then 3 else 0) = e1 := ⟨_, rfl⟩
  simp only [hm, he1] at har
  obtain ⟨tb, htb⟩ : ∃ tb, (m == 2) = tb := ⟨_, rfl⟩
  have HAR := Lib.hid har; have HM := Lib.hid (And.intro hm htb); have HP := Lib.hid hp
  clear har hm hp
  by_cases h21 : 21 < o
  · obtain rfl : e1 = 3 := by rw [← he1, if_pos (by omega)]
    have HN := Lib.hid (show ¬ p0 from fun h => by have := HP.out.1 h; omega)
    clear he1 h21
    go_enter Tryz.func37, Tryz.ntmps37
    go_wp2_with (go_at_call 52; refine (HAR.out _).mono ?_; rintro e w5 ⟨rfl, rfl⟩)
    go_region
    all_goals
      go_wp2
      exact fields_endD rfl rfl rfl ⟨below_drewN (below3 w _ _ _) 1, .inr ⟨HN.out, _, _, _, _, _, rfl⟩⟩
  · obtain rfl : e1 = 0 := by rw [← he1, if_neg (by omega)]
    by_cases h2 : 2 ≤ o
    · have g2 : decide ((2 : Int) ≤ (o : Int)) = true := decide_eq_true (by omega)
      by_cases h20 : o ≤ 20
      · have g3 : decide ((o : Int) ≤ 20) = true := decide_eq_true (by omega)
        have hte : tb = decide (aryN o = 2) := by
          rw [← htb, ← HM.out.1, if_neg (by omega), Int.toNat_natCast, Bool.eq_iff_iff]
          simp only [beq_iff_eq, decide_eq_true_eq]
          omega
        rw [← hte]
        have HY := Lib.hid (HP.out.2 ⟨h2, h20⟩)
        clear he1 h21 h2 h20 hte
        go_enter Tryz.func37, Tryz.ntmps37
        go_wp2_with (go_at_call 52; refine (HAR.out _).mono ?_; rintro e w5 ⟨rfl, rfl⟩)
        go_region
        all_goals
          go_wp2
          exact fields_endD rfl rfl rfl ⟨below_drewN (below3 w _ _ _) 1, .inl ⟨HY.out, rfl⟩⟩
      · have g3 : decide ((o : Int) ≤ 20) = false := decide_eq_false (by omega)
        have HN := Lib.hid (show ¬ p0 from fun h => by have := HP.out.1 h; omega)
        clear he1 h21 h2 h20
        go_enter Tryz.func37, Tryz.ntmps37
        go_wp2_with (go_at_call 52; refine (HAR.out _).mono ?_; rintro e w5 ⟨rfl, rfl⟩)
        go_region
        all_goals
          go_wp2
          exact fields_endD rfl rfl rfl ⟨below_drewN (below3 w _ _ _) 1, .inr ⟨HN.out, _, _, _, _, _, rfl⟩⟩
    · have g2 : decide ((2 : Int) ≤ (o : Int)) = false := decide_eq_false (by omega)
      have HN := Lib.hid (show ¬ p0 from fun h => by have := HP.out.1 h; omega)
      clear he1 h21 h2
      go_enter Tryz.func37, Tryz.ntmps37
      go_wp2_with (go_at_call 52; refine (HAR.out _).mono ?_; rintro e w5 ⟨rfl, rfl⟩)
      go_region
      all_goals
        go_wp2
        exact fields_endD rfl rfl rfl ⟨below_drewN (below3 w _ _ _) 1, .inr ⟨HN.out, _, _, _, _, _, rfl⟩⟩
/-- An instruction has a kind, and an operator if it is one. -/
def FieldOk (c : CodeD) : Prop := c.k < 10 ∧ (c.k = 1 → 2 ≤ c.o ∧ c.o ≤ 20)
def mostR (na nc ns nk k : Nat) : Int := if kN k = 0 then 0 else mostN na nc ns nk (kN k)
theorem fields_any (f : FlatD) (c : CodeD) (hc : c.Ok) : Calls Tryz.prog 37 #[.agg #[.int .i64 f.W, .int .i64 f.R, .slice a1 nc c1, .slice a2 ns c2, .slice a3 na c3, .slice a4 nk c4], c.val] w (FieldsPost (FieldOk c) (kD c.k) (decide (kN c.k ≠ 0)) (kA c.k) (hasB2 c.k c.o) (mostR na nc ns nk c.k) w) := by
  obtain ⟨k, o, d, n, ar, an, br, bn⟩ := c
  obtain ⟨h1, h2, h3, h4⟩ := hc
  simp only at h1 h2 h3 h4
  unfold CodeD.val
  simp only
  by_cases hk : k < 10
  · have hks : k = 0 ∨ k = 1 ∨ k = 2 ∨ k = 3 ∨ k = 4 ∨ k = 5 ∨ k = 6 ∨ k = 7 ∨ k = 8 ∨ k = 9 := by omega
    rcases hks with rfl | rfl | rfl | rfl | rfl | rfl | rfl | rfl | rfl | rfl
    · exact fields_0 (by simp [FieldOk])
    · exact fields_1 h2 (by simp [FieldOk])
    · exact fields_2 (by simp [FieldOk])
    · exact fields_3 (by simp [FieldOk])
    · exact fields_4 (by simp [FieldOk])
    · exact fields_5 (by simp [FieldOk])
    · exact fields_6 (by simp [FieldOk])
    · exact fields_7 (by simp [FieldOk])
    · exact fields_8 (by simp [FieldOk])
    · exact fields_9 (by simp [FieldOk])
  · exact fields_10 (by omega) (fun h => hk h.1) _ _ _ _ _
end
end Go.Proofs.YtiklidgcmheofaaGreatDoor
