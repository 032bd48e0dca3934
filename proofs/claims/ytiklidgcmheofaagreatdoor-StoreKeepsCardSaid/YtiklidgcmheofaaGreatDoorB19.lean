/- StH0, StH1, StH2: joined by wip/bundle.py. -/
import Derived.Test.YtiklidgcmheofaaGreatDoorB1
import Derived.Test.YtiklidgcmheofaaGreatDoorB2
import Derived.Test.YtiklidgcmheofaaGreatDoorB3
import Derived.Test.YtiklidgcmheofaaGreatDoorB4
import Derived.Test.YtiklidgcmheofaaGreatDoorB5
import Derived.Test.YtiklidgcmheofaaGreatDoorB6
import Derived.Test.YtiklidgcmheofaaGreatDoorB7
import Derived.Test.YtiklidgcmheofaaGreatDoorB8
import Derived.Test.YtiklidgcmheofaaGreatDoorB9
import Derived.Test.YtiklidgcmheofaaGreatDoorB10
import Derived.Test.YtiklidgcmheofaaGreatDoorB11
import Derived.Test.YtiklidgcmheofaaGreatDoorB12
import Derived.Test.YtiklidgcmheofaaGreatDoorB13
import Derived.Test.YtiklidgcmheofaaGreatDoorB14
import Derived.Test.YtiklidgcmheofaaGreatDoorB15
import Derived.Test.YtiklidgcmheofaaGreatDoorB16
import Derived.Test.YtiklidgcmheofaaGreatDoorB17
import Derived.Test.YtiklidgcmheofaaGreatDoorB18
import Derived.BigQuiet
namespace Go.Proofs.YtiklidgcmheofaaGreatDoor
open Go.RowKit Go.Maps
set_option maxHeartbeats 6400000
section
variable {w0 wr w : World} {ts : List Thing} {F I : List Nat} {gb W room bb sb rb nR : Nat} {L : List PNode} {y z : Lay} {regs rregs vals sizes : List Int} {arrs rarrs : List (List Int)} {v1 v2 v3 v4 vv : Value}
set_option maxRecDepth 100000 in
theorem Lab.does_0 (hI : BothIn w0 W nR sizes vals v3 vv) (hb : BothOk W vals nR sizes L regs rregs arrs rarrs) (hy : arrs.length = y.vs.length) (hz : rarrs.length = z.vs.length) (hph : phi W L + 40 < room) (x : ActD) (hx : x.Ok) (hk : x.k % 6 = 0)
    (h : Lab w0 wr (bothTs F I gb W room L bb sb rb nR y z regs rregs arrs rarrs v1 v2 v3 v4 vv ts)) :
    Calls Tryz.prog 10 #[.pointer (some ⟨bb, 0, none⟩), x.val] wr (DoesPost w0 gb W room bb sb rb nR L z vals sizes v1 v2 v3 v4 vv ts) := by
  obtain ⟨a3, na, c3, e3, hna, hsz⟩ := hI.sz
  obtain ⟨av, nv, cv, ev, hnv, hvl⟩ := hI.vl
  subst e3 ev
  obtain ⟨n, hn⟩ : ∃ n, x.r % nR = n := ⟨_, rfl⟩
  obtain ⟨a, ha⟩ : ∃ a, x.ar % na = a := ⟨_, rfl⟩
  have hR1 := hI.R1; have hR2 := hI.R2
  have hA1 : 1 ≤ na := by have := hI.A1; omega
  have hA2 : na ≤ 4 := by have := hI.A2; omega
  have hnR : n < nR := by rw [← hn]; exact Nat.mod_lt _ (by omega)
  have haN : a < na := by rw [← ha]; exact Nat.mod_lt _ (by omega)
  have hmod1 := tmod_nat x.r nR
  rw [hn] at hmod1
  have hmod2 := tmod_nat x.ar na
  rw [ha] at hmod2
  have hmodk := tmod_nat x.k 6
  rw [hk] at hmodk
  replace hmodk : ((x.k : Int)).tmod 6 = 0 := hmodk
  have nR0 : ¬ nR = 0 := by omega
  have nA0 : ¬ na = 0 := by omega
  obtain ⟨xk, xr, xar, xa, xb, xn⟩ := hx
  have hb0 := h.alloc #[.int .u8 x.k, .int .u8 x.r, .int .u8 x.ar, .int .u8 x.a, .int .u8 x.b, .int .u64 x.n] 36
  obtain ⟨q, hq⟩ : ∃ q, wr.heap.size = q := ⟨_, rfl⟩
  rw [hq] at hb0
  replace hb0 := hb0.sink5
  have HI := Lib.hid hI; have HB := Lib.hid hb; have HY := Lib.hid (And.intro hy (And.intro hz hph)); have HL := Lib.hid hb0; have HS := Lib.hid (And.intro hna hsz); have HV := Lib.hid (And.intro hnv hvl); have HX := Lib.hid (And.intro xk (And.intro xr (And.intro xar (And.intro xa (And.intro xb xn))))); have HN := Lib.hid (And.intro hnR haN)
  clear hI hb hy hz hph h hb0 hna hsz hnv hvl hk hn ha
  unfold ActD.val
  go_enter Tryz.func10, Tryz.ntmps10
  go_upto_region 1 with fail
  refine wp_abs (fun wx => Lab w0 wx (bothTs F I gb W room L bb sb rb nR y z regs rregs arrs rarrs v1 v2 (.slice a3 na c3) v4 (.slice av nv cv) (Thing.box q 36 #[.int .u8 x.k, .int .u8 x.r, .int .u8 x.ar, .int .u8 x.a, .int .u8 x.b, .int .u64 x.n] :: ts))) HL.out ?_
  intro w1 hw1
  have hrow : w1.heap[q]? = some (.cells #[.int .u8 x.k, .int .u8 x.r, .int .u8 x.ar, .int .u8 x.a, .int .u8 x.b, .int .u64 x.n] 36 (0, 0)) := hw1.fifth
  have q0 := cell_of_cells hrow (i := 0) rfl
  have q1 := cell_of_cells hrow (i := 1) rfl
  have q2 := cell_of_cells hrow (i := 2) rfl
  have q3 := cell_of_cells hrow (i := 3) rfl
  have q4 := cell_of_cells hrow (i := 4) rfl
  have q5 := cell_of_cells hrow (i := 5) rfl
  obtain ⟨c0, c1, c2, -, c4, c7, c9⟩ := both_cells hw1.fourth
  clear hrow
  have HW1 := Lib.hid hw1
  clear hw1 HL hq
  go_quiet (fail)
  obtain ⟨m8, hm8⟩ : ∃ m8, x.a % 8 = m8 := ⟨_, rfl⟩
  have hmod8 := tmod_nat x.a 8
  rw [hm8] at hmod8
  replace hmod8 : ((x.a : Int)).tmod 8 = (m8 : Int) := hmod8
  have hm88 : m8 < 8 := by omega
  have wm8 : IntKind.i64.wrap (m8 : Int) = (m8 : Int) := by rw [IntKind.wrap_i64]; omega
  clear hm8
  go_upto_region 9 with fail
  clear q0 q1 q2 q3 q4 q5 c0 c1 c2 c4 c7 c9
  refine wp_abs (fun wx => Lab w0 wx (bothTs F I gb W room L bb sb rb nR y z regs rregs arrs rarrs v1 v2 (.slice a3 na c3) v4 (.slice av nv cv) (Thing.box q 36 #[.int .u8 x.k, .int .u8 x.r, .int .u8 x.ar, .int .u8 x.a, .int .u8 x.b, .int .u64 x.n] :: ts))) (HW1.out.drewN _) ?_
  intro w2 hw2
  have hrow : w2.heap[q]? = some (.cells #[.int .u8 x.k, .int .u8 x.r, .int .u8 x.ar, .int .u8 x.a, .int .u8 x.b, .int .u64 x.n] 36 (0, 0)) := hw2.fifth
  have q0 := cell_of_cells hrow (i := 0) rfl
  have q1 := cell_of_cells hrow (i := 1) rfl
  have q2 := cell_of_cells hrow (i := 2) rfl
  have q3 := cell_of_cells hrow (i := 3) rfl
  have q4 := cell_of_cells hrow (i := 4) rfl
  have q5 := cell_of_cells hrow (i := 5) rfl
  obtain ⟨c0, c1, c2, -, c4, c7, c9⟩ := both_cells hw2.fourth
  clear hrow
  obtain ⟨L2, t, hvr, hg2, hph2⟩ := GOk.var_in (room := room) HB.out.ok (n := m8) (by omega) (by have := HY.out.2.2; omega)
  have hvar := var_any (w := w2.drew) (Gr.drewN hw2.gr 1) (m8 : Int)
  rw [hvr] at hvar
  have HVAR := Lib.hid hvar; have HW2 := Lib.hid (show Lab w0 w2.drew _ from hw2.drewN 1); have HG2 := Lib.hid (And.intro hg2 hph2)
  clear hvar hw2 hvr hg2 hph2 HW1
  go_region_held3 (fun w' => w'.cell? ⟨bb, 0, none⟩ = some (.pointer (some ⟨gb, 0, none⟩)) ∧ w'.cell? ⟨q, 3, none⟩ = some (.int .u8 x.a)) (first | exact ⟨by assumption, by assumption⟩ | go_keep)
    (first | (go_at_call 19; refine HVAR.out.mono ?_; intro e w6 hp; obtain ⟨F2, I2, rfl, hl6⟩ := HW2.out.gpost hp; replace hl6 : Lab w0 w6 (bothTs F2 I2 gb W room L2 bb sb rb nR y z regs rregs arrs rarrs v1 v2 (.slice a3 na c3) v4 (.slice av nv cv) (Thing.box q 36 #[.int .u8 x.k, .int .u8 x.r, .int .u8 x.ar, .int .u8 x.a, .int .u8 x.b, .int .u64 x.n] :: ts)) := hl6; have u0 := (both_cells hl6.fourth).c0; have u3 : w6.cell? ⟨q, 3, none⟩ = some (.int .u8 x.a) := cell_of_cells (show w6.heap[q]? = some (.cells #[.int .u8 x.k, .int .u8 x.r, .int .u8 x.ar, .int .u8 x.a, .int .u8 x.b, .int .u64 x.n] 36 (0, 0)) from hl6.fifth) (i := 3) rfl; have HW6 := Lib.hid hl6; clear hl6 hp))
  clear u0 u3 HVAR HW2
  go_upto_region 10 with fail
  clear q0 q1 q2 q3 q4 q5 c0 c1 c2 c4 c7 c9
  refine wp_abs (fun wx => Lab w0 wx (bothTs F2 I2 gb W room L2 bb sb rb nR y z regs rregs arrs rarrs v1 v2 (.slice a3 na c3) v4 (.slice av nv cv) (Thing.box q 36 #[.int .u8 x.k, .int .u8 x.r, .int .u8 x.ar, .int .u8 x.a, .int .u8 x.b, .int .u64 x.n] :: ts))) HW6.out ?_
  intro w7 hw7
  have hrow : w7.heap[q]? = some (.cells #[.int .u8 x.k, .int .u8 x.r, .int .u8 x.ar, .int .u8 x.a, .int .u8 x.b, .int .u64 x.n] 36 (0, 0)) := hw7.fifth
  have q0 := cell_of_cells hrow (i := 0) rfl
  have q1 := cell_of_cells hrow (i := 1) rfl
  have q2 := cell_of_cells hrow (i := 2) rfl
  have q3 := cell_of_cells hrow (i := 3) rfl
  have q4 := cell_of_cells hrow (i := 4) rfl
  have q5 := cell_of_cells hrow (i := 5) rfl
  obtain ⟨c0, c1, c2, -, c4, c7, c9⟩ := both_cells hw7.fourth
  clear hrow
  have hvl7 := HV.out.2
  by_cases hlt : m8 < nv
  · have hlt' : (m8 : Int) < (nv : Int) := by omega
    have m0 : (0 : Int) ≤ (m8 : Int) := by omega
    obtain ⟨bv, offv, rfl, hcv⟩ := hvl7 m8 hlt
    obtain ⟨vx, hvx⟩ : ∃ vx, vals.getD m8 0 = vx := ⟨_, rfl⟩
    have hvm : vx ∈ vals := by rw [← hvx, List.getD_eq_getElem?_getD, List.getElem?_eq_getElem (by have := HV.out.1; omega)]; exact List.getElem_mem _
    have hvu := HI.out.u64 vx hvm
    obtain ⟨vn, rfl⟩ : ∃ vn : Nat, vx = (vn : Int) := ⟨vx.toNat, by omega⟩
    rw [hvx] at hcv
    obtain ⟨v, hv⟩ : ∃ v : Nat, vn % 2 ^ W = v := ⟨_, rfl⟩
    have HG := Lib.hid (And.intro HG2.out.1.ok (And.intro HG2.out.1.pre (And.intro (show phi W L2 ≤ phi W L + 18 by have := HG2.out.2; omega) (And.intro HG2.out.1.lt (show val W vals L2 t = (v : Int) by rw [HG2.out.1.val vals, if_pos (by have := HV.out.1; omega), hvx, Int.toNat_natCast, hv])))))
    have HCV := Lib.hid hcv; have HVN := Lib.hid (And.intro hv hvu); have HW7 := Lib.hid hw7
    clear hvl7 hvx hvm hvu hv hcv hw7 HW6
    go_quiet (fail)
    go_upto_region 11 with fail
    clear q0 q1 q2 q3 q4 q5 c0 c1 c2 c4 c7 c9
    refine wp_abs (fun wx => Lab w0 wx (bothTs F2 I2 gb W room L2 bb sb rb nR y z regs rregs arrs rarrs v1 v2 (.slice a3 na c3) v4 (.slice (some ⟨bv, offv, none⟩) nv cv) (Thing.box q 36 #[.int .u8 x.k, .int .u8 x.r, .int .u8 x.ar, .int .u8 x.a, .int .u8 x.b, .int .u64 x.n] :: ts))) (HW7.out.drewN _) ?_
    intro w8 hw8
    have hrow : w8.heap[q]? = some (.cells #[.int .u8 x.k, .int .u8 x.r, .int .u8 x.ar, .int .u8 x.a, .int .u8 x.b, .int .u64 x.n] 36 (0, 0)) := hw8.fifth
    have q0 := cell_of_cells hrow (i := 0) rfl
    have q1 := cell_of_cells hrow (i := 1) rfl
    have q2 := cell_of_cells hrow (i := 2) rfl
    have q3 := cell_of_cells hrow (i := 3) rfl
    have q4 := cell_of_cells hrow (i := 4) rfl
    have q5 := cell_of_cells hrow (i := 5) rfl
    obtain ⟨c0, c1, c2, -, c4, c7, c9⟩ := both_cells hw8.fourth
    clear hrow
    have cvv := cell_later hw8.below HCV.out
    have r0 := (Lab.st_read HY.out.2.1 hw8.rot3).c0
    have htr := rtrim30 (w := w8.drew) r0 HB.out.ok.w1 HB.out.ok.w2 vn (by have := HVN.out.2; omega)
    rw [HVN.out.1] at htr
    have HT := Lib.hid htr; have HW8 := Lib.hid hw8
    clear htr hw8 r0 HW7
    go_region_held3 (fun w' => w'.cell? ⟨bb, 2, none⟩ = some (.pointer (some ⟨rb, 0, none⟩)) ∧ w'.cell? ⟨bb, 9, none⟩ = some (.slice (some ⟨bv, offv, none⟩) nv cv) ∧ w'.cell? ⟨q, 3, none⟩ = some (.int .u8 x.a) ∧ w'.cell? ⟨bv, offv + m8, none⟩ = some (.int .u64 vn)) (first | exact ⟨by assumption, by assumption, by assumption, by assumption⟩ | go_keep)
      (first | (go_at_call 25; refine HT.out.mono ?_; rintro e w9 ⟨rfl, rfl⟩))
    clear cvv
    go_upto_region 42 with fail
    clear q0 q1 q2 q3 q4 q5 c0 c1 c2 c4 c7 c9
    refine wp_abs (fun wx => Lab w0 wx (bothTs F2 I2 gb W room L2 bb sb rb nR y z regs rregs arrs rarrs v1 v2 (.slice a3 na c3) v4 (.slice (some ⟨bv, offv, none⟩) nv cv) (Thing.box q 36 #[.int .u8 x.k, .int .u8 x.r, .int .u8 x.ar, .int .u8 x.a, .int .u8 x.b, .int .u64 x.n] :: ts))) (HW8.out.drewN _) ?_
    intro wa hwa
    have hrow : wa.heap[q]? = some (.cells #[.int .u8 x.k, .int .u8 x.r, .int .u8 x.ar, .int .u8 x.a, .int .u8 x.b, .int .u64 x.n] 36 (0, 0)) := hwa.fifth
    have q0 := cell_of_cells hrow (i := 0) rfl
    have q1 := cell_of_cells hrow (i := 1) rfl
    have q2 := cell_of_cells hrow (i := 2) rfl
    have q3 := cell_of_cells hrow (i := 3) rfl
    have q4 := cell_of_cells hrow (i := 4) rfl
    have q5 := cell_of_cells hrow (i := 5) rfl
    obtain ⟨c0, c1, c2, -, c4, c7, c9⟩ := both_cells hwa.fourth
    clear hrow
    have hset := Lab.sset hwa HY.out.1 n t (by have h1 := HB.out.regs.1; have h2 := HB.out.nregs; have := HN.out.1; omega) HG.out.2.2.2.1
    have HSET := Lib.hid hset
    clear hset hwa
    go_wp2_with fail
    go_at_call 31
    refine HSET.out.mono ?_
    rintro e wb ⟨rfl, hwb⟩
    replace hwb : Lab w0 wb (bothTs F2 I2 gb W room L2 bb sb rb nR y z (regs.set n (t : Int)) rregs arrs rarrs v1 v2 (.slice a3 na c3) v4 (.slice (some ⟨bv, offv, none⟩) nv cv) (Thing.box q 36 #[.int .u8 x.k, .int .u8 x.r, .int .u8 x.ar, .int .u8 x.a, .int .u8 x.b, .int .u64 x.n] :: ts)) := hwb
    clear q0 q1 q2 q3 q4 q5 c0 c1 c2 c4 c7 c9 HSET
    have hrow : wb.heap[q]? = some (.cells #[.int .u8 x.k, .int .u8 x.r, .int .u8 x.ar, .int .u8 x.a, .int .u8 x.b, .int .u64 x.n] 36 (0, 0)) := hwb.fifth
    have q0 := cell_of_cells hrow (i := 0) rfl
    have q1 := cell_of_cells hrow (i := 1) rfl
    have q2 := cell_of_cells hrow (i := 2) rfl
    have q3 := cell_of_cells hrow (i := 3) rfl
    have q4 := cell_of_cells hrow (i := 4) rfl
    have q5 := cell_of_cells hrow (i := 5) rfl
    obtain ⟨c0, c1, c2, -, c4, c7, c9⟩ := both_cells hwb.fourth
    clear hrow
    obtain ⟨gg, cg, ug, hgv, hgc, hgf, hgs⟩ := Lab.rreg_set hwb.rot3 (n := n) (by have := HB.out.nregs; have := HN.out.1; omega)
    have hr1' := (Lab.st_read HY.out.2.1 hwb.rot3).c1
    rw [hgv] at hr1'
    obtain ⟨nr, hnr⟩ : ∃ nr, rregs.length = nr := ⟨_, rfl⟩
    rw [hnr] at hr1'
    have hnnr : (n : Int) < (nr : Int) := by have := HB.out.nregs; have := HN.out.1; omega
    have n0 : (0 : Int) ≤ (n : Int) := by omega
    have hgs1 : Lab w0 (wb.setCell ⟨gg, n, none⟩ (.int .u64 (v : Int))) (bothTs F2 I2 gb W room L2 bb sb rb nR y z (regs.set n (t : Int)) (rregs.set n (v : Int)) arrs rarrs v1 v2 (.slice a3 na c3) v4 (.slice (some ⟨bv, offv, none⟩) nv cv) (Thing.box q 36 #[.int .u8 x.k, .int .u8 x.r, .int .u8 x.ar, .int .u8 x.a, .int .u8 x.b, .int .u64 x.n] :: ts)) := (hgs (v : Int)).rot3'
    have HGS := Lib.hid hgs1
    clear hgs hgs1 hwb hgv hnr
    go_upto_region 45 with fail
    clear q0 q1 q2 q3 q4 q5 c0 c1 c2 c4 c7 c9 hr1' hgc hgf hnnr
    refine wp_abs (fun wx => Lab w0 wx (bothTs F2 I2 gb W room L2 bb sb rb nR y z (regs.set n (t : Int)) (rregs.set n (v : Int)) arrs rarrs v1 v2 (.slice a3 na c3) v4 (.slice (some ⟨bv, offv, none⟩) nv cv) (Thing.box q 36 #[.int .u8 x.k, .int .u8 x.r, .int .u8 x.ar, .int .u8 x.a, .int .u8 x.b, .int .u64 x.n] :: ts))) HGS.out ?_
    intro wc hwc
    have hbn : BothOk W vals nR sizes L2 (regs.set n (t : Int)) (rregs.set n (v : Int)) arrs rarrs := ⟨HG.out.1, (HB.out.regs.keep HG.out.2.1).set n HG.out.2.2.2.1 HG.out.2.2.2.2, by rw [List.length_set]; exact HB.out.nregs, HB.out.arrs.keep HG.out.2.1⟩
    have hsame := Lab.bsame HI.out hbn HY.out.1 HY.out.2.1 (by have := HY.out.2.2; have := HG.out.2.2.1; omega) hwc
    have HSAME := Lib.hid hsame; have HBN := Lib.hid hbn
    clear hsame hwc hbn HGS
    go_wp2_with fail
    go_at_call 9
    refine HSAME.out.mono ?_
    rintro e wd ⟨L9, F9, I9, rfl, hp9, hok9, hph9, hwd⟩
    have HWD := Lib.hid (And.intro hp9 (And.intro hok9 (And.intro hph9 hwd)))
    clear hp9 hok9 hph9 hwd HSAME
    go_wp2
    go_ret
    refine ⟨L9, F9, I9, y, regs.set n (t : Int), rregs.set n (v : Int), arrs, rarrs, rfl, HG.out.2.1.trans HWD.out.1, ⟨HWD.out.2.1, HBN.out.regs.keep HWD.out.1, HBN.out.nregs, HBN.out.arrs.keep HWD.out.1⟩, by have := HWD.out.2.2.1; have := HG.out.2.2.1; omega, HY.out.1, HY.out.2.1, ?_⟩
    exact HWD.out.2.2.2.subl (.cons_cons _ (.cons_cons _ (.cons_cons _ (.cons_cons _ (.cons _ (List.Sublist.refl _))))))
  · have HG := Lib.hid (And.intro HG2.out.1.ok (And.intro HG2.out.1.pre (And.intro (show phi W L2 ≤ phi W L + 18 by have := HG2.out.2; omega) (And.intro HG2.out.1.lt (show val W vals L2 t = 0 by rw [HG2.out.1.val vals, if_neg (by have := HV.out.1; omega)])))))
    have HW7 := Lib.hid hw7
    have hltI : ¬ (m8 : Int) < (nv : Int) := by omega
    clear hvl7 hw7 HW6
    go_quiet (fail)
    go_upto_region 42 with fail
    clear q0 q1 q2 q3 q4 q5 c0 c1 c2 c4 c7 c9
    refine wp_abs (fun wx => Lab w0 wx (bothTs F2 I2 gb W room L2 bb sb rb nR y z regs rregs arrs rarrs v1 v2 (.slice a3 na c3) v4 (.slice av nv cv) (Thing.box q 36 #[.int .u8 x.k, .int .u8 x.r, .int .u8 x.ar, .int .u8 x.a, .int .u8 x.b, .int .u64 x.n] :: ts))) (HW7.out.drewN _) ?_
    intro wa hwa
    have hrow : wa.heap[q]? = some (.cells #[.int .u8 x.k, .int .u8 x.r, .int .u8 x.ar, .int .u8 x.a, .int .u8 x.b, .int .u64 x.n] 36 (0, 0)) := hwa.fifth
    have q0 := cell_of_cells hrow (i := 0) rfl
    have q1 := cell_of_cells hrow (i := 1) rfl
    have q2 := cell_of_cells hrow (i := 2) rfl
    have q3 := cell_of_cells hrow (i := 3) rfl
    have q4 := cell_of_cells hrow (i := 4) rfl
    have q5 := cell_of_cells hrow (i := 5) rfl
    obtain ⟨c0, c1, c2, -, c4, c7, c9⟩ := both_cells hwa.fourth
    clear hrow
    have hset := Lab.sset hwa HY.out.1 n t (by have h1 := HB.out.regs.1; have h2 := HB.out.nregs; have := HN.out.1; omega) HG.out.2.2.2.1
    have HSET := Lib.hid hset
    clear hset hwa
    go_wp2_with fail
    go_at_call 31
    refine HSET.out.mono ?_
    rintro e wb ⟨rfl, hwb⟩
    replace hwb : Lab w0 wb (bothTs F2 I2 gb W room L2 bb sb rb nR y z (regs.set n (t : Int)) rregs arrs rarrs v1 v2 (.slice a3 na c3) v4 (.slice av nv cv) (Thing.box q 36 #[.int .u8 x.k, .int .u8 x.r, .int .u8 x.ar, .int .u8 x.a, .int .u8 x.b, .int .u64 x.n] :: ts)) := hwb
    clear q0 q1 q2 q3 q4 q5 c0 c1 c2 c4 c7 c9 HSET
    have hrow : wb.heap[q]? = some (.cells #[.int .u8 x.k, .int .u8 x.r, .int .u8 x.ar, .int .u8 x.a, .int .u8 x.b, .int .u64 x.n] 36 (0, 0)) := hwb.fifth
    have q0 := cell_of_cells hrow (i := 0) rfl
    have q1 := cell_of_cells hrow (i := 1) rfl
    have q2 := cell_of_cells hrow (i := 2) rfl
    have q3 := cell_of_cells hrow (i := 3) rfl
    have q4 := cell_of_cells hrow (i := 4) rfl
    have q5 := cell_of_cells hrow (i := 5) rfl
    obtain ⟨c0, c1, c2, -, c4, c7, c9⟩ := both_cells hwb.fourth
    clear hrow
    obtain ⟨gg, cg, ug, hgv, hgc, hgf, hgs⟩ := Lab.rreg_set hwb.rot3 (n := n) (by have := HB.out.nregs; have := HN.out.1; omega)
    have hr1' := (Lab.st_read HY.out.2.1 hwb.rot3).c1
    rw [hgv] at hr1'
    obtain ⟨nr, hnr⟩ : ∃ nr, rregs.length = nr := ⟨_, rfl⟩
    rw [hnr] at hr1'
    have hnnr : (n : Int) < (nr : Int) := by have := HB.out.nregs; have := HN.out.1; omega
    have n0 : (0 : Int) ≤ (n : Int) := by omega
    have hgs1 : Lab w0 (wb.setCell ⟨gg, n, none⟩ (.int .u64 0)) (bothTs F2 I2 gb W room L2 bb sb rb nR y z (regs.set n (t : Int)) (rregs.set n 0) arrs rarrs v1 v2 (.slice a3 na c3) v4 (.slice av nv cv) (Thing.box q 36 #[.int .u8 x.k, .int .u8 x.r, .int .u8 x.ar, .int .u8 x.a, .int .u8 x.b, .int .u64 x.n] :: ts)) := (hgs 0).rot3'
    have HGS := Lib.hid hgs1
    clear hgs hgs1 hwb hgv hnr
    go_upto_region 45 with fail
    clear q0 q1 q2 q3 q4 q5 c0 c1 c2 c4 c7 c9 hr1' hgc hgf hnnr
    refine wp_abs (fun wx => Lab w0 wx (bothTs F2 I2 gb W room L2 bb sb rb nR y z (regs.set n (t : Int)) (rregs.set n 0) arrs rarrs v1 v2 (.slice a3 na c3) v4 (.slice av nv cv) (Thing.box q 36 #[.int .u8 x.k, .int .u8 x.r, .int .u8 x.ar, .int .u8 x.a, .int .u8 x.b, .int .u64 x.n] :: ts))) HGS.out ?_
    intro wc hwc
    have hbn : BothOk W vals nR sizes L2 (regs.set n (t : Int)) (rregs.set n 0) arrs rarrs := ⟨HG.out.1, (HB.out.regs.keep HG.out.2.1).set n HG.out.2.2.2.1 HG.out.2.2.2.2, by rw [List.length_set]; exact HB.out.nregs, HB.out.arrs.keep HG.out.2.1⟩
    have hsame := Lab.bsame HI.out hbn HY.out.1 HY.out.2.1 (by have := HY.out.2.2; have := HG.out.2.2.1; omega) hwc
    have HSAME := Lib.hid hsame; have HBN := Lib.hid hbn
    clear hsame hwc hbn HGS
    go_wp2_with fail
    go_at_call 9
    refine HSAME.out.mono ?_
    rintro e wd ⟨L9, F9, I9, rfl, hp9, hok9, hph9, hwd⟩
    have HWD := Lib.hid (And.intro hp9 (And.intro hok9 (And.intro hph9 hwd)))
    clear hp9 hok9 hph9 hwd HSAME
    go_wp2
    go_ret
    refine ⟨L9, F9, I9, y, regs.set n (t : Int), rregs.set n 0, arrs, rarrs, rfl, HG.out.2.1.trans HWD.out.1, ⟨HWD.out.2.1, HBN.out.regs.keep HWD.out.1, HBN.out.nregs, HBN.out.arrs.keep HWD.out.1⟩, by have := HWD.out.2.2.1; have := HG.out.2.2.1; omega, HY.out.1, HY.out.2.1, ?_⟩
    exact HWD.out.2.2.2.subl (.cons_cons _ (.cons_cons _ (.cons_cons _ (.cons_cons _ (.cons _ (List.Sublist.refl _))))))
end
end Go.Proofs.YtiklidgcmheofaaGreatDoor
namespace Go.Proofs.YtiklidgcmheofaaGreatDoor
open Go.RowKit Go.Maps
set_option maxHeartbeats 6400000
section
variable {w0 wr w : World} {ts : List Thing} {F I : List Nat} {gb W room bb sb rb nR : Nat} {L : List PNode} {y z : Lay} {regs rregs vals sizes : List Int} {arrs rarrs : List (List Int)} {v1 v2 v3 v4 vv : Value}
set_option maxRecDepth 100000 in
theorem Lab.does_1 (hI : BothIn w0 W nR sizes vals v3 vv) (hb : BothOk W vals nR sizes L regs rregs arrs rarrs) (hy : arrs.length = y.vs.length) (hz : rarrs.length = z.vs.length) (hph : phi W L + 40 < room) (x : ActD) (hx : x.Ok) (hk : x.k % 6 = 1)
    (h : Lab w0 wr (bothTs F I gb W room L bb sb rb nR y z regs rregs arrs rarrs v1 v2 v3 v4 vv ts)) :
    Calls Tryz.prog 10 #[.pointer (some ⟨bb, 0, none⟩), x.val] wr (DoesPost w0 gb W room bb sb rb nR L z vals sizes v1 v2 v3 v4 vv ts) := by
  obtain ⟨a3, na, c3, e3, hna, hsz⟩ := hI.sz
  obtain ⟨av, nv, cv, ev, hnv, hvl⟩ := hI.vl
  subst e3 ev
  obtain ⟨n, hn⟩ : ∃ n, x.r % nR = n := ⟨_, rfl⟩
  obtain ⟨a, ha⟩ : ∃ a, x.ar % na = a := ⟨_, rfl⟩
  have hR1 := hI.R1; have hR2 := hI.R2
  have hA1 : 1 ≤ na := by have := hI.A1; omega
  have hA2 : na ≤ 4 := by have := hI.A2; omega
  have hnR : n < nR := by rw [← hn]; exact Nat.mod_lt _ (by omega)
  have haN : a < na := by rw [← ha]; exact Nat.mod_lt _ (by omega)
  have hmod1 := tmod_nat x.r nR
  rw [hn] at hmod1
  have hmod2 := tmod_nat x.ar na
  rw [ha] at hmod2
  have hmodk := tmod_nat x.k 6
  rw [hk] at hmodk
  replace hmodk : ((x.k : Int)).tmod 6 = 1 := hmodk
  have nR0 : ¬ nR = 0 := by omega
  have nA0 : ¬ na = 0 := by omega
  obtain ⟨xk, xr, xar, xa, xb, xn⟩ := hx
  have hb0 := h.alloc #[.int .u8 x.k, .int .u8 x.r, .int .u8 x.ar, .int .u8 x.a, .int .u8 x.b, .int .u64 x.n] 36
  obtain ⟨q, hq⟩ : ∃ q, wr.heap.size = q := ⟨_, rfl⟩
  rw [hq] at hb0
  replace hb0 := hb0.sink5
  have HI := Lib.hid hI; have HB := Lib.hid hb; have HY := Lib.hid (And.intro hy (And.intro hz hph)); have HL := Lib.hid hb0; have HS := Lib.hid (And.intro hna hsz); have HV := Lib.hid (And.intro hnv hvl); have HX := Lib.hid (And.intro xk (And.intro xr (And.intro xar (And.intro xa (And.intro xb xn))))); have HN := Lib.hid (And.intro hnR haN)
  clear hI hb hy hz hph h hb0 hna hsz hnv hvl hk hn ha
  unfold ActD.val
  go_enter Tryz.func10, Tryz.ntmps10
  go_upto_region 1 with fail
  refine wp_abs (fun wx => Lab w0 wx (bothTs F I gb W room L bb sb rb nR y z regs rregs arrs rarrs v1 v2 (.slice a3 na c3) v4 (.slice av nv cv) (Thing.box q 36 #[.int .u8 x.k, .int .u8 x.r, .int .u8 x.ar, .int .u8 x.a, .int .u8 x.b, .int .u64 x.n] :: ts))) HL.out ?_
  intro w1 hw1
  have hrow : w1.heap[q]? = some (.cells #[.int .u8 x.k, .int .u8 x.r, .int .u8 x.ar, .int .u8 x.a, .int .u8 x.b, .int .u64 x.n] 36 (0, 0)) := hw1.fifth
  have q0 := cell_of_cells hrow (i := 0) rfl
  have q1 := cell_of_cells hrow (i := 1) rfl
  have q2 := cell_of_cells hrow (i := 2) rfl
  have q3 := cell_of_cells hrow (i := 3) rfl
  have q4 := cell_of_cells hrow (i := 4) rfl
  have q5 := cell_of_cells hrow (i := 5) rfl
  obtain ⟨c0, c1, c2, -, c4, c7, c9⟩ := both_cells hw1.fourth
  clear hrow
  have HW1 := Lib.hid hw1
  clear hw1 HL hq
  go_quiet (fail)
  go_upto_region 14 with fail
  clear q0 q1 q2 q3 q4 q5 c0 c1 c2 c4 c7 c9
  refine wp_abs (fun wx => Lab w0 wx (bothTs F I gb W room L bb sb rb nR y z regs rregs arrs rarrs v1 v2 (.slice a3 na c3) v4 (.slice av nv cv) (Thing.box q 36 #[.int .u8 x.k, .int .u8 x.r, .int .u8 x.ar, .int .u8 x.a, .int .u8 x.b, .int .u64 x.n] :: ts))) (HW1.out.drewN _) ?_
  intro w2 hw2
  have hrow : w2.heap[q]? = some (.cells #[.int .u8 x.k, .int .u8 x.r, .int .u8 x.ar, .int .u8 x.a, .int .u8 x.b, .int .u64 x.n] 36 (0, 0)) := hw2.fifth
  have q0 := cell_of_cells hrow (i := 0) rfl
  have q1 := cell_of_cells hrow (i := 1) rfl
  have q2 := cell_of_cells hrow (i := 2) rfl
  have q3 := cell_of_cells hrow (i := 3) rfl
  have q4 := cell_of_cells hrow (i := 4) rfl
  have q5 := cell_of_cells hrow (i := 5) rfl
  obtain ⟨c0, c1, c2, -, c4, c7, c9⟩ := both_cells hw2.fourth
  clear hrow
  have r0 := (Lab.st_read HY.out.2.1 hw2.rot3).c0
  have htr := rtrim30 (w := w2.drew) r0 HB.out.ok.w1 HB.out.ok.w2 x.n (by have := HX.out; omega)
  obtain ⟨v, hv⟩ : ∃ v : Nat, x.n % 2 ^ W = v := ⟨_, rfl⟩
  rw [hv] at htr
  have HT := Lib.hid htr; have HW2 := Lib.hid hw2; have HVV := Lib.hid hv
  clear htr hw2 hv r0 HW1
  go_region_held3 (fun w' => w'.cell? ⟨bb, 2, none⟩ = some (.pointer (some ⟨rb, 0, none⟩)) ∧ w'.cell? ⟨q, 5, none⟩ = some (.int .u64 x.n)) (first | exact ⟨by assumption, by assumption⟩ | go_keep)
    (first | (go_at_call 25; refine HT.out.mono ?_; rintro e w6 ⟨rfl, rfl⟩))
  go_upto_region 15 with fail
  clear q0 q1 q2 q3 q4 q5 c0 c1 c2 c4 c7 c9
  refine wp_abs (fun wx => Lab w0 wx (bothTs F I gb W room L bb sb rb nR y z regs rregs arrs rarrs v1 v2 (.slice a3 na c3) v4 (.slice av nv cv) (Thing.box q 36 #[.int .u8 x.k, .int .u8 x.r, .int .u8 x.ar, .int .u8 x.a, .int .u8 x.b, .int .u64 x.n] :: ts))) (HW2.out.drewN _) ?_
  intro w3 hw3
  have hrow : w3.heap[q]? = some (.cells #[.int .u8 x.k, .int .u8 x.r, .int .u8 x.ar, .int .u8 x.a, .int .u8 x.b, .int .u64 x.n] 36 (0, 0)) := hw3.fifth
  have q0 := cell_of_cells hrow (i := 0) rfl
  have q1 := cell_of_cells hrow (i := 1) rfl
  have q2 := cell_of_cells hrow (i := 2) rfl
  have q3 := cell_of_cells hrow (i := 3) rfl
  have q4 := cell_of_cells hrow (i := 4) rfl
  have q5 := cell_of_cells hrow (i := 5) rfl
  obtain ⟨c0, c1, c2, -, c4, c7, c9⟩ := both_cells hw3.fourth
  clear hrow
  obtain ⟨L2, t, hg2, hph2, -, -, hnm⟩ := Lab.bnumber HI.out.vl HI.out.nvals HI.out.u64 hw3 HY.out.1 HY.out.2.1 HB.out.ok (by have := HY.out.2.2; omega) x.n (by have := HX.out; omega)
  have HNM := Lib.hid hnm
  have HG := Lib.hid (And.intro hg2.ok (And.intro hg2.pre (And.intro (show phi W L2 ≤ phi W L + 18 by omega) (And.intro hg2.lt (show val W vals L2 t = (v : Int) by rw [hg2.val vals, HVV.out])))))
  clear hnm hg2 hph2 hw3 HT HW2
  go_wp2_with fail
  go_at_call 22
  refine HNM.out.mono ?_
  rintro e w4 ⟨F2, I2, rfl, hw4⟩
  clear q0 q1 q2 q3 q4 q5 c0 c1 c2 c4 c7 c9
  have hrow : w4.heap[q]? = some (.cells #[.int .u8 x.k, .int .u8 x.r, .int .u8 x.ar, .int .u8 x.a, .int .u8 x.b, .int .u64 x.n] 36 (0, 0)) := hw4.fifth
  have q0 := cell_of_cells hrow (i := 0) rfl
  have q1 := cell_of_cells hrow (i := 1) rfl
  have q2 := cell_of_cells hrow (i := 2) rfl
  have q3 := cell_of_cells hrow (i := 3) rfl
  have q4 := cell_of_cells hrow (i := 4) rfl
  have q5 := cell_of_cells hrow (i := 5) rfl
  obtain ⟨c0, c1, c2, -, c4, c7, c9⟩ := both_cells hw4.fourth
  clear hrow
  have HW4 := Lib.hid hw4
  clear hw4 HNM
  go_upto_region 42 with fail
  clear q0 q1 q2 q3 q4 q5 c0 c1 c2 c4 c7 c9
  refine wp_abs (fun wx => Lab w0 wx (bothTs F2 I2 gb W room L2 bb sb rb nR y z regs rregs arrs rarrs v1 v2 (.slice a3 na c3) v4 (.slice av nv cv) (Thing.box q 36 #[.int .u8 x.k, .int .u8 x.r, .int .u8 x.ar, .int .u8 x.a, .int .u8 x.b, .int .u64 x.n] :: ts))) HW4.out ?_
  intro wa hwa
  have hrow : wa.heap[q]? = some (.cells #[.int .u8 x.k, .int .u8 x.r, .int .u8 x.ar, .int .u8 x.a, .int .u8 x.b, .int .u64 x.n] 36 (0, 0)) := hwa.fifth
  have q0 := cell_of_cells hrow (i := 0) rfl
  have q1 := cell_of_cells hrow (i := 1) rfl
  have q2 := cell_of_cells hrow (i := 2) rfl
  have q3 := cell_of_cells hrow (i := 3) rfl
  have q4 := cell_of_cells hrow (i := 4) rfl
  have q5 := cell_of_cells hrow (i := 5) rfl
  obtain ⟨c0, c1, c2, -, c4, c7, c9⟩ := both_cells hwa.fourth
  clear hrow
  have hset := Lab.sset hwa HY.out.1 n t (by have h1 := HB.out.regs.1; have h2 := HB.out.nregs; have := HN.out.1; omega) HG.out.2.2.2.1
  have HSET := Lib.hid hset
  clear hset hwa
  go_wp2_with fail
  go_at_call 31
  refine HSET.out.mono ?_
  rintro e wb ⟨rfl, hwb⟩
  replace hwb : Lab w0 wb (bothTs F2 I2 gb W room L2 bb sb rb nR y z (regs.set n (t : Int)) rregs arrs rarrs v1 v2 (.slice a3 na c3) v4 (.slice av nv cv) (Thing.box q 36 #[.int .u8 x.k, .int .u8 x.r, .int .u8 x.ar, .int .u8 x.a, .int .u8 x.b, .int .u64 x.n] :: ts)) := hwb
  clear q0 q1 q2 q3 q4 q5 c0 c1 c2 c4 c7 c9 HSET
  have hrow : wb.heap[q]? = some (.cells #[.int .u8 x.k, .int .u8 x.r, .int .u8 x.ar, .int .u8 x.a, .int .u8 x.b, .int .u64 x.n] 36 (0, 0)) := hwb.fifth
  have q0 := cell_of_cells hrow (i := 0) rfl
  have q1 := cell_of_cells hrow (i := 1) rfl
  have q2 := cell_of_cells hrow (i := 2) rfl
  have q3 := cell_of_cells hrow (i := 3) rfl
  have q4 := cell_of_cells hrow (i := 4) rfl
  have q5 := cell_of_cells hrow (i := 5) rfl
  obtain ⟨c0, c1, c2, -, c4, c7, c9⟩ := both_cells hwb.fourth
  clear hrow
  obtain ⟨gg, cg, ug, hgv, hgc, hgf, hgs⟩ := Lab.rreg_set hwb.rot3 (n := n) (by have := HB.out.nregs; have := HN.out.1; omega)
  have hr1' := (Lab.st_read HY.out.2.1 hwb.rot3).c1
  rw [hgv] at hr1'
  obtain ⟨nr, hnr⟩ : ∃ nr, rregs.length = nr := ⟨_, rfl⟩
  rw [hnr] at hr1'
  have hnnr : (n : Int) < (nr : Int) := by have := HB.out.nregs; have := HN.out.1; omega
  have n0 : (0 : Int) ≤ (n : Int) := by omega
  have hgs1 : Lab w0 (wb.setCell ⟨gg, n, none⟩ (.int .u64 (v : Int))) (bothTs F2 I2 gb W room L2 bb sb rb nR y z (regs.set n (t : Int)) (rregs.set n (v : Int)) arrs rarrs v1 v2 (.slice a3 na c3) v4 (.slice av nv cv) (Thing.box q 36 #[.int .u8 x.k, .int .u8 x.r, .int .u8 x.ar, .int .u8 x.a, .int .u8 x.b, .int .u64 x.n] :: ts)) := (hgs (v : Int)).rot3'
  have HGS := Lib.hid hgs1
  clear hgs hgs1 hwb hgv hnr
  go_upto_region 45 with fail
  clear q0 q1 q2 q3 q4 q5 c0 c1 c2 c4 c7 c9 hr1' hgc hgf hnnr
  refine wp_abs (fun wx => Lab w0 wx (bothTs F2 I2 gb W room L2 bb sb rb nR y z (regs.set n (t : Int)) (rregs.set n (v : Int)) arrs rarrs v1 v2 (.slice a3 na c3) v4 (.slice av nv cv) (Thing.box q 36 #[.int .u8 x.k, .int .u8 x.r, .int .u8 x.ar, .int .u8 x.a, .int .u8 x.b, .int .u64 x.n] :: ts))) HGS.out ?_
  intro wc hwc
  have hbn : BothOk W vals nR sizes L2 (regs.set n (t : Int)) (rregs.set n (v : Int)) arrs rarrs := ⟨HG.out.1, (HB.out.regs.keep HG.out.2.1).set n HG.out.2.2.2.1 HG.out.2.2.2.2, by rw [List.length_set]; exact HB.out.nregs, HB.out.arrs.keep HG.out.2.1⟩
  have hsame := Lab.bsame HI.out hbn HY.out.1 HY.out.2.1 (by have := HY.out.2.2; have := HG.out.2.2.1; omega) hwc
  have HSAME := Lib.hid hsame; have HBN := Lib.hid hbn
  clear hsame hwc hbn HGS
  go_wp2_with fail
  go_at_call 9
  refine HSAME.out.mono ?_
  rintro e wd ⟨L9, F9, I9, rfl, hp9, hok9, hph9, hwd⟩
  have HWD := Lib.hid (And.intro hp9 (And.intro hok9 (And.intro hph9 hwd)))
  clear hp9 hok9 hph9 hwd HSAME
  go_wp2
  go_ret
  refine ⟨L9, F9, I9, y, regs.set n (t : Int), rregs.set n (v : Int), arrs, rarrs, rfl, HG.out.2.1.trans HWD.out.1, ⟨HWD.out.2.1, HBN.out.regs.keep HWD.out.1, HBN.out.nregs, HBN.out.arrs.keep HWD.out.1⟩, by have := HWD.out.2.2.1; have := HG.out.2.2.1; omega, HY.out.1, HY.out.2.1, ?_⟩
  exact HWD.out.2.2.2.subl (.cons_cons _ (.cons_cons _ (.cons_cons _ (.cons_cons _ (.cons _ (List.Sublist.refl _))))))
end
end Go.Proofs.YtiklidgcmheofaaGreatDoor
namespace Go.Proofs.YtiklidgcmheofaaGreatDoor
open Go.RowKit Go.Maps
set_option maxHeartbeats 6400000
section
variable {w0 wr w : World} {ts : List Thing} {F I : List Nat} {gb W room bb sb rb nR : Nat} {L : List PNode} {y z : Lay} {regs rregs vals sizes : List Int} {arrs rarrs : List (List Int)} {v1 v2 v3 v4 vv : Value}
set_option maxRecDepth 100000 in
theorem Lab.does_2 (hI : BothIn w0 W nR sizes vals v3 vv) (hb : BothOk W vals nR sizes L regs rregs arrs rarrs) (hy : arrs.length = y.vs.length) (hz : rarrs.length = z.vs.length) (hph : phi W L + 40 < room) (x : ActD) (hx : x.Ok) (hk : x.k % 6 = 2)
    (h : Lab w0 wr (bothTs F I gb W room L bb sb rb nR y z regs rregs arrs rarrs v1 v2 v3 v4 vv ts)) :
    Calls Tryz.prog 10 #[.pointer (some ⟨bb, 0, none⟩), x.val] wr (DoesPost w0 gb W room bb sb rb nR L z vals sizes v1 v2 v3 v4 vv ts) := by
  obtain ⟨a3, na, c3, e3, hna, hsz⟩ := hI.sz
  obtain ⟨av, nv, cv, ev, hnv, hvl⟩ := hI.vl
  subst e3 ev
  obtain ⟨n, hn⟩ : ∃ n, x.r % nR = n := ⟨_, rfl⟩
  obtain ⟨a, ha⟩ : ∃ a, x.ar % na = a := ⟨_, rfl⟩
  have hR1 := hI.R1; have hR2 := hI.R2
  have hA1 : 1 ≤ na := by have := hI.A1; omega
  have hA2 : na ≤ 4 := by have := hI.A2; omega
  have hnR : n < nR := by rw [← hn]; exact Nat.mod_lt _ (by omega)
  have haN : a < na := by rw [← ha]; exact Nat.mod_lt _ (by omega)
  have hmod1 := tmod_nat x.r nR
  rw [hn] at hmod1
  have hmod2 := tmod_nat x.ar na
  rw [ha] at hmod2
  have hmodk := tmod_nat x.k 6
  rw [hk] at hmodk
  replace hmodk : ((x.k : Int)).tmod 6 = 2 := hmodk
  have nR0 : ¬ nR = 0 := by omega
  have nA0 : ¬ na = 0 := by omega
  obtain ⟨xk, xr, xar, xa, xb, xn⟩ := hx
  have hb0 := h.alloc #[.int .u8 x.k, .int .u8 x.r, .int .u8 x.ar, .int .u8 x.a, .int .u8 x.b, .int .u64 x.n] 36
  obtain ⟨q, hq⟩ : ∃ q, wr.heap.size = q := ⟨_, rfl⟩
  rw [hq] at hb0
  replace hb0 := hb0.sink5
  have HI := Lib.hid hI; have HB := Lib.hid hb; have HY := Lib.hid (And.intro hy (And.intro hz hph)); have HL := Lib.hid hb0; have HS := Lib.hid (And.intro hna hsz); have HV := Lib.hid (And.intro hnv hvl); have HX := Lib.hid (And.intro xk (And.intro xr (And.intro xar (And.intro xa (And.intro xb xn))))); have HN := Lib.hid (And.intro hnR haN)
  clear hI hb hy hz hph h hb0 hna hsz hnv hvl hk hn ha
  unfold ActD.val
  go_enter Tryz.func10, Tryz.ntmps10
  go_upto_region 1 with fail
  refine wp_abs (fun wx => Lab w0 wx (bothTs F I gb W room L bb sb rb nR y z regs rregs arrs rarrs v1 v2 (.slice a3 na c3) v4 (.slice av nv cv) (Thing.box q 36 #[.int .u8 x.k, .int .u8 x.r, .int .u8 x.ar, .int .u8 x.a, .int .u8 x.b, .int .u64 x.n] :: ts))) HL.out ?_
  intro w1 hw1
  have hrow : w1.heap[q]? = some (.cells #[.int .u8 x.k, .int .u8 x.r, .int .u8 x.ar, .int .u8 x.a, .int .u8 x.b, .int .u64 x.n] 36 (0, 0)) := hw1.fifth
  have q0 := cell_of_cells hrow (i := 0) rfl
  have q1 := cell_of_cells hrow (i := 1) rfl
  have q2 := cell_of_cells hrow (i := 2) rfl
  have q3 := cell_of_cells hrow (i := 3) rfl
  have q4 := cell_of_cells hrow (i := 4) rfl
  have q5 := cell_of_cells hrow (i := 5) rfl
  obtain ⟨c0, c1, c2, -, c4, c7, c9⟩ := both_cells hw1.fourth
  clear hrow
  have HW1 := Lib.hid hw1
  clear hw1 HL hq
  go_quiet (fail)
  go_upto_region 17 with fail
  clear q0 q1 q2 q3 q4 q5 c0 c1 c2 c4 c7 c9
  refine wp_abs (fun wx => Lab w0 wx (bothTs F I gb W room L bb sb rb nR y z regs rregs arrs rarrs v1 v2 (.slice a3 na c3) v4 (.slice av nv cv) (Thing.box q 36 #[.int .u8 x.k, .int .u8 x.r, .int .u8 x.ar, .int .u8 x.a, .int .u8 x.b, .int .u64 x.n] :: ts))) (HW1.out.drewN _) ?_
  intro w2 hw2
  have hrow : w2.heap[q]? = some (.cells #[.int .u8 x.k, .int .u8 x.r, .int .u8 x.ar, .int .u8 x.a, .int .u8 x.b, .int .u64 x.n] 36 (0, 0)) := hw2.fifth
  have q0 := cell_of_cells hrow (i := 0) rfl
  have q1 := cell_of_cells hrow (i := 1) rfl
  have q2 := cell_of_cells hrow (i := 2) rfl
  have q3 := cell_of_cells hrow (i := 3) rfl
  have q4 := cell_of_cells hrow (i := 4) rfl
  have q5 := cell_of_cells hrow (i := 5) rfl
  obtain ⟨c0, c1, c2, -, c4, c7, c9⟩ := both_cells hw2.fourth
  clear hrow
  obtain ⟨t, v, -, hr2, hr3, hr4, hreg⟩ := Lab.breg HI.out.vl HI.out.nvals HI.out.u64 hw2 HY.out.1 HY.out.2.1 HB.out.regs HB.out.nregs hR1 (by omega) x.a xa
  have HREG := Lib.hid hreg; have HW2 := Lib.hid hw2
  have HG := Lib.hid (And.intro HB.out.ok (And.intro (List.prefix_refl L) (And.intro (show phi W L ≤ phi W L + 18 by omega) (And.intro hr2 hr4))))
  clear hreg hw2 hr2 hr3 hr4 HW1
  go_wp2_with fail
  go_at_call 13
  refine HREG.out.mono ?_
  rintro e w3 ⟨rfl, hb3⟩
  have hw3 := HW2.out.later hb3
  clear q0 q1 q2 q3 q4 q5 c0 c1 c2 c4 c7 c9 HREG HW2 hb3
  have hrow : w3.heap[q]? = some (.cells #[.int .u8 x.k, .int .u8 x.r, .int .u8 x.ar, .int .u8 x.a, .int .u8 x.b, .int .u64 x.n] 36 (0, 0)) := hw3.fifth
  have q0 := cell_of_cells hrow (i := 0) rfl
  have q1 := cell_of_cells hrow (i := 1) rfl
  have q2 := cell_of_cells hrow (i := 2) rfl
  have q3 := cell_of_cells hrow (i := 3) rfl
  have q4 := cell_of_cells hrow (i := 4) rfl
  have q5 := cell_of_cells hrow (i := 5) rfl
  obtain ⟨c0, c1, c2, -, c4, c7, c9⟩ := both_cells hw3.fourth
  clear hrow
  have HW3 := Lib.hid hw3
  clear hw3
  go_upto_region 42 with fail
  clear q0 q1 q2 q3 q4 q5 c0 c1 c2 c4 c7 c9
  refine wp_abs (fun wx => Lab w0 wx (bothTs F I gb W room L bb sb rb nR y z regs rregs arrs rarrs v1 v2 (.slice a3 na c3) v4 (.slice av nv cv) (Thing.box q 36 #[.int .u8 x.k, .int .u8 x.r, .int .u8 x.ar, .int .u8 x.a, .int .u8 x.b, .int .u64 x.n] :: ts))) HW3.out ?_
  intro wa hwa
  have hrow : wa.heap[q]? = some (.cells #[.int .u8 x.k, .int .u8 x.r, .int .u8 x.ar, .int .u8 x.a, .int .u8 x.b, .int .u64 x.n] 36 (0, 0)) := hwa.fifth
  have q0 := cell_of_cells hrow (i := 0) rfl
  have q1 := cell_of_cells hrow (i := 1) rfl
  have q2 := cell_of_cells hrow (i := 2) rfl
  have q3 := cell_of_cells hrow (i := 3) rfl
  have q4 := cell_of_cells hrow (i := 4) rfl
  have q5 := cell_of_cells hrow (i := 5) rfl
  obtain ⟨c0, c1, c2, -, c4, c7, c9⟩ := both_cells hwa.fourth
  clear hrow
  have hset := Lab.sset hwa HY.out.1 n t (by have h1 := HB.out.regs.1; have h2 := HB.out.nregs; have := HN.out.1; omega) HG.out.2.2.2.1
  have HSET := Lib.hid hset
  clear hset hwa
  go_wp2_with fail
  go_at_call 31
  refine HSET.out.mono ?_
  rintro e wb ⟨rfl, hwb⟩
  replace hwb : Lab w0 wb (bothTs F I gb W room L bb sb rb nR y z (regs.set n (t : Int)) rregs arrs rarrs v1 v2 (.slice a3 na c3) v4 (.slice av nv cv) (Thing.box q 36 #[.int .u8 x.k, .int .u8 x.r, .int .u8 x.ar, .int .u8 x.a, .int .u8 x.b, .int .u64 x.n] :: ts)) := hwb
  clear q0 q1 q2 q3 q4 q5 c0 c1 c2 c4 c7 c9 HSET
  have hrow : wb.heap[q]? = some (.cells #[.int .u8 x.k, .int .u8 x.r, .int .u8 x.ar, .int .u8 x.a, .int .u8 x.b, .int .u64 x.n] 36 (0, 0)) := hwb.fifth
  have q0 := cell_of_cells hrow (i := 0) rfl
  have q1 := cell_of_cells hrow (i := 1) rfl
  have q2 := cell_of_cells hrow (i := 2) rfl
  have q3 := cell_of_cells hrow (i := 3) rfl
  have q4 := cell_of_cells hrow (i := 4) rfl
  have q5 := cell_of_cells hrow (i := 5) rfl
  obtain ⟨c0, c1, c2, -, c4, c7, c9⟩ := both_cells hwb.fourth
  clear hrow
  obtain ⟨gg, cg, ug, hgv, hgc, hgf, hgs⟩ := Lab.rreg_set hwb.rot3 (n := n) (by have := HB.out.nregs; have := HN.out.1; omega)
  have hr1' := (Lab.st_read HY.out.2.1 hwb.rot3).c1
  rw [hgv] at hr1'
  obtain ⟨nr, hnr⟩ : ∃ nr, rregs.length = nr := ⟨_, rfl⟩
  rw [hnr] at hr1'
  have hnnr : (n : Int) < (nr : Int) := by have := HB.out.nregs; have := HN.out.1; omega
  have n0 : (0 : Int) ≤ (n : Int) := by omega
  have hgs1 : Lab w0 (wb.setCell ⟨gg, n, none⟩ (.int .u64 v)) (bothTs F I gb W room L bb sb rb nR y z (regs.set n (t : Int)) (rregs.set n v) arrs rarrs v1 v2 (.slice a3 na c3) v4 (.slice av nv cv) (Thing.box q 36 #[.int .u8 x.k, .int .u8 x.r, .int .u8 x.ar, .int .u8 x.a, .int .u8 x.b, .int .u64 x.n] :: ts)) := (hgs v).rot3'
  have HGS := Lib.hid hgs1
  clear hgs hgs1 hwb hgv hnr
  go_upto_region 45 with fail
  clear q0 q1 q2 q3 q4 q5 c0 c1 c2 c4 c7 c9 hr1' hgc hgf hnnr
  refine wp_abs (fun wx => Lab w0 wx (bothTs F I gb W room L bb sb rb nR y z (regs.set n (t : Int)) (rregs.set n v) arrs rarrs v1 v2 (.slice a3 na c3) v4 (.slice av nv cv) (Thing.box q 36 #[.int .u8 x.k, .int .u8 x.r, .int .u8 x.ar, .int .u8 x.a, .int .u8 x.b, .int .u64 x.n] :: ts))) HGS.out ?_
  intro wc hwc
  have hbn : BothOk W vals nR sizes L (regs.set n (t : Int)) (rregs.set n v) arrs rarrs := ⟨HG.out.1, (HB.out.regs.keep HG.out.2.1).set n HG.out.2.2.2.1 HG.out.2.2.2.2, by rw [List.length_set]; exact HB.out.nregs, HB.out.arrs.keep HG.out.2.1⟩
  have hsame := Lab.bsame HI.out hbn HY.out.1 HY.out.2.1 (by have := HY.out.2.2; have := HG.out.2.2.1; omega) hwc
  have HSAME := Lib.hid hsame; have HBN := Lib.hid hbn
  clear hsame hwc hbn HGS
  go_wp2_with fail
  go_at_call 9
  refine HSAME.out.mono ?_
  rintro e wd ⟨L9, F9, I9, rfl, hp9, hok9, hph9, hwd⟩
  have HWD := Lib.hid (And.intro hp9 (And.intro hok9 (And.intro hph9 hwd)))
  clear hp9 hok9 hph9 hwd HSAME
  go_wp2
  go_ret
  refine ⟨L9, F9, I9, y, regs.set n (t : Int), rregs.set n v, arrs, rarrs, rfl, HG.out.2.1.trans HWD.out.1, ⟨HWD.out.2.1, HBN.out.regs.keep HWD.out.1, HBN.out.nregs, HBN.out.arrs.keep HWD.out.1⟩, by have := HWD.out.2.2.1; have := HG.out.2.2.1; omega, HY.out.1, HY.out.2.1, ?_⟩
  exact HWD.out.2.2.2.subl (.cons_cons _ (.cons_cons _ (.cons_cons _ (.cons_cons _ (.cons _ (List.Sublist.refl _))))))
end
end Go.Proofs.YtiklidgcmheofaaGreatDoor
