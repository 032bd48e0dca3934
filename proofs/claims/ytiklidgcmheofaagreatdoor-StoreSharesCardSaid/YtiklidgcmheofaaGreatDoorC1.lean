/- StLS: joined by wip/bundle.py. -/
import Derived.Test.YtiklidgcmheofaaGreatDoorB1
import Derived.Test.YtiklidgcmheofaaGreatDoorB2
import Derived.Test.YtiklidgcmheofaaGreatDoorB3
import Derived.Test.YtiklidgcmheofaaGreatDoorB4
import Derived.Test.YtiklidgcmheofaaGreatDoorB5
import Derived.Test.YtiklidgcmheofaaGreatDoorB6
import Derived.Test.YtiklidgcmheofaaGreatDoorB7
import Derived.Test.YtiklidgcmheofaaGreatDoorB8
import Derived.Test.YtiklidgcmheofaaGreatDoorB9
import Derived.Test.YtiklidgcmheofaaGreatDoorB10
import Derived.Test.YtiklidgcmheofaaGreatDoorB11
import Derived.Test.YtiklidgcmheofaaGreatDoorB12
import Derived.Test.YtiklidgcmheofaaGreatDoorB13
import Derived.Test.YtiklidgcmheofaaGreatDoorB14
import Derived.Test.YtiklidgcmheofaaGreatDoorB15
import Derived.Test.YtiklidgcmheofaaGreatDoorB16
import Derived.Test.YtiklidgcmheofaaGreatDoorB17
import Derived.Test.YtiklidgcmheofaaGreatDoorB18
import Derived.Test.YtiklidgcmheofaaGreatDoorB19
import Derived.Test.YtiklidgcmheofaaGreatDoorB20
import Derived.Test.YtiklidgcmheofaaGreatDoorB21
import Derived.Test.YtiklidgcmheofaaGreatDoorB22
import Derived.Test.YtiklidgcmheofaaGreatDoorB23
import Derived.Laws.BitsAllLaws
import Derived.Lib.Hide
import Derived.WalkKit
import Derived.WalkSpells
import Derived.WalkLawsBesides
import Derived.BigQuiet
import Derived.Deep.QuietTactic
import Derived.Deep.RegionHeld3
import Derived.ProofKit
import Derived.Maps.Keyed
import Derived.DeepKeys4
import Derived.StillTailTactics
import Derived.Laws.CopyOwn
import Derived.Deep.RegionLaw
import Derived.Deep.Slices
import Derived.Deep.Fields
import Derived.ChangeSame
import Derived.OpenShut
import Derived.Deep.DeepCutAuto
import Derived.Deep.CutBlock
import Derived.Deep.OwnRows
import Derived.Maps.RangeWalk
import Derived.Deep.DrawnRows
import Derived.Outline
import Derived.Deep.Upon
import Derived.WideKeyArr2
import Derived.Lib.AppendZeros
import Derived.BigRegion
import Derived.StillTail
import Derived.Lib.TrailingZeros
import Derived.RangeFuncRecord
import Derived.RangeFuncNested
import Derived.RangeFuncCalls
import Derived.RangeFuncLeaves
import Derived.OwnWalkIn
import Derived.TacticsInMore
import Derived.LoopNIn
import Derived.LoopIn
import Derived.Laws.EntriesVeiled
import Derived.OrdersHeld
import Derived.Laws.IdiomStrings
import Derived.BigGuardPart
import Derived.Lib.LaidTab
namespace Go.Proofs.YtiklidgcmheofaaGreatDoor
open Go.RowKit Go.Maps
set_option maxHeartbeats 3200000
section
variable {w : World}
set_option maxRecDepth 100000 in
theorem storeShares_walk (f : FlatD) (v1 v2 v3 v4 vv va vb : Value) (hf : FlatOf w f v1 v2 v3 v4) (hT : ShpOk w) (vals : List Int) (hv : SliceOf w .u64 vv vals) (hvu : U64s vals) (a0 : List ActD) (ha0 : ActsOf w va a0) (a1 : List ActD) (ha1 : ActsOf w vb a1) :
    Calls Tryz.prog 4 #[.agg #[.int .i64 f.W, .int .i64 f.R, v1, v2, v3, v4], vv, va, vb] w fun e w' => e = .returned (.bool true) ∧ Below w.heap.size w w' := by
  obtain ⟨av, nv, cv, rfl, hnv, -⟩ := hv.parts
  obtain ⟨aa0, na0, ca0, rfl, hna0, -, hacts0⟩ := ha0
  obtain ⟨aa1, na1, ca1, rfl, hna1, -, hacts1⟩ := ha1
  have hb0 := (Lab.nil (Below.refl w.heap.size w)).alloc #[.int .i64 f.W, .int .i64 f.R, v1, v2, v3, v4] 26
  have cells : ∀ (wx : World) (us : List Thing), Lab w wx us → Thing.box w.heap.size 26 #[.int .i64 f.W, .int .i64 f.R, v1, v2, v3, v4] ∈ us → wx.cell? ⟨w.heap.size, 0, none⟩ = some (.int .i64 f.W) ∧ wx.cell? ⟨w.heap.size, 1, none⟩ = some (.int .i64 f.R) ∧ wx.cell? ⟨w.heap.size, 2, none⟩ = some v1 ∧ wx.cell? ⟨w.heap.size, 3, none⟩ = some v2 ∧ wx.cell? ⟨w.heap.size, 4, none⟩ = some v3 ∧ wx.cell? ⟨w.heap.size, 5, none⟩ = some v4 := fun wx us hx hm => by
    have r : wx.heap[w.heap.size]? = some (.cells #[.int .i64 f.W, .int .i64 f.R, v1, v2, v3, v4] 26 (0, 0)) := hx.holds _ hm
    exact ⟨cell_of_cells r (i := 0) rfl, cell_of_cells r (i := 1) rfl, cell_of_cells r (i := 2) rfl, cell_of_cells r (i := 3) rfl, cell_of_cells r (i := 4) rfl, cell_of_cells r (i := 5) rfl⟩
  obtain ⟨q, hq⟩ : ∃ q, w.heap.size = q := ⟨_, rfl⟩
  rw [hq] at hb0 cells
  have hsml : ∀ wx, Lab w wx [Thing.box q 26 #[.int .i64 f.W, .int .i64 f.R, v1, v2, v3, v4]] → Calls Tryz.prog 6 #[.agg #[.int .i64 f.W, .int .i64 f.R, v1, v2, v3, v4]] wx fun e w' => ∃ B : Bool, e = .returned (.bool B) ∧ (B = true ↔ SmallP f) ∧ Below wx.heap.size wx w' := fun wx hx => small_any f v1 v2 v3 v4 (hf.later hx.below) (hT.later hx.below)
  have HB := Lib.hid hb0; have HC := Lib.hid cells; have HF := Lib.hid (And.intro hf (And.intro hT (And.intro hv (And.intro hvu hnv)))); have HSL := Lib.hid hsml
  have HA0 := Lib.hid (And.intro hna0 hacts0)
  have HA1 := Lib.hid (And.intro hna1 hacts1)
  clear hb0 cells hf hT hsml hv hvu hnv hna0 hacts0 hna1 hacts1
  by_cases hS : SmallP f
  · by_cases hc0 : 8 < nv
    · have HS := Lib.hid hS
      have gc0 : decide (8 < (nv : Int)) = true := decide_eq_true (by omega)
      clear hS
      go_enter Tryz.func4, Tryz.ntmps4
      go_upto_region 1 with fail
      refine wp_abs (fun wx => Lab w wx [Thing.box q 26 #[.int .i64 f.W, .int .i64 f.R, v1, v2, v3, v4]]) HB.out ?_
      intro w1 hl1
      obtain ⟨q0, q1, q2, q3, q4, q5⟩ := HC.out _ _ hl1 (by simp)
      have HSM := Lib.hid (HSL.out w1 hl1); have HL1 := Lib.hid hl1
      clear hl1 HB hq
      go_wp2_with fail
      go_at_call 6
      refine HSM.out.mono ?_
      rintro e w2 ⟨B, rfl, hB, hb2⟩
      obtain rfl : B = true := hB.2 HS.out
      have hl2 := HL1.out.later hb2
      clear q0 q1 q2 q3 q4 q5 HSM HL1 hb2 hB
      obtain ⟨q0, q1, q2, q3, q4, q5⟩ := HC.out _ _ hl2 (by simp)
      have HL := Lib.hid hl2
      clear hl2
      go_wp2_with fail
      go_at_call 7
      refine (awake30_any (HF.out.2.1.later HL.out.below)).mono ?_
      rintro e w6 ⟨rfl, hb6⟩
      have HB6 := Lib.hid hb6
      clear hb6
      go_wp2
      go_ret
      exact ⟨rfl, HL.out.below.trans (HB6.out.mono HL.out.below.size)⟩
    · have gc0 : decide (8 < (nv : Int)) = false := decide_eq_false (by omega)
      by_cases hc1 : 10 < na0
      · have HS := Lib.hid hS
        have gc1 : decide (10 < (na0 : Int)) = true := decide_eq_true (by omega)
        clear hS
        go_enter Tryz.func4, Tryz.ntmps4
        go_upto_region 1 with fail
        refine wp_abs (fun wx => Lab w wx [Thing.box q 26 #[.int .i64 f.W, .int .i64 f.R, v1, v2, v3, v4]]) HB.out ?_
        intro w1 hl1
        obtain ⟨q0, q1, q2, q3, q4, q5⟩ := HC.out _ _ hl1 (by simp)
        have HSM := Lib.hid (HSL.out w1 hl1); have HL1 := Lib.hid hl1
        clear hl1 HB hq
        go_wp2_with fail
        go_at_call 6
        refine HSM.out.mono ?_
        rintro e w2 ⟨B, rfl, hB, hb2⟩
        obtain rfl : B = true := hB.2 HS.out
        have hl2 := HL1.out.later hb2
        clear q0 q1 q2 q3 q4 q5 HSM HL1 hb2 hB
        obtain ⟨q0, q1, q2, q3, q4, q5⟩ := HC.out _ _ hl2 (by simp)
        have HL := Lib.hid hl2
        clear hl2
        go_wp2_with fail
        go_at_call 7
        refine (awake30_any (HF.out.2.1.later HL.out.below)).mono ?_
        rintro e w6 ⟨rfl, hb6⟩
        have HB6 := Lib.hid hb6
        clear hb6
        go_wp2
        go_ret
        exact ⟨rfl, HL.out.below.trans (HB6.out.mono HL.out.below.size)⟩
      · have gc1 : decide (10 < (na0 : Int)) = false := decide_eq_false (by omega)
        by_cases hc2 : 10 < na1
        · have HS := Lib.hid hS
          have gc2 : decide (10 < (na1 : Int)) = true := decide_eq_true (by omega)
          clear hS
          go_enter Tryz.func4, Tryz.ntmps4
          go_upto_region 1 with fail
          refine wp_abs (fun wx => Lab w wx [Thing.box q 26 #[.int .i64 f.W, .int .i64 f.R, v1, v2, v3, v4]]) HB.out ?_
          intro w1 hl1
          obtain ⟨q0, q1, q2, q3, q4, q5⟩ := HC.out _ _ hl1 (by simp)
          have HSM := Lib.hid (HSL.out w1 hl1); have HL1 := Lib.hid hl1
          clear hl1 HB hq
          go_wp2_with fail
          go_at_call 6
          refine HSM.out.mono ?_
          rintro e w2 ⟨B, rfl, hB, hb2⟩
          obtain rfl : B = true := hB.2 HS.out
          have hl2 := HL1.out.later hb2
          clear q0 q1 q2 q3 q4 q5 HSM HL1 hb2 hB
          obtain ⟨q0, q1, q2, q3, q4, q5⟩ := HC.out _ _ hl2 (by simp)
          have HL := Lib.hid hl2
          clear hl2
          go_wp2_with fail
          go_at_call 7
          refine (awake30_any (HF.out.2.1.later HL.out.below)).mono ?_
          rintro e w6 ⟨rfl, hb6⟩
          have HB6 := Lib.hid hb6
          clear hb6
          go_wp2
          go_ret
          exact ⟨rfl, HL.out.below.trans (HB6.out.mono HL.out.below.size)⟩
        · have gc2 : decide (10 < (na1 : Int)) = false := decide_eq_false (by omega)
          have HS := Lib.hid hS
          obtain ⟨W', R', ch, st, ars, cs⟩ := f
          simp only at HB HC HF HSL ⊢
          obtain ⟨W, rfl⟩ : ∃ W : Nat, W' = (W : Int) := ⟨W'.toNat, by have := hS.1.W; simp only at this; omega⟩
          obtain ⟨nR, rfl⟩ : ∃ n : Nat, R' = (n : Int) := ⟨R'.toNat, by have := hS.1.R; simp only at this; omega⟩
          have HI := Lib.hid (bothIn_of HF.out.1 hS HF.out.2.2.1 HF.out.2.2.2.1 (by rw [HF.out.2.2.2.2]; omega))
          clear hS
          go_enter Tryz.func4, Tryz.ntmps4
          go_upto_region 1 with fail
          refine wp_abs (fun wx => Lab w wx [Thing.box q 26 #[.int .i64 W, .int .i64 nR, v1, v2, v3, v4]]) HB.out ?_
          intro w1 hl1
          obtain ⟨q0, q1, q2, q3, q4, q5⟩ := HC.out _ _ hl1 (by simp)
          have HSM := Lib.hid (HSL.out w1 hl1); have HL1 := Lib.hid hl1
          clear hl1 HB hq
          go_wp2_with fail
          go_at_call 6
          refine HSM.out.mono ?_
          rintro e w2 ⟨B, rfl, hB, hb2⟩
          obtain rfl : B = true := hB.2 HS.out
          have hl2 := HL1.out.later hb2
          clear q0 q1 q2 q3 q4 q5 HSM HL1 hb2 hB
          obtain ⟨q0, q1, q2, q3, q4, q5⟩ := HC.out _ _ hl2 (by simp)
          have hbg := Lab.bbegin (vals := vals) HF.out.1 HF.out.2.1 HS.out.1 (vv := .slice av nv cv) ⟨_, _, _, rfl⟩ hl2
          have HBG := Lib.hid hbg
          clear hbg hl2
          go_wp2_with fail
          go_at_call 8
          refine HBG.out.mono ?_
          rintro e w3 ⟨bb, gb, sb, rb, zt, y, z, L, F, I, rfl, hB, hyl, hzl, hl3⟩
          have hbo := hB.both (vals := vals) (nR := nR) (fun s hs => HS.out.1.arrays s hs)
          have HBO := Lib.hid (And.intro hB (And.intro hbo (And.intro hyl hzl)))
          clear HBG q0 q1 q2 q3 q4 q5
          obtain ⟨c0, -, -, -, -, -, -⟩ := both_cells hl3.fourth
          obtain ⟨q0, q1, q2, q3, q4, q5⟩ := HC.out _ _ hl3 (by simp [bothTs])
          have hsn := Lab.snew (ts := _) HF.out.1 HF.out.2.1 HS.out.1 hB.ok (by have := hB.phi; omega) (show Lab w w3.drew (Thing.graph F I gb W 20000 L :: Thing.gst gb sb y (List.replicate nR (zt : Int)) (zerosL zt ars) :: Thing.rst W rb z (List.replicate nR 0) (zerosL 0 ars) :: Thing.both bb gb sb rb W nR v1 v2 v3 v4 (.slice av nv cv) :: [Thing.box q 26 #[.int .i64 W, .int .i64 nR, v1, v2, v3, v4]]) from hl3.drewN 1)
          have HSN := Lib.hid hsn
          clear hsn hbo hB hyl hzl hl3
          go_upto_region 6 with fail
          go_region_held3 (fun w' => w'.cell? ⟨bb, 0, none⟩ = some (.pointer (some ⟨gb, 0, none⟩)) ∧ w'.cell? ⟨q, 0, none⟩ = some (.int .i64 W) ∧ w'.cell? ⟨q, 1, none⟩ = some (.int .i64 nR) ∧ w'.cell? ⟨q, 2, none⟩ = some v1 ∧ w'.cell? ⟨q, 3, none⟩ = some v2 ∧ w'.cell? ⟨q, 4, none⟩ = some v3 ∧ w'.cell? ⟨q, 5, none⟩ = some v4) (first | exact ⟨by assumption, by assumption, by assumption, by assumption, by assumption, by assumption, by assumption⟩ | go_keep)
            (first | (go_at_call 11; refine HSN.out.mono ?_; rintro e w4 ⟨sb2, yB, zt2, L1, F1, I1, rfl, hg1, hph1, hyl2, hl4⟩; obtain ⟨u0, -, -, -, -, -, -⟩ := both_cells (hl4.holds (Thing.both bb gb sb rb W nR v1 v2 v3 v4 (.slice av nv cv)) (by simp)); obtain ⟨p0, p1, p2, p3, p4, p5⟩ := HC.out _ _ hl4 (by simp); have HL4 := Lib.hid (And.intro hl4 (And.intro hg1 (And.intro hph1 hyl2))); clear hl4 hg1 hph1 hyl2))
          clear q0 q1 q2 q3 q4 q5 c0 u0 HSN
          have hbg := Lab.bbegin (vals := vals) HF.out.1 HF.out.2.1 HS.out.1 (vv := .slice av nv cv) ⟨_, _, _, rfl⟩ HL4.out.1
          have HBG := Lib.hid hbg
          clear hbg
          go_wp2_with fail
          go_at_call 8
          refine HBG.out.mono ?_
          rintro e w5 ⟨bb2, gb2, sb3, rb2, zt3, y3, z2, L3, F3, I3, rfl, hB2, hyl3, hzl3, hl5⟩
          clear HBG p0 p1 p2 p3 p4 p5
          have hbx := hl5.drop.drop.swap
          have hrow2 : w5.heap[bb2]? = some (.cells #[.pointer (some ⟨gb2, 0, none⟩), .pointer (some ⟨sb3, 0, none⟩), .pointer (some ⟨rb2, 0, none⟩), .int .i64 W, .int .i64 nR, v1, v2, v3, v4, .slice av nv cv] 45 (0, 0)) := hbx.head
          have d0 := cell_of_cells hrow2 (i := 0) rfl
          have d1 := cell_of_cells hrow2 (i := 1) rfl
          have f0 := frozen_of_cells (i := 0) hrow2
          have f1 := frozen_of_cells (i := 1) hrow2
          obtain ⟨u0, -, -, -, -, -, -⟩ := both_cells (hl5.holds (Thing.both bb gb sb rb W nR v1 v2 v3 v4 (.slice av nv cv)) (by simp [bothTs]))
          have h7 : Lab w _ (Thing.both bb2 gb sb2 rb2 W nR v1 v2 v3 v4 (.slice av nv cv) :: _) := (Lab.store (Lab.store hbx 0 (.pointer (some ⟨gb, 0, none⟩))) 1 (.pointer (some ⟨sb2, 0, none⟩)))
          have h8 := h7.swap.rot4.rot7.rot7.rot7.rot7
          have hp01 := HL4.out.2.1.pre
          have hbA : BothOk W vals nR ars L1 (List.replicate nR (zt : Int)) (List.replicate nR 0) (zerosL zt ars) (zerosL 0 ars) := ⟨HL4.out.2.1.ok, HBO.out.2.1.regs.keep hp01, HBO.out.2.1.nregs, HBO.out.2.1.arrs.keep hp01⟩
          have hbB : BothOk W vals nR ars L1 (List.replicate nR (zt2 : Int)) (List.replicate nR 0) (zerosL zt2 ars) (zerosL 0 ars) := ⟨HL4.out.2.1.ok, .zeros nR HL4.out.2.1.lt (HL4.out.2.1.val vals), by simp, .zeros HL4.out.2.1.lt (HL4.out.2.1.val vals) (fun s hs => by have := HS.out.1.arrays s hs; omega)⟩
          have H8 := Lib.hid (And.intro h8 (And.intro hbA (And.intro hbB (And.intro (show phi W L1 ≤ 65 by have := HL4.out.2.2.1; have := HBO.out.1.phi; omega) (show y3.vs.length = ars.length ∧ z2.vs.length = ars.length ∧ yB.vs.length = ars.length from ⟨hyl3, hzl3, HL4.out.2.2.2⟩)))))
          clear hbx hrow2 h7 h8 hp01 hbA hbB hyl3 hzl3 hB2 hl5
          go_upto_region 13 with fail
          refine wp_abs (fun wx => Lab w wx (bothTs F1 I1 gb W 20000 L1 bb sb rb nR y z (List.replicate nR (zt : Int)) (List.replicate nR 0) (zerosL zt ars) (zerosL 0 ars) v1 v2 v3 v4 (.slice av nv cv) (Thing.gst gb sb2 yB (List.replicate nR (zt2 : Int)) (zerosL zt2 ars) :: Thing.rst W rb2 z2 (List.replicate nR 0) (zerosL 0 ars) :: Thing.both bb2 gb sb2 rb2 W nR v1 v2 v3 v4 (.slice av nv cv) :: [Thing.box q 26 #[.int .i64 W, .int .i64 nR, v1, v2, v3, v4]]))) H8.out.1 ?_
          intro w6 hl6
          have HL6 := Lib.hid hl6
          clear hl6 d0 d1 f0 f1 u0
          go_wp2
          go_loopw [13] (fun v wx => ∃ i : Nat, (i ≤ na0 ∨ i ≤ na1) ∧ v = .int .i64 i ∧ ∃ (F I : List Nat) (L : List PNode) (yA yB : Lay) (reA rrA reB rrB : List Int) (arA raA arB raB : List (List Int)), BothOk W vals nR ars L reA rrA arA raA ∧ BothOk W vals nR ars L reB rrB arB raB ∧ phi W L ≤ 65 + 40 * i ∧ arA.length = yA.vs.length ∧ raA.length = z.vs.length ∧ arB.length = yB.vs.length ∧ raB.length = z2.vs.length ∧ Lab w wx (bothTs F I gb W 20000 L bb sb rb nR yA z reA rrA arA raA v1 v2 v3 v4 (.slice av nv cv) (Thing.gst gb sb2 yB reB arB :: Thing.rst W rb2 z2 rrB raB :: Thing.both bb2 gb sb2 rb2 W nR v1 v2 v3 v4 (.slice av nv cv) :: [Thing.box q 26 #[.int .i64 W, .int .i64 nR, v1, v2, v3, v4]]))) (fun v _ => na0 + na1 - (intOf v).toNat)
          case atStart => exact ⟨0, .inl (Nat.zero_le _), rfl, F1, I1, L1, y, yB, _, _, _, _, _, _, _, _, H8.out.2.1, H8.out.2.2.1, by have := H8.out.2.2.2.1; omega, by rw [zerosL_len, HBO.out.2.2.1], by rw [zerosL_len, HBO.out.2.2.2], by rw [zerosL_len, H8.out.2.2.2.2.2.2], by rw [zerosL_len, H8.out.2.2.2.2.2.1], HL6.out⟩
          case round =>
            clear HL6 H8
            obtain ⟨i, hi, rfl, F2, I2, L2, yA, yB2, reA, rrA, reB, rrB, arA, raA, arB, raB, hboA, hboB, hph, hyA, hzA, hyB, hzB, hl⟩ := hrel
            have i0 : (0 : Int) ≤ (i : Int) := by omega
            by_cases h0 : i < na0
            · have l0 : decide ((i : Int) < (na0 : Int)) = true := decide_eq_true (by omega)
              have j0 : (i : Int) < (na0 : Int) := by omega
              obtain ⟨bp, offp, xp, rfl, hxp, hxop, k0p, k1p, k2p, k3p, k4p, k5p⟩ := HA0.out.2 i h0
              have Kp := Lib.hid (And.intro k0p (And.intro k1p (And.intro k2p (And.intro k3p (And.intro k4p k5p)))))
              have HXp := Lib.hid hxop
              clear k0p k1p k2p k3p k4p k5p hxp hxop
              by_cases h1 : i < na1
              · have l1 : decide ((i : Int) < (na1 : Int)) = true := decide_eq_true (by omega)
                have j1 : (i : Int) < (na1 : Int) := by omega
                obtain ⟨br, offr, xr, rfl, hxr, hxor, k0r, k1r, k2r, k3r, k4r, k5r⟩ := HA1.out.2 i h1
                have Kr := Lib.hid (And.intro k0r (And.intro k1r (And.intro k2r (And.intro k3r (And.intro k4r k5r)))))
                have HXr := Lib.hid hxor
                clear k0r k1r k2r k3r k4r k5r hxr hxor
                have HS0 := Lib.hid (And.intro hboA (And.intro hboB (And.intro hph (And.intro hyA (And.intro hzA (And.intro hyB (And.intro hzB hl)))))))
                clear hboA hboB hph hyA hzA hyB hzB hl
                have m0p := cell_later HS0.out.2.2.2.2.2.2.2.below Kp.out.1
                have m1p := cell_later HS0.out.2.2.2.2.2.2.2.below Kp.out.2.1
                have m2p := cell_later HS0.out.2.2.2.2.2.2.2.below Kp.out.2.2.1
                have m3p := cell_later HS0.out.2.2.2.2.2.2.2.below Kp.out.2.2.2.1
                have m4p := cell_later HS0.out.2.2.2.2.2.2.2.below Kp.out.2.2.2.2.1
                have m5p := cell_later HS0.out.2.2.2.2.2.2.2.below Kp.out.2.2.2.2.2
                have hd := Lab.does HI.out HS0.out.1 HS0.out.2.2.2.1 HS0.out.2.2.2.2.1 (by have := HS0.out.2.2.1; omega) xp HXp.out HS0.out.2.2.2.2.2.2.2
                unfold ActD.val at hd
                have HD := Lib.hid hd
                clear hd
                go_wp2_with fail
                go_at_call 10
                refine HD.out.mono ?_
                rintro e wa ⟨La, Fa, Ia, ya, rea, rra, ara, raa, rfl, hp, hbo', hph', hy', hz', hl'⟩
                have HS1 := Lib.hid (And.intro hbo' (And.intro (show BothOk W vals nR ars La reB rrB arB raB from ⟨hbo'.ok, HS0.out.2.1.regs.keep hp, HS0.out.2.1.nregs, HS0.out.2.1.arrs.keep hp⟩) (And.intro (show phi W La ≤ 65 + 40 * i + 20 by have := HS0.out.2.2.1; omega) (And.intro hy' (And.intro hz' (And.intro HS0.out.2.2.2.2.2.1 (And.intro HS0.out.2.2.2.2.2.2.1 hl')))))))
                clear hp hbo' hph' hy' hz' hl' m0p m1p m2p m3p m4p m5p HD HS0
                have m0r := cell_later HS1.out.2.2.2.2.2.2.2.below Kr.out.1
                have m1r := cell_later HS1.out.2.2.2.2.2.2.2.below Kr.out.2.1
                have m2r := cell_later HS1.out.2.2.2.2.2.2.2.below Kr.out.2.2.1
                have m3r := cell_later HS1.out.2.2.2.2.2.2.2.below Kr.out.2.2.2.1
                have m4r := cell_later HS1.out.2.2.2.2.2.2.2.below Kr.out.2.2.2.2.1
                have m5r := cell_later HS1.out.2.2.2.2.2.2.2.below Kr.out.2.2.2.2.2
                have hd := Lab.does HI.out HS1.out.2.1 HS1.out.2.2.2.2.2.1 HS1.out.2.2.2.2.2.2.1 (by have := HS1.out.2.2.1; omega) xr HXr.out (show Lab w _ (bothTs Fa Ia gb W 20000 La bb2 sb2 rb2 nR yB2 z2 reB rrB arB raB v1 v2 v3 v4 (.slice av nv cv) (Thing.gst gb sb ya rea ara :: Thing.rst W rb z rra raa :: Thing.both bb gb sb rb W nR v1 v2 v3 v4 (.slice av nv cv) :: [Thing.box q 26 #[.int .i64 W, .int .i64 nR, v1, v2, v3, v4]])) from HS1.out.2.2.2.2.2.2.2.rot7.rot7.rot7.rot4)
                unfold ActD.val at hd
                have HD := Lib.hid hd
                clear hd
                go_wp2_with fail
                go_at_call 10
                refine HD.out.mono ?_
                rintro e wb ⟨Lb, Fb, Ib, yb, reb, rrb, arb, rab, rfl, hp, hbo', hph', hy', hz', hl'⟩
                have HS2 := Lib.hid (And.intro (show BothOk W vals nR ars Lb rea rra ara raa from ⟨hbo'.ok, HS1.out.1.regs.keep hp, HS1.out.1.nregs, HS1.out.1.arrs.keep hp⟩) (And.intro hbo' (And.intro (show phi W Lb ≤ 65 + 40 * i + 20 + 20 by have := HS1.out.2.2.1; omega) (And.intro HS1.out.2.2.2.1 (And.intro HS1.out.2.2.2.2.1 (And.intro hy' (And.intro hz' (show Lab w wb (bothTs Fb Ib gb W 20000 Lb bb sb rb nR ya z rea rra ara raa v1 v2 v3 v4 (.slice av nv cv) (Thing.gst gb sb2 yb reb arb :: Thing.rst W rb2 z2 rrb rab :: Thing.both bb2 gb sb2 rb2 W nR v1 v2 v3 v4 (.slice av nv cv) :: [Thing.box q 26 #[.int .i64 W, .int .i64 nR, v1, v2, v3, v4]])) from hl'.rot7.rot7.rot7.rot4))))))))
                clear hp hbo' hph' hy' hz' hl' m0r m1r m2r m3r m4r m5r HD HS1
                have hsm := Lab.bsame HI.out HS2.out.1 HS2.out.2.2.2.1 HS2.out.2.2.2.2.1 (by have := HS2.out.2.2.1; omega) HS2.out.2.2.2.2.2.2.2
                have HSM := Lib.hid hsm
                clear hsm
                go_wp2_with fail
                go_at_call 9
                refine HSM.out.mono ?_
                rintro e wc ⟨Lc, Fc, Ic, rfl, hp, hok, hph, hl'⟩
                have HS3 := Lib.hid (And.intro (show BothOk W vals nR ars Lc rea rra ara raa from ⟨hok, HS2.out.1.regs.keep hp, HS2.out.1.nregs, HS2.out.1.arrs.keep hp⟩) (And.intro (show BothOk W vals nR ars Lc reb rrb arb rab from ⟨hok, HS2.out.2.1.regs.keep hp, HS2.out.2.1.nregs, HS2.out.2.1.arrs.keep hp⟩) (And.intro (show phi W Lc ≤ 65 + 40 * i + 20 + 20 by have := HS2.out.2.2.1; omega) (And.intro HS2.out.2.2.2.1 (And.intro HS2.out.2.2.2.2.1 (And.intro HS2.out.2.2.2.2.2.1 (And.intro HS2.out.2.2.2.2.2.2.1 hl')))))))
                clear hp hok hph hl' HSM HS2
                have hsm := Lab.bsame HI.out HS3.out.2.1 HS3.out.2.2.2.2.2.1 HS3.out.2.2.2.2.2.2.1 (by have := HS3.out.2.2.1; omega) (show Lab w _ (bothTs Fc Ic gb W 20000 Lc bb2 sb2 rb2 nR yb z2 reb rrb arb rab v1 v2 v3 v4 (.slice av nv cv) (Thing.gst gb sb ya rea ara :: Thing.rst W rb z rra raa :: Thing.both bb gb sb rb W nR v1 v2 v3 v4 (.slice av nv cv) :: [Thing.box q 26 #[.int .i64 W, .int .i64 nR, v1, v2, v3, v4]])) from HS3.out.2.2.2.2.2.2.2.rot7.rot7.rot7.rot4)
                have HSM := Lib.hid hsm
                clear hsm
                go_wp2_with fail
                go_at_call 9
                refine HSM.out.mono ?_
                rintro e wd ⟨Ld, Fd, Id', rfl, hp, hok, hph, hl'⟩
                have HS4 := Lib.hid (And.intro (show BothOk W vals nR ars Ld rea rra ara raa from ⟨hok, HS3.out.1.regs.keep hp, HS3.out.1.nregs, HS3.out.1.arrs.keep hp⟩) (And.intro (show BothOk W vals nR ars Ld reb rrb arb rab from ⟨hok, HS3.out.2.1.regs.keep hp, HS3.out.2.1.nregs, HS3.out.2.1.arrs.keep hp⟩) (And.intro (show phi W Ld ≤ 65 + 40 * i + 20 + 20 by have := HS3.out.2.2.1; omega) (And.intro HS3.out.2.2.2.1 (And.intro HS3.out.2.2.2.2.1 (And.intro HS3.out.2.2.2.2.2.1 (And.intro HS3.out.2.2.2.2.2.2.1 (show Lab w wd (bothTs Fd Id' gb W 20000 Ld bb sb rb nR ya z rea rra ara raa v1 v2 v3 v4 (.slice av nv cv) (Thing.gst gb sb2 yb reb arb :: Thing.rst W rb2 z2 rrb rab :: Thing.both bb2 gb sb2 rb2 W nR v1 v2 v3 v4 (.slice av nv cv) :: [Thing.box q 26 #[.int .i64 W, .int .i64 nR, v1, v2, v3, v4]])) from hl'.rot7.rot7.rot7.rot4))))))))
                clear hp hok hph hl' HSM HS3
                go_wp2
                go_roundw
                case rel => exact ⟨i + 1, by omega, by go_num, Fd, Id', Ld, ya, yb, rea, rra, reb, rrb, ara, raa, arb, rab, HS4.out.1, HS4.out.2.1, by have := HS4.out.2.2.1; omega, HS4.out.2.2.2.1, HS4.out.2.2.2.2.1, HS4.out.2.2.2.2.2.1, HS4.out.2.2.2.2.2.2.1, HS4.out.2.2.2.2.2.2.2⟩
                case measure => simp [intOf]; omega
              · have l1 : decide ((i : Int) < (na1 : Int)) = false := decide_eq_false (by omega)
                have HS0 := Lib.hid (And.intro hboA (And.intro hboB (And.intro hph (And.intro hyA (And.intro hzA (And.intro hyB (And.intro hzB hl)))))))
                clear hboA hboB hph hyA hzA hyB hzB hl
                have m0p := cell_later HS0.out.2.2.2.2.2.2.2.below Kp.out.1
                have m1p := cell_later HS0.out.2.2.2.2.2.2.2.below Kp.out.2.1
                have m2p := cell_later HS0.out.2.2.2.2.2.2.2.below Kp.out.2.2.1
                have m3p := cell_later HS0.out.2.2.2.2.2.2.2.below Kp.out.2.2.2.1
                have m4p := cell_later HS0.out.2.2.2.2.2.2.2.below Kp.out.2.2.2.2.1
                have m5p := cell_later HS0.out.2.2.2.2.2.2.2.below Kp.out.2.2.2.2.2
                have hd := Lab.does HI.out HS0.out.1 HS0.out.2.2.2.1 HS0.out.2.2.2.2.1 (by have := HS0.out.2.2.1; omega) xp HXp.out HS0.out.2.2.2.2.2.2.2
                unfold ActD.val at hd
                have HD := Lib.hid hd
                clear hd
                go_wp2_with fail
                go_at_call 10
                refine HD.out.mono ?_
                rintro e wa ⟨La, Fa, Ia, ya, rea, rra, ara, raa, rfl, hp, hbo', hph', hy', hz', hl'⟩
                have HS1 := Lib.hid (And.intro hbo' (And.intro (show BothOk W vals nR ars La reB rrB arB raB from ⟨hbo'.ok, HS0.out.2.1.regs.keep hp, HS0.out.2.1.nregs, HS0.out.2.1.arrs.keep hp⟩) (And.intro (show phi W La ≤ 65 + 40 * i + 20 by have := HS0.out.2.2.1; omega) (And.intro hy' (And.intro hz' (And.intro HS0.out.2.2.2.2.2.1 (And.intro HS0.out.2.2.2.2.2.2.1 hl')))))))
                clear hp hbo' hph' hy' hz' hl' m0p m1p m2p m3p m4p m5p HD HS0
                have hsm := Lab.bsame HI.out HS1.out.1 HS1.out.2.2.2.1 HS1.out.2.2.2.2.1 (by have := HS1.out.2.2.1; omega) HS1.out.2.2.2.2.2.2.2
                have HSM := Lib.hid hsm
                clear hsm
                go_wp2_with fail
                go_at_call 9
                refine HSM.out.mono ?_
                rintro e wc ⟨Lc, Fc, Ic, rfl, hp, hok, hph, hl'⟩
                have HS3 := Lib.hid (And.intro (show BothOk W vals nR ars Lc rea rra ara raa from ⟨hok, HS1.out.1.regs.keep hp, HS1.out.1.nregs, HS1.out.1.arrs.keep hp⟩) (And.intro (show BothOk W vals nR ars Lc reB rrB arB raB from ⟨hok, HS1.out.2.1.regs.keep hp, HS1.out.2.1.nregs, HS1.out.2.1.arrs.keep hp⟩) (And.intro (show phi W Lc ≤ 65 + 40 * i + 20 by have := HS1.out.2.2.1; omega) (And.intro HS1.out.2.2.2.1 (And.intro HS1.out.2.2.2.2.1 (And.intro HS1.out.2.2.2.2.2.1 (And.intro HS1.out.2.2.2.2.2.2.1 hl')))))))
                clear hp hok hph hl' HSM HS1
                have hsm := Lab.bsame HI.out HS3.out.2.1 HS3.out.2.2.2.2.2.1 HS3.out.2.2.2.2.2.2.1 (by have := HS3.out.2.2.1; omega) (show Lab w _ (bothTs Fc Ic gb W 20000 Lc bb2 sb2 rb2 nR yB2 z2 reB rrB arB raB v1 v2 v3 v4 (.slice av nv cv) (Thing.gst gb sb ya rea ara :: Thing.rst W rb z rra raa :: Thing.both bb gb sb rb W nR v1 v2 v3 v4 (.slice av nv cv) :: [Thing.box q 26 #[.int .i64 W, .int .i64 nR, v1, v2, v3, v4]])) from HS3.out.2.2.2.2.2.2.2.rot7.rot7.rot7.rot4)
                have HSM := Lib.hid hsm
                clear hsm
                go_wp2_with fail
                go_at_call 9
                refine HSM.out.mono ?_
                rintro e wd ⟨Ld, Fd, Id', rfl, hp, hok, hph, hl'⟩
                have HS4 := Lib.hid (And.intro (show BothOk W vals nR ars Ld rea rra ara raa from ⟨hok, HS3.out.1.regs.keep hp, HS3.out.1.nregs, HS3.out.1.arrs.keep hp⟩) (And.intro (show BothOk W vals nR ars Ld reB rrB arB raB from ⟨hok, HS3.out.2.1.regs.keep hp, HS3.out.2.1.nregs, HS3.out.2.1.arrs.keep hp⟩) (And.intro (show phi W Ld ≤ 65 + 40 * i + 20 by have := HS3.out.2.2.1; omega) (And.intro HS3.out.2.2.2.1 (And.intro HS3.out.2.2.2.2.1 (And.intro HS3.out.2.2.2.2.2.1 (And.intro HS3.out.2.2.2.2.2.2.1 (show Lab w wd (bothTs Fd Id' gb W 20000 Ld bb sb rb nR ya z rea rra ara raa v1 v2 v3 v4 (.slice av nv cv) (Thing.gst gb sb2 yB2 reB arB :: Thing.rst W rb2 z2 rrB raB :: Thing.both bb2 gb sb2 rb2 W nR v1 v2 v3 v4 (.slice av nv cv) :: [Thing.box q 26 #[.int .i64 W, .int .i64 nR, v1, v2, v3, v4]])) from hl'.rot7.rot7.rot7.rot4))))))))
                clear hp hok hph hl' HSM HS3
                go_wp2
                go_roundw
                case rel => exact ⟨i + 1, by omega, by go_num, Fd, Id', Ld, ya, yB2, rea, rra, reB, rrB, ara, raa, arB, raB, HS4.out.1, HS4.out.2.1, by have := HS4.out.2.2.1; omega, HS4.out.2.2.2.1, HS4.out.2.2.2.2.1, HS4.out.2.2.2.2.2.1, HS4.out.2.2.2.2.2.2.1, HS4.out.2.2.2.2.2.2.2⟩
                case measure => simp [intOf]; omega
            · have l0 : decide ((i : Int) < (na0 : Int)) = false := decide_eq_false (by omega)
              by_cases h1 : i < na1
              · have l1 : decide ((i : Int) < (na1 : Int)) = true := decide_eq_true (by omega)
                have j1 : (i : Int) < (na1 : Int) := by omega
                obtain ⟨br, offr, xr, rfl, hxr, hxor, k0r, k1r, k2r, k3r, k4r, k5r⟩ := HA1.out.2 i h1
                have Kr := Lib.hid (And.intro k0r (And.intro k1r (And.intro k2r (And.intro k3r (And.intro k4r k5r)))))
                have HXr := Lib.hid hxor
                clear k0r k1r k2r k3r k4r k5r hxr hxor
                have HS0 := Lib.hid (And.intro hboA (And.intro hboB (And.intro hph (And.intro hyA (And.intro hzA (And.intro hyB (And.intro hzB hl)))))))
                clear hboA hboB hph hyA hzA hyB hzB hl
                have m0r := cell_later HS0.out.2.2.2.2.2.2.2.below Kr.out.1
                have m1r := cell_later HS0.out.2.2.2.2.2.2.2.below Kr.out.2.1
                have m2r := cell_later HS0.out.2.2.2.2.2.2.2.below Kr.out.2.2.1
                have m3r := cell_later HS0.out.2.2.2.2.2.2.2.below Kr.out.2.2.2.1
                have m4r := cell_later HS0.out.2.2.2.2.2.2.2.below Kr.out.2.2.2.2.1
                have m5r := cell_later HS0.out.2.2.2.2.2.2.2.below Kr.out.2.2.2.2.2
                have hd := Lab.does HI.out HS0.out.2.1 HS0.out.2.2.2.2.2.1 HS0.out.2.2.2.2.2.2.1 (by have := HS0.out.2.2.1; omega) xr HXr.out (show Lab w _ (bothTs F2 I2 gb W 20000 L2 bb2 sb2 rb2 nR yB2 z2 reB rrB arB raB v1 v2 v3 v4 (.slice av nv cv) (Thing.gst gb sb yA reA arA :: Thing.rst W rb z rrA raA :: Thing.both bb gb sb rb W nR v1 v2 v3 v4 (.slice av nv cv) :: [Thing.box q 26 #[.int .i64 W, .int .i64 nR, v1, v2, v3, v4]])) from HS0.out.2.2.2.2.2.2.2.rot7.rot7.rot7.rot4)
                unfold ActD.val at hd
                have HD := Lib.hid hd
                clear hd
                go_wp2_with fail
                go_at_call 10
                refine HD.out.mono ?_
                rintro e wb ⟨Lb, Fb, Ib, yb, reb, rrb, arb, rab, rfl, hp, hbo', hph', hy', hz', hl'⟩
                have HS2 := Lib.hid (And.intro (show BothOk W vals nR ars Lb reA rrA arA raA from ⟨hbo'.ok, HS0.out.1.regs.keep hp, HS0.out.1.nregs, HS0.out.1.arrs.keep hp⟩) (And.intro hbo' (And.intro (show phi W Lb ≤ 65 + 40 * i + 20 by have := HS0.out.2.2.1; omega) (And.intro HS0.out.2.2.2.1 (And.intro HS0.out.2.2.2.2.1 (And.intro hy' (And.intro hz' (show Lab w wb (bothTs Fb Ib gb W 20000 Lb bb sb rb nR yA z reA rrA arA raA v1 v2 v3 v4 (.slice av nv cv) (Thing.gst gb sb2 yb reb arb :: Thing.rst W rb2 z2 rrb rab :: Thing.both bb2 gb sb2 rb2 W nR v1 v2 v3 v4 (.slice av nv cv) :: [Thing.box q 26 #[.int .i64 W, .int .i64 nR, v1, v2, v3, v4]])) from hl'.rot7.rot7.rot7.rot4))))))))
                clear hp hbo' hph' hy' hz' hl' m0r m1r m2r m3r m4r m5r HD HS0
                have hsm := Lab.bsame HI.out HS2.out.1 HS2.out.2.2.2.1 HS2.out.2.2.2.2.1 (by have := HS2.out.2.2.1; omega) HS2.out.2.2.2.2.2.2.2
                have HSM := Lib.hid hsm
                clear hsm
                go_wp2_with fail
                go_at_call 9
                refine HSM.out.mono ?_
                rintro e wc ⟨Lc, Fc, Ic, rfl, hp, hok, hph, hl'⟩
                have HS3 := Lib.hid (And.intro (show BothOk W vals nR ars Lc reA rrA arA raA from ⟨hok, HS2.out.1.regs.keep hp, HS2.out.1.nregs, HS2.out.1.arrs.keep hp⟩) (And.intro (show BothOk W vals nR ars Lc reb rrb arb rab from ⟨hok, HS2.out.2.1.regs.keep hp, HS2.out.2.1.nregs, HS2.out.2.1.arrs.keep hp⟩) (And.intro (show phi W Lc ≤ 65 + 40 * i + 20 by have := HS2.out.2.2.1; omega) (And.intro HS2.out.2.2.2.1 (And.intro HS2.out.2.2.2.2.1 (And.intro HS2.out.2.2.2.2.2.1 (And.intro HS2.out.2.2.2.2.2.2.1 hl')))))))
                clear hp hok hph hl' HSM HS2
                have hsm := Lab.bsame HI.out HS3.out.2.1 HS3.out.2.2.2.2.2.1 HS3.out.2.2.2.2.2.2.1 (by have := HS3.out.2.2.1; omega) (show Lab w _ (bothTs Fc Ic gb W 20000 Lc bb2 sb2 rb2 nR yb z2 reb rrb arb rab v1 v2 v3 v4 (.slice av nv cv) (Thing.gst gb sb yA reA arA :: Thing.rst W rb z rrA raA :: Thing.both bb gb sb rb W nR v1 v2 v3 v4 (.slice av nv cv) :: [Thing.box q 26 #[.int .i64 W, .int .i64 nR, v1, v2, v3, v4]])) from HS3.out.2.2.2.2.2.2.2.rot7.rot7.rot7.rot4)
                have HSM := Lib.hid hsm
                clear hsm
                go_wp2_with fail
                go_at_call 9
                refine HSM.out.mono ?_
                rintro e wd ⟨Ld, Fd, Id', rfl, hp, hok, hph, hl'⟩
                have HS4 := Lib.hid (And.intro (show BothOk W vals nR ars Ld reA rrA arA raA from ⟨hok, HS3.out.1.regs.keep hp, HS3.out.1.nregs, HS3.out.1.arrs.keep hp⟩) (And.intro (show BothOk W vals nR ars Ld reb rrb arb rab from ⟨hok, HS3.out.2.1.regs.keep hp, HS3.out.2.1.nregs, HS3.out.2.1.arrs.keep hp⟩) (And.intro (show phi W Ld ≤ 65 + 40 * i + 20 by have := HS3.out.2.2.1; omega) (And.intro HS3.out.2.2.2.1 (And.intro HS3.out.2.2.2.2.1 (And.intro HS3.out.2.2.2.2.2.1 (And.intro HS3.out.2.2.2.2.2.2.1 (show Lab w wd (bothTs Fd Id' gb W 20000 Ld bb sb rb nR yA z reA rrA arA raA v1 v2 v3 v4 (.slice av nv cv) (Thing.gst gb sb2 yb reb arb :: Thing.rst W rb2 z2 rrb rab :: Thing.both bb2 gb sb2 rb2 W nR v1 v2 v3 v4 (.slice av nv cv) :: [Thing.box q 26 #[.int .i64 W, .int .i64 nR, v1, v2, v3, v4]])) from hl'.rot7.rot7.rot7.rot4))))))))
                clear hp hok hph hl' HSM HS3
                go_wp2
                go_roundw
                case rel => exact ⟨i + 1, by omega, by go_num, Fd, Id', Ld, yA, yb, reA, rrA, reb, rrb, arA, raA, arb, rab, HS4.out.1, HS4.out.2.1, by have := HS4.out.2.2.1; omega, HS4.out.2.2.2.1, HS4.out.2.2.2.2.1, HS4.out.2.2.2.2.2.1, HS4.out.2.2.2.2.2.2.1, HS4.out.2.2.2.2.2.2.2⟩
                case measure => simp [intOf]; omega
              · have l1 : decide ((i : Int) < (na1 : Int)) = false := decide_eq_false (by omega)
                have HLS := Lib.hid (And.intro hboA hph)
                clear hboA hboB hph hyA hzA hyB hzB
                have HL := Lib.hid hl
                clear HLS
                go_wp2_with fail
                go_at_call 7
                refine (awake30_any (HF.out.2.1.later HL.out.below)).mono ?_
                rintro e w6 ⟨rfl, hb6⟩
                have HB6 := Lib.hid hb6
                clear hb6
                go_wp2
                go_ret
                exact ⟨rfl, HL.out.below.trans (HB6.out.mono HL.out.below.size)⟩
  · have HS := Lib.hid hS
    clear hS
    go_enter Tryz.func4, Tryz.ntmps4
    go_upto_region 1 with fail
    refine wp_abs (fun wx => Lab w wx [Thing.box q 26 #[.int .i64 f.W, .int .i64 f.R, v1, v2, v3, v4]]) HB.out ?_
    intro w1 hl1
    obtain ⟨q0, q1, q2, q3, q4, q5⟩ := HC.out _ _ hl1 (by simp)
    have HSM := Lib.hid (HSL.out w1 hl1); have HL1 := Lib.hid hl1
    clear hl1 HB hq
    go_wp2_with fail
    go_at_call 6
    refine HSM.out.mono ?_
    rintro e w2 ⟨B, rfl, hB, hb2⟩
    obtain rfl : B = false := by
      cases B
      · rfl
      · exact absurd (hB.1 rfl) HS.out
    have hl2 := HL1.out.later hb2
    clear q0 q1 q2 q3 q4 q5 HSM HL1 hb2 hB
    obtain ⟨q0, q1, q2, q3, q4, q5⟩ := HC.out _ _ hl2 (by simp)
    have HL := Lib.hid hl2
    clear hl2
    go_wp2_with fail
    go_at_call 7
    refine (awake30_any (HF.out.2.1.later HL.out.below)).mono ?_
    rintro e w6 ⟨rfl, hb6⟩
    have HB6 := Lib.hid hb6
    clear hb6
    go_wp2
    go_ret
    exact ⟨rfl, HL.out.below.trans (HB6.out.mono HL.out.below.size)⟩
end
end Go.Proofs.YtiklidgcmheofaaGreatDoor
