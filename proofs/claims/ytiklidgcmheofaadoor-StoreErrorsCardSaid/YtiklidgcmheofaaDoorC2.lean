/- StEb, StEc: joined by wip/bundle.py. -/
import Derived.Test.YtiklidgcmheofaaDoorB1
import Derived.Test.YtiklidgcmheofaaDoorB2
import Derived.Test.YtiklidgcmheofaaDoorB3
import Derived.Test.YtiklidgcmheofaaDoorB4
import Derived.Test.YtiklidgcmheofaaDoorB5
import Derived.Test.YtiklidgcmheofaaDoorB6
import Derived.Test.YtiklidgcmheofaaDoorB7
import Derived.Test.YtiklidgcmheofaaDoorB8
import Derived.Test.YtiklidgcmheofaaDoorB9
import Derived.Test.YtiklidgcmheofaaDoorB10
import Derived.Test.YtiklidgcmheofaaDoorB11
import Derived.Test.YtiklidgcmheofaaDoorB12
import Derived.Test.YtiklidgcmheofaaDoorB13
import Derived.Test.YtiklidgcmheofaaDoorB14
import Derived.Test.YtiklidgcmheofaaDoorB15
import Derived.Test.YtiklidgcmheofaaDoorB16
import Derived.Test.YtiklidgcmheofaaDoorB17
import Derived.Test.YtiklidgcmheofaaDoorB18
import Derived.Test.YtiklidgcmheofaaDoorB19
import Derived.Test.YtiklidgcmheofaaDoorB20
import Derived.Test.YtiklidgcmheofaaDoorC1
import Derived.Laws.BitsAllLaws
import Derived.Lib.Hide
import Derived.WalkKit
import Derived.WalkSpells
import Derived.WalkLawsBesides
import Derived.BigQuiet
import Derived.Deep.QuietTactic
import Derived.Deep.RegionHeld3
import Derived.ProofKit
import Derived.Maps.Keyed
import Derived.DeepKeys4
import Derived.StillTailTactics
import Derived.Laws.CopyOwn
import Derived.Deep.RegionLaw
import Derived.Deep.Slices
import Derived.Deep.Fields
import Derived.ChangeSame
import Derived.OpenShut
import Derived.Deep.DeepCutAuto
import Derived.Deep.CutBlock
import Derived.Deep.OwnRows
import Derived.Maps.RangeWalk
import Derived.Deep.DrawnRows
import Derived.Outline
import Derived.Deep.Upon
import Derived.WideKeyArr2
import Derived.Lib.AppendZeros
import Derived.BigRegion
import Derived.StillTail
import Derived.Lib.TrailingZeros
import Derived.RangeFuncRecord
import Derived.RangeFuncNested
import Derived.RangeFuncCalls
import Derived.RangeFuncLeaves
import Derived.OwnWalkIn
import Derived.TacticsInMore
import Derived.LoopNIn
import Derived.LoopIn
import Derived.Laws.EntriesVeiled
import Derived.OrdersHeld
import Derived.Laws.IdiomStrings
import Derived.BigGuardPart
import Derived.Lib.LaidTab
namespace Go.Proofs.YtiklidgcmheofaaDoor
open Go.RowKit Go.Maps
set_option maxHeartbeats 25600000
section
variable {w : World}
set_option maxRecDepth 100000 in
theorem serr_m1 (f : FlatD) (v1 v2 v3 v4 : Value) (width reg array t : Int) (hf : FlatOf w f v1 v2 v3 v4) (hT : ShpOk w) (hN : newOk width 20000) (hok : FlatOk f) (hw : width = f.W) (nR : Nat) (hnR : f.R = (nR : Int)) (hrg : reg = -1) :
    Calls Tryd.prog 5 #[.agg #[.int .i64 f.W, .int .i64 f.R, v1, v2, v3, v4], .int .i64 width, .int .i64 reg, .int .i64 array, .int .i64 t] w fun e w' => e = .returned (.bool true) ∧ Below w.heap.size w w' := by
  have hb0 := (Lab.nil (Below.refl w.heap.size w)).alloc #[.int .i64 f.W, .int .i64 f.R, v1, v2, v3, v4] 26
  have cells : ∀ (wx : World) (us : List Thing), Lab w wx us → Thing.box w.heap.size 26 #[.int .i64 f.W, .int .i64 f.R, v1, v2, v3, v4] ∈ us → wx.cell? ⟨w.heap.size, 0, none⟩ = some (.int .i64 f.W) ∧ wx.cell? ⟨w.heap.size, 1, none⟩ = some (.int .i64 f.R) ∧ wx.cell? ⟨w.heap.size, 2, none⟩ = some v1 ∧ wx.cell? ⟨w.heap.size, 3, none⟩ = some v2 ∧ wx.cell? ⟨w.heap.size, 4, none⟩ = some v3 ∧ wx.cell? ⟨w.heap.size, 5, none⟩ = some v4 := fun wx us hx hm => by
    have r : wx.heap[w.heap.size]? = some (.cells #[.int .i64 f.W, .int .i64 f.R, v1, v2, v3, v4] 26 (0, 0)) := hx.holds _ hm
    exact ⟨cell_of_cells r (i := 0) rfl, cell_of_cells r (i := 1) rfl, cell_of_cells r (i := 2) rfl, cell_of_cells r (i := 3) rfl, cell_of_cells r (i := 4) rfl, cell_of_cells r (i := 5) rfl⟩
  obtain ⟨q, hq⟩ : ∃ q, w.heap.size = q := ⟨_, rfl⟩
  rw [hq] at hb0 cells
  have hck := fun (wx : World) (hx : Below w.heap.size w wx) => rcheck25_any f v1 v2 v3 v4 (hf.later hx) (hT.later hx)
  subst hw
  obtain ⟨a3, na, c3, rfl, hna, -⟩ := hf.arrays.parts
  have hck2 := hck
  have hk : ∀ wx, Below w.heap.size w wx → Calls Tryd.prog 21 #[.agg #[.int .i64 f.W, .int .i64 f.R, v1, v2, .slice a3 na c3, v4]] wx fun e w' => e = .returned (.int .i64 0) ∧ Below wx.heap.size wx w' := fun wx hx => (hck wx hx).mono (by
    rintro e w' ⟨qv, rfl, hq | hq, hbb⟩
    · rw [hq.2]; exact ⟨rfl, hbb⟩
    · exact absurd hok hq.1)
  have HK := Lib.hid hk
  clear hck hk hck2
  obtain ⟨W', R', ch, st, ars, cs⟩ := f
  simp only at hb0 cells hf hN hok hnR HK hna ⊢
  subst hnR
  obtain ⟨W, rfl⟩ : ∃ W : Nat, W' = (W : Int) := ⟨W'.toNat, by have := hN.1; omega⟩
  have g1 : decide (-1 ≤ reg) = true := decide_eq_true (by omega)
  have g2 : decide (reg < (nR : Int)) = true := decide_eq_true (by omega)
  have g3 : decide (0 ≤ reg) = false := decide_eq_false (by omega)
  have HB := Lib.hid hb0; have HC := Lib.hid cells; have HT := Lib.hid hT; have HF := Lib.hid hf
  clear hb0 cells hT hf
  have HN := Lib.hid hN; have HOK := Lib.hid hok; have HRG := Lib.hid hrg; have HNA := Lib.hid hna
  clear hN hok hrg hna
  go_enter Tryd.func5, Tryd.ntmps5
  go_upto_region 1 with fail
  refine wp_abs (fun wx => Lab w wx [Thing.box q 26 #[.int .i64 W, .int .i64 nR, v1, v2, .slice a3 na c3, v4]]) HB.out ?_
  intro w1 hl1
  obtain ⟨q0, q1, q2, q3, q4, q5⟩ := HC.out _ _ hl1 (by simp)
  have HCK := Lib.hid (HK.out w1 hl1.below); have HL1 := Lib.hid hl1
  clear hl1 HB hq
  go_wp2_with fail
  go_at_call 21
  refine HCK.out.mono ?_
  rintro e w2 ⟨rfl, hb2⟩
  have hl2 := HL1.out.later hb2
  clear HCK HL1 hb2 q0 q1 q2 q3 q4 q5
  obtain ⟨q0, q1, q2, q3, q4, q5⟩ := HC.out _ _ hl2 (by simp)
  have hng := hl2.new_graph (W : Int) 20000 HN.out
  have HNG := Lib.hid hng
  clear hng hl2
  go_wp2_with fail
  go_at_call 9
  refine HNG.out.mono ?_
  rintro e w3 ⟨gb, F, rfl, hl3⟩
  replace hl3 : Lab w w3 (Thing.graph F [] gb W 20000 [] :: [Thing.box q 26 #[.int .i64 W, .int .i64 nR, v1, v2, .slice a3 na c3, v4]]) := hl3
  have hgok := gok_nil (W := W) (by have := HN.out.1; omega) (by have := HN.out.2.1; omega)
  have hsn := Lab.snew HF.out HT.out HOK.out hgok (by have := phi_nil W; omega) hl3
  have HS := Lib.hid hsn
  clear q0 q1 q2 q3 q4 q5 HNG hsn hgok
  obtain ⟨q0, q1, q2, q3, q4, q5⟩ := HC.out _ _ hl3 (by simp)
  clear hl3
  go_wp2_with fail
  go_at_call 10
  refine HS.out.mono ?_
  rintro e w4 ⟨sb, y, zt, L, F3, I3, rfl, hgot, hph, hyl, hl4⟩
  clear q0 q1 q2 q3 q4 q5
  obtain ⟨q0, q1, q2, q3, q4, q5⟩ := HC.out _ _ hl4 (by simp)
  have hI : StIn W L (zerosL zt ars) 65 := ⟨hgot.ok, fun xs hx => by
    obtain ⟨s, hs, rfl⟩ := List.mem_map.1 hx
    have h1 := HOK.out.arrays s hs
    refine ⟨by rw [List.length_replicate]; omega, fun e he => ?_⟩
    obtain rfl := List.eq_of_mem_replicate he
    have := hgot.lt
    omega, by have := phi_nil W; omega⟩
  have hza : (zerosL zt ars).length = na := by rw [zerosL_len, HNA.out]
  have hzy : (zerosL zt ars).length = y.vs.length := by rw [zerosL_len, hyl]
  have hrl : (List.replicate nR (zt : Int)).length = nR := by simp
  obtain ⟨arrs, harrs⟩ : ∃ arrs, zerosL zt ars = arrs := ⟨_, rfl⟩
  obtain ⟨regs, hregs⟩ : ∃ regs, List.replicate nR (zt : Int) = regs := ⟨_, rfl⟩
  rw [harrs] at hI hza hzy hl4
  rw [hregs] at hrl hl4
  have HA := Lib.hid (And.intro hza (And.intro hrl hzy))
  have href := Lab.ref_u hI (by decide) hzy hrl hl4 reg
  rw [if_pos (by have := HRG.out; omega)] at href
  have HREF := Lib.hid href
  clear hgot hph hyl hl4 hI hza hzy hrl harrs hregs href HS
  go_wp2_with fail
  go_at_call 12
  refine HREF.out.mono ?_
  rintro e w5 ⟨v5, L5, F5, I5, rfl, hI5, hl5⟩
  clear q0 q1 q2 q3 q4 q5 HREF
  obtain ⟨q0, q1, q2, q3, q4, q5⟩ := HC.out _ _ hl5 (by simp)
  have HN5 := Lib.hid (node_u hl5 t); have H5 := Lib.hid (And.intro hI5 hl5)
  clear hI5 hl5
  go_wp2_with fail
  go_at_call 22
  refine (want_any _ _).mono ?_
  rintro e w6 ⟨rfl, rfl⟩
  by_cases hk5 : 0 ≤ t ∧ t < (L5.length : Int)
  · have HKN := Lib.hid hk5
    have hnd := HN5.out
    rw [if_pos hk5] at hnd
    have HND := Lib.hid hnd
    clear hnd hk5 HN5
    go_wp2_with fail
    go_at_call 23
    refine HND.out.mono ?_
    rintro e w6 ⟨na6, nb6, nva, nvm, nvc, rfl, hb6⟩
    have hl6 := (((H5.out.2.later hb6).alloc #[.int .u8 na6, .int .u64 nb6, .slice nva nvm nvc] 64))
    obtain ⟨p6, hp6⟩ : ∃ p6, w6.heap.size = p6 := ⟨_, rfl⟩
    rw [hp6] at hl6
    have HL6 := Lib.hid hl6
    clear hl6 hb6 HND q0 q1 q2 q3 q4 q5
    go_upto_region 16 with fail
    refine wp_abs (fun wx => Lab w wx (Thing.box p6 64 #[.int .u8 na6, .int .u64 nb6, .slice nva nvm nvc] :: Thing.graph F5 I5 gb W 20000 L5 :: Thing.gst gb sb y regs arrs :: [Thing.box q 26 #[.int .i64 W, .int .i64 nR, v1, v2, .slice a3 na c3, v4]])) HL6.out ?_
    intro w6' hl6
    have H6 := Lib.hid (And.intro H5.out.1 (And.intro HA.out.2.2 hl6.drop))
    obtain ⟨q0, q1, q2, q3, q4, q5⟩ := HC.out _ _ hl6 (by simp)
    clear hl6 HL6 hp6 H5
    by_cases h0 : 0 ≤ array
    · have g4 : decide (0 ≤ array) = true := decide_eq_true h0
      by_cases h1 : array < (na : Int)
      · have g5 : decide (array < (na : Int)) = true := decide_eq_true h1
        have hP : ((0 ≤ array ∧ array < (arrs.length : Int)) ∧ 0 ≤ t ∧ t < (L5.length : Int)) := by have := HA.out.1; have := HKN.out; omega
        have HP := Lib.hid hP
        clear hP
        have hin := Lab.inside_u H6.out.1 (by decide) H6.out.2.1 H6.out.2.2 array t
        rw [if_pos HP.out] at hin
        have HIN := Lib.hid hin
        clear hin
        go_wp2_with fail
        go_at_call 19
        refine HIN.out.mono ?_
        rintro e w7 ⟨v7, L7, F7, I7, rfl, hI7, hx7, hl7⟩
        clear q0 q1 q2 q3 q4 q5 HIN
        obtain ⟨q0, q1, q2, q3, q4, q5⟩ := HC.out _ _ hl7 (by simp)
        have H7 := Lib.hid (And.intro hI7 (And.intro H6.out.2.1 (And.intro hx7 hl7)))
        clear hI7 hx7 hl7
        go_wp2_with fail
        go_at_call 22
        refine (want_any _ _).mono ?_
        rintro e w8 ⟨rfl, rfl⟩
        have hin := Lab.load_u H7.out.1 (by decide) H7.out.2.1 H7.out.2.2.2 array t
        rw [if_pos (by have := HP.out; have := H7.out.2.2.1; omega)] at hin
        have HIN := Lib.hid hin
        clear hin
        go_wp2_with fail
        go_at_call 14
        refine HIN.out.mono ?_
        rintro e w8 ⟨v8, L8, F8, I8, rfl, hI8, hx8, hl8⟩
        clear q0 q1 q2 q3 q4 q5 HIN
        obtain ⟨q0, q1, q2, q3, q4, q5⟩ := HC.out _ _ hl8 (by simp)
        have hin := Lab.set_u H7.out.2.1 HA.out.2.1 hl8 reg t
        rw [if_neg (by have := HP.out; have := H7.out.2.2.1; have := HRG.out; have := HKN.out; omega)] at hin
        have HIN := Lib.hid hin
        have H8 := Lib.hid (And.intro hI8 (And.intro H7.out.2.1 (And.intro hx8 hl8)))
        clear hin hI8 hx8 hl8
        go_wp2_with fail
        go_at_call 24
        refine HIN.out.mono ?_
        rintro e w9 ⟨rfl, regs9, hl9⟩
        clear q0 q1 q2 q3 q4 q5 HIN
        obtain ⟨q0, q1, q2, q3, q4, q5⟩ := HC.out _ _ hl9 (by simp)
        have hin := Lab.put_u H8.out.1 (by decide) H8.out.2.1 hl9 array t
        rw [if_pos (by have := HP.out; have := H7.out.2.2.1; have := H8.out.2.2.1; omega)] at hin
        have HIN := Lib.hid hin
        clear hin hl9
        go_wp2_with fail
        go_at_call 22
        refine (want_any _ _).mono ?_
        rintro e w10 ⟨rfl, rfl⟩
        go_wp2_with fail
        go_at_call 13
        refine HIN.out.mono ?_
        rintro e w11 ⟨rfl, hl11⟩
        have HL := Lib.hid hl11
        clear hl11 q0 q1 q2 q3 q4 q5
        go_wp2_with fail
        go_at_call 8
        refine (awake30_any (HT.out.later HL.out.below)).mono ?_
        rintro e w9 ⟨rfl, hb9⟩
        have HB9 := Lib.hid hb9
        clear hb9
        go_wp2
        go_ret
        exact ⟨rfl, HL.out.below.trans (HB9.out.mono HL.out.below.size)⟩
      · have g5 : decide (array < (na : Int)) = false := decide_eq_false h1
        have hP : ¬ ((0 ≤ array ∧ array < (arrs.length : Int)) ∧ 0 ≤ t ∧ t < (L5.length : Int)) := by have := HA.out.1; have := HKN.out; omega
        have HP := Lib.hid hP
        clear hP
        have hin := Lab.inside_u H6.out.1 (by decide) H6.out.2.1 H6.out.2.2 array t
        rw [if_neg HP.out] at hin
        have HIN := Lib.hid hin
        clear hin
        go_wp2_with fail
        go_at_call 19
        refine HIN.out.mono ?_
        rintro e w7 ⟨v7, L7, F7, I7, rfl, hI7, hx7, hl7⟩
        clear q0 q1 q2 q3 q4 q5 HIN
        obtain ⟨q0, q1, q2, q3, q4, q5⟩ := HC.out _ _ hl7 (by simp)
        have H7 := Lib.hid (And.intro hI7 (And.intro H6.out.2.1 (And.intro hx7 hl7)))
        clear hI7 hx7 hl7
        go_wp2_with fail
        go_at_call 22
        refine (want_any _ _).mono ?_
        rintro e w8 ⟨rfl, rfl⟩
        have hin := Lab.load_u H7.out.1 (by decide) H7.out.2.1 H7.out.2.2.2 array t
        rw [if_neg (by have := HP.out; have := H7.out.2.2.1; omega)] at hin
        have HIN := Lib.hid hin
        clear hin
        go_wp2_with fail
        go_at_call 14
        refine HIN.out.mono ?_
        rintro e w8 ⟨v8, L8, F8, I8, rfl, hI8, hx8, hl8⟩
        clear q0 q1 q2 q3 q4 q5 HIN
        obtain ⟨q0, q1, q2, q3, q4, q5⟩ := HC.out _ _ hl8 (by simp)
        have hin := Lab.set_u H7.out.2.1 HA.out.2.1 hl8 reg t
        rw [if_neg (by have := HP.out; have := H7.out.2.2.1; have := HRG.out; have := HKN.out; omega)] at hin
        have HIN := Lib.hid hin
        have H8 := Lib.hid (And.intro hI8 (And.intro H7.out.2.1 (And.intro hx8 hl8)))
        clear hin hI8 hx8 hl8
        go_wp2_with fail
        go_at_call 24
        refine HIN.out.mono ?_
        rintro e w9 ⟨rfl, regs9, hl9⟩
        clear q0 q1 q2 q3 q4 q5 HIN
        obtain ⟨q0, q1, q2, q3, q4, q5⟩ := HC.out _ _ hl9 (by simp)
        have hin := Lab.put_u H8.out.1 (by decide) H8.out.2.1 hl9 array t
        rw [if_neg (by have := HP.out; have := H7.out.2.2.1; have := H8.out.2.2.1; omega)] at hin
        have HIN := Lib.hid hin
        clear hin hl9
        go_wp2_with fail
        go_at_call 22
        refine (want_any _ _).mono ?_
        rintro e w10 ⟨rfl, rfl⟩
        go_wp2_with fail
        go_at_call 13
        refine HIN.out.mono ?_
        rintro e w11 ⟨rfl, hl11⟩
        have HL := Lib.hid hl11
        clear hl11 q0 q1 q2 q3 q4 q5
        go_wp2_with fail
        go_at_call 8
        refine (awake30_any (HT.out.later HL.out.below)).mono ?_
        rintro e w9 ⟨rfl, hb9⟩
        have HB9 := Lib.hid hb9
        clear hb9
        go_wp2
        go_ret
        exact ⟨rfl, HL.out.below.trans (HB9.out.mono HL.out.below.size)⟩
    · have g4 : decide (0 ≤ array) = false := decide_eq_false h0
      have hP : ¬ ((0 ≤ array ∧ array < (arrs.length : Int)) ∧ 0 ≤ t ∧ t < (L5.length : Int)) := by have := HA.out.1; have := HKN.out; omega
      have HP := Lib.hid hP
      clear hP
      have hin := Lab.inside_u H6.out.1 (by decide) H6.out.2.1 H6.out.2.2 array t
      rw [if_neg HP.out] at hin
      have HIN := Lib.hid hin
      clear hin
      go_wp2_with fail
      go_at_call 19
      refine HIN.out.mono ?_
      rintro e w7 ⟨v7, L7, F7, I7, rfl, hI7, hx7, hl7⟩
      clear q0 q1 q2 q3 q4 q5 HIN
      obtain ⟨q0, q1, q2, q3, q4, q5⟩ := HC.out _ _ hl7 (by simp)
      have H7 := Lib.hid (And.intro hI7 (And.intro H6.out.2.1 (And.intro hx7 hl7)))
      clear hI7 hx7 hl7
      go_wp2_with fail
      go_at_call 22
      refine (want_any _ _).mono ?_
      rintro e w8 ⟨rfl, rfl⟩
      have hin := Lab.load_u H7.out.1 (by decide) H7.out.2.1 H7.out.2.2.2 array t
      rw [if_neg (by have := HP.out; have := H7.out.2.2.1; omega)] at hin
      have HIN := Lib.hid hin
      clear hin
      go_wp2_with fail
      go_at_call 14
      refine HIN.out.mono ?_
      rintro e w8 ⟨v8, L8, F8, I8, rfl, hI8, hx8, hl8⟩
      clear q0 q1 q2 q3 q4 q5 HIN
      obtain ⟨q0, q1, q2, q3, q4, q5⟩ := HC.out _ _ hl8 (by simp)
      have hin := Lab.set_u H7.out.2.1 HA.out.2.1 hl8 reg t
      rw [if_neg (by have := HP.out; have := H7.out.2.2.1; have := HRG.out; have := HKN.out; omega)] at hin
      have HIN := Lib.hid hin
      have H8 := Lib.hid (And.intro hI8 (And.intro H7.out.2.1 (And.intro hx8 hl8)))
      clear hin hI8 hx8 hl8
      go_wp2_with fail
      go_at_call 24
      refine HIN.out.mono ?_
      rintro e w9 ⟨rfl, regs9, hl9⟩
      clear q0 q1 q2 q3 q4 q5 HIN
      obtain ⟨q0, q1, q2, q3, q4, q5⟩ := HC.out _ _ hl9 (by simp)
      have hin := Lab.put_u H8.out.1 (by decide) H8.out.2.1 hl9 array t
      rw [if_neg (by have := HP.out; have := H7.out.2.2.1; have := H8.out.2.2.1; omega)] at hin
      have HIN := Lib.hid hin
      clear hin hl9
      go_wp2_with fail
      go_at_call 22
      refine (want_any _ _).mono ?_
      rintro e w10 ⟨rfl, rfl⟩
      go_wp2_with fail
      go_at_call 13
      refine HIN.out.mono ?_
      rintro e w11 ⟨rfl, hl11⟩
      have HL := Lib.hid hl11
      clear hl11 q0 q1 q2 q3 q4 q5
      go_wp2_with fail
      go_at_call 8
      refine (awake30_any (HT.out.later HL.out.below)).mono ?_
      rintro e w9 ⟨rfl, hb9⟩
      have HB9 := Lib.hid hb9
      clear hb9
      go_wp2
      go_ret
      exact ⟨rfl, HL.out.below.trans (HB9.out.mono HL.out.below.size)⟩
  · have HKN := Lib.hid hk5
    have hnd := HN5.out
    rw [if_neg hk5] at hnd
    have HND := Lib.hid hnd
    clear hnd hk5 HN5
    go_wp2_with fail
    go_at_call 23
    refine HND.out.mono ?_
    rintro e w6 ⟨na6, nb6, nva, nvm, nvc, rfl, hb6⟩
    have hl6 := (((H5.out.2.later hb6).alloc #[.int .u8 na6, .int .u64 nb6, .slice nva nvm nvc] 64))
    obtain ⟨p6, hp6⟩ : ∃ p6, w6.heap.size = p6 := ⟨_, rfl⟩
    rw [hp6] at hl6
    have HL6 := Lib.hid hl6
    clear hl6 hb6 HND q0 q1 q2 q3 q4 q5
    go_upto_region 16 with fail
    refine wp_abs (fun wx => Lab w wx (Thing.box p6 64 #[.int .u8 na6, .int .u64 nb6, .slice nva nvm nvc] :: Thing.graph F5 I5 gb W 20000 L5 :: Thing.gst gb sb y regs arrs :: [Thing.box q 26 #[.int .i64 W, .int .i64 nR, v1, v2, .slice a3 na c3, v4]])) HL6.out ?_
    intro w6' hl6
    have H6 := Lib.hid (And.intro H5.out.1 (And.intro HA.out.2.2 hl6.drop))
    obtain ⟨q0, q1, q2, q3, q4, q5⟩ := HC.out _ _ hl6 (by simp)
    clear hl6 HL6 hp6 H5
    by_cases h0 : 0 ≤ array
    · have g4 : decide (0 ≤ array) = true := decide_eq_true h0
      by_cases h1 : array < (na : Int)
      · have g5 : decide (array < (na : Int)) = true := decide_eq_true h1
        have hP : ¬ ((0 ≤ array ∧ array < (arrs.length : Int)) ∧ 0 ≤ t ∧ t < (L5.length : Int)) := by have := HA.out.1; have := HKN.out; omega
        have HP := Lib.hid hP
        clear hP
        have hin := Lab.inside_u H6.out.1 (by decide) H6.out.2.1 H6.out.2.2 array t
        rw [if_neg HP.out] at hin
        have HIN := Lib.hid hin
        clear hin
        go_wp2_with fail
        go_at_call 19
        refine HIN.out.mono ?_
        rintro e w7 ⟨v7, L7, F7, I7, rfl, hI7, hx7, hl7⟩
        clear q0 q1 q2 q3 q4 q5 HIN
        obtain ⟨q0, q1, q2, q3, q4, q5⟩ := HC.out _ _ hl7 (by simp)
        have H7 := Lib.hid (And.intro hI7 (And.intro H6.out.2.1 (And.intro hx7 hl7)))
        clear hI7 hx7 hl7
        go_wp2_with fail
        go_at_call 22
        refine (want_any _ _).mono ?_
        rintro e w8 ⟨rfl, rfl⟩
        have hin := Lab.load_u H7.out.1 (by decide) H7.out.2.1 H7.out.2.2.2 array t
        rw [if_neg (by have := HP.out; have := H7.out.2.2.1; omega)] at hin
        have HIN := Lib.hid hin
        clear hin
        go_wp2_with fail
        go_at_call 14
        refine HIN.out.mono ?_
        rintro e w8 ⟨v8, L8, F8, I8, rfl, hI8, hx8, hl8⟩
        clear q0 q1 q2 q3 q4 q5 HIN
        obtain ⟨q0, q1, q2, q3, q4, q5⟩ := HC.out _ _ hl8 (by simp)
        have hin := Lab.set_u H7.out.2.1 HA.out.2.1 hl8 reg t
        rw [if_neg (by have := HP.out; have := H7.out.2.2.1; have := HRG.out; have := HKN.out; omega)] at hin
        have HIN := Lib.hid hin
        have H8 := Lib.hid (And.intro hI8 (And.intro H7.out.2.1 (And.intro hx8 hl8)))
        clear hin hI8 hx8 hl8
        go_wp2_with fail
        go_at_call 24
        refine HIN.out.mono ?_
        rintro e w9 ⟨rfl, regs9, hl9⟩
        clear q0 q1 q2 q3 q4 q5 HIN
        obtain ⟨q0, q1, q2, q3, q4, q5⟩ := HC.out _ _ hl9 (by simp)
        have hin := Lab.put_u H8.out.1 (by decide) H8.out.2.1 hl9 array t
        rw [if_neg (by have := HP.out; have := H7.out.2.2.1; have := H8.out.2.2.1; omega)] at hin
        have HIN := Lib.hid hin
        clear hin hl9
        go_wp2_with fail
        go_at_call 22
        refine (want_any _ _).mono ?_
        rintro e w10 ⟨rfl, rfl⟩
        go_wp2_with fail
        go_at_call 13
        refine HIN.out.mono ?_
        rintro e w11 ⟨rfl, hl11⟩
        have HL := Lib.hid hl11
        clear hl11 q0 q1 q2 q3 q4 q5
        go_wp2_with fail
        go_at_call 8
        refine (awake30_any (HT.out.later HL.out.below)).mono ?_
        rintro e w9 ⟨rfl, hb9⟩
        have HB9 := Lib.hid hb9
        clear hb9
        go_wp2
        go_ret
        exact ⟨rfl, HL.out.below.trans (HB9.out.mono HL.out.below.size)⟩
      · have g5 : decide (array < (na : Int)) = false := decide_eq_false h1
        have hP : ¬ ((0 ≤ array ∧ array < (arrs.length : Int)) ∧ 0 ≤ t ∧ t < (L5.length : Int)) := by have := HA.out.1; have := HKN.out; omega
        have HP := Lib.hid hP
        clear hP
        have hin := Lab.inside_u H6.out.1 (by decide) H6.out.2.1 H6.out.2.2 array t
        rw [if_neg HP.out] at hin
        have HIN := Lib.hid hin
        clear hin
        go_wp2_with fail
        go_at_call 19
        refine HIN.out.mono ?_
        rintro e w7 ⟨v7, L7, F7, I7, rfl, hI7, hx7, hl7⟩
        clear q0 q1 q2 q3 q4 q5 HIN
        obtain ⟨q0, q1, q2, q3, q4, q5⟩ := HC.out _ _ hl7 (by simp)
        have H7 := Lib.hid (And.intro hI7 (And.intro H6.out.2.1 (And.intro hx7 hl7)))
        clear hI7 hx7 hl7
        go_wp2_with fail
        go_at_call 22
        refine (want_any _ _).mono ?_
        rintro e w8 ⟨rfl, rfl⟩
        have hin := Lab.load_u H7.out.1 (by decide) H7.out.2.1 H7.out.2.2.2 array t
        rw [if_neg (by have := HP.out; have := H7.out.2.2.1; omega)] at hin
        have HIN := Lib.hid hin
        clear hin
        go_wp2_with fail
        go_at_call 14
        refine HIN.out.mono ?_
        rintro e w8 ⟨v8, L8, F8, I8, rfl, hI8, hx8, hl8⟩
        clear q0 q1 q2 q3 q4 q5 HIN
        obtain ⟨q0, q1, q2, q3, q4, q5⟩ := HC.out _ _ hl8 (by simp)
        have hin := Lab.set_u H7.out.2.1 HA.out.2.1 hl8 reg t
        rw [if_neg (by have := HP.out; have := H7.out.2.2.1; have := HRG.out; have := HKN.out; omega)] at hin
        have HIN := Lib.hid hin
        have H8 := Lib.hid (And.intro hI8 (And.intro H7.out.2.1 (And.intro hx8 hl8)))
        clear hin hI8 hx8 hl8
        go_wp2_with fail
        go_at_call 24
        refine HIN.out.mono ?_
        rintro e w9 ⟨rfl, regs9, hl9⟩
        clear q0 q1 q2 q3 q4 q5 HIN
        obtain ⟨q0, q1, q2, q3, q4, q5⟩ := HC.out _ _ hl9 (by simp)
        have hin := Lab.put_u H8.out.1 (by decide) H8.out.2.1 hl9 array t
        rw [if_neg (by have := HP.out; have := H7.out.2.2.1; have := H8.out.2.2.1; omega)] at hin
        have HIN := Lib.hid hin
        clear hin hl9
        go_wp2_with fail
        go_at_call 22
        refine (want_any _ _).mono ?_
        rintro e w10 ⟨rfl, rfl⟩
        go_wp2_with fail
        go_at_call 13
        refine HIN.out.mono ?_
        rintro e w11 ⟨rfl, hl11⟩
        have HL := Lib.hid hl11
        clear hl11 q0 q1 q2 q3 q4 q5
        go_wp2_with fail
        go_at_call 8
        refine (awake30_any (HT.out.later HL.out.below)).mono ?_
        rintro e w9 ⟨rfl, hb9⟩
        have HB9 := Lib.hid hb9
        clear hb9
        go_wp2
        go_ret
        exact ⟨rfl, HL.out.below.trans (HB9.out.mono HL.out.below.size)⟩
    · have g4 : decide (0 ≤ array) = false := decide_eq_false h0
      have hP : ¬ ((0 ≤ array ∧ array < (arrs.length : Int)) ∧ 0 ≤ t ∧ t < (L5.length : Int)) := by have := HA.out.1; have := HKN.out; omega
      have HP := Lib.hid hP
      clear hP
      have hin := Lab.inside_u H6.out.1 (by decide) H6.out.2.1 H6.out.2.2 array t
      rw [if_neg HP.out] at hin
      have HIN := Lib.hid hin
      clear hin
      go_wp2_with fail
      go_at_call 19
      refine HIN.out.mono ?_
      rintro e w7 ⟨v7, L7, F7, I7, rfl, hI7, hx7, hl7⟩
      clear q0 q1 q2 q3 q4 q5 HIN
      obtain ⟨q0, q1, q2, q3, q4, q5⟩ := HC.out _ _ hl7 (by simp)
      have H7 := Lib.hid (And.intro hI7 (And.intro H6.out.2.1 (And.intro hx7 hl7)))
      clear hI7 hx7 hl7
      go_wp2_with fail
      go_at_call 22
      refine (want_any _ _).mono ?_
      rintro e w8 ⟨rfl, rfl⟩
      have hin := Lab.load_u H7.out.1 (by decide) H7.out.2.1 H7.out.2.2.2 array t
      rw [if_neg (by have := HP.out; have := H7.out.2.2.1; omega)] at hin
      have HIN := Lib.hid hin
      clear hin
      go_wp2_with fail
      go_at_call 14
      refine HIN.out.mono ?_
      rintro e w8 ⟨v8, L8, F8, I8, rfl, hI8, hx8, hl8⟩
      clear q0 q1 q2 q3 q4 q5 HIN
      obtain ⟨q0, q1, q2, q3, q4, q5⟩ := HC.out _ _ hl8 (by simp)
      have hin := Lab.set_u H7.out.2.1 HA.out.2.1 hl8 reg t
      rw [if_neg (by have := HP.out; have := H7.out.2.2.1; have := HRG.out; have := HKN.out; omega)] at hin
      have HIN := Lib.hid hin
      have H8 := Lib.hid (And.intro hI8 (And.intro H7.out.2.1 (And.intro hx8 hl8)))
      clear hin hI8 hx8 hl8
      go_wp2_with fail
      go_at_call 24
      refine HIN.out.mono ?_
      rintro e w9 ⟨rfl, regs9, hl9⟩
      clear q0 q1 q2 q3 q4 q5 HIN
      obtain ⟨q0, q1, q2, q3, q4, q5⟩ := HC.out _ _ hl9 (by simp)
      have hin := Lab.put_u H8.out.1 (by decide) H8.out.2.1 hl9 array t
      rw [if_neg (by have := HP.out; have := H7.out.2.2.1; have := H8.out.2.2.1; omega)] at hin
      have HIN := Lib.hid hin
      clear hin hl9
      go_wp2_with fail
      go_at_call 22
      refine (want_any _ _).mono ?_
      rintro e w10 ⟨rfl, rfl⟩
      go_wp2_with fail
      go_at_call 13
      refine HIN.out.mono ?_
      rintro e w11 ⟨rfl, hl11⟩
      have HL := Lib.hid hl11
      clear hl11 q0 q1 q2 q3 q4 q5
      go_wp2_with fail
      go_at_call 8
      refine (awake30_any (HT.out.later HL.out.below)).mono ?_
      rintro e w9 ⟨rfl, hb9⟩
      have HB9 := Lib.hid hb9
      clear hb9
      go_wp2
      go_ret
      exact ⟨rfl, HL.out.below.trans (HB9.out.mono HL.out.below.size)⟩
end
end Go.Proofs.YtiklidgcmheofaaDoor
namespace Go.Proofs.YtiklidgcmheofaaDoor
open Go.RowKit Go.Maps
set_option maxHeartbeats 25600000
section
variable {w : World}
set_option maxRecDepth 100000 in
theorem serr_low (f : FlatD) (v1 v2 v3 v4 : Value) (width reg array t : Int) (hf : FlatOf w f v1 v2 v3 v4) (hT : ShpOk w) (hN : newOk width 20000) (hok : FlatOk f) (hw : width = f.W) (nR : Nat) (hnR : f.R = (nR : Int)) (hrg : reg < -1) :
    Calls Tryd.prog 5 #[.agg #[.int .i64 f.W, .int .i64 f.R, v1, v2, v3, v4], .int .i64 width, .int .i64 reg, .int .i64 array, .int .i64 t] w fun e w' => e = .returned (.bool true) ∧ Below w.heap.size w w' := by
  have hb0 := (Lab.nil (Below.refl w.heap.size w)).alloc #[.int .i64 f.W, .int .i64 f.R, v1, v2, v3, v4] 26
  have cells : ∀ (wx : World) (us : List Thing), Lab w wx us → Thing.box w.heap.size 26 #[.int .i64 f.W, .int .i64 f.R, v1, v2, v3, v4] ∈ us → wx.cell? ⟨w.heap.size, 0, none⟩ = some (.int .i64 f.W) ∧ wx.cell? ⟨w.heap.size, 1, none⟩ = some (.int .i64 f.R) ∧ wx.cell? ⟨w.heap.size, 2, none⟩ = some v1 ∧ wx.cell? ⟨w.heap.size, 3, none⟩ = some v2 ∧ wx.cell? ⟨w.heap.size, 4, none⟩ = some v3 ∧ wx.cell? ⟨w.heap.size, 5, none⟩ = some v4 := fun wx us hx hm => by
    have r : wx.heap[w.heap.size]? = some (.cells #[.int .i64 f.W, .int .i64 f.R, v1, v2, v3, v4] 26 (0, 0)) := hx.holds _ hm
    exact ⟨cell_of_cells r (i := 0) rfl, cell_of_cells r (i := 1) rfl, cell_of_cells r (i := 2) rfl, cell_of_cells r (i := 3) rfl, cell_of_cells r (i := 4) rfl, cell_of_cells r (i := 5) rfl⟩
  obtain ⟨q, hq⟩ : ∃ q, w.heap.size = q := ⟨_, rfl⟩
  rw [hq] at hb0 cells
  have hck := fun (wx : World) (hx : Below w.heap.size w wx) => rcheck25_any f v1 v2 v3 v4 (hf.later hx) (hT.later hx)
  subst hw
  obtain ⟨a3, na, c3, rfl, hna, -⟩ := hf.arrays.parts
  have hck2 := hck
  have hk : ∀ wx, Below w.heap.size w wx → Calls Tryd.prog 21 #[.agg #[.int .i64 f.W, .int .i64 f.R, v1, v2, .slice a3 na c3, v4]] wx fun e w' => e = .returned (.int .i64 0) ∧ Below wx.heap.size wx w' := fun wx hx => (hck wx hx).mono (by
    rintro e w' ⟨qv, rfl, hq | hq, hbb⟩
    · rw [hq.2]; exact ⟨rfl, hbb⟩
    · exact absurd hok hq.1)
  have HK := Lib.hid hk
  clear hck hk hck2
  obtain ⟨W', R', ch, st, ars, cs⟩ := f
  simp only at hb0 cells hf hN hok hnR HK hna ⊢
  subst hnR
  obtain ⟨W, rfl⟩ : ∃ W : Nat, W' = (W : Int) := ⟨W'.toNat, by have := hN.1; omega⟩
  have g1 : decide (-1 ≤ reg) = false := decide_eq_false (by omega)
  have g3 : decide (0 ≤ reg) = false := decide_eq_false (by omega)
  have HB := Lib.hid hb0; have HC := Lib.hid cells; have HT := Lib.hid hT; have HF := Lib.hid hf
  clear hb0 cells hT hf
  have HN := Lib.hid hN; have HOK := Lib.hid hok; have HRG := Lib.hid hrg; have HNA := Lib.hid hna
  clear hN hok hrg hna
  go_enter Tryd.func5, Tryd.ntmps5
  go_upto_region 1 with fail
  refine wp_abs (fun wx => Lab w wx [Thing.box q 26 #[.int .i64 W, .int .i64 nR, v1, v2, .slice a3 na c3, v4]]) HB.out ?_
  intro w1 hl1
  obtain ⟨q0, q1, q2, q3, q4, q5⟩ := HC.out _ _ hl1 (by simp)
  have HCK := Lib.hid (HK.out w1 hl1.below); have HL1 := Lib.hid hl1
  clear hl1 HB hq
  go_wp2_with fail
  go_at_call 21
  refine HCK.out.mono ?_
  rintro e w2 ⟨rfl, hb2⟩
  have hl2 := HL1.out.later hb2
  clear HCK HL1 hb2 q0 q1 q2 q3 q4 q5
  obtain ⟨q0, q1, q2, q3, q4, q5⟩ := HC.out _ _ hl2 (by simp)
  have hng := hl2.new_graph (W : Int) 20000 HN.out
  have HNG := Lib.hid hng
  clear hng hl2
  go_wp2_with fail
  go_at_call 9
  refine HNG.out.mono ?_
  rintro e w3 ⟨gb, F, rfl, hl3⟩
  replace hl3 : Lab w w3 (Thing.graph F [] gb W 20000 [] :: [Thing.box q 26 #[.int .i64 W, .int .i64 nR, v1, v2, .slice a3 na c3, v4]]) := hl3
  have hgok := gok_nil (W := W) (by have := HN.out.1; omega) (by have := HN.out.2.1; omega)
  have hsn := Lab.snew HF.out HT.out HOK.out hgok (by have := phi_nil W; omega) hl3
  have HS := Lib.hid hsn
  clear q0 q1 q2 q3 q4 q5 HNG hsn hgok
  obtain ⟨q0, q1, q2, q3, q4, q5⟩ := HC.out _ _ hl3 (by simp)
  clear hl3
  go_wp2_with fail
  go_at_call 10
  refine HS.out.mono ?_
  rintro e w4 ⟨sb, y, zt, L, F3, I3, rfl, hgot, hph, hyl, hl4⟩
  clear q0 q1 q2 q3 q4 q5
  obtain ⟨q0, q1, q2, q3, q4, q5⟩ := HC.out _ _ hl4 (by simp)
  have hI : StIn W L (zerosL zt ars) 65 := ⟨hgot.ok, fun xs hx => by
    obtain ⟨s, hs, rfl⟩ := List.mem_map.1 hx
    have h1 := HOK.out.arrays s hs
    refine ⟨by rw [List.length_replicate]; omega, fun e he => ?_⟩
    obtain rfl := List.eq_of_mem_replicate he
    have := hgot.lt
    omega, by have := phi_nil W; omega⟩
  have hza : (zerosL zt ars).length = na := by rw [zerosL_len, HNA.out]
  have hzy : (zerosL zt ars).length = y.vs.length := by rw [zerosL_len, hyl]
  have hrl : (List.replicate nR (zt : Int)).length = nR := by simp
  obtain ⟨arrs, harrs⟩ : ∃ arrs, zerosL zt ars = arrs := ⟨_, rfl⟩
  obtain ⟨regs, hregs⟩ : ∃ regs, List.replicate nR (zt : Int) = regs := ⟨_, rfl⟩
  rw [harrs] at hI hza hzy hl4
  rw [hregs] at hrl hl4
  have HA := Lib.hid (And.intro hza (And.intro hrl hzy))
  have href := Lab.ref_u hI (by decide) hzy hrl hl4 reg
  rw [if_neg (by have := HRG.out; omega)] at href
  have HREF := Lib.hid href
  clear hgot hph hyl hl4 hI hza hzy hrl harrs hregs href HS
  go_wp2_with fail
  go_at_call 12
  refine HREF.out.mono ?_
  rintro e w5 ⟨v5, L5, F5, I5, rfl, hI5, hl5⟩
  clear q0 q1 q2 q3 q4 q5 HREF
  obtain ⟨q0, q1, q2, q3, q4, q5⟩ := HC.out _ _ hl5 (by simp)
  have HN5 := Lib.hid (node_u hl5 t); have H5 := Lib.hid (And.intro hI5 hl5)
  clear hI5 hl5
  go_wp2_with fail
  go_at_call 22
  refine (want_any _ _).mono ?_
  rintro e w6 ⟨rfl, rfl⟩
  by_cases hk5 : 0 ≤ t ∧ t < (L5.length : Int)
  · have HKN := Lib.hid hk5
    have hnd := HN5.out
    rw [if_pos hk5] at hnd
    have HND := Lib.hid hnd
    clear hnd hk5 HN5
    go_wp2_with fail
    go_at_call 23
    refine HND.out.mono ?_
    rintro e w6 ⟨na6, nb6, nva, nvm, nvc, rfl, hb6⟩
    have hl6 := (((H5.out.2.later hb6).alloc #[.int .u8 na6, .int .u64 nb6, .slice nva nvm nvc] 64))
    obtain ⟨p6, hp6⟩ : ∃ p6, w6.heap.size = p6 := ⟨_, rfl⟩
    rw [hp6] at hl6
    have HL6 := Lib.hid hl6
    clear hl6 hb6 HND q0 q1 q2 q3 q4 q5
    go_upto_region 16 with fail
    refine wp_abs (fun wx => Lab w wx (Thing.box p6 64 #[.int .u8 na6, .int .u64 nb6, .slice nva nvm nvc] :: Thing.graph F5 I5 gb W 20000 L5 :: Thing.gst gb sb y regs arrs :: [Thing.box q 26 #[.int .i64 W, .int .i64 nR, v1, v2, .slice a3 na c3, v4]])) HL6.out ?_
    intro w6' hl6
    have H6 := Lib.hid (And.intro H5.out.1 (And.intro HA.out.2.2 hl6.drop))
    obtain ⟨q0, q1, q2, q3, q4, q5⟩ := HC.out _ _ hl6 (by simp)
    clear hl6 HL6 hp6 H5
    by_cases h0 : 0 ≤ array
    · have g4 : decide (0 ≤ array) = true := decide_eq_true h0
      by_cases h1 : array < (na : Int)
      · have g5 : decide (array < (na : Int)) = true := decide_eq_true h1
        have hP : ((0 ≤ array ∧ array < (arrs.length : Int)) ∧ 0 ≤ t ∧ t < (L5.length : Int)) := by have := HA.out.1; have := HKN.out; omega
        have HP := Lib.hid hP
        clear hP
        have hin := Lab.inside_u H6.out.1 (by decide) H6.out.2.1 H6.out.2.2 array t
        rw [if_pos HP.out] at hin
        have HIN := Lib.hid hin
        clear hin
        go_wp2_with fail
        go_at_call 19
        refine HIN.out.mono ?_
        rintro e w7 ⟨v7, L7, F7, I7, rfl, hI7, hx7, hl7⟩
        clear q0 q1 q2 q3 q4 q5 HIN
        obtain ⟨q0, q1, q2, q3, q4, q5⟩ := HC.out _ _ hl7 (by simp)
        have H7 := Lib.hid (And.intro hI7 (And.intro H6.out.2.1 (And.intro hx7 hl7)))
        clear hI7 hx7 hl7
        go_wp2_with fail
        go_at_call 22
        refine (want_any _ _).mono ?_
        rintro e w8 ⟨rfl, rfl⟩
        have hin := Lab.load_u H7.out.1 (by decide) H7.out.2.1 H7.out.2.2.2 array t
        rw [if_pos (by have := HP.out; have := H7.out.2.2.1; omega)] at hin
        have HIN := Lib.hid hin
        clear hin
        go_wp2_with fail
        go_at_call 14
        refine HIN.out.mono ?_
        rintro e w8 ⟨v8, L8, F8, I8, rfl, hI8, hx8, hl8⟩
        clear q0 q1 q2 q3 q4 q5 HIN
        obtain ⟨q0, q1, q2, q3, q4, q5⟩ := HC.out _ _ hl8 (by simp)
        have hin := Lab.set_u H7.out.2.1 HA.out.2.1 hl8 reg t
        rw [if_neg (by have := HP.out; have := H7.out.2.2.1; have := HRG.out; have := HKN.out; omega)] at hin
        have HIN := Lib.hid hin
        have H8 := Lib.hid (And.intro hI8 (And.intro H7.out.2.1 (And.intro hx8 hl8)))
        clear hin hI8 hx8 hl8
        go_wp2_with fail
        go_at_call 24
        refine HIN.out.mono ?_
        rintro e w9 ⟨rfl, regs9, hl9⟩
        clear q0 q1 q2 q3 q4 q5 HIN
        obtain ⟨q0, q1, q2, q3, q4, q5⟩ := HC.out _ _ hl9 (by simp)
        have hin := Lab.put_u H8.out.1 (by decide) H8.out.2.1 hl9 array t
        rw [if_pos (by have := HP.out; have := H7.out.2.2.1; have := H8.out.2.2.1; omega)] at hin
        have HIN := Lib.hid hin
        clear hin hl9
        go_wp2_with fail
        go_at_call 22
        refine (want_any _ _).mono ?_
        rintro e w10 ⟨rfl, rfl⟩
        go_wp2_with fail
        go_at_call 13
        refine HIN.out.mono ?_
        rintro e w11 ⟨rfl, hl11⟩
        have HL := Lib.hid hl11
        clear hl11 q0 q1 q2 q3 q4 q5
        go_wp2_with fail
        go_at_call 8
        refine (awake30_any (HT.out.later HL.out.below)).mono ?_
        rintro e w9 ⟨rfl, hb9⟩
        have HB9 := Lib.hid hb9
        clear hb9
        go_wp2
        go_ret
        exact ⟨rfl, HL.out.below.trans (HB9.out.mono HL.out.below.size)⟩
      · have g5 : decide (array < (na : Int)) = false := decide_eq_false h1
        have hP : ¬ ((0 ≤ array ∧ array < (arrs.length : Int)) ∧ 0 ≤ t ∧ t < (L5.length : Int)) := by have := HA.out.1; have := HKN.out; omega
        have HP := Lib.hid hP
        clear hP
        have hin := Lab.inside_u H6.out.1 (by decide) H6.out.2.1 H6.out.2.2 array t
        rw [if_neg HP.out] at hin
        have HIN := Lib.hid hin
        clear hin
        go_wp2_with fail
        go_at_call 19
        refine HIN.out.mono ?_
        rintro e w7 ⟨v7, L7, F7, I7, rfl, hI7, hx7, hl7⟩
        clear q0 q1 q2 q3 q4 q5 HIN
        obtain ⟨q0, q1, q2, q3, q4, q5⟩ := HC.out _ _ hl7 (by simp)
        have H7 := Lib.hid (And.intro hI7 (And.intro H6.out.2.1 (And.intro hx7 hl7)))
        clear hI7 hx7 hl7
        go_wp2_with fail
        go_at_call 22
        refine (want_any _ _).mono ?_
        rintro e w8 ⟨rfl, rfl⟩
        have hin := Lab.load_u H7.out.1 (by decide) H7.out.2.1 H7.out.2.2.2 array t
        rw [if_neg (by have := HP.out; have := H7.out.2.2.1; omega)] at hin
        have HIN := Lib.hid hin
        clear hin
        go_wp2_with fail
        go_at_call 14
        refine HIN.out.mono ?_
        rintro e w8 ⟨v8, L8, F8, I8, rfl, hI8, hx8, hl8⟩
        clear q0 q1 q2 q3 q4 q5 HIN
        obtain ⟨q0, q1, q2, q3, q4, q5⟩ := HC.out _ _ hl8 (by simp)
        have hin := Lab.set_u H7.out.2.1 HA.out.2.1 hl8 reg t
        rw [if_neg (by have := HP.out; have := H7.out.2.2.1; have := HRG.out; have := HKN.out; omega)] at hin
        have HIN := Lib.hid hin
        have H8 := Lib.hid (And.intro hI8 (And.intro H7.out.2.1 (And.intro hx8 hl8)))
        clear hin hI8 hx8 hl8
        go_wp2_with fail
        go_at_call 24
        refine HIN.out.mono ?_
        rintro e w9 ⟨rfl, regs9, hl9⟩
        clear q0 q1 q2 q3 q4 q5 HIN
        obtain ⟨q0, q1, q2, q3, q4, q5⟩ := HC.out _ _ hl9 (by simp)
        have hin := Lab.put_u H8.out.1 (by decide) H8.out.2.1 hl9 array t
        rw [if_neg (by have := HP.out; have := H7.out.2.2.1; have := H8.out.2.2.1; omega)] at hin
        have HIN := Lib.hid hin
        clear hin hl9
        go_wp2_with fail
        go_at_call 22
        refine (want_any _ _).mono ?_
        rintro e w10 ⟨rfl, rfl⟩
        go_wp2_with fail
        go_at_call 13
        refine HIN.out.mono ?_
        rintro e w11 ⟨rfl, hl11⟩
        have HL := Lib.hid hl11
        clear hl11 q0 q1 q2 q3 q4 q5
        go_wp2_with fail
        go_at_call 8
        refine (awake30_any (HT.out.later HL.out.below)).mono ?_
        rintro e w9 ⟨rfl, hb9⟩
        have HB9 := Lib.hid hb9
        clear hb9
        go_wp2
        go_ret
        exact ⟨rfl, HL.out.below.trans (HB9.out.mono HL.out.below.size)⟩
    · have g4 : decide (0 ≤ array) = false := decide_eq_false h0
      have hP : ¬ ((0 ≤ array ∧ array < (arrs.length : Int)) ∧ 0 ≤ t ∧ t < (L5.length : Int)) := by have := HA.out.1; have := HKN.out; omega
      have HP := Lib.hid hP
      clear hP
      have hin := Lab.inside_u H6.out.1 (by decide) H6.out.2.1 H6.out.2.2 array t
      rw [if_neg HP.out] at hin
      have HIN := Lib.hid hin
      clear hin
      go_wp2_with fail
      go_at_call 19
      refine HIN.out.mono ?_
      rintro e w7 ⟨v7, L7, F7, I7, rfl, hI7, hx7, hl7⟩
      clear q0 q1 q2 q3 q4 q5 HIN
      obtain ⟨q0, q1, q2, q3, q4, q5⟩ := HC.out _ _ hl7 (by simp)
      have H7 := Lib.hid (And.intro hI7 (And.intro H6.out.2.1 (And.intro hx7 hl7)))
      clear hI7 hx7 hl7
      go_wp2_with fail
      go_at_call 22
      refine (want_any _ _).mono ?_
      rintro e w8 ⟨rfl, rfl⟩
      have hin := Lab.load_u H7.out.1 (by decide) H7.out.2.1 H7.out.2.2.2 array t
      rw [if_neg (by have := HP.out; have := H7.out.2.2.1; omega)] at hin
      have HIN := Lib.hid hin
      clear hin
      go_wp2_with fail
      go_at_call 14
      refine HIN.out.mono ?_
      rintro e w8 ⟨v8, L8, F8, I8, rfl, hI8, hx8, hl8⟩
      clear q0 q1 q2 q3 q4 q5 HIN
      obtain ⟨q0, q1, q2, q3, q4, q5⟩ := HC.out _ _ hl8 (by simp)
      have hin := Lab.set_u H7.out.2.1 HA.out.2.1 hl8 reg t
      rw [if_neg (by have := HP.out; have := H7.out.2.2.1; have := HRG.out; have := HKN.out; omega)] at hin
      have HIN := Lib.hid hin
      have H8 := Lib.hid (And.intro hI8 (And.intro H7.out.2.1 (And.intro hx8 hl8)))
      clear hin hI8 hx8 hl8
      go_wp2_with fail
      go_at_call 24
      refine HIN.out.mono ?_
      rintro e w9 ⟨rfl, regs9, hl9⟩
      clear q0 q1 q2 q3 q4 q5 HIN
      obtain ⟨q0, q1, q2, q3, q4, q5⟩ := HC.out _ _ hl9 (by simp)
      have hin := Lab.put_u H8.out.1 (by decide) H8.out.2.1 hl9 array t
      rw [if_neg (by have := HP.out; have := H7.out.2.2.1; have := H8.out.2.2.1; omega)] at hin
      have HIN := Lib.hid hin
      clear hin hl9
      go_wp2_with fail
      go_at_call 22
      refine (want_any _ _).mono ?_
      rintro e w10 ⟨rfl, rfl⟩
      go_wp2_with fail
      go_at_call 13
      refine HIN.out.mono ?_
      rintro e w11 ⟨rfl, hl11⟩
      have HL := Lib.hid hl11
      clear hl11 q0 q1 q2 q3 q4 q5
      go_wp2_with fail
      go_at_call 8
      refine (awake30_any (HT.out.later HL.out.below)).mono ?_
      rintro e w9 ⟨rfl, hb9⟩
      have HB9 := Lib.hid hb9
      clear hb9
      go_wp2
      go_ret
      exact ⟨rfl, HL.out.below.trans (HB9.out.mono HL.out.below.size)⟩
  · have HKN := Lib.hid hk5
    have hnd := HN5.out
    rw [if_neg hk5] at hnd
    have HND := Lib.hid hnd
    clear hnd hk5 HN5
    go_wp2_with fail
    go_at_call 23
    refine HND.out.mono ?_
    rintro e w6 ⟨na6, nb6, nva, nvm, nvc, rfl, hb6⟩
    have hl6 := (((H5.out.2.later hb6).alloc #[.int .u8 na6, .int .u64 nb6, .slice nva nvm nvc] 64))
    obtain ⟨p6, hp6⟩ : ∃ p6, w6.heap.size = p6 := ⟨_, rfl⟩
    rw [hp6] at hl6
    have HL6 := Lib.hid hl6
    clear hl6 hb6 HND q0 q1 q2 q3 q4 q5
    go_upto_region 16 with fail
    refine wp_abs (fun wx => Lab w wx (Thing.box p6 64 #[.int .u8 na6, .int .u64 nb6, .slice nva nvm nvc] :: Thing.graph F5 I5 gb W 20000 L5 :: Thing.gst gb sb y regs arrs :: [Thing.box q 26 #[.int .i64 W, .int .i64 nR, v1, v2, .slice a3 na c3, v4]])) HL6.out ?_
    intro w6' hl6
    have H6 := Lib.hid (And.intro H5.out.1 (And.intro HA.out.2.2 hl6.drop))
    obtain ⟨q0, q1, q2, q3, q4, q5⟩ := HC.out _ _ hl6 (by simp)
    clear hl6 HL6 hp6 H5
    by_cases h0 : 0 ≤ array
    · have g4 : decide (0 ≤ array) = true := decide_eq_true h0
      by_cases h1 : array < (na : Int)
      · have g5 : decide (array < (na : Int)) = true := decide_eq_true h1
        have hP : ¬ ((0 ≤ array ∧ array < (arrs.length : Int)) ∧ 0 ≤ t ∧ t < (L5.length : Int)) := by have := HA.out.1; have := HKN.out; omega
        have HP := Lib.hid hP
        clear hP
        have hin := Lab.inside_u H6.out.1 (by decide) H6.out.2.1 H6.out.2.2 array t
        rw [if_neg HP.out] at hin
        have HIN := Lib.hid hin
        clear hin
        go_wp2_with fail
        go_at_call 19
        refine HIN.out.mono ?_
        rintro e w7 ⟨v7, L7, F7, I7, rfl, hI7, hx7, hl7⟩
        clear q0 q1 q2 q3 q4 q5 HIN
        obtain ⟨q0, q1, q2, q3, q4, q5⟩ := HC.out _ _ hl7 (by simp)
        have H7 := Lib.hid (And.intro hI7 (And.intro H6.out.2.1 (And.intro hx7 hl7)))
        clear hI7 hx7 hl7
        go_wp2_with fail
        go_at_call 22
        refine (want_any _ _).mono ?_
        rintro e w8 ⟨rfl, rfl⟩
        have hin := Lab.load_u H7.out.1 (by decide) H7.out.2.1 H7.out.2.2.2 array t
        rw [if_neg (by have := HP.out; have := H7.out.2.2.1; omega)] at hin
        have HIN := Lib.hid hin
        clear hin
        go_wp2_with fail
        go_at_call 14
        refine HIN.out.mono ?_
        rintro e w8 ⟨v8, L8, F8, I8, rfl, hI8, hx8, hl8⟩
        clear q0 q1 q2 q3 q4 q5 HIN
        obtain ⟨q0, q1, q2, q3, q4, q5⟩ := HC.out _ _ hl8 (by simp)
        have hin := Lab.set_u H7.out.2.1 HA.out.2.1 hl8 reg t
        rw [if_neg (by have := HP.out; have := H7.out.2.2.1; have := HRG.out; have := HKN.out; omega)] at hin
        have HIN := Lib.hid hin
        have H8 := Lib.hid (And.intro hI8 (And.intro H7.out.2.1 (And.intro hx8 hl8)))
        clear hin hI8 hx8 hl8
        go_wp2_with fail
        go_at_call 24
        refine HIN.out.mono ?_
        rintro e w9 ⟨rfl, regs9, hl9⟩
        clear q0 q1 q2 q3 q4 q5 HIN
        obtain ⟨q0, q1, q2, q3, q4, q5⟩ := HC.out _ _ hl9 (by simp)
        have hin := Lab.put_u H8.out.1 (by decide) H8.out.2.1 hl9 array t
        rw [if_neg (by have := HP.out; have := H7.out.2.2.1; have := H8.out.2.2.1; omega)] at hin
        have HIN := Lib.hid hin
        clear hin hl9
        go_wp2_with fail
        go_at_call 22
        refine (want_any _ _).mono ?_
        rintro e w10 ⟨rfl, rfl⟩
        go_wp2_with fail
        go_at_call 13
        refine HIN.out.mono ?_
        rintro e w11 ⟨rfl, hl11⟩
        have HL := Lib.hid hl11
        clear hl11 q0 q1 q2 q3 q4 q5
        go_wp2_with fail
        go_at_call 8
        refine (awake30_any (HT.out.later HL.out.below)).mono ?_
        rintro e w9 ⟨rfl, hb9⟩
        have HB9 := Lib.hid hb9
        clear hb9
        go_wp2
        go_ret
        exact ⟨rfl, HL.out.below.trans (HB9.out.mono HL.out.below.size)⟩
      · have g5 : decide (array < (na : Int)) = false := decide_eq_false h1
        have hP : ¬ ((0 ≤ array ∧ array < (arrs.length : Int)) ∧ 0 ≤ t ∧ t < (L5.length : Int)) := by have := HA.out.1; have := HKN.out; omega
        have HP := Lib.hid hP
        clear hP
        have hin := Lab.inside_u H6.out.1 (by decide) H6.out.2.1 H6.out.2.2 array t
        rw [if_neg HP.out] at hin
        have HIN := Lib.hid hin
        clear hin
        go_wp2_with fail
        go_at_call 19
        refine HIN.out.mono ?_
        rintro e w7 ⟨v7, L7, F7, I7, rfl, hI7, hx7, hl7⟩
        clear q0 q1 q2 q3 q4 q5 HIN
        obtain ⟨q0, q1, q2, q3, q4, q5⟩ := HC.out _ _ hl7 (by simp)
        have H7 := Lib.hid (And.intro hI7 (And.intro H6.out.2.1 (And.intro hx7 hl7)))
        clear hI7 hx7 hl7
        go_wp2_with fail
        go_at_call 22
        refine (want_any _ _).mono ?_
        rintro e w8 ⟨rfl, rfl⟩
        have hin := Lab.load_u H7.out.1 (by decide) H7.out.2.1 H7.out.2.2.2 array t
        rw [if_neg (by have := HP.out; have := H7.out.2.2.1; omega)] at hin
        have HIN := Lib.hid hin
        clear hin
        go_wp2_with fail
        go_at_call 14
        refine HIN.out.mono ?_
        rintro e w8 ⟨v8, L8, F8, I8, rfl, hI8, hx8, hl8⟩
        clear q0 q1 q2 q3 q4 q5 HIN
        obtain ⟨q0, q1, q2, q3, q4, q5⟩ := HC.out _ _ hl8 (by simp)
        have hin := Lab.set_u H7.out.2.1 HA.out.2.1 hl8 reg t
        rw [if_neg (by have := HP.out; have := H7.out.2.2.1; have := HRG.out; have := HKN.out; omega)] at hin
        have HIN := Lib.hid hin
        have H8 := Lib.hid (And.intro hI8 (And.intro H7.out.2.1 (And.intro hx8 hl8)))
        clear hin hI8 hx8 hl8
        go_wp2_with fail
        go_at_call 24
        refine HIN.out.mono ?_
        rintro e w9 ⟨rfl, regs9, hl9⟩
        clear q0 q1 q2 q3 q4 q5 HIN
        obtain ⟨q0, q1, q2, q3, q4, q5⟩ := HC.out _ _ hl9 (by simp)
        have hin := Lab.put_u H8.out.1 (by decide) H8.out.2.1 hl9 array t
        rw [if_neg (by have := HP.out; have := H7.out.2.2.1; have := H8.out.2.2.1; omega)] at hin
        have HIN := Lib.hid hin
        clear hin hl9
        go_wp2_with fail
        go_at_call 22
        refine (want_any _ _).mono ?_
        rintro e w10 ⟨rfl, rfl⟩
        go_wp2_with fail
        go_at_call 13
        refine HIN.out.mono ?_
        rintro e w11 ⟨rfl, hl11⟩
        have HL := Lib.hid hl11
        clear hl11 q0 q1 q2 q3 q4 q5
        go_wp2_with fail
        go_at_call 8
        refine (awake30_any (HT.out.later HL.out.below)).mono ?_
        rintro e w9 ⟨rfl, hb9⟩
        have HB9 := Lib.hid hb9
        clear hb9
        go_wp2
        go_ret
        exact ⟨rfl, HL.out.below.trans (HB9.out.mono HL.out.below.size)⟩
    · have g4 : decide (0 ≤ array) = false := decide_eq_false h0
      have hP : ¬ ((0 ≤ array ∧ array < (arrs.length : Int)) ∧ 0 ≤ t ∧ t < (L5.length : Int)) := by have := HA.out.1; have := HKN.out; omega
      have HP := Lib.hid hP
      clear hP
      have hin := Lab.inside_u H6.out.1 (by decide) H6.out.2.1 H6.out.2.2 array t
      rw [if_neg HP.out] at hin
      have HIN := Lib.hid hin
      clear hin
      go_wp2_with fail
      go_at_call 19
      refine HIN.out.mono ?_
      rintro e w7 ⟨v7, L7, F7, I7, rfl, hI7, hx7, hl7⟩
      clear q0 q1 q2 q3 q4 q5 HIN
      obtain ⟨q0, q1, q2, q3, q4, q5⟩ := HC.out _ _ hl7 (by simp)
      have H7 := Lib.hid (And.intro hI7 (And.intro H6.out.2.1 (And.intro hx7 hl7)))
      clear hI7 hx7 hl7
      go_wp2_with fail
      go_at_call 22
      refine (want_any _ _).mono ?_
      rintro e w8 ⟨rfl, rfl⟩
      have hin := Lab.load_u H7.out.1 (by decide) H7.out.2.1 H7.out.2.2.2 array t
      rw [if_neg (by have := HP.out; have := H7.out.2.2.1; omega)] at hin
      have HIN := Lib.hid hin
      clear hin
      go_wp2_with fail
      go_at_call 14
      refine HIN.out.mono ?_
      rintro e w8 ⟨v8, L8, F8, I8, rfl, hI8, hx8, hl8⟩
      clear q0 q1 q2 q3 q4 q5 HIN
      obtain ⟨q0, q1, q2, q3, q4, q5⟩ := HC.out _ _ hl8 (by simp)
      have hin := Lab.set_u H7.out.2.1 HA.out.2.1 hl8 reg t
      rw [if_neg (by have := HP.out; have := H7.out.2.2.1; have := HRG.out; have := HKN.out; omega)] at hin
      have HIN := Lib.hid hin
      have H8 := Lib.hid (And.intro hI8 (And.intro H7.out.2.1 (And.intro hx8 hl8)))
      clear hin hI8 hx8 hl8
      go_wp2_with fail
      go_at_call 24
      refine HIN.out.mono ?_
      rintro e w9 ⟨rfl, regs9, hl9⟩
      clear q0 q1 q2 q3 q4 q5 HIN
      obtain ⟨q0, q1, q2, q3, q4, q5⟩ := HC.out _ _ hl9 (by simp)
      have hin := Lab.put_u H8.out.1 (by decide) H8.out.2.1 hl9 array t
      rw [if_neg (by have := HP.out; have := H7.out.2.2.1; have := H8.out.2.2.1; omega)] at hin
      have HIN := Lib.hid hin
      clear hin hl9
      go_wp2_with fail
      go_at_call 22
      refine (want_any _ _).mono ?_
      rintro e w10 ⟨rfl, rfl⟩
      go_wp2_with fail
      go_at_call 13
      refine HIN.out.mono ?_
      rintro e w11 ⟨rfl, hl11⟩
      have HL := Lib.hid hl11
      clear hl11 q0 q1 q2 q3 q4 q5
      go_wp2_with fail
      go_at_call 8
      refine (awake30_any (HT.out.later HL.out.below)).mono ?_
      rintro e w9 ⟨rfl, hb9⟩
      have HB9 := Lib.hid hb9
      clear hb9
      go_wp2
      go_ret
      exact ⟨rfl, HL.out.below.trans (HB9.out.mono HL.out.below.size)⟩
end
end Go.Proofs.YtiklidgcmheofaaDoor
