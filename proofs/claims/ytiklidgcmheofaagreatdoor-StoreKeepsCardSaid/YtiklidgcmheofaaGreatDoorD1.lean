/- Lists, StO, StY, StLK: joined by wip/bundle.py. -/
import Derived.Test.YtiklidgcmheofaaGreatDoorB1
import Derived.Test.YtiklidgcmheofaaGreatDoorB2
import Derived.Test.YtiklidgcmheofaaGreatDoorB3
import Derived.Test.YtiklidgcmheofaaGreatDoorB4
import Derived.Test.YtiklidgcmheofaaGreatDoorB5
import Derived.Test.YtiklidgcmheofaaGreatDoorB6
import Derived.Test.YtiklidgcmheofaaGreatDoorB7
import Derived.Test.YtiklidgcmheofaaGreatDoorB8
import Derived.Test.YtiklidgcmheofaaGreatDoorB9
import Derived.Test.YtiklidgcmheofaaGreatDoorB10
import Derived.Test.YtiklidgcmheofaaGreatDoorB11
import Derived.Test.YtiklidgcmheofaaGreatDoorB12
import Derived.Test.YtiklidgcmheofaaGreatDoorB13
import Derived.Test.YtiklidgcmheofaaGreatDoorB14
import Derived.Test.YtiklidgcmheofaaGreatDoorB15
import Derived.Test.YtiklidgcmheofaaGreatDoorB16
import Derived.Test.YtiklidgcmheofaaGreatDoorB17
import Derived.Test.YtiklidgcmheofaaGreatDoorB18
import Derived.Test.YtiklidgcmheofaaGreatDoorB19
import Derived.Test.YtiklidgcmheofaaGreatDoorB20
import Derived.Test.YtiklidgcmheofaaGreatDoorB21
import Derived.Test.YtiklidgcmheofaaGreatDoorB22
import Derived.Test.YtiklidgcmheofaaGreatDoorB23
import Derived.Laws.BitsAllLaws
import Derived.Lib.Hide
import Derived.WalkKit
import Derived.WalkSpells
import Derived.WalkLawsBesides
import Derived.BigQuiet
import Derived.Deep.QuietTactic
import Derived.Deep.RegionHeld3
import Derived.ProofKit
import Derived.Maps.Keyed
import Derived.DeepKeys4
import Derived.StillTailTactics
import Derived.Laws.CopyOwn
import Derived.Deep.RegionLaw
import Derived.Deep.Slices
import Derived.Deep.Fields
import Derived.ChangeSame
import Derived.OpenShut
import Derived.Deep.DeepCutAuto
import Derived.Deep.CutBlock
import Derived.Deep.OwnRows
import Derived.Maps.RangeWalk
import Derived.Deep.DrawnRows
import Derived.Outline
import Derived.Deep.Upon
import Derived.WideKeyArr2
import Derived.Lib.AppendZeros
import Derived.BigRegion
import Derived.StillTail
import Derived.Lib.TrailingZeros
import Derived.RangeFuncRecord
import Derived.RangeFuncNested
import Derived.RangeFuncCalls
import Derived.RangeFuncLeaves
import Derived.OwnWalkIn
import Derived.TacticsInMore
import Derived.LoopNIn
import Derived.LoopIn
import Derived.Laws.EntriesVeiled
import Derived.OrdersHeld
import Derived.Laws.IdiomStrings
import Derived.BigGuardPart
import Derived.Lib.LaidTab
namespace Go.Proofs.YtiklidgcmheofaaGreatDoor
open Go.RowKit Go.Maps
set_option maxHeartbeats 3200000
section
variable {w0 wr w' : World} {fs ts : List Thing}
end
section
variable {w0 wr w' : World} {ts : List Thing} {k : IntKind} {E Es : Nat} {v : Value} {vs : List Value} {xss : List (List Int)} {c : Nat}
theorem Lab.numsK_none (h : Lab w0 wr ts) : Lab w0 wr (Thing.numsK k E (.slice none 0 0) [] :: ts) :=
  h.new_row (E := E) (size := 1) (n := 0) (v := .slice none 0 0) (cells := []) (Below.refl _ _) (World.ownsRow_nil _ _ _ _)
theorem Lab.append1 {ao : Option Addr} {m c : Nat} {ys : List Int} (T ty bytes : Nat) (x : Int) (hy : ys.length = m) (h : Lab w0 wr (Thing.numsK k E (.slice ao m c) ys :: ts))
    (ht : Tryz.prog.underlying T = some (.slice E)) (hi : (Tryz.prog.info? E).map (fun i => (i.zero, i.size, i.bytes)) = some (some (.int k 0), 1, bytes)) (hbt : bytes ≤ 1000) (hn : m ≤ 999999999) :
    ∃ a' c' w', (Builtin.append_ #[T, T] ty #[.slice ao m c, .slice (some ⟨wr.heap.size, 0, none⟩) 1 1]).run Tryz.prog (wr.alloc (.cells #[.int k x] E)) = .ok (.slice a' (m + 1) c') w' ∧ Lab w0 w' (Thing.numsK k E (.slice a' (m + 1) c') (ys ++ [x]) :: ts) := by
  unfold Thing.numsK at h
  rw [hy] at h
  obtain ⟨a', c', w', hr, hl⟩ := run_append_row T ty E bytes (.int k 0) h rfl (u := .int k x) rfl ht hi rfl hbt hn
  refine ⟨a', c', w', hr, ?_⟩
  unfold Thing.numsK
  rw [List.length_append, hy, List.map_append]
  exact hl
end
end Go.Proofs.YtiklidgcmheofaaGreatDoor
namespace Go.Proofs.YtiklidgcmheofaaGreatDoor
open Go.RowKit Go.Maps
set_option maxHeartbeats 3200000
section
variable {w0 wr : World} {ts : List Thing} {W nR : Nat} {ch st : List ByteArray} {ars : List Int} {cs : List CodeD} {v1 v2 v3 v4 : Value} {vals : List Int} {av : Option Addr} {nv cv : Nat} {va : Value} {acts : List ActD}
set_option maxRecDepth 100000 in
theorem Lab.made (hf : FlatOf w0 ⟨W, nR, ch, st, ars, cs⟩ v1 v2 v3 v4) (hT : ShpOk w0) (hS : SmallP ⟨W, nR, ch, st, ars, cs⟩) (hI : BothIn w0 W nR ars vals v3 (.slice av nv cv)) (hnv : nv ≤ 8) (hA : ActsOf w0 va acts) (h14 : acts.length ≤ 14) (h : Lab w0 wr ts) :
    Calls Tryz.prog 12 #[.agg #[.int .i64 W, .int .i64 nR, v1, v2, v3, v4], .slice av nv cv, va] wr fun e w' => ∃ (bb gb sb rb : Nat) (y z : Lay) (L : List PNode) (F I : List Nat) (regs rregs : List Int) (arrs rarrs : List (List Int)), e = .returned (.pointer (some ⟨bb, 0, none⟩)) ∧ BothOk W vals nR ars L regs rregs arrs rarrs ∧ phi W L ≤ 345 ∧ arrs.length = y.vs.length ∧ rarrs.length = z.vs.length ∧
      Lab w0 w' (bothTs F I gb W 20000 L bb sb rb nR y z regs rregs arrs rarrs v1 v2 v3 v4 (.slice av nv cv) ts) := by
  obtain ⟨aa, na0, ca, rfl, hna0, -, hacts⟩ := hA
  have hb0 := h.alloc #[.int .i64 W, .int .i64 nR, v1, v2, v3, v4] 26
  obtain ⟨q, hq⟩ : ∃ q, wr.heap.size = q := ⟨_, rfl⟩
  rw [hq] at hb0
  have cells : ∀ (wx : World) (us : List Thing), Lab w0 wx us → Thing.box q 26 #[.int .i64 W, .int .i64 nR, v1, v2, v3, v4] ∈ us → wx.cell? ⟨q, 0, none⟩ = some (.int .i64 W) ∧ wx.cell? ⟨q, 1, none⟩ = some (.int .i64 nR) ∧ wx.cell? ⟨q, 2, none⟩ = some v1 ∧ wx.cell? ⟨q, 3, none⟩ = some v2 ∧ wx.cell? ⟨q, 4, none⟩ = some v3 ∧ wx.cell? ⟨q, 5, none⟩ = some v4 := fun wx us hx hm => by
    have r : wx.heap[q]? = some (.cells #[.int .i64 W, .int .i64 nR, v1, v2, v3, v4] 26 (0, 0)) := hx.holds _ hm
    exact ⟨cell_of_cells r (i := 0) rfl, cell_of_cells r (i := 1) rfl, cell_of_cells r (i := 2) rfl, cell_of_cells r (i := 3) rfl, cell_of_cells r (i := 4) rfl, cell_of_cells r (i := 5) rfl⟩
  have hsml : ∀ wx, Lab w0 wx (Thing.box q 26 #[.int .i64 W, .int .i64 nR, v1, v2, v3, v4] :: ts) → Calls Tryz.prog 6 #[.agg #[.int .i64 W, .int .i64 nR, v1, v2, v3, v4]] wx fun e w' => ∃ B : Bool, e = .returned (.bool B) ∧ (B = true ↔ SmallP ⟨W, nR, ch, st, ars, cs⟩) ∧ Below wx.heap.size wx w' := fun wx hx => small_any ⟨W, nR, ch, st, ars, cs⟩ v1 v2 v3 v4 (hf.later hx.below) (hT.later hx.below)
  have hn14 : na0 ≤ 14 := by omega
  have gc0 : decide (8 < (nv : Int)) = false := decide_eq_false (by omega)
  have gc1 : decide (14 < (na0 : Int)) = false := decide_eq_false (by omega)
  have HB := Lib.hid hb0; have HC := Lib.hid cells; have HF := Lib.hid (And.intro hf (And.intro hT True.intro)); have HSL := Lib.hid hsml; have HS := Lib.hid hS; have HI := Lib.hid hI
  have HA := Lib.hid (And.intro hna0 hacts)
  clear hb0 cells hf hT hsml hS hI hna0 hacts h
  go_enter Tryz.func12, Tryz.ntmps12
  go_upto_region 1 with fail
  refine wp_abs (fun wx => Lab w0 wx (Thing.box q 26 #[.int .i64 W, .int .i64 nR, v1, v2, v3, v4] :: ts)) HB.out ?_
  intro w1 hl1
  obtain ⟨q0, q1, q2, q3, q4, q5⟩ := HC.out _ _ hl1 (by simp)
  have HSM := Lib.hid (HSL.out w1 hl1); have HL1 := Lib.hid hl1
  clear hl1 HB hq
  go_wp2_with fail
  go_at_call 6
  refine HSM.out.mono ?_
  rintro e w2 ⟨B, rfl, hB, hb2⟩
  obtain rfl : B = true := hB.2 HS.out
  have hl2 := HL1.out.later hb2
  clear q0 q1 q2 q3 q4 q5 HSM HL1 hb2 hB
  obtain ⟨q0, q1, q2, q3, q4, q5⟩ := HC.out _ _ hl2 (by simp)
  have hbg := Lab.bbegin (vals := vals) HF.out.1 HF.out.2.1 HS.out.1 (vv := .slice av nv cv) ⟨_, _, _, rfl⟩ hl2
  have HBG := Lib.hid hbg
  clear hbg hl2
  go_wp2_with fail
  go_at_call 8
  refine HBG.out.mono ?_
  rintro e w3 ⟨bb, gb, sb, rb, zt, y, z, L, F, I, rfl, hB, hyl, hzl, hl3⟩
  have hbo := hB.both (vals := vals) (nR := nR) (fun s hs => HS.out.1.arrays s hs)
  have HBO := Lib.hid (And.intro hbo (And.intro hB.phi (And.intro hyl hzl)))
  have HL4 := Lib.hid hl3
  clear hbo hB hyl hzl hl3 HBG q0 q1 q2 q3 q4 q5
  go_wp2
  go_loopw [8] (fun v wx => ∃ i : Nat, i ≤ na0 ∧ v = .int .i64 i ∧ ∃ (F I : List Nat) (L : List PNode) (y : Lay) (regs rregs : List Int) (arrs rarrs : List (List Int)), BothOk W vals nR ars L regs rregs arrs rarrs ∧ phi W L ≤ 65 + 20 * i ∧ arrs.length = y.vs.length ∧ rarrs.length = z.vs.length ∧ Lab w0 wx (bothTs F I gb W 20000 L bb sb rb nR y z regs rregs arrs rarrs v1 v2 v3 v4 (.slice av nv cv) (Thing.box q 26 #[.int .i64 W, .int .i64 nR, v1, v2, v3, v4] :: ts))) (fun v _ => na0 - (intOf v).toNat)
  case atStart => exact ⟨0, Nat.zero_le _, rfl, F, I, L, y, _, _, _, _, HBO.out.1, by have := HBO.out.2.1; omega, by rw [zerosL_len, HBO.out.2.2.1], by rw [zerosL_len, HBO.out.2.2.2], HL4.out⟩
  case round =>
    clear HL4
    obtain ⟨i, hi, rfl, F2, I2, L2, y2, regs, rregs, arrs, rarrs, hbo, hph, hy, hz, hl⟩ := hrel
    by_cases hlt : i < na0
    · have hlt' : (i : Int) < (na0 : Int) := by omega
      have i0 : (0 : Int) ≤ (i : Int) := by omega
      obtain ⟨b, off, x, rfl, hx, hxo, k0, k1, k2, k3, k4, k5⟩ := HA.out.2 i hlt
      have c0 := cell_later hl.below k0; have c1 := cell_later hl.below k1; have c2 := cell_later hl.below k2; have c3 := cell_later hl.below k3; have c4 := cell_later hl.below k4; have c5 := cell_later hl.below k5
      have hd := Lab.does HI.out hbo hy hz (by omega) x hxo hl
      unfold ActD.val at hd
      have HD := Lib.hid (And.intro hd hph)
      clear hbo hph hy hz hl k0 k1 k2 k3 k4 k5 hx hxo hd
      go_wp2_with fail
      go_at_call 10
      refine HD.out.1.mono ?_
      rintro e w5 ⟨L', F', I', y', regs', rregs', arrs', rarrs', rfl, hp, hbo', hph', hy', hz', hl'⟩
      have HL' := Lib.hid (And.intro hbo' (And.intro (show phi W L' ≤ 65 + 20 * (i + 1) by have := HD.out.2; omega) (And.intro hy' (And.intro hz' hl'))))
      clear hp hbo' hph' hy' hz' hl' c0 c1 c2 c3 c4 c5 HD
      go_wp2
      go_roundw
      case rel => exact ⟨i + 1, by omega, by go_num, F', I', L', y', regs', rregs', arrs', rarrs', HL'.out.1, HL'.out.2.1, HL'.out.2.2.1, HL'.out.2.2.2.1, HL'.out.2.2.2.2⟩
      case measure => simp [intOf]; omega
    · obtain rfl : i = na0 := by omega
      have HLS := Lib.hid (And.intro hbo (And.intro hph (And.intro hy hz)))
      clear hbo hph hy hz
      have HL := Lib.hid hl
      clear hl
      go_wp2
      go_ret
      exact ⟨bb, gb, sb, rb, y2, z, L2, F2, I2, regs, rregs, arrs, rarrs, rfl, HLS.out.1, by have := HLS.out.2.1; omega, HLS.out.2.2.1, HLS.out.2.2.2, HL.out.rot5.drop⟩
end
end Go.Proofs.YtiklidgcmheofaaGreatDoor
namespace Go.Proofs.YtiklidgcmheofaaGreatDoor
open Go.RowKit Go.Maps
set_option maxHeartbeats 3200000
section
variable {w0 wr w : World} {ts : List Thing} {gb sb nR : Nat} {y : Lay} {regs : List Int} {arrs : List (List Int)}
set_option maxRecDepth 100000 in
theorem Lab.scopy (hy : arrs.length = y.vs.length) (hn : regs.length = nR) (h1 : 1 ≤ nR) (h2 : nR ≤ 4194304) (ha : ∀ xs ∈ arrs, 1 ≤ xs.length ∧ xs.length ≤ 64) (hna : arrs.length ≤ 32) (h : Lab w0 wr (Thing.gst gb sb y regs arrs :: ts)) :
    Calls Tryz.prog 14 #[.pointer (some ⟨sb, 0, none⟩)] wr fun e w' => ∃ (cb : Nat) (y' : Lay), e = .returned (.pointer (some ⟨cb, 0, none⟩)) ∧ y'.vs.length = arrs.length ∧ Lab w0 w' (Thing.gst gb cb y' regs arrs :: Thing.gst gb sb y regs arrs :: ts) := by
  have hs := Lab.st_read hy h
  obtain ⟨ar, nr, cr, hrv, hnr, -⟩ := hs.regs
  obtain rfl : nr = nR := by omega
  obtain ⟨aa, na, ca, hav, hna2, -⟩ := hs.arrs
  have d0 := hs.c0; have d1 := hs.c1
  rw [hrv] at d1
  have hmk := make_ints nr h2
  obtain ⟨g, hg⟩ : ∃ g, wr.heap.size = g := ⟨_, rfl⟩
  have hl2 := (h.make_nums (k := .i64) nr 3 (by omega)).alloc #[.pointer (some ⟨gb, 0, none⟩), .slice (some ⟨g, 0, none⟩) nr nr, .slice none 0 0] 80
  simp only [World.size_alloc] at hl2
  rw [hg] at hl2
  have HL2 := Lib.hid (hl2.drewN 1); have HA := Lib.hid (And.intro hy (And.intro hn (And.intro ha (And.intro hrv (And.intro hav hna2)))))
  have hna32 : na ≤ 32 := by omega
  clear h hl2 hs hy hn ha hrv hnr hav hna2 hna
  go_enter Tryz.func14, Tryz.ntmps14
  go_upto_region 3 with fail
  go_region_held3 (fun w' => w'.cell? ⟨sb, 0, none⟩ = some (.pointer (some ⟨gb, 0, none⟩)) ∧ w'.cell? ⟨sb, 1, none⟩ = some (.slice ar nr cr)) (first | exact ⟨by assumption, by assumption⟩ | go_keep) (fail)
  clear d0 d1 hmk
  obtain ⟨cb, hcb⟩ : ∃ cb, g + 1 = cb := ⟨_, rfl⟩
  rw [hcb] at HL2
  go_upto_region 4 with fail
  refine wp_abs (fun wx => Lab w0 wx (Thing.box cb 80 #[.pointer (some ⟨gb, 0, none⟩), .slice (some ⟨g, 0, none⟩) nr nr, .slice none 0 0] :: Thing.numsK .i64 3 (.slice (some ⟨g, 0, none⟩) nr nr) (List.replicate nr 0) :: Thing.gst gb sb y regs arrs :: ts)) HL2.out ?_
  intro w3 hl3
  rw [hcb]
  clear HL2 hcb hg
  have hl4 := hl3.drewN 1
  have hrow : w3.heap[cb]? = some (.cells #[.pointer (some ⟨gb, 0, none⟩), .slice (some ⟨g, 0, none⟩) nr nr, .slice none 0 0] 80 (0, 0)) := hl3.head
  have e1 := cell_of_cells hrow (i := 1) rfl
  have hs3 := Lab.st_read HA.out.1 hl4.rot3
  have d1 := (Lab.st_read HA.out.1 hl3.rot3).c1
  rw [HA.out.2.2.2.1] at d1
  have hsrc := hs3.regs
  rw [HA.out.2.2.2.1] at hsrc
  obtain ⟨w4, hrun, hl5⟩ := hl4.swap.copy_row (by simp) hsrc HA.out.2.1 h1 23 3 Tryz.underlying23 (by kernel_rfl)
  have HR := Lib.hid hrun; have HL5 := Lib.hid (Lab.lists_none (k := .i64) (E := 3) (Es := 23) hl5.swap)
  clear hl3 hl4 hrow hs3 hsrc hrun hl5
  go_still_tail 8, (by kernel_rfl)
  refine wpList_copy_run (.tmp 24) (.tmp 28) rfl rfl rfl rfl HR.out ?_
  refine wpList_nil ?_
  simp only [Act.put, List.setIfInBounds_toArray, List.set_cons_zero, List.set_cons_succ]
  clear e1 d1 HR
  go_upto_region 5 with fail
  refine wp_abs (fun wx => Lab w0 wx (Thing.lists .i64 3 23 (.slice none 0 0) [] (arrs.take 0) :: Thing.box cb 80 #[.pointer (some ⟨gb, 0, none⟩), .slice (some ⟨g, 0, none⟩) nr nr, .slice none 0 0] :: Thing.numsK .i64 3 (.slice (some ⟨g, 0, none⟩) nr nr) regs :: Thing.gst gb sb y regs arrs :: ts)) HL5.out ?_
  intro w5 hl6
  have d2 := (Lab.st_read HA.out.1 hl6.rot4).c2
  rw [HA.out.2.2.2.2.1] at d2
  have H6 := Lib.hid hl6
  clear hl6 HL5
  go_wp2
  clear d2
  go_loopw [35] (fun v wx => ∃ (i : Nat) (vs : List Value) (ao : Option Addr) (co : Nat), i ≤ na ∧ v = .int .i64 i ∧ vs.length = i ∧ Lab w0 wx (Thing.lists .i64 3 23 (.slice ao i co) vs (arrs.take i) :: Thing.box cb 80 #[.pointer (some ⟨gb, 0, none⟩), .slice (some ⟨g, 0, none⟩) nr nr, .slice ao i co] :: Thing.numsK .i64 3 (.slice (some ⟨g, 0, none⟩) nr nr) regs :: Thing.gst gb sb y regs arrs :: ts)) (fun v _ => na - (intOf v).toNat)
  case atStart => exact ⟨0, [], none, 0, Nat.zero_le _, rfl, rfl, H6.out⟩
  case round =>
    clear H6
    obtain ⟨i, vs, ao, co, hi, rfl, hvs, hl⟩ := hrel
    by_cases hlt : i < na
    · have hlt' : (i : Int) < (na : Int) := by omega
      have i0 : (0 : Int) ≤ (i : Int) := by omega
      obtain ⟨xs, hxs⟩ : ∃ xs, arrs[i]? = some xs := ⟨_, List.getElem?_eq_getElem (by have := HA.out.2.2.2.2.2; omega)⟩
      have hxl := HA.out.2.2.1 xs (List.mem_of_getElem? hxs)
      obtain ⟨n, hn⟩ : ∃ n, xs.length = n := ⟨_, rfl⟩
      rw [hn] at hxl
      obtain ⟨b, c, b2, c2, hcs⟩ := store_cells (h := hl.fourth) HA.out.1 hxs (by omega)
      obtain ⟨-, d2, d3, -, -⟩ := hcs _ hl.fourth
      have hav2 : y.av = .slice (some ⟨b, 0, none⟩) y.vs.length c := by
        have h2 := (Lab.st_read HA.out.1 hl.rot4).c2
        rw [d2] at h2
        exact (Option.some.inj h2).symm
      have heq := hav2.symm.trans HA.out.2.2.2.2.1
      simp only [Value.slice.injEq] at heq
      obtain ⟨rfl, hvn, rfl⟩ := heq
      rw [hn] at d3
      have hn1 : 1 ≤ n := by omega
      have hn64 : n ≤ 64 := by omega
      have hmk := make_ints n (by omega)
      obtain ⟨g2, hg2⟩ : ∃ g2, wr.heap.size = g2 := ⟨_, rfl⟩
      have hl7 := hl.make_nums (k := .i64) n 3 (by omega)
      rw [hg2] at hl7
      obtain ⟨wz, hwz⟩ : ∃ wz, wr.alloc (.cells (madeCells #[.int .i64 0] n) 3) = wz := ⟨_, rfl⟩
      rw [hwz] at hl7
      obtain ⟨-, -, -, -, z4⟩ := hcs wz hl7.fifth
      obtain ⟨w8, hrun, hl8⟩ := hl7.copy_row (xs := xs) (v := .slice (some ⟨b2, 0, none⟩) n c2) (by simp) ⟨some ⟨b2, 0, none⟩, n, c2, rfl, hn, fun j hj => ⟨b2, 0, rfl, by rw [Nat.zero_add]; exact z4 j (by omega)⟩⟩ hn hn1 23 3 Tryz.underlying23 (by kernel_rfl)
      have htk : arrs.take (i + 1) = arrs.take i ++ [xs] := by
        rw [List.take_add_one, hxs]; rfl
      have hrow8 : w8.heap[cb]? = some (.cells #[.pointer (some ⟨gb, 0, none⟩), .slice (some ⟨g, 0, none⟩) nr nr, .slice ao i co] 80 (0, 0)) := hl8.third
      have c8 := cell_of_cells hrow8 (i := 2) rfl
      obtain ⟨a9, c9, w9, hrun9, hl9⟩ := Lab.append_listsK 78 hvs (by rw [List.length_take]; have := HA.out.2.2.2.2.2; omega) hl8 (by omega) Tryz.underlying78 Tryz.infoInts
      rw [← htk] at hl9
      have hrow9 : w9.heap[cb]? = some (.cells #[.pointer (some ⟨gb, 0, none⟩), .slice (some ⟨g, 0, none⟩) nr nr, .slice ao i co] 80 (0, 0)) := hl9.second
      have c9' := cell_of_cells hrow9 (i := 2) rfl
      have f9 := frozen_of_cells (i := 2) hrow9
      have h10 : Lab w0 _ (Thing.box cb 80 #[.pointer (some ⟨gb, 0, none⟩), .slice (some ⟨g, 0, none⟩) nr nr, .slice a9 (i + 1) c9] :: _) := hl9.swap.store 2 (.slice a9 (i + 1) c9)
      have HR := Lib.hid hrun; have HR9 := Lib.hid hrun9; have H10 := Lib.hid h10.swap; have HVS := Lib.hid hvs
      clear hl hl7 hl8 hl9 hrow8 hrow9 hrun hrun9 h10 hcs z4 hxs hn hxl htk hvs hav2 hvn
      have r1 := HR.out
      go_wp2_with (at_builtin; refine Lib.wpList_append_run _ rfl _ _ 78 78 rfl _ _ rfl rfl _ _ HR9.out ?_)
      go_roundw
      case rel => exact ⟨i + 1, _, _, _, by omega, by go_num, by rw [List.length_append, HVS.out]; rfl, H10.out⟩
      case measure => simp [intOf]; omega
    · obtain rfl : i = na := by omega
      have HL := Lib.hid hl; have HVS := Lib.hid hvs
      clear hl hvs
      go_wp2
      go_ret
      refine ⟨cb, ⟨.slice (some ⟨g, 0, none⟩) nr nr, .slice ao i co, vs⟩, rfl, by rw [HVS.out, HA.out.2.2.2.2.2], ?_⟩
      have htk : arrs.take i = arrs := by rw [← HA.out.2.2.2.2.2]; exact List.take_length
      have h1 := HL.out
      rw [htk] at h1
      exact Lab.st_shut h1.rot3'
end
end Go.Proofs.YtiklidgcmheofaaGreatDoor
namespace Go.Proofs.YtiklidgcmheofaaGreatDoor
open Go.RowKit Go.Maps
set_option maxHeartbeats 3200000
theorem arrs_small {w : World} {W nR : Nat} {ars vals : List Int} {v3 vv : Value} {L : List PNode} {arrs rarrs : List (List Int)} (h : RelA W vals L ars arrs rarrs) (hI : BothIn w W nR ars vals v3 vv) : arrs.length ≤ 32 ∧ ∀ xs ∈ arrs, 1 ≤ xs.length ∧ xs.length ≤ 64 := by
  refine ⟨by rw [h.l1]; have := hI.A2; omega, fun xs hx => ?_⟩
  obtain ⟨a, ha, rfl⟩ := List.getElem_of_mem hx
  obtain ⟨xs', us, h1, -, h3, h4⟩ := h.each a (by rw [← h.l1]; exact ha)
  rw [List.getElem?_eq_getElem ha] at h1
  obtain rfl := Option.some.inj h1
  have h5 := hI.each _ (List.mem_of_getElem? h4)
  rw [h3.1]
  omega
section
variable {w : World}
set_option maxRecDepth 100000 in
theorem storeKeeps_walk (f : FlatD) (v1 v2 v3 v4 vv va vb : Value) (hf : FlatOf w f v1 v2 v3 v4) (hT : ShpOk w) (vals : List Int) (hv : SliceOf w .u64 vv vals) (hvu : U64s vals) (a0 : List ActD) (ha0 : ActsOf w va a0) (a1 : List ActD) (ha1 : ActsOf w vb a1) :
    Calls Tryz.prog 5 #[.agg #[.int .i64 f.W, .int .i64 f.R, v1, v2, v3, v4], vv, va, vb] w fun e w' => e = .returned (.bool true) ∧ Below w.heap.size w w' := by
  obtain ⟨av, nv, cv, rfl, hnv, -⟩ := hv.parts
  obtain ⟨aa0, na0, ca0, rfl, hna0, -, hacts0⟩ := ha0
  obtain ⟨aa1, na1, ca1, rfl, hna1, -, hacts1⟩ := ha1
  have hb0 := (Lab.nil (Below.refl w.heap.size w)).alloc #[.int .i64 f.W, .int .i64 f.R, v1, v2, v3, v4] 26
  have cells : ∀ (wx : World) (us : List Thing), Lab w wx us → Thing.box w.heap.size 26 #[.int .i64 f.W, .int .i64 f.R, v1, v2, v3, v4] ∈ us → wx.cell? ⟨w.heap.size, 0, none⟩ = some (.int .i64 f.W) ∧ wx.cell? ⟨w.heap.size, 1, none⟩ = some (.int .i64 f.R) ∧ wx.cell? ⟨w.heap.size, 2, none⟩ = some v1 ∧ wx.cell? ⟨w.heap.size, 3, none⟩ = some v2 ∧ wx.cell? ⟨w.heap.size, 4, none⟩ = some v3 ∧ wx.cell? ⟨w.heap.size, 5, none⟩ = some v4 := fun wx us hx hm => by
    have r : wx.heap[w.heap.size]? = some (.cells #[.int .i64 f.W, .int .i64 f.R, v1, v2, v3, v4] 26 (0, 0)) := hx.holds _ hm
    exact ⟨cell_of_cells r (i := 0) rfl, cell_of_cells r (i := 1) rfl, cell_of_cells r (i := 2) rfl, cell_of_cells r (i := 3) rfl, cell_of_cells r (i := 4) rfl, cell_of_cells r (i := 5) rfl⟩
  obtain ⟨q, hq⟩ : ∃ q, w.heap.size = q := ⟨_, rfl⟩
  rw [hq] at hb0 cells
  have hsml : ∀ wx, Lab w wx [Thing.box q 26 #[.int .i64 f.W, .int .i64 f.R, v1, v2, v3, v4]] → Calls Tryz.prog 6 #[.agg #[.int .i64 f.W, .int .i64 f.R, v1, v2, v3, v4]] wx fun e w' => ∃ B : Bool, e = .returned (.bool B) ∧ (B = true ↔ SmallP f) ∧ Below wx.heap.size wx w' := fun wx hx => small_any f v1 v2 v3 v4 (hf.later hx.below) (hT.later hx.below)
  have HB := Lib.hid hb0; have HC := Lib.hid cells; have HF := Lib.hid (And.intro hf (And.intro hT (And.intro hv (And.intro hvu hnv)))); have HSL := Lib.hid hsml
  have HA0 := Lib.hid (And.intro hna0 hacts0)
  have HA1 := Lib.hid (And.intro hna1 hacts1)
  clear hb0 cells hf hT hsml hv hvu hnv hna0 hacts0 hna1 hacts1
  by_cases hS : SmallP f
  · by_cases hc0 : 8 < nv
    · have HS := Lib.hid hS
      have gc0 : decide (8 < (nv : Int)) = true := decide_eq_true (by omega)
      clear hS
      go_enter Tryz.func5, Tryz.ntmps5
      go_upto_region 1 with fail
      refine wp_abs (fun wx => Lab w wx [Thing.box q 26 #[.int .i64 f.W, .int .i64 f.R, v1, v2, v3, v4]]) HB.out ?_
      intro w1 hl1
      obtain ⟨q0, q1, q2, q3, q4, q5⟩ := HC.out _ _ hl1 (by simp)
      have HSM := Lib.hid (HSL.out w1 hl1); have HL1 := Lib.hid hl1
      clear hl1 HB hq
      go_wp2_with fail
      go_at_call 6
      refine HSM.out.mono ?_
      rintro e w2 ⟨B, rfl, hB, hb2⟩
      obtain rfl : B = true := hB.2 HS.out
      have hl2 := HL1.out.later hb2
      clear q0 q1 q2 q3 q4 q5 HSM HL1 hb2 hB
      obtain ⟨q0, q1, q2, q3, q4, q5⟩ := HC.out _ _ hl2 (by simp)
      have HL := Lib.hid hl2
      clear hl2
      go_wp2_with fail
      go_at_call 7
      refine (awake30_any (HF.out.2.1.later HL.out.below)).mono ?_
      rintro e w6 ⟨rfl, hb6⟩
      have HB6 := Lib.hid hb6
      clear hb6
      go_wp2
      go_ret
      exact ⟨rfl, HL.out.below.trans (HB6.out.mono HL.out.below.size)⟩
    · have gc0 : decide (8 < (nv : Int)) = false := decide_eq_false (by omega)
      by_cases hc1 : 14 < na0
      · have HS := Lib.hid hS
        have gc1 : decide (14 < (na0 : Int)) = true := decide_eq_true (by omega)
        clear hS
        go_enter Tryz.func5, Tryz.ntmps5
        go_upto_region 1 with fail
        refine wp_abs (fun wx => Lab w wx [Thing.box q 26 #[.int .i64 f.W, .int .i64 f.R, v1, v2, v3, v4]]) HB.out ?_
        intro w1 hl1
        obtain ⟨q0, q1, q2, q3, q4, q5⟩ := HC.out _ _ hl1 (by simp)
        have HSM := Lib.hid (HSL.out w1 hl1); have HL1 := Lib.hid hl1
        clear hl1 HB hq
        go_wp2_with fail
        go_at_call 6
        refine HSM.out.mono ?_
        rintro e w2 ⟨B, rfl, hB, hb2⟩
        obtain rfl : B = true := hB.2 HS.out
        have hl2 := HL1.out.later hb2
        clear q0 q1 q2 q3 q4 q5 HSM HL1 hb2 hB
        obtain ⟨q0, q1, q2, q3, q4, q5⟩ := HC.out _ _ hl2 (by simp)
        have HL := Lib.hid hl2
        clear hl2
        go_wp2_with fail
        go_at_call 7
        refine (awake30_any (HF.out.2.1.later HL.out.below)).mono ?_
        rintro e w6 ⟨rfl, hb6⟩
        have HB6 := Lib.hid hb6
        clear hb6
        go_wp2
        go_ret
        exact ⟨rfl, HL.out.below.trans (HB6.out.mono HL.out.below.size)⟩
      · have gc1 : decide (14 < (na0 : Int)) = false := decide_eq_false (by omega)
        by_cases hc2 : 14 < na1
        · have HS := Lib.hid hS
          have gc2 : decide (14 < (na1 : Int)) = true := decide_eq_true (by omega)
          clear hS
          go_enter Tryz.func5, Tryz.ntmps5
          go_upto_region 1 with fail
          refine wp_abs (fun wx => Lab w wx [Thing.box q 26 #[.int .i64 f.W, .int .i64 f.R, v1, v2, v3, v4]]) HB.out ?_
          intro w1 hl1
          obtain ⟨q0, q1, q2, q3, q4, q5⟩ := HC.out _ _ hl1 (by simp)
          have HSM := Lib.hid (HSL.out w1 hl1); have HL1 := Lib.hid hl1
          clear hl1 HB hq
          go_wp2_with fail
          go_at_call 6
          refine HSM.out.mono ?_
          rintro e w2 ⟨B, rfl, hB, hb2⟩
          obtain rfl : B = true := hB.2 HS.out
          have hl2 := HL1.out.later hb2
          clear q0 q1 q2 q3 q4 q5 HSM HL1 hb2 hB
          obtain ⟨q0, q1, q2, q3, q4, q5⟩ := HC.out _ _ hl2 (by simp)
          have HL := Lib.hid hl2
          clear hl2
          go_wp2_with fail
          go_at_call 7
          refine (awake30_any (HF.out.2.1.later HL.out.below)).mono ?_
          rintro e w6 ⟨rfl, hb6⟩
          have HB6 := Lib.hid hb6
          clear hb6
          go_wp2
          go_ret
          exact ⟨rfl, HL.out.below.trans (HB6.out.mono HL.out.below.size)⟩
        · have gc2 : decide (14 < (na1 : Int)) = false := decide_eq_false (by omega)
          have HS := Lib.hid hS
          obtain ⟨W', R', ch, st, ars, cs⟩ := f
          simp only at HB HC HF HSL ⊢
          obtain ⟨W, rfl⟩ : ∃ W : Nat, W' = (W : Int) := ⟨W'.toNat, by have := hS.1.W; simp only at this; omega⟩
          obtain ⟨nR, rfl⟩ : ∃ n : Nat, R' = (n : Int) := ⟨R'.toNat, by have := hS.1.R; simp only at this; omega⟩
          have HI := Lib.hid (bothIn_of HF.out.1 hS HF.out.2.2.1 HF.out.2.2.2.1 (by rw [HF.out.2.2.2.2]; omega))
          clear hS
          go_enter Tryz.func5, Tryz.ntmps5
          go_upto_region 1 with fail
          refine wp_abs (fun wx => Lab w wx [Thing.box q 26 #[.int .i64 W, .int .i64 nR, v1, v2, v3, v4]]) HB.out ?_
          intro w1 hl1
          obtain ⟨q0, q1, q2, q3, q4, q5⟩ := HC.out _ _ hl1 (by simp)
          have HSM := Lib.hid (HSL.out w1 hl1); have HL1 := Lib.hid hl1
          clear hl1 HB hq
          go_wp2_with fail
          go_at_call 6
          refine HSM.out.mono ?_
          rintro e w2 ⟨B, rfl, hB, hb2⟩
          obtain rfl : B = true := hB.2 HS.out
          have hl2 := HL1.out.later hb2
          clear q0 q1 q2 q3 q4 q5 HSM HL1 hb2 hB
          obtain ⟨q0, q1, q2, q3, q4, q5⟩ := HC.out _ _ hl2 (by simp)
          have hmd := Lab.made HF.out.1 HF.out.2.1 HS.out HI.out (by omega) ⟨aa0, na0, ca0, rfl, HA0.out.1, by omega, HA0.out.2⟩ (by have := HA0.out.1; omega) hl2
          have HMD := Lib.hid hmd
          clear hmd hl2
          go_wp2_with fail
          go_at_call 12
          refine HMD.out.mono ?_
          rintro e w3 ⟨bb, gb, sb, rb, y, z, L, F, I, regs, rregs, arrs, rarrs, rfl, hbo, hph, hy, hz, hl3⟩
          have hR1 : 1 ≤ nR := by have := HS.out.2.1; simp only at this; omega
          have hR8 : nR ≤ 8 := by have := HS.out.2.1; simp only at this; omega
          have hrl : regs.length = nR := by rw [hbo.regs.1, hbo.nregs]
          have hal : arrs.length ≤ 32 ∧ ∀ xs ∈ arrs, 1 ≤ xs.length ∧ xs.length ≤ 64 := arrs_small hbo.arrs HI.out
          have HBO := Lib.hid (And.intro hbo (And.intro hph (And.intro hy (And.intro hz (And.intro hrl (And.intro hR1 (And.intro hR8 hal)))))))
          have hl4 := (hl3.numsK_none (k := .u64) (E := 34)).numsK_none (k := .i64) (E := 3)
          have HL4 := Lib.hid hl4
          clear hbo hph hy hz hrl hal hl3 hl4 HMD q0 q1 q2 q3 q4 q5
          go_wp2
          go_loopw [10, 11, 12] (fun va vb v wx => ∃ i : Nat, i ≤ nR ∧ v = .int .i64 i ∧ ∃ (ao bo : Option Addr) (co cp : Nat), va = .slice ao i co ∧ vb = .slice bo i cp ∧ Lab w wx (Thing.numsK .i64 3 (.slice ao i co) (regs.take i) :: Thing.numsK .u64 34 (.slice bo i cp) (rregs.take i) :: bothTs F I gb W 20000 L bb sb rb nR y z regs rregs arrs rarrs v1 v2 v3 v4 (.slice av nv cv) ([Thing.box q 26 #[.int .i64 W, .int .i64 nR, v1, v2, v3, v4]]))) (fun _ _ v _ => nR - (intOf v).toNat)
          case atStart => exact ⟨0, Nat.zero_le _, rfl, none, none, 0, 0, rfl, rfl, HL4.out⟩
          case round =>
            clear HL4
            obtain ⟨i, hi, rfl, ao, bo, co, cp, rfl, rfl, hl⟩ := hrel
            obtain ⟨q0, q1, q2, q3, q4, q5⟩ := HC.out _ _ hl (by simp [bothTs])
            by_cases hlt : i < nR
            · have hlt' : (i : Int) < (nR : Int) := by omega
              have i0 : (0 : Int) ≤ (i : Int) := by omega
              obtain ⟨t, v, ht, htl, hv, hval, hreg⟩ := Lab.breg HI.out.vl HI.out.nvals HI.out.u64 hl.drop.drop HBO.out.2.2.1 HBO.out.2.2.2.1 HBO.out.1.regs HBO.out.1.nregs hR1 (by omega) i (by omega)
              rw [Nat.mod_eq_of_lt hlt] at ht hv
              have wi : IntKind.u8.wrap (i : Int) = (i : Int) := by rw [IntKind.wrap_u8]; omega
              have htk : regs.take (i + 1) = regs.take i ++ [(t : Int)] := by rw [List.take_add_one, ht]; rfl
              have hvk : rregs.take (i + 1) = rregs.take i ++ [v] := by rw [List.take_add_one, hv]; rfl
              have hn1 : (regs.take i).length = i := by rw [List.length_take, HBO.out.2.2.2.2.1]; omega
              have hn2 : (rregs.take i).length = i := by rw [List.length_take, HBO.out.1.nregs]; omega
              have HREG := Lib.hid hreg; have HL := Lib.hid hl; have HTK := Lib.hid (And.intro htk hvk)
              clear hreg hl htk hvk hval ht hv
              go_wp2_with fail
              go_at_call 13
              refine HREG.out.mono ?_
              rintro e w5 ⟨rfl, hb5⟩
              have HL5 := Lib.hid (HL.out.later hb5)
              clear hb5 HL HREG q0 q1 q2 q3 q4 q5
              go_upto_region 14 with fail
              refine wp_abs (fun wx => Lab w wx (Thing.numsK .i64 3 (.slice ao i co) (regs.take i) :: Thing.numsK .u64 34 (.slice bo i cp) (rregs.take i) :: bothTs F I gb W 20000 L bb sb rb nR y z regs rregs arrs rarrs v1 v2 v3 v4 (.slice av nv cv) ([Thing.box q 26 #[.int .i64 W, .int .i64 nR, v1, v2, v3, v4]]))) HL5.out ?_
              intro w6 hl6
              obtain ⟨a7, c7, w7, hrun7, hl7⟩ := hl6.append1 23 23 8 (t : Int) hn1 Tryz.underlying23 Tryz.infoI64 (by decide) (by omega)
              obtain ⟨a8, c8, w8, hrun8, hl8⟩ := hl7.swap.append1 27 27 8 v hn2 Tryz.underlying27 Tryz.infoU64 (by decide) (by omega)
              rw [← HTK.out.1, ← HTK.out.2] at hl8
              have HR7 := Lib.hid hrun7; have HR8 := Lib.hid hrun8; have HL8 := Lib.hid hl8.swap
              clear hl6 hl7 hl8 hrun7 hrun8 HL5 hn1 hn2
              go_wp2_with (at_builtin; first | (refine Lib.wpList_append_run _ rfl _ _ 23 23 rfl _ _ rfl rfl _ _ HR7.out ?_) | (refine Lib.wpList_append_run _ rfl _ _ 27 27 rfl _ _ rfl rfl _ _ HR8.out ?_))
              go_roundw
              case rel => exact ⟨i + 1, by omega, by go_num, a7, a8, c7, c8, rfl, rfl, HL8.out⟩
              case measure => simp [intOf]; omega
            · obtain rfl : nR = i := by omega
              rw [List.take_of_length_le (by have := HBO.out.2.2.2.2.1; omega), List.take_of_length_le (by have := HBO.out.1.nregs; omega)] at hl
              have hcp := Lab.scopy (nR := nR) HBO.out.2.2.1 HBO.out.2.2.2.2.1 hR1 (by omega) HBO.out.2.2.2.2.2.2.2.2 HBO.out.2.2.2.2.2.2.2.1 (show Lab w _ (Thing.gst gb sb y regs arrs :: _) from hl.rot4)
              obtain ⟨-, c1, -, -, -, -, -⟩ := both_cells (hl.holds (Thing.both bb gb sb rb W nR v1 v2 v3 v4 (.slice av nv cv)) (by simp [bothTs]))
              have HCP := Lib.hid hcp
              clear hcp hl q2 q3 q4 q5
              go_wp2_with fail
              go_at_call 14
              refine HCP.out.mono ?_
              rintro e w5 ⟨cb, y', rfl, hy', hl5⟩
              have hl6 : Lab w w5 (bothTs F I gb W 20000 L bb sb rb nR y z regs rregs arrs rarrs v1 v2 v3 v4 (.slice av nv cv) (Thing.gst gb cb y' regs arrs :: Thing.numsK .i64 3 (.slice ao nR co) regs :: Thing.numsK .u64 34 (.slice bo nR cp) rregs :: [Thing.box q 26 #[.int .i64 W, .int .i64 nR, v1, v2, v3, v4]])) := hl5.rot7.rot7.rot4.rot7
              have HL6 := Lib.hid hl6; have HY' := Lib.hid hy'
              clear hl5 hl6 hy' HCP c1 q0 q1
              go_wp2
              go_loopw [17] (fun v wx => ∃ i : Nat, i ≤ na1 ∧ v = .int .i64 i ∧ ∃ (F2 I2 : List Nat) (L2 : List PNode) (y2 : Lay) (re rr : List Int) (ar ra : List (List Int)), L <+: L2 ∧ BothOk W vals nR ars L2 re rr ar ra ∧ phi W L2 ≤ 345 + 20 * i ∧ ar.length = y2.vs.length ∧ ra.length = z.vs.length ∧ Lab w wx (bothTs F2 I2 gb W 20000 L2 bb sb rb nR y2 z re rr ar ra v1 v2 v3 v4 (.slice av nv cv) (Thing.gst gb cb y' regs arrs :: Thing.numsK .i64 3 (.slice ao nR co) regs :: Thing.numsK .u64 34 (.slice bo nR cp) rregs :: [Thing.box q 26 #[.int .i64 W, .int .i64 nR, v1, v2, v3, v4]]))) (fun v _ => na1 - (intOf v).toNat)
              case atStart => exact ⟨0, Nat.zero_le _, rfl, F, I, L, y, _, _, _, _, List.prefix_refl _, HBO.out.1, by have := HBO.out.2.1; omega, HBO.out.2.2.1, HBO.out.2.2.2.1, HL6.out⟩
              case round =>
                clear HL6
                obtain ⟨i, hi, rfl, F2, I2, L2, y2, re, rr, ar, ra, hpre, hbo, hph, hy, hz, hl⟩ := hrel
                by_cases hlt : i < na1
                · have hlt' : (i : Int) < (na1 : Int) := by omega
                  have i0 : (0 : Int) ≤ (i : Int) := by omega
                  obtain ⟨b, off, x, rfl, hx, hxo, k0, k1, k2, k3, k4, k5⟩ := HA1.out.2 i hlt
                  have c0 := cell_later hl.below k0; have c1 := cell_later hl.below k1; have c2 := cell_later hl.below k2; have c3 := cell_later hl.below k3; have c4 := cell_later hl.below k4; have c5 := cell_later hl.below k5
                  have hd := Lab.does HI.out hbo hy hz (by omega) x hxo hl
                  unfold ActD.val at hd
                  have HD := Lib.hid (And.intro hd (And.intro hph hpre))
                  clear hbo hph hy hz hl k0 k1 k2 k3 k4 k5 hx hxo hd hpre
                  go_wp2_with fail
                  go_at_call 10
                  refine HD.out.1.mono ?_
                  rintro e w6 ⟨L', F', I', y3, regs', rregs', arrs', rarrs', rfl, hp, hbo', hph', hy3, hz', hl'⟩
                  have HL' := Lib.hid (And.intro (HD.out.2.2.trans hp) (And.intro hbo' (And.intro (show phi W L' ≤ 345 + 20 * (i + 1) by have := HD.out.2.1; omega) (And.intro hy3 (And.intro hz' hl')))))
                  clear hp hbo' hph' hy3 hz' hl' c0 c1 c2 c3 c4 c5 HD
                  go_wp2
                  go_roundw
                  case rel => exact ⟨i + 1, by omega, by go_num, F', I', L', y3, regs', rregs', arrs', rarrs', HL'.out.1, HL'.out.2.1, HL'.out.2.2.1, HL'.out.2.2.2.1, HL'.out.2.2.2.2.1, HL'.out.2.2.2.2.2⟩
                  case measure => simp [intOf]; omega
                · obtain rfl : na1 = i := by omega
                  have hrl := HBO.out.1.regs.keep hpre
                  have HL6 := Lib.hid hl; have HRL := Lib.hid hrl
                  clear hbo hph hy hz hl hrl hpre
                  go_wp2
                  go_loopw [18] (fun v wx => ∃ j : Nat, j ≤ nR ∧ v = .int .i64 j ∧ Lab w wx (bothTs F2 I2 gb W 20000 L2 bb sb rb nR y2 z re rr ar ra v1 v2 v3 v4 (.slice av nv cv) (Thing.gst gb cb y' regs arrs :: Thing.numsK .i64 3 (.slice ao nR co) regs :: Thing.numsK .u64 34 (.slice bo nR cp) rregs :: [Thing.box q 26 #[.int .i64 W, .int .i64 nR, v1, v2, v3, v4]]))) (fun v _ => nR - (intOf v).toNat)
                  case atStart => exact ⟨0, Nat.zero_le _, rfl, HL6.out⟩
                  case round =>
                    clear HL6
                    obtain ⟨j, hj, rfl, hl⟩ := hrel
                    obtain ⟨q0, q1, q2, q3, q4, q5⟩ := HC.out _ _ hl (by simp [bothTs])
                    by_cases hlj : j < nR
                    · have hlj' : (j : Int) < (nR : Int) := by omega
                      have j0 : (0 : Int) ≤ (j : Int) := by omega
                      obtain ⟨t, ht, htl, hv⟩ := HRL.out.2 j (by have := HBO.out.1.nregs; omega)
                      have href := sref_reg (Lab.st_read HY'.out.symm hl.rot5) j 0 ht
                      have his := fun (wx : World) (hx : Lab w wx (bothTs F2 I2 gb W 20000 L2 bb sb rb nR y2 z re rr ar ra v1 v2 v3 v4 (.slice av nv cv) (Thing.gst gb cb y' regs arrs :: Thing.numsK .i64 3 (.slice ao nR co) regs :: Thing.numsK .u64 34 (.slice bo nR cp) rregs :: [Thing.box q 26 #[.int .i64 W, .int .i64 nR, v1, v2, v3, v4]]))) => Lab.bis HI.out.vl HI.out.nvals HI.out.u64 hx t htl (val W vals L2 t)
                      simp only [decide_true] at his
                      obtain ⟨v, hvv⟩ : ∃ v, val W vals L2 t = v := ⟨_, rfl⟩
                      rw [hvv] at hv his
                      obtain ⟨b1, off1, t', rfl, d1, ht'⟩ := (OwnInts.slice (k := .i64) (hl.holds (Thing.numsK .i64 3 (.slice ao nR co) regs) (by simp [bothTs]))).parts' hlj
                      obtain ⟨b2, off2, v', rfl, d2, hv'⟩ := (OwnInts.slice (k := .u64) (hl.holds (Thing.numsK .u64 34 (.slice bo nR cp) rregs) (by simp [bothTs]))).parts' hlj
                      obtain rfl : t' = (t : Int) := Option.some.inj (ht'.symm.trans ht)
                      obtain rfl : v' = v := Option.some.inj (hv'.symm.trans hv)
                      have HREF := Lib.hid href; have HISF := Lib.hid his; have HL := Lib.hid hl
                      clear href his hl ht hv ht' hv' hvv
                      go_wp2_with fail
                      go_at_call 15
                      refine HREF.out.mono ?_
                      rintro e w6 ⟨rfl, hb6⟩
                      have HL7 := Lib.hid ((HL.out.later hb6).drewN 1)
                      have HIS := Lib.hid (HISF.out _ HL7.out)
                      have p1 := cell_later hb6 d1
                      have p2 := cell_later hb6 d2
                      clear hb6 HL HREF q0 q1 q2 q3 q4 q5 d1 d2
                      go_upto_region 27 with fail
                      go_region_held3 (fun w' => w'.cell? ⟨b1, off1 + j, none⟩ = some (.int .i64 t) ∧ w'.cell? ⟨b2, off2 + j, none⟩ = some (.int .u64 v')) (first | exact ⟨by assumption, by assumption⟩ | go_keep)
                        (first | (go_at_call 16; refine HIS.out.mono ?_; rintro e w7 ⟨rfl, hb7⟩; have u1 := cell_later hb7 p1; have u2 := cell_later hb7 p2; have HL8 := Lib.hid (HL7.out.later hb7); have HIS2 := Lib.hid (HISF.out _ HL8.out); clear hb7) | (go_at_call 16; refine HIS2.out.mono ?_; rintro e w8 ⟨rfl, hb8⟩; have s1 := cell_later hb8 u1; have s2 := cell_later hb8 u2; have HL9 := Lib.hid (HL8.out.later hb8); clear hb8))
                      all_goals
                        clear p1 p2
                        go_wp2
                        go_roundw
                        case rel => exact ⟨j + 1, by omega, by go_num, HL9.out⟩
                        case measure => simp [intOf]; omega
                    · obtain rfl : nR = j := by omega
                      have HL := Lib.hid hl
                      clear hl
                      go_wp2_with fail
                      go_at_call 7
                      refine (awake30_any (HF.out.2.1.later HL.out.below)).mono ?_
                      rintro e w6 ⟨rfl, hb6⟩
                      have HB6 := Lib.hid hb6
                      clear hb6
                      go_wp2
                      go_ret
                      exact ⟨rfl, HL.out.below.trans (HB6.out.mono HL.out.below.size)⟩
  · have HS := Lib.hid hS
    clear hS
    go_enter Tryz.func5, Tryz.ntmps5
    go_upto_region 1 with fail
    refine wp_abs (fun wx => Lab w wx [Thing.box q 26 #[.int .i64 f.W, .int .i64 f.R, v1, v2, v3, v4]]) HB.out ?_
    intro w1 hl1
    obtain ⟨q0, q1, q2, q3, q4, q5⟩ := HC.out _ _ hl1 (by simp)
    have HSM := Lib.hid (HSL.out w1 hl1); have HL1 := Lib.hid hl1
    clear hl1 HB hq
    go_wp2_with fail
    go_at_call 6
    refine HSM.out.mono ?_
    rintro e w2 ⟨B, rfl, hB, hb2⟩
    obtain rfl : B = false := by
      cases B
      · rfl
      · exact absurd (hB.1 rfl) HS.out
    have hl2 := HL1.out.later hb2
    clear q0 q1 q2 q3 q4 q5 HSM HL1 hb2 hB
    obtain ⟨q0, q1, q2, q3, q4, q5⟩ := HC.out _ _ hl2 (by simp)
    have HL := Lib.hid hl2
    clear hl2
    go_wp2_with fail
    go_at_call 7
    refine (awake30_any (HF.out.2.1.later HL.out.below)).mono ?_
    rintro e w6 ⟨rfl, hb6⟩
    have HB6 := Lib.hid hb6
    clear hb6
    go_wp2
    go_ret
    exact ⟨rfl, HL.out.below.trans (HB6.out.mono HL.out.below.size)⟩
end
end Go.Proofs.YtiklidgcmheofaaGreatDoor
