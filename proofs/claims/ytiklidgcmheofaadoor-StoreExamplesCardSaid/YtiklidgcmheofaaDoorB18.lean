/- StW, StE, StH, StJ, StX: joined by wip/bundle.py. -/
import Derived.Test.YtiklidgcmheofaaDoorB1
import Derived.Test.YtiklidgcmheofaaDoorB2
import Derived.Test.YtiklidgcmheofaaDoorB3
import Derived.Test.YtiklidgcmheofaaDoorB4
import Derived.Test.YtiklidgcmheofaaDoorB5
import Derived.Test.YtiklidgcmheofaaDoorB6
import Derived.Test.YtiklidgcmheofaaDoorB7
import Derived.Test.YtiklidgcmheofaaDoorB8
import Derived.Test.YtiklidgcmheofaaDoorB9
import Derived.Test.YtiklidgcmheofaaDoorB10
import Derived.Test.YtiklidgcmheofaaDoorB11
import Derived.Test.YtiklidgcmheofaaDoorB12
import Derived.Test.YtiklidgcmheofaaDoorB13
import Derived.Test.YtiklidgcmheofaaDoorB14
import Derived.Test.YtiklidgcmheofaaDoorB15
import Derived.Test.YtiklidgcmheofaaDoorB16
import Derived.Test.YtiklidgcmheofaaDoorB17
import Derived.BigQuiet
namespace Go.Proofs.YtiklidgcmheofaaDoor
open Go.RowKit Go.Maps
set_option maxHeartbeats 3200000
theorem make_words (n : Nat) (hn : n ≤ 4194304) : ∀ w : World, (Instr.makeSlice 48 (.int .i64 (n : Int)) (.int .i64 (n : Int))).run Tryd.prog w = .ok (.slice (some ⟨w.heap.size, 0, none⟩) n n) (w.alloc (.cells (madeCells #[.int .u64 0] n) 40)) :=
  run_make_row' (P := Tryd.prog) 48 40 (.int .u64 0) 8 Tryd.underlying48 Tryd.infoU64 rfl .i64 .i64 n (by omega) (by omega)
theorem Tryd.infoWords : (Tryd.prog.info? 48).map (fun i => (i.zero, i.size, i.bytes)) = some (some (.slice none 0 0), 1, 24) := by kernel_rfl
theorem wpAnyT_abs {P : Program} {ops : Array Oper} {Q : Exit → Act → World → Prop} {md : Region.Mode} {S : Array Bool → World → Prop} {n : Nat} {listed : Array Bool} {a : Act} {w : World} (Φ : World → Prop) (hΦ : Φ w) (h : ∀ w', Φ w' → wpAnyT P md ops Q S n listed a w') : wpAnyT P md ops Q S n listed a w := h w hΦ
section
variable {w0 wr w : World} {ts : List Thing} {W nR : Nat}
theorem Lab.make_nums {k : IntKind} (h : Lab w0 wr ts) (n E : Nat) (hn : n ≤ 4194304) : Lab w0 (wr.alloc (.cells (madeCells #[.int k 0] n) E)) (Thing.numsK k E (.slice (some ⟨wr.heap.size, 0, none⟩) n n) (List.replicate n 0) :: ts) := by
  unfold Thing.numsK
  rw [List.length_replicate, List.map_replicate]
  exact h.make_row n E (.int k 0) (by unfold maxLen; omega)
set_option maxRecDepth 100000 in
theorem Lab.rnew30 {ch st : List ByteArray} {ars : List Int} {cs : List CodeD} {v1 v2 v3 v4 : Value} (hf : FlatOf w0 ⟨W, nR, ch, st, ars, cs⟩ v1 v2 v3 v4) (hF : FlatOk ⟨W, nR, ch, st, ars, cs⟩) (h : Lab w0 wr ts) :
    Calls Tryd.prog 40 #[.agg #[.int .i64 W, .int .i64 nR, v1, v2, v3, v4]] wr fun e w' => ∃ (sb : Nat) (y : Lay), e = .returned (.pointer (some ⟨sb, 0, none⟩)) ∧ y.vs.length = ars.length ∧ Lab w0 w' (Thing.rst W sb y (List.replicate nR 0) (zerosL 0 ars) :: ts) := by
  have hR := hF.R
  have hars := hF.arrays
  have hna := hF.na
  simp only at hR hars hna
  have hb := h.alloc #[.int .i64 W, .int .i64 nR, v1, v2, v3, v4] 26
  obtain ⟨q, hq⟩ : ∃ q, wr.heap.size = q := ⟨_, rfl⟩
  rw [hq] at hb
  have HB := Lib.hid hb; have HF := Lib.hid hf; have HA := Lib.hid (And.intro hars hna)
  have hR2 : nR ≤ 2097152 := by omega
  clear hf hF h hb hR hars hna
  go_enter Tryd.func40, Tryd.ntmps40
  go_upto_region 1 with fail
  refine wp_abs (fun wx => Lab w0 wx (Thing.box q 26 #[.int .i64 W, .int .i64 nR, v1, v2, v3, v4] :: ts)) HB.out ?_
  intro w1 hl
  have hrow : w1.heap[q]? = some (.cells #[.int .i64 W, .int .i64 nR, v1, v2, v3, v4] 26 (0, 0)) := hl.head
  have q0 := cell_of_cells hrow (i := 0) rfl
  have q1 := cell_of_cells hrow (i := 1) rfl
  have hmk := make_words nR (by omega)
  obtain ⟨g, hg⟩ : ∃ g, w1.heap.size = g := ⟨_, rfl⟩
  have hl2 := (hl.make_nums (k := .u64) nR 40 (by omega)).alloc #[.int .i64 W, .slice (some ⟨g, 0, none⟩) nR nR, .slice none 0 0] 97
  simp only [World.size_alloc] at hl2
  rw [hg] at hl2
  have HL2 := Lib.hid (hl2.drewN 1)
  clear hl hl2 hrow HB hq
  go_region_held3 (fun w' => w'.cell? ⟨q, 0, none⟩ = some (.int .i64 W) ∧ w'.cell? ⟨q, 1, none⟩ = some (.int .i64 nR)) (first | exact ⟨by assumption, by assumption⟩ | go_keep) (fail)
  clear q0 q1 hmk
  go_upto_region 2 with fail
  obtain ⟨sb, hsb⟩ : ∃ sb, g + 1 = sb := ⟨_, rfl⟩
  rw [hsb] at HL2
  refine wp_abs (fun wx => Lab w0 wx (Thing.lists .u64 40 48 (.slice none 0 0) [] (zerosL 0 (ars.take 0)) :: Thing.box sb 97 #[.int .i64 W, .slice (some ⟨g, 0, none⟩) nR nR, .slice none 0 0] :: Thing.numsK .u64 40 (.slice (some ⟨g, 0, none⟩) nR nR) (List.replicate nR 0) :: Thing.box q 26 #[.int .i64 W, .int .i64 nR, v1, v2, v3, v4] :: ts)) HL2.out.lists_none ?_
  intro w9 hl9
  rw [hsb]
  clear HL2 hsb hg
  obtain ⟨a3, na, c3, hv3, hl3, -⟩ := HF.out.arrays.parts
  simp only at hv3 hl3
  have HV := Lib.hid (And.intro hv3 hl3)
  have hna : na ≤ 32 := by have := HA.out.2; omega
  have H9 := Lib.hid hl9
  clear hv3 hl3 hl9
  go_wp2
  go_loopw [4] (fun v wx => ∃ (i : Nat) (vs : List Value) (ao : Option Addr) (co : Nat), i ≤ na ∧ v = .int .i64 i ∧ vs.length = i ∧ Lab w0 wx (Thing.lists .u64 40 48 (.slice ao i co) vs (zerosL 0 (ars.take i)) :: Thing.box sb 97 #[.int .i64 W, .slice (some ⟨g, 0, none⟩) nR nR, .slice ao i co] :: Thing.numsK .u64 40 (.slice (some ⟨g, 0, none⟩) nR nR) (List.replicate nR 0) :: Thing.box q 26 #[.int .i64 W, .int .i64 nR, v1, v2, v3, v4] :: ts)) (fun v _ => na - (intOf v).toNat)
  case atStart => exact ⟨0, [], none, 0, Nat.zero_le _, rfl, rfl, H9.out⟩
  case round =>
    clear H9
    obtain ⟨i, vs, ao, co, hi, rfl, hvs, hl⟩ := hrel
    have hrowq : wr.heap[q]? = some (.cells #[.int .i64 W, .int .i64 nR, v1, v2, v3, v4] 26 (0, 0)) := hl.fourth
    have q4 := cell_of_cells hrowq (i := 4) rfl
    rw [HV.out.1] at q4
    clear hrowq
    by_cases hlt : i < na
    · have hlt' : (i : Int) < (na : Int) := by omega
      have i0 : (0 : Int) ≤ (i : Int) := by omega
      have hsl := HF.out.arrays
      rw [HV.out.1] at hsl
      obtain ⟨x, hx⟩ : ∃ x, ars[i]? = some x := ⟨_, List.getElem?_eq_getElem (by have := HV.out.2; omega)⟩
      have hxr := HA.out.1 x (List.mem_of_getElem? hx)
      obtain ⟨s, rfl⟩ : ∃ s : Nat, x = (s : Int) := ⟨x.toNat, by omega⟩
      obtain ⟨a', n', c', e3, hl3', hcx⟩ := hsl
      simp only [Value.slice.injEq] at e3
      obtain ⟨rfl, rfl, rfl⟩ := e3
      obtain ⟨b3, off3, rfl, hci0⟩ := hcx i hlt
      replace hci0 : w0.cell? ⟨b3, off3 + i, none⟩ = some (.int .i64 (s : Int)) := by rw [hci0, List.getD_eq_getElem?_getD, hx]; rfl
      have hT : ∀ wx us, Lab w0 wx us → Thing.box q 26 #[.int .i64 W, .int .i64 nR, v1, v2, v3, v4] ∈ us → Thing.box sb 97 #[.int .i64 W, .slice (some ⟨g, 0, none⟩) nR nR, .slice ao i co] ∈ us → wx.cell? ⟨sb, 2, none⟩ = some (.slice ao i co) ∧ wx.cell? ⟨q, 4, none⟩ = some (.slice (some ⟨b3, off3, none⟩) na c3) ∧ wx.cell? ⟨b3, off3 + i, none⟩ = some (.int .i64 (s : Int)) := fun wx us hx h1 h2 => by
        have r1 : wx.heap[q]? = some (.cells #[.int .i64 W, .int .i64 nR, v1, v2, v3, v4] 26 (0, 0)) := hx.holds _ h1
        have r2 : wx.heap[sb]? = some (.cells #[.int .i64 W, .slice (some ⟨g, 0, none⟩) nR nR, .slice ao i co] 97 (0, 0)) := hx.holds _ h2
        have q4' := cell_of_cells r1 (i := 4) rfl
        rw [HV.out.1] at q4'
        exact ⟨cell_of_cells r2 (i := 2) rfl, q4', cell_later hx.below hci0⟩
      have htk : zerosL 0 (ars.take (i + 1)) = zerosL 0 (ars.take i) ++ [List.replicate s 0] := by
        rw [← take_snoc' hx]
        unfold zerosL
        rw [List.map_append]; rfl
      have hs64 : s ≤ 64 := by omega
      have hT0 := hT _ _ (hl.drewN 1) (by simp) (by simp)
      have HT := Lib.hid hT; have HVS := Lib.hid (And.intro hvs htk); have HL := Lib.hid (hl.drewN 1)
      obtain ⟨c2, -, hci⟩ := hT _ _ hl (by simp) (by simp)
      clear hcx hvs htk hx hxr hl hl3' hT
      go_upto_region 5 with fail
      refine wp_region_noPanic ?_
      refine wp_region_any (by kernel_rfl) (wpAny_of_T (S := SUpto (fun w => w.cell? ⟨sb, 2, none⟩ = some (.slice ao i co) ∧ w.cell? ⟨q, 4, none⟩ = some (.slice (some ⟨b3, off3, none⟩) na c3) ∧ w.cell? ⟨b3, off3 + i, none⟩ = some (.int .i64 (s : Int))) 15 [4, 6, 9]) _ _ _ _ ?_)
      have hS : SUpto (fun w => w.cell? ⟨sb, 2, none⟩ = some (.slice ao i co) ∧ w.cell? ⟨q, 4, none⟩ = some (.slice (some ⟨b3, off3, none⟩) na c3) ∧ w.cell? ⟨b3, off3 + i, none⟩ = some (.int .i64 (s : Int))) 15 [4, 6, 9] (Array.replicate 16 false) wr.drew := .inr ⟨rfl, hT0⟩
      clear hT0 c2 hci q4
      refine takeUD 0 19 (v := ?v0) rfl (by kernel_rfl) (by kernel_rfl) (by kernel_rfl) (by decide) (fun h => absurd h (by decide)) rfl (fun _ _ _ h => h) (Or.inl ⟨by rfl, ?hy0⟩) hS (fun hS => ?rest0)
      case hy0 =>
        intro w hSw
        skip
        clear hSw
        go_simp
        with_reducible rfl
      simp only [List.setIfInBounds_toArray, List.set_cons_zero, List.set_cons_succ]
      refine takeUD 1 20 (v := ?v1) rfl (by kernel_rfl) (by kernel_rfl) (by kernel_rfl) (by decide) (fun h => absurd h (by decide)) rfl (fun _ _ _ h => h) (Or.inl ⟨by rfl, ?hy1⟩) hS (fun hS => ?rest1)
      case hy1 =>
        intro w hSw
        skip
        clear hSw
        go_simp
        with_reducible rfl
      simp only [List.setIfInBounds_toArray, List.set_cons_zero, List.set_cons_succ]
      refine takeUD 2 21 (v := ?v2) rfl (by kernel_rfl) (by kernel_rfl) (by kernel_rfl) (by decide) (fun h => absurd h (by decide)) rfl (fun _ _ _ h => h) (Or.inl ⟨by rfl, ?hy2⟩) hS (fun hS => ?rest2)
      case hy2 =>
        intro w hSw
        skip
        clear hSw
        go_simp
        with_reducible rfl
      simp only [List.setIfInBounds_toArray, List.set_cons_zero, List.set_cons_succ]
      refine takeUD 3 22 (v := ?v3) rfl (by kernel_rfl) (by kernel_rfl) (by kernel_rfl) (by decide) (fun h => absurd h (by decide)) rfl (fun _ _ _ h => h) (Or.inl ⟨by rfl, ?hy3⟩) hS (fun hS => ?rest3)
      case hy3 =>
        intro w hSw
        skip
        clear hSw
        go_simp
        with_reducible rfl
      simp only [List.setIfInBounds_toArray, List.set_cons_zero, List.set_cons_succ]
      refine takeUD 4 23 (v := ?v4) rfl (by kernel_rfl) (by kernel_rfl) (by kernel_rfl) (by decide) (fun _ => by kernel_rfl) rfl (fun _ _ _ h => h) (Or.inl ⟨by rfl, ?hy4⟩) hS (fun hS => ?rest4)
      case hy4 =>
        intro w hSw
        obtain ⟨f0, f1, f2⟩ := hSw (by decide)
        clear hSw
        go_simp
        with_reducible rfl
      simp only [List.setIfInBounds_toArray, List.set_cons_zero, List.set_cons_succ]
      refine takeUD 5 24 (v := ?v5) rfl (by kernel_rfl) (by kernel_rfl) (by kernel_rfl) (by decide) (fun h => absurd h (by decide)) rfl (fun _ _ _ h => h) (Or.inl ⟨by rfl, ?hy5⟩) hS (fun hS => ?rest5)
      case hy5 =>
        intro w hSw
        skip
        clear hSw
        go_simp
        with_reducible rfl
      simp only [List.setIfInBounds_toArray, List.set_cons_zero, List.set_cons_succ]
      refine takeUD 6 25 (v := ?v6) rfl (by kernel_rfl) (by kernel_rfl) (by kernel_rfl) (by decide) (fun _ => by kernel_rfl) rfl (fun _ _ _ h => h) (Or.inl ⟨by rfl, ?hy6⟩) hS (fun hS => ?rest6)
      case hy6 =>
        intro w hSw
        obtain ⟨f0, f1, f2⟩ := hSw (by decide)
        clear hSw
        go_simp
        with_reducible rfl
      simp only [List.setIfInBounds_toArray, List.set_cons_zero, List.set_cons_succ]
      refine takeUD 7 26 (v := ?v7) rfl (by kernel_rfl) (by kernel_rfl) (by kernel_rfl) (by decide) (fun h => absurd h (by decide)) rfl (fun _ _ _ h => h) (Or.inl ⟨by rfl, ?hy7⟩) hS (fun hS => ?rest7)
      case hy7 =>
        intro w hSw
        skip
        clear hSw
        go_simp
        with_reducible rfl
      simp only [List.setIfInBounds_toArray, List.set_cons_zero, List.set_cons_succ]
      refine takeUD 8 27 (v := ?v8) rfl (by kernel_rfl) (by kernel_rfl) (by kernel_rfl) (by decide) (fun h => absurd h (by decide)) rfl (fun _ _ _ h => h) (Or.inl ⟨by rfl, ?hy8⟩) hS (fun hS => ?rest8)
      case hy8 =>
        intro w hSw
        skip
        clear hSw
        go_simp
        with_reducible rfl
      simp only [List.setIfInBounds_toArray, List.set_cons_zero, List.set_cons_succ]
      refine takeUD 9 28 (v := ?v9) rfl (by kernel_rfl) (by kernel_rfl) (by kernel_rfl) (by decide) (fun _ => by kernel_rfl) rfl (fun _ _ _ h => h) (Or.inl ⟨by rfl, ?hy9⟩) hS (fun hS => ?rest9)
      case hy9 =>
        intro w hSw
        obtain ⟨f0, f1, f2⟩ := hSw (by decide)
        clear hSw
        go_simp
        with_reducible rfl
      simp only [List.setIfInBounds_toArray, List.set_cons_zero, List.set_cons_succ]
      clear hS
      refine wpAnyT_abs (fun wx => Lab w0 wx (Thing.lists .u64 40 48 (.slice ao i co) vs (zerosL 0 (ars.take i)) :: Thing.box sb 97 #[.int .i64 W, .slice (some ⟨g, 0, none⟩) nR nR, .slice ao i co] :: Thing.numsK .u64 40 (.slice (some ⟨g, 0, none⟩) nR nR) (List.replicate nR 0) :: Thing.box q 26 #[.int .i64 W, .int .i64 nR, v1, v2, v3, v4] :: ts)) HL.out ?_
      intro wx hlx
      have hmk := make_words s (by omega)
      have hl5 := hlx.make_nums (k := .u64) s 40 (by omega)
      obtain ⟨g2, hg2⟩ : ∃ g2, wx.heap.size = g2 := ⟨_, rfl⟩
      rw [hg2] at hl5
      have HL5 := Lib.hid hl5
      clear hlx hl5 HL
      refine wpAnyT_one (i := 10) (by kernel_rfl) rfl (fun K hK => ?_)
      go_simp
      refine hK.out _ _ (.inr ⟨rfl, HT.out _ _ HL5.out (by simp) (by simp)⟩) (fun hS => ?_)
      clear hK K hS hmk hg2
      refine wpAnyT_abs (fun wx => Lab w0 wx (Thing.numsK .u64 40 (.slice (some ⟨g2, 0, none⟩) s s) (List.replicate s 0) :: Thing.lists .u64 40 48 (.slice ao i co) vs (zerosL 0 (ars.take i)) :: Thing.box sb 97 #[.int .i64 W, .slice (some ⟨g, 0, none⟩) nR nR, .slice ao i co] :: Thing.numsK .u64 40 (.slice (some ⟨g, 0, none⟩) nR nR) (List.replicate nR 0) :: Thing.box q 26 #[.int .i64 W, .int .i64 nR, v1, v2, v3, v4] :: ts)) HL5.out ?_
      intro wy hly
      have hl8 := hly.alloc #[.slice (some ⟨g2, 0, none⟩) s s] 48
      have T8 := HT.out _ _ hl8 (by simp) (by simp)
      obtain ⟨a6, c6, w6, hrun, hl6⟩ := Lab.append_listsK 95 HVS.out.1 (by unfold zerosL; rw [List.length_map, List.length_take]; have := HV.out.2; omega) hly (by omega) Tryd.underlying95 Tryd.infoWords
      rw [← HVS.out.2] at hl6
      have T6 := HT.out _ _ hl6 (by simp) (by simp)
      have hrow6 : w6.heap[sb]? = some (.cells #[.int .i64 W, .slice (some ⟨g, 0, none⟩) nR nR, .slice ao i co] 97 (0, 0)) := hl6.second
      have c6' := cell_of_cells hrow6 (i := 2) rfl
      have f6 := frozen_of_cells (i := 2) hrow6
      have h7 : Lab w0 _ (Thing.box sb 97 #[.int .i64 W, .slice (some ⟨g, 0, none⟩) nR nR, .slice a6 (i + 1) c6] :: _) := hl6.swap.store 2 (.slice a6 (i + 1) c6)
      have HR := Lib.hid hrun; have H7 := Lib.hid h7.swap; have HT8 := Lib.hid T8; have HT6 := Lib.hid T6
      clear hly hl8 hl6 hrow6 hrun h7 HL5 T8 T6
      refine wpAnyT_one (i := 11) (by kernel_rfl) rfl (fun K hK => ?_)
      go_simp
      refine hK.out _ _ (.inr ⟨rfl, HT8.out⟩) (fun hS => ?_)
      clear hK K hS
      refine wpAnyT_one (i := 12) (by kernel_rfl) rfl (fun K hK => ?_)
      refine step_append_run (.tmp 23) (.tmp 30) rfl rfl rfl rfl HR.out ?_
      simp only [Act.put, List.setIfInBounds_toArray]
      refine hK.out _ _ (.inr ⟨rfl, HT6.out⟩) (fun hS => ?_)
      clear hK K HR
      refine wpAnyT_one (i := 13) (by kernel_rfl) rfl (fun K hK => ?_)
      go_simp
      refine hK.out _ _ (.inr ⟨rfl, HT6.out⟩) (fun hS => ?_)
      clear hK K hS
      refine wpAnyT_one (i := 14) (by kernel_rfl) rfl (fun K hK => ?_)
      go_simp
      refine hK.out _ _ (.inr ⟨rfl, HT6.out⟩) (fun hS => ?_)
      clear hK K hS
      refine wpAnyT_one (i := 15) (by kernel_rfl) rfl (fun K hK => ?_)
      go_simp
      refine hK.out _ _ (.inl ⟨rfl, by decide⟩) (fun hS => ?_)
      clear hK K hS c6' f6
      refine wpAnyT_done (by kernel_rfl) ?_ _
      refine NoPanic.normal ?_
      go_wp2
      go_roundw
      case rel => exact ⟨i + 1, _, _, _, by omega, by go_num, by rw [List.length_append, HVS.out.1]; rfl, H7.out⟩
      case measure => simp [intOf]; omega
    · obtain rfl : i = na := by omega
      have HL := Lib.hid hl; have HVS := Lib.hid hvs
      clear hl hvs
      go_wp2
      go_ret
      refine ⟨sb, ⟨.slice (some ⟨g, 0, none⟩) nR nR, .slice ao i co, vs⟩, rfl, by rw [HVS.out, HV.out.2], ?_⟩
      have htk : ars.take i = ars := by rw [← HV.out.2]; exact List.take_length
      have h1 := HL.out
      rw [htk] at h1
      exact (Lab.st_shut h1.rot3').subl (.cons_cons _ (.cons _ (List.Sublist.refl _)))
end
end Go.Proofs.YtiklidgcmheofaaDoor
namespace Go.Proofs.YtiklidgcmheofaaDoor
open Go.RowKit Go.Maps
set_option maxHeartbeats 3200000
section
variable {w0 wr w : World} {ts : List Thing} {W nR : Nat} {vals : List Int} {v1 v2 v3 v4 vv : Value} {ch st : List ByteArray} {ars : List Int} {cs : List CodeD}
theorem gok_nil (h1 : 1 ≤ W) (h2 : W ≤ 64) : GOk W [] := ⟨h1, h2, WFL.nil, GoodL.nil W⟩
theorem zerosL_len (z : Nat) : (zerosL z ars).length = ars.length := by simp [zerosL]
/-- Where a store and its words begin. -/
structure Began (W nR : Nat) (vals ars : List Int) (L : List PNode) (zt : Nat) : Prop where
  ok : GOk W L
  lt : zt < L.length
  zero : ∀ vs, val W vs L zt = 0
  phi : phi W L ≤ 65
theorem Began.both {L : List PNode} {zt : Nat} (h : Began W nR vals ars L zt) (hF : ∀ s ∈ ars, (1 : Int) ≤ s ∧ s ≤ 64) : BothOk W vals nR ars L (List.replicate nR (zt : Int)) (List.replicate nR 0) (zerosL zt ars) (zerosL 0 ars) :=
  ⟨h.ok, .zeros nR h.lt (h.zero vals), by simp, .zeros h.lt (h.zero vals) (fun s hs => by have := hF s hs; omega)⟩
set_option maxRecDepth 100000 in
theorem Lab.bbegin (hf : FlatOf w0 ⟨W, nR, ch, st, ars, cs⟩ v1 v2 v3 v4) (hT : ShpOk w0) (hF : FlatOk ⟨W, nR, ch, st, ars, cs⟩) (hvv : ∃ a n c, vv = .slice a n c) (h : Lab w0 wr ts) :
    Calls Tryd.prog 16 #[.agg #[.int .i64 W, .int .i64 nR, v1, v2, v3, v4], vv] wr fun e w' => ∃ (bb gb sb rb zt : Nat) (y z : Lay) (L : List PNode) (F I : List Nat), e = .returned (.pointer (some ⟨bb, 0, none⟩)) ∧ Began W nR vals ars L zt ∧ y.vs.length = ars.length ∧ z.vs.length = ars.length ∧
      Lab w0 w' (bothTs F I gb W 20000 L bb sb rb nR y z (List.replicate nR (zt : Int)) (List.replicate nR 0) (zerosL zt ars) (zerosL 0 ars) v1 v2 v3 v4 vv ts) := by
  obtain ⟨av, nv, cv, rfl⟩ := hvv
  obtain ⟨a1, n1, c1, e1, -⟩ := hf.chans
  obtain ⟨a2, n2, c2, e2, -⟩ := hf.sites
  obtain ⟨a3, n3, c3, e3, -⟩ := hf.arrays.parts
  obtain ⟨a4, n4, c4, e4, -⟩ := hf.codes
  subst e1 e2 e3 e4
  have hW := hF.W
  simp only at hW
  have hb := h.alloc #[.int .i64 W, .int .i64 nR, (.slice a1 n1 c1), (.slice a2 n2 c2), (.slice a3 n3 c3), (.slice a4 n4 c4)] 26
  obtain ⟨q, hq⟩ : ∃ q, wr.heap.size = q := ⟨_, rfl⟩
  rw [hq] at hb
  have HB := Lib.hid hb; have HF := Lib.hid (And.intro hf (And.intro hT (And.intro hF hW)))
  clear hf hT hF h hb hW
  go_enter Tryd.func16, Tryd.ntmps16
  go_upto_region 1 with fail
  refine wp_abs (fun wx => Lab w0 wx (Thing.box q 26 #[.int .i64 W, .int .i64 nR, (.slice a1 n1 c1), (.slice a2 n2 c2), (.slice a3 n3 c3), (.slice a4 n4 c4)] :: ts)) HB.out ?_
  intro w1 hl
  have hrow : w1.heap[q]? = some (.cells #[.int .i64 W, .int .i64 nR, (.slice a1 n1 c1), (.slice a2 n2 c2), (.slice a3 n3 c3), (.slice a4 n4 c4)] 26 (0, 0)) := hl.head
  have q0 := cell_of_cells hrow (i := 0) rfl
  have hng := hl.new_graph (W : Int) 20000 ⟨by have := HF.out.2.2.2; omega, by have := HF.out.2.2.2; omega, by decide, by decide⟩
  have HN := Lib.hid hng
  clear hng hrow hl HB hq
  go_wp2_with fail
  go_at_call 9
  refine HN.out.mono ?_
  rintro e w2 ⟨gb, F, rfl, hl2⟩
  replace hl2 : Lab w0 w2 (Thing.graph F [] gb W 20000 [] :: Thing.box q 26 #[.int .i64 W, .int .i64 nR, (.slice a1 n1 c1), (.slice a2 n2 c2), (.slice a3 n3 c3), (.slice a4 n4 c4)] :: ts) := hl2
  clear q0 HN
  have hrow : w2.heap[q]? = some (.cells #[.int .i64 W, .int .i64 nR, (.slice a1 n1 c1), (.slice a2 n2 c2), (.slice a3 n3 c3), (.slice a4 n4 c4)] 26 (0, 0)) := hl2.second
  have q0 := cell_of_cells hrow (i := 0) rfl
  have q1 := cell_of_cells hrow (i := 1) rfl
  have q2 := cell_of_cells hrow (i := 2) rfl
  have q3 := cell_of_cells hrow (i := 3) rfl
  have q4 := cell_of_cells hrow (i := 4) rfl
  have q5 := cell_of_cells hrow (i := 5) rfl
  have hok := gok_nil (W := W) (by have := HF.out.2.2.2; omega) (by have := HF.out.2.2.2; omega)
  have hsn := Lab.snew HF.out.1 HF.out.2.1 HF.out.2.2.1 hok (by have := phi_nil W; omega) hl2
  have HS := Lib.hid hsn
  clear hsn hrow hl2 hok
  go_wp2_with fail
  go_at_call 10
  refine HS.out.mono ?_
  rintro e w3 ⟨sb, y, zt, L, F3, I3, rfl, hgot, hph, hyl, hl3⟩
  clear q0 q1 q2 q3 q4 q5 HS
  have hrow : w3.heap[q]? = some (.cells #[.int .i64 W, .int .i64 nR, (.slice a1 n1 c1), (.slice a2 n2 c2), (.slice a3 n3 c3), (.slice a4 n4 c4)] 26 (0, 0)) := hl3.third
  have q0 := cell_of_cells hrow (i := 0) rfl
  have q1 := cell_of_cells hrow (i := 1) rfl
  have q2 := cell_of_cells hrow (i := 2) rfl
  have q3 := cell_of_cells hrow (i := 3) rfl
  have q4 := cell_of_cells hrow (i := 4) rfl
  have q5 := cell_of_cells hrow (i := 5) rfl
  have hrn := Lab.rnew30 HF.out.1 HF.out.2.2.1 (hl3.drewN 1)
  have HR := Lib.hid hrn
  have HG := Lib.hid (And.intro (Began.mk (nR := nR) (vals := vals) (ars := ars) hgot.ok hgot.lt hgot.val (by have := phi_nil W; omega)) hyl)
  clear hrn hrow hl3 hgot hph hyl
  go_upto_region 7 with fail
  go_region_held3 (fun w' => w'.cell? ⟨q, 0, none⟩ = some (.int .i64 W) ∧ w'.cell? ⟨q, 1, none⟩ = some (.int .i64 nR) ∧ w'.cell? ⟨q, 2, none⟩ = some (.slice a1 n1 c1) ∧ w'.cell? ⟨q, 3, none⟩ = some (.slice a2 n2 c2) ∧ w'.cell? ⟨q, 4, none⟩ = some (.slice a3 n3 c3) ∧ w'.cell? ⟨q, 5, none⟩ = some (.slice a4 n4 c4)) (first | exact ⟨by assumption, by assumption, by assumption, by assumption, by assumption, by assumption⟩ | go_keep)
    (first
      | (go_at_call 40; refine HR.out.mono ?_; rintro e w5 ⟨rb, z, rfl, hzl, hl5⟩; have hrow5 : w5.heap[q]? = some (.cells #[.int .i64 W, .int .i64 nR, (.slice a1 n1 c1), (.slice a2 n2 c2), (.slice a3 n3 c3), (.slice a4 n4 c4)] 26 (0, 0)) := hl5.fourth; have p0 := cell_of_cells hrow5 (i := 0) rfl; have p1 := cell_of_cells hrow5 (i := 1) rfl; have p2 := cell_of_cells hrow5 (i := 2) rfl; have p3 := cell_of_cells hrow5 (i := 3) rfl; have p4 := cell_of_cells hrow5 (i := 4) rfl; have p5 := cell_of_cells hrow5 (i := 5) rfl; have HL5 := Lib.hid (And.intro hzl hl5); clear hzl hl5 hrow5))
  all_goals
    go_wp2
    go_ret
    refine ⟨_, gb, sb, rb, zt, y, z, L, F3, I3, rfl, HG.out.1, HG.out.2, HL5.out.1, ?_⟩
    have h9 := HL5.out.2.alloc #[.pointer (some ⟨gb, 0, none⟩), .pointer (some ⟨sb, 0, none⟩), .pointer (some ⟨rb, 0, none⟩), .int .i64 W, .int .i64 nR, (.slice a1 n1 c1), (.slice a2 n2 c2), (.slice a3 n3 c3), (.slice a4 n4 c4), (.slice av nv cv)] 58
    exact h9.swap.rot4.rot4.subl (.cons_cons _ (.cons_cons _ (.cons_cons _ (.cons_cons _ (.cons _ (List.Sublist.refl _))))))
end
end Go.Proofs.YtiklidgcmheofaaDoor
namespace Go.Proofs.YtiklidgcmheofaaDoor
open Go.RowKit Go.Maps
set_option maxHeartbeats 6400000
/-- An act. -/
structure ActD where
  k : Nat
  r : Nat
  ar : Nat
  a : Nat
  b : Nat
  n : Nat
def ActD.Ok (x : ActD) : Prop := x.k ≤ 255 ∧ x.r ≤ 255 ∧ x.ar ≤ 255 ∧ x.a ≤ 255 ∧ x.b ≤ 255 ∧ x.n < 18446744073709551616
def ActD.val (x : ActD) : Value := .agg #[.int .u8 x.k, .int .u8 x.r, .int .u8 x.ar, .int .u8 x.a, .int .u8 x.b, .int .u64 x.n]
theorem load_val2 {W : Nat} {vals : List Int} {L0 L1 L2 : List PNode} {xs us : List Int} {t t2 k : Nat} (hr : RelL W vals L0 xs us) (hp : L0 <+: L1) (hk : k < us.length) (ht : val W vals L1 t = (k : Int)) (h : LoadInv W L1 xs t us.length L2 t2) : us[k]? = some (val W vals L2 t2) := by
  obtain ⟨u, h1, h2, h3⟩ := hr.2 k hk
  rw [h.got.val vals, h3]
  unfold loadV
  rw [ht, if_pos (by omega), Int.toNat_natCast, List.getD_eq_getElem?_getD, h1]
  show some (val W vals L0 u) = some (val W vals L1 (u : Int).toNat)
  rw [Int.toNat_natCast, val_prefix hp h2]
section
variable {w0 wr w : World} {ts : List Thing} {F I : List Nat} {gb W room bb sb rb nR : Nat} {L : List PNode} {y z : Lay} {regs rregs vals sizes : List Int} {arrs rarrs : List (List Int)} {v1 v2 v3 v4 vv : Value}
end
end Go.Proofs.YtiklidgcmheofaaDoor
namespace Go.Proofs.YtiklidgcmheofaaDoor
open Go.RowKit Go.Maps
set_option maxHeartbeats 3200000
def exCode : CodeD := ⟨9, 0, 0, 0, 0, 0, 0, 0⟩
theorem exFlat_ok : FlatOk ⟨2, 2, [], [], [3], [exCode]⟩ := by
  refine ⟨by decide, by decide, by decide, by decide, by decide, by decide, by decide, ?_, ?_⟩
  · intro c hc
    obtain rfl : c = exCode := by simpa using hc
    unfold InstrOk
    decide
  · intro c hc
    obtain rfl : exCode = c := by simpa using hc
    exact .inl rfl
theorem example_results {tmps : Array Value} {p : Nat} {w : World} {x0 x1 x2 x3 x4 x5 : Value} (t0 : tmps.getD 0 undef = .pointer (some ⟨p, 0, none⟩))
    (h : w.heap[p]? = some (.cells #[x0, x1, x2, x3, x4, x5] 26 (0, 0))) :
    (results Tryd.f25 tmps).run Tryd.prog w = .ok (.agg #[x0, x1, x2, x3, x4, x5]) w := by
  have d0 := cell_of_cells h (i := 0) rfl
  have d1 := cell_of_cells h (i := 1) rfl
  have d2 := cell_of_cells h (i := 2) rfl
  have d3 := cell_of_cells h (i := 3) rfl
  have d4 := cell_of_cells h (i := 4) rfl
  have d5 := cell_of_cells h (i := 5) rfl
  have t0' : tmps[0]?.getD undef = .pointer (some ⟨p, 0, none⟩) := by simpa using t0
  unfold results
  rw [Tryd.results25]
  simp [go_sem, t0', d0, d1, d2, d3, d4, d5]
theorem exFlat_of {w : World} {p : Nat} (h1 : w.heap[p + 1]? = some (.cells #[.int .i64 3] 3 (0, 0))) (h2 : w.heap[p + 1 + 1]? = some (.cells #[.int .u8 9, .int .u8 0, .int .i64 0, .int .i64 0, .int .i64 0, .int .u64 0, .int .i64 0, .int .u64 0] 100 (0, 0))) :
    FlatOf w ⟨2, 2, [], [], [3], [exCode]⟩ (.slice none 0 0) (.slice none 0 0) (.slice (some ⟨p + 1, 0, none⟩) 1 1) (.slice (some ⟨p + 1 + 1, 0, none⟩) 1 1) := by
  refine ⟨⟨_, _, _, rfl, rfl, Nat.le_refl _, by decide, fun i hi => by omega⟩, ⟨_, _, _, rfl, rfl, Nat.le_refl _, by decide, fun i hi => by omega⟩, slice_of_box (xs := [3]) h1, ⟨_, _, _, rfl, rfl, by decide, fun i hi => ?_⟩⟩
  obtain rfl : i = 0 := by omega
  exact ⟨p + 1 + 1, 0, exCode, rfl, rfl, ⟨by decide, by decide, by decide, by decide⟩, cell_of_cells h2 (i := 0) rfl, cell_of_cells h2 (i := 1) rfl, cell_of_cells h2 (i := 2) rfl, cell_of_cells h2 (i := 3) rfl, cell_of_cells h2 (i := 4) rfl, cell_of_cells h2 (i := 5) rfl, cell_of_cells h2 (i := 6) rfl, cell_of_cells h2 (i := 7) rfl⟩
theorem example_any (w : World) : Calls Tryd.prog 25 #[] w fun e w' => ∃ v1 v2 v3 v4, e = .returned (.agg #[.int .i64 2, .int .i64 2, v1, v2, v3, v4]) ∧ FlatOf w' ⟨2, 2, [], [], [3], [exCode]⟩ v1 v2 v3 v4 ∧ Below w.heap.size w w' := by
  go_enter Tryd.func25, Tryd.ntmps25
  go_wp2
  obtain ⟨h0, h1, h2⟩ := heap3 w (.cells #[.int .i64 2, .int .i64 2, .slice none 0 0, .slice none 0 0, .slice (some ⟨w.heap.size + 1, 0, none⟩) 1 1, .slice (some ⟨w.heap.size + 1 + 1, 0, none⟩) 1 1] 26) (.cells #[.int .i64 3] 3) (.cells #[.int .u8 9, .int .u8 0, .int .i64 0, .int .i64 0, .int .i64 0, .int .u64 0, .int .i64 0, .int .u64 0] 100)
  refine bodyPost_ret (example_results rfl h0) rfl ⟨_, _, _, _, rfl, exFlat_of h1 h2, below3 w _ _ _⟩
section
variable {w0 wr w : World} {ts : List Thing} {F I : List Nat} {gb W room bb sb rb nR : Nat} {L : List PNode} {y z : Lay} {regs rregs vals sizes : List Int} {arrs rarrs : List (List Int)} {v1 v2 v3 v4 vv : Value}
theorem Lab.bvar (h : Lab w0 wr (bothTs F I gb W room L bb sb rb nR y z regs rregs arrs rarrs v1 v2 v3 v4 vv ts)) (hok : GOk W L) (hr : phi W L < room) (n : Nat) (hn : n ≤ 4194303) :
    ∃ (L' : List PNode) (t : Nat), Got W L L' t (fun vals => if n < vals.length then (((vals.getD n 0).toNat % 2 ^ W : Nat) : Int) else 0) ∧ phi W L' ≤ phi W L + 1 ∧
      Calls Tryd.prog 11 #[.pointer (some ⟨gb, 0, none⟩), .int .i64 n] wr fun e w' => ∃ F' I', e = .returned (.tuple #[.int .i64 t, .int .i64 0]) ∧ Lab w0 w' (bothTs F' I' gb W room L' bb sb rb nR y z regs rregs arrs rarrs v1 v2 v3 v4 vv ts) := by
  obtain ⟨L', t, hvr, hg, hp⟩ := GOk.var_in (room := room) hok hn hr
  have hv := var_any h.gr (n : Int)
  rw [hvr] at hv
  refine ⟨L', t, hg, hp, hv.mono ?_⟩
  intro e w' hp
  obtain ⟨F', I', he, hl⟩ := h.gpost hp
  exact ⟨F', I', he, hl⟩
set_option maxRecDepth 100000 in
theorem awake30_any (hT : ShpOk w) : Calls Tryd.prog 8 #[] w fun e w' => e = .returned (.bool true) ∧ Below w.heap.size w w' := by
  have HT := Lib.hid hT
  clear hT
  go_enter Tryd.func8, Tryd.ntmps8
  go_wp2_with fail
  go_at_call 25
  refine (example_any w).mono ?_
  rintro e w1 ⟨v1, v2, v3, v4, rfl, hf, hb1⟩
  obtain ⟨vb, hvb⟩ : ∃ vb, w1.heap.size = vb := ⟨_, rfl⟩
  obtain ⟨w2, hw2⟩ : ∃ w2, w1.alloc (.cells #[.int .u64 3, .int .u64 0, .int .u64 2] 40) = w2 := ⟨_, rfl⟩
  have hb2 : Below w1.heap.size w1 w2 := by rw [← hw2]; exact below_new _ _
  have hvals : SliceOf w2 .u64 (.slice (some ⟨vb, 0, none⟩) 3 3) [3, 0, 2] := slice_of_box (T := 40) (xs := [3, 0, 2]) (by rw [← hw2, ← hvb]; exact heap_alloc_new w1 _)
  have HF := Lib.hid (And.intro (hf.later hb2) (And.intro (HT.out.later (hb1.trans (hb2.mono hb1.size))) (And.intro hvals (hb1.trans (hb2.mono hb1.size)))))
  clear hf hb1 hb2 hvals HT
  have hbg := Lab.bbegin (W := 2) (nR := 2) (vals := [3, 0, 2]) (vv := .slice (some ⟨vb, 0, none⟩) 3 3) HF.out.1 HF.out.2.1 exFlat_ok ⟨_, _, _, rfl⟩ (Lab.nil (Below.refl w2.heap.size w2))
  replace hbg : Calls Tryd.prog 16 #[.agg #[.int .i64 2, .int .i64 2, v1, v2, v3, v4], .slice (some ⟨vb, 0, none⟩) 3 3] w2 _ := hbg
  have HBG := Lib.hid hbg
  clear hbg
  go_wp2_with fail
  go_at_call 16
  refine HBG.out.mono ?_
  rintro e w3 ⟨bb, gb, sb, rb, zt, y, z, L, F, I, rfl, hB, hyl, hzl, hl3⟩
  clear HBG hvb hw2
  have hU : U64s [3, 0, 2] := by intro v hv; simp at hv; omega
  have HB := Lib.hid (And.intro hB (And.intro hyl (And.intro hzl hU)))
  obtain ⟨c0, c1, -, -, -, -, -⟩ := both_cells hl3.fourth
  obtain ⟨L1, x, hg1, hp1, hv1⟩ := hl3.bvar hB.ok (by have := hB.phi; omega) 0 (by decide)
  replace hv1 : Calls Tryd.prog 11 #[.pointer (some ⟨gb, 0, none⟩), .int .i64 0] w3 _ := hv1
  have HV1 := Lib.hid hv1; have HG1 := Lib.hid (And.intro hg1 hp1)
  clear hv1 hg1 hp1 hl3 hB hyl hzl hU
  go_wp2_with fail
  go_at_call 11
  refine HV1.out.mono ?_
  rintro e w4 ⟨F4, I4, rfl, hl4⟩
  clear c0 c1 HV1
  obtain ⟨c0, c1, -, -, -, -, -⟩ := both_cells hl4.fourth
  obtain ⟨L2, i, hg2, hp2, hv2⟩ := hl4.bvar HG1.out.1.ok (by have := HB.out.1.phi; have := HG1.out.2; omega) 2 (by decide)
  replace hv2 : Calls Tryd.prog 11 #[.pointer (some ⟨gb, 0, none⟩), .int .i64 2] w4 _ := hv2
  have HV2 := Lib.hid hv2; have HG2 := Lib.hid (And.intro hg2 hp2)
  clear hv2 hg2 hp2 hl4
  go_wp2_with fail
  go_at_call 11
  refine HV2.out.mono ?_
  rintro e w5 ⟨F5, I5, rfl, hl5⟩
  clear c0 c1 HV2
  obtain ⟨c0, c1, -, -, -, -, -⟩ := both_cells hl5.fourth
  have hp02 := HG1.out.1.pre.trans HG2.out.1.pre
  have hrz : RelL 2 [3, 0, 2] L2 (List.replicate 3 (zt : Int)) (List.replicate 3 0) := (RelL.zeros 3 HB.out.1.lt (HB.out.1.zero _)).keep hp02
  have hput := Lab.sput (a := 0) (x := i) (t := x) (n := 3) (xs := List.replicate 3 (zt : Int)) (by rw [zerosL_len, HB.out.2.1]) rfl (by simp) (by decide) (by decide) hrz.mem HG2.out.1.ok HG2.out.1.lt (Nat.lt_of_lt_of_le HG1.out.1.lt HG2.out.1.pre.length_le) (by have := HB.out.1.phi; have := HG1.out.2; have := HG2.out.2; omega) hl5
  replace hput : Calls Tryd.prog 13 #[.pointer (some ⟨sb, 0, none⟩), .int .i64 0, .int .i64 i, .int .i64 x] w5 _ := hput
  have HPUT := Lib.hid hput; have HRZ := Lib.hid (And.intro hrz hp02)
  clear hput hrz hp02 hl5
  go_wp2_with fail
  go_at_call 13
  refine HPUT.out.mono ?_
  rintro e w6 ⟨L3, ys, y', F6, I6, rfl, hinv, hyl, hl6⟩
  replace hl6 : Lab w2 w6 (bothTs F6 I6 gb 2 20000 L3 bb sb rb 2 y' z (List.replicate 2 (zt : Int)) (List.replicate 2 0) ((zerosL zt [3]).set 0 ys) (zerosL 0 [3]) v1 v2 v3 v4 (.slice (some ⟨vb, 0, none⟩) 3 3) []) := hl6
  clear c0 c1 HPUT
  obtain ⟨c0, c1, -, -, -, -, -⟩ := both_cells hl6.fourth
  have hvi : val 2 [3, 0, 2] L2 i = ((2 : Nat) : Int) := HG2.out.1.val _
  have hvx : val 2 [3, 0, 2] L2 x = 3 := by rw [val_prefix HG2.out.1.pre HG1.out.1.lt]; exact HG1.out.1.val _
  have hry := PutInv.rel (at' := 2) (by rw [List.length_replicate]; exact hinv) HRZ.out.1 hvi
  rw [hvx] at hry
  replace hry : RelL 2 [3, 0, 2] L3 ys [0, 0, 3] := hry
  have hyl3 : ys.length = 3 := by rw [hinv.len]; simp
  have hi3 : i < L3.length := Nat.lt_of_lt_of_le HG2.out.1.lt hinv.pre.length_le
  have hph3 : phi 2 L3 ≤ 80 := by have := hinv.room; have := HB.out.1.phi; have := HG1.out.2; have := HG2.out.2; omega
  have hld := Lab.sload (a := 0) (x := i) (n := 3) (xs := ys) hyl rfl hyl3 (by decide) (by decide) hry.mem hinv.ok hi3 (by omega) hl6
  replace hld : Calls Tryd.prog 14 #[.pointer (some ⟨sb, 0, none⟩), .int .i64 0, .int .i64 i] w6 _ := hld
  have HLD := Lib.hid hld; have HRY := Lib.hid (And.intro hry (And.intro hyl (And.intro hyl3 (And.intro hph3 (show val 2 [3, 0, 2] L3 i = ((2 : Nat) : Int) by rw [val_prefix hinv.pre HG2.out.1.lt]; exact hvi)))))
  clear hld hry hl6 hinv hyl hvi hvx hyl3 hi3 hph3
  go_wp2_with fail
  go_at_call 14
  refine HLD.out.mono ?_
  rintro e w7 ⟨L4, t, F7, I7, rfl, hin4, hl7⟩
  replace hl7 : Lab w2 w7 (bothTs F7 I7 gb 2 20000 L4 bb sb rb 2 y' z (List.replicate 2 (zt : Int)) (List.replicate 2 0) ((zerosL zt [3]).set 0 ys) (zerosL 0 [3]) v1 v2 v3 v4 (.slice (some ⟨vb, 0, none⟩) 3 3) []) := hl7
  clear c0 c1 HLD
  have hv4 : some (3 : Int) = some (val 2 [3, 0, 2] L4 t) := load_val2 (k := 2) HRY.out.1 (List.prefix_refl _) (by decide) HRY.out.2.2.2.2 hin4
  have hr4 : phi 2 L4 ≤ 90 := by have := hin4.room; have := HRY.out.2.2.2.1; omega
  obtain ⟨L5, one, hg5, hp5, -, -, hn5⟩ := Lab.bnumber HF.out.2.2.1 (by decide) HB.out.2.2.2 hl7 HRY.out.2.1 (by rw [zerosL_len, HB.out.2.2.1]) hin4.got.ok (by omega) 1 (by decide)
  replace hn5 : Calls Tryd.prog 18 #[.pointer (some ⟨bb, 0, none⟩), .int .u64 1] w7 _ := hn5
  have HN5 := Lib.hid hn5; have HG5 := Lib.hid (And.intro hg5 (show phi 2 L5 ≤ 91 by omega)); have HV4 := Lib.hid (And.intro (Option.some.inj hv4).symm hin4.got)
  clear hn5 hg5 hp5 hl7 hin4 hv4 hr4
  go_wp2_with fail
  go_at_call 18
  refine HN5.out.mono ?_
  rintro e w8 ⟨F8, I8, rfl, hl8⟩
  clear HN5
  obtain ⟨c0, c1, -, -, -, -, -⟩ := both_cells hl8.fourth
  have hp35 := HV4.out.2.pre.trans HG5.out.1.pre
  have hld := Lab.sload (a := 0) (x := one) (n := 3) (xs := ys) HRY.out.2.1 rfl HRY.out.2.2.1 (by decide) (by decide) (HRY.out.1.keep hp35).mem HG5.out.1.ok HG5.out.1.lt (by have := HG5.out.2; omega) hl8
  replace hld : Calls Tryd.prog 14 #[.pointer (some ⟨sb, 0, none⟩), .int .i64 0, .int .i64 one] w8 _ := hld
  have HLD := Lib.hid hld; have HP35 := Lib.hid hp35
  clear hld hl8 hp35
  go_wp2_with fail
  go_at_call 14
  refine HLD.out.mono ?_
  rintro e w9 ⟨L6, u, F9, I9, rfl, hin6, hl9⟩
  replace hl9 : Lab w2 w9 (bothTs F9 I9 gb 2 20000 L6 bb sb rb 2 y' z (List.replicate 2 (zt : Int)) (List.replicate 2 0) ((zerosL zt [3]).set 0 ys) (zerosL 0 [3]) v1 v2 v3 v4 (.slice (some ⟨vb, 0, none⟩) 3 3) []) := hl9
  clear c0 c1 HLD
  have hv6 : some (0 : Int) = some (val 2 [3, 0, 2] L6 u) := load_val2 (k := 1) HRY.out.1 HP35.out (by decide) (by rw [HG5.out.1.val]) hin6
  have ht6 : t < L6.length := Nat.lt_of_lt_of_le HV4.out.2.lt (HG5.out.1.pre.trans hin6.got.pre).length_le
  have hvt : val 2 [3, 0, 2] L6 t = 3 := by rw [val_prefix (HG5.out.1.pre.trans hin6.got.pre) HV4.out.2.lt]; exact HV4.out.1
  have hi1 := Lab.bis HF.out.2.2.1 (by decide) HB.out.2.2.2 hl9 t ht6 3
  rw [decide_eq_true hvt] at hi1
  have HI1 := Lib.hid hi1; have HL9 := Lib.hid hl9; have HU6 := Lib.hid (And.intro hin6.got.lt (Option.some.inj hv6).symm)
  clear hi1 hl9 hin6 hv6 ht6 hvt
  go_wp2_with fail
  go_at_call 26
  refine HI1.out.mono ?_
  rintro e w10 ⟨rfl, hb10⟩
  have hl10 := HL9.out.later hb10
  have hi2 := Lab.bis HF.out.2.2.1 (by decide) HB.out.2.2.2 hl10 u HU6.out.1 0
  rw [decide_eq_true HU6.out.2] at hi2
  have HI2 := Lib.hid hi2; have HL10 := Lib.hid hl10
  clear hi2 hl10 hb10 HI1
  go_wp2_with fail
  go_at_call 26
  refine HI2.out.mono ?_
  rintro e w11 ⟨rfl, hb11⟩
  have HL11 := Lib.hid (HL10.out.later hb11)
  clear hb11
  go_wp2
  go_ret
  exact ⟨rfl, HF.out.2.2.2.trans (HL11.out.below.mono HF.out.2.2.2.size)⟩
end
end Go.Proofs.YtiklidgcmheofaaDoor
namespace Go.Proofs.YtiklidgcmheofaaDoor
open Go.RowKit Go.Maps
set_option maxHeartbeats 3200000
section
variable {H : Type} {enc : TypeId × Value → H} {w : World}
/-- A slice of elements that are read as a row of cells each. -/
theorem slice_each {α : Type} {t e m fu : Nat} {c : Value} {x : DataW H × List MemPlace} {f : α → List Value} {Ok : α → Prop} (ht : Tryd.prog.underlying t = some (.slice e)) (hm : Tryd.prog.cellsOf e = m) (hm0 : 1 ≤ m) (hfl : ∀ y, (f y).length = m)
    (hel : ∀ fu cs x, DataW.trod enc Tryd.prog w 0 (fun _ => true) true fu e cs = some x → ∃ y, Ok y ∧ cs = f y)
    (h : DataW.trod enc Tryd.prog w 0 (fun _ => true) true fu t [c] = some x) :
    ∃ a n cap, ∃ l : List α, c = .slice a n cap ∧ l.length = n ∧ n ≤ cap ∧ n ≤ 9223372036854775807 ∧ ∀ i, i < n → ∃ b off y, a = some ⟨b, off, none⟩ ∧ l[i]? = some y ∧ Ok y ∧ ∀ j u, (f y)[j]? = some u → w.cell? ⟨b, off + (i * m + j), none⟩ = some u := by
  rcases DataW.trod_slice ht h with ⟨hcs, _⟩ | ⟨ad, n, cap, elems, rest, fu', _, hcs, _, _, hl, hmx, hlen, he, _⟩
  · simp only [List.cons.injEq, and_true] at hcs
    subst hcs
    exact ⟨none, 0, 0, [], rfl, rfl, Nat.le_refl _, by decide, fun i hi => by omega⟩
  · simp only [List.cons.injEq, and_true] at hcs
    subst hcs
    rw [hm] at he
    have hspot : 0 < n → ad.spot = none := by
      intro h0
      have h1 := he 0 h0
      rw [List.getElem?_eq_getElem (by omega)] at h1
      obtain ⟨cs, hc, htr⟩ := Option.bind_eq_some_iff.1 h1
      obtain ⟨y, hy, rfl⟩ := hel _ _ _ htr
      obtain ⟨_, _, hat⟩ := World.cells?_some hc
      have t0 := hat 0 (by omega)
      rw [List.getElem?_eq_getElem (by rw [hfl]; omega)] at t0
      simpa [Addr.add] using World.cell?_spot t0
    have each : ∀ i, i < n → ∃ y, Ok y ∧ ad.spot = none ∧ ∀ j u, (f y)[j]? = some u → w.cell? ⟨ad.block, ad.off + (i * m + j), none⟩ = some u := by
      intro i hi
      have h1 := he i hi
      rw [List.getElem?_eq_getElem (by omega)] at h1
      obtain ⟨cs, hc, htr⟩ := Option.bind_eq_some_iff.1 h1
      obtain ⟨y, hy, rfl⟩ := hel _ _ _ htr
      obtain ⟨_, _, hat⟩ := World.cells?_some hc
      have hsp := hspot (by omega)
      refine ⟨y, hy, hsp, fun j u hu => ?_⟩
      have hj : j < m := by have := (List.getElem?_eq_some_iff.1 hu).1; rw [hfl] at this; exact this
      have tj := hat j hj
      rw [hu] at tj
      obtain ⟨b, off, spot⟩ := ad
      simp only at hsp
      subst hsp
      simp only [Go.WideShapes.add_plain, Nat.add_assoc] at tj
      exact tj
    obtain ⟨l, hll, hp⟩ := list_of_each (p := fun i y => Ok y ∧ ad.spot = none ∧ ∀ j u, (f y)[j]? = some u → w.cell? ⟨ad.block, ad.off + (i * m + j), none⟩ = some u) n each
    refine ⟨some ad, n, cap, l, rfl, hll, hl, by unfold maxLen at hmx; omega, fun i hi => ?_⟩
    obtain ⟨y, hy, hok, hsp, hc⟩ := hp i hi
    obtain ⟨b, off, spot⟩ := ad
    simp only at hsp
    subst hsp
    exact ⟨b, off, y, rfl, hy, hok, hc⟩
theorem fields_at {ys : List (DataW H × List MemPlace)} {n i : Nat} (h : ys.length = n) (hi : i < n) : ∃ y, ys[i]? = some y := ⟨_, List.getElem?_eq_getElem (by omega)⟩
theorem nat_of_int {k : IntKind} {t fu : Nat} {c : Value} {y : DataW H × List MemPlace} {held : Bool} (ht : Tryd.prog.underlying t = some (.int k)) (g : DataW.trod enc Tryd.prog w 0 (fun _ => true) held fu t [c] = some y) : ∃ x : Int, c = .int k x ∧ (Lit.int k x).wf = true := by
  obtain ⟨n0, h0, _, w0⟩ := DataW.trod_int ht g
  simp only [List.cons.injEq, and_true] at h0
  exact ⟨n0, h0, w0⟩
theorem list2' (cs : List Value) (h : cs.length = 2) : ∃ c0 c1, cs = [c0, c1] := by
  match cs, h with
  | [c0, c1], _ => exact ⟨_, _, rfl⟩
theorem list6' (cs : List Value) (h : cs.length = 6) : ∃ c0 c1 c2 c3 c4 c5, cs = [c0, c1, c2, c3, c4, c5] := by
  match cs, h with
  | [c0, c1, c2, c3, c4, c5], _ => exact ⟨_, _, _, _, _, _, rfl⟩
theorem list8' (cs : List Value) (h : cs.length = 8) : ∃ c0 c1 c2 c3 c4 c5 c6 c7, cs = [c0, c1, c2, c3, c4, c5, c6, c7] := by
  match cs, h with
  | [c0, c1, c2, c3, c4, c5, c6, c7], _ => exact ⟨_, _, _, _, _, _, _, _, rfl⟩
theorem ref_of_cells {fu : Nat} {held : Bool} {cs : List Value} {x : DataW H × List MemPlace} (h : DataW.trod enc Tryd.prog w 0 (fun _ => true) held fu 42 cs = some x) : ∃ (r : Int) (q : Nat), cs = [.int .i64 r, .int .u64 q] ∧ q < 18446744073709551616 := by
  obtain ⟨ys, n, _, _, hl, hyl, hf⟩ := DataW.trod_struct Tryd.underlying42 h
  have h5 : Tryd.prog.cellsOf 42 = 2 := by kernel_rfl
  obtain ⟨c0, c1, rfl⟩ := list2' cs (hl.trans h5)
  obtain ⟨y0, e0⟩ := fields_at (i := 0) hyl (by decide)
  obtain ⟨y1, e1⟩ := fields_at (i := 1) hyl (by decide)
  have q1 : Tryd.prog.cellsOf 40 = 1 := by kernel_rfl
  have q2 : Tryd.prog.cellsOf 3 = 1 := by kernel_rfl
  have g0 := hf 0 _ rfl
  replace g0 : DataW.trod enc Tryd.prog w 0 (fun _ => true) held n 3 (([c0, c1].drop 0).take (Tryd.prog.cellsOf 3)) = ys[0]? := g0
  rw [q2, e0] at g0
  have g1 := hf 1 _ rfl
  replace g1 : DataW.trod enc Tryd.prog w 0 (fun _ => true) held n 40 (([c0, c1].drop 1).take (Tryd.prog.cellsOf 40)) = ys[1]? := g1
  rw [q1, e1] at g1
  obtain ⟨r, rfl, w0⟩ := nat_of_int Tryd.underlying3 g0
  obtain ⟨q, rfl, w1⟩ := nat_of_int Tryd.underlying40 g1
  have b1 := Go.bounds_u64 w1
  obtain ⟨m, rfl⟩ := Int.eq_ofNat_of_zero_le b1.1
  exact ⟨r, m, rfl, by omega⟩
def CodeD.cells (c : CodeD) : List Value := [.int .u8 c.k, .int .u8 c.o, .int .i64 c.d, .int .i64 c.n, .int .i64 c.ar, .int .u64 c.an, .int .i64 c.br, .int .u64 c.bn]
theorem code_of_cells {fu : Nat} {held : Bool} {cs : List Value} {x : DataW H × List MemPlace} (h : DataW.trod enc Tryd.prog w 0 (fun _ => true) held fu 100 cs = some x) : ∃ c : CodeD, c.Ok ∧ cs = c.cells := by
  obtain ⟨ys, n, _, _, hl, hyl, hf⟩ := DataW.trod_struct Tryd.underlying100 h
  have h5 : Tryd.prog.cellsOf 100 = 8 := by kernel_rfl
  obtain ⟨c0, c1, c2, c3, c4, c5, c6, c7, rfl⟩ := list8' cs (hl.trans h5)
  obtain ⟨y0, e0⟩ := fields_at (i := 0) hyl (by decide)
  obtain ⟨y1, e1⟩ := fields_at (i := 1) hyl (by decide)
  obtain ⟨y2, e2⟩ := fields_at (i := 2) hyl (by decide)
  obtain ⟨y3, e3⟩ := fields_at (i := 3) hyl (by decide)
  obtain ⟨y4, e4⟩ := fields_at (i := 4) hyl (by decide)
  obtain ⟨y5, e5⟩ := fields_at (i := 5) hyl (by decide)
  have q0 : Tryd.prog.cellsOf 5 = 1 := by kernel_rfl
  have q2 : Tryd.prog.cellsOf 3 = 1 := by kernel_rfl
  have q4 : Tryd.prog.cellsOf 42 = 2 := by kernel_rfl
  have g0 := hf 0 _ rfl
  replace g0 : DataW.trod enc Tryd.prog w 0 (fun _ => true) held n 5 (([c0, c1, c2, c3, c4, c5, c6, c7].drop 0).take (Tryd.prog.cellsOf 5)) = ys[0]? := g0
  rw [q0, e0] at g0
  have g1 := hf 1 _ rfl
  replace g1 : DataW.trod enc Tryd.prog w 0 (fun _ => true) held n 5 (([c0, c1, c2, c3, c4, c5, c6, c7].drop 1).take (Tryd.prog.cellsOf 5)) = ys[1]? := g1
  rw [q0, e1] at g1
  have g2 := hf 2 _ rfl
  replace g2 : DataW.trod enc Tryd.prog w 0 (fun _ => true) held n 3 (([c0, c1, c2, c3, c4, c5, c6, c7].drop 2).take (Tryd.prog.cellsOf 3)) = ys[2]? := g2
  rw [q2, e2] at g2
  have g3 := hf 3 _ rfl
  replace g3 : DataW.trod enc Tryd.prog w 0 (fun _ => true) held n 3 (([c0, c1, c2, c3, c4, c5, c6, c7].drop 3).take (Tryd.prog.cellsOf 3)) = ys[3]? := g3
  rw [q2, e3] at g3
  have g4 := hf 4 _ rfl
  replace g4 : DataW.trod enc Tryd.prog w 0 (fun _ => true) held n 42 (([c0, c1, c2, c3, c4, c5, c6, c7].drop 4).take (Tryd.prog.cellsOf 42)) = ys[4]? := g4
  rw [q4, e4] at g4
  have g5 := hf 5 _ rfl
  replace g5 : DataW.trod enc Tryd.prog w 0 (fun _ => true) held n 42 (([c0, c1, c2, c3, c4, c5, c6, c7].drop 6).take (Tryd.prog.cellsOf 42)) = ys[5]? := g5
  rw [q4, e5] at g5
  obtain ⟨x0, rfl, w0⟩ := nat_of_int Tryd.underlying5 g0
  obtain ⟨x1, rfl, w1⟩ := nat_of_int Tryd.underlying5 g1
  obtain ⟨x2, rfl, w2⟩ := nat_of_int Tryd.underlying3 g2
  obtain ⟨x3, rfl, w3⟩ := nat_of_int Tryd.underlying3 g3
  obtain ⟨r1, n1, e1', l1⟩ := ref_of_cells g4
  obtain ⟨r2, n2, e2', l2⟩ := ref_of_cells g5
  have b0 := Go.bounds_u8 w0; have b1 := Go.bounds_u8 w1
  obtain ⟨m0, rfl⟩ := Int.eq_ofNat_of_zero_le b0.1
  obtain ⟨m1, rfl⟩ := Int.eq_ofNat_of_zero_le b1.1
  simp only [List.drop_succ_cons, List.drop_zero, List.take_succ_cons, List.take_zero, List.cons.injEq, and_true] at e1' e2'
  obtain ⟨rfl, rfl⟩ := e1'
  obtain ⟨rfl, rfl⟩ := e2'
  exact ⟨⟨m0, m1, x2, x3, r1, n1, r2, n2⟩, ⟨by show m0 ≤ 255; omega, by show m1 ≤ 255; omega, l1, l2⟩, rfl⟩
set_option maxRecDepth 100000 in
/-- A flat program that comes in. -/
theorem flat_of_trod {base : Nat} {v : Value} {d : DataW H} {p : List MemPlace} (h : DataW.Trod enc Tryd.prog w 0 (fun _ => true) true 26 v d p) (o : Value.okWide Tryd.prog w .any base 26 v) :
    ∃ (f : FlatD) (v1 v2 v3 v4 : Value), v = .agg #[.int .i64 f.W, .int .i64 f.R, v1, v2, v3, v4] ∧ FlatOf w f v1 v2 v3 v4 := by
  obtain ⟨⟨cs⟩, rfl, hsz⟩ := Go.WideShapes.okWide_struct Tryd.underlying26 o
  obtain ⟨fuel, hf0⟩ := h
  replace hf0 : DataW.trod enc Tryd.prog w 0 (fun _ => true) true fuel 26 cs = some (d, p) := hf0
  obtain ⟨ys, n, _, _, hl, hyl, hf⟩ := DataW.trod_struct Tryd.underlying26 hf0
  have h5 : Tryd.prog.cellsOf 26 = 6 := by kernel_rfl
  obtain ⟨c0, c1, c2, c3, c4, c5, rfl⟩ := list6' cs (hl.trans h5)
  obtain ⟨y0, e0⟩ := fields_at (i := 0) hyl (by decide)
  obtain ⟨y1, e1⟩ := fields_at (i := 1) hyl (by decide)
  obtain ⟨y2, e2⟩ := fields_at (i := 2) hyl (by decide)
  obtain ⟨y3, e3⟩ := fields_at (i := 3) hyl (by decide)
  obtain ⟨y4, e4⟩ := fields_at (i := 4) hyl (by decide)
  obtain ⟨y5, e5⟩ := fields_at (i := 5) hyl (by decide)
  have g0 := hf 0 _ rfl
  replace g0 : DataW.trod enc Tryd.prog w 0 (fun _ => true) true n 3 (([c0, c1, c2, c3, c4, c5].drop 0).take (Tryd.prog.cellsOf 3)) = ys[0]? := g0
  rw [(show Tryd.prog.cellsOf 3 = 1 by kernel_rfl), e0] at g0
  have g1 := hf 1 _ rfl
  replace g1 : DataW.trod enc Tryd.prog w 0 (fun _ => true) true n 3 (([c0, c1, c2, c3, c4, c5].drop 1).take (Tryd.prog.cellsOf 3)) = ys[1]? := g1
  rw [(show Tryd.prog.cellsOf 3 = 1 by kernel_rfl), e1] at g1
  have g2 := hf 2 _ rfl
  replace g2 : DataW.trod enc Tryd.prog w 0 (fun _ => true) true n 22 (([c0, c1, c2, c3, c4, c5].drop 2).take (Tryd.prog.cellsOf 22)) = ys[2]? := g2
  rw [(show Tryd.prog.cellsOf 22 = 1 by kernel_rfl), e2] at g2
  have g3 := hf 3 _ rfl
  replace g3 : DataW.trod enc Tryd.prog w 0 (fun _ => true) true n 22 (([c0, c1, c2, c3, c4, c5].drop 3).take (Tryd.prog.cellsOf 22)) = ys[3]? := g3
  rw [(show Tryd.prog.cellsOf 22 = 1 by kernel_rfl), e3] at g3
  have g4 := hf 4 _ rfl
  replace g4 : DataW.trod enc Tryd.prog w 0 (fun _ => true) true n 23 (([c0, c1, c2, c3, c4, c5].drop 4).take (Tryd.prog.cellsOf 23)) = ys[4]? := g4
  rw [(show Tryd.prog.cellsOf 23 = 1 by kernel_rfl), e4] at g4
  have g5 := hf 5 _ rfl
  replace g5 : DataW.trod enc Tryd.prog w 0 (fun _ => true) true n 24 (([c0, c1, c2, c3, c4, c5].drop 5).take (Tryd.prog.cellsOf 24)) = ys[5]? := g5
  rw [(show Tryd.prog.cellsOf 24 = 1 by kernel_rfl), e5] at g5
  obtain ⟨x0, rfl, w0⟩ := nat_of_int Tryd.underlying3 g0
  obtain ⟨x1, rfl, w1⟩ := nat_of_int Tryd.underlying3 g1
  obtain ⟨xs, hs, -, -⟩ := ints_of_cell Tryd.underlying23 Tryd.underlying3 (by kernel_rfl) g4
  have strs : ∀ {fu : Nat} {c : Value} {y : DataW H × List MemPlace}, DataW.trod enc Tryd.prog w 0 (fun _ => true) true fu 22 [c] = some y → ∃ l, StrsOf w c l := by
    intro fu c y g
    obtain ⟨a, m, cap, l, rfl, hl, hc, h63, he⟩ := slice_each (α := ByteArray) (f := fun s => [.string s]) (Ok := fun s => s.size ≤ 9223372036854775807) Tryd.underlying22 (m := 1) (by kernel_rfl) (Nat.le_refl _) (fun _ => rfl) (fun fu cs x h => by
      obtain ⟨s, rfl, _, hs⟩ := DataW.trod_string Tryd.underlying9 h
      exact ⟨s, by unfold maxLen at hs; omega, rfl⟩) g
    refine ⟨l, a, m, cap, rfl, hl, hc, h63, fun i hi => ?_⟩
    obtain ⟨b, off, s, e1, e2, e3, e4⟩ := he i hi
    have := e4 0 _ rfl
    rw [Nat.mul_one, Nat.add_zero] at this
    exact ⟨b, off, s, e1, e2, e3, this⟩
  obtain ⟨l1, hs1⟩ := strs g2
  obtain ⟨l2, hs2⟩ := strs g3
  obtain ⟨a, m, cap, cl, hcv, hcl, -, h63, hce⟩ := slice_each (α := CodeD) (f := CodeD.cells) (Ok := CodeD.Ok) Tryd.underlying24 (m := 8) (by kernel_rfl) (by decide) (fun _ => rfl) (fun fu cs x h => code_of_cells h) g5
  refine ⟨⟨x0, x1, l1, l2, xs, cl⟩, _, _, _, _, rfl, hs1, hs2, hs, a, m, cap, hcv, hcl, h63, fun i hi => ?_⟩
  obtain ⟨b, off, c, e1, e2, e3, e4⟩ := hce i hi
  refine ⟨b, off, c, e1, e2, e3, ?_⟩
  have k0 := e4 0 _ rfl; have k1 := e4 1 _ rfl; have k2 := e4 2 _ rfl; have k3 := e4 3 _ rfl; have k4 := e4 4 _ rfl; have k5 := e4 5 _ rfl; have k6 := e4 6 _ rfl; have k7 := e4 7 _ rfl
  simp only [Nat.add_zero, ← Nat.add_assoc] at k0 k1 k2 k3 k4 k5 k6 k7
  exact ⟨k0, k1, k2, k3, k4, k5, k6, k7⟩
/-- Acts, as what is read. -/
def ActsOf (w : World) (v : Value) (l : List ActD) : Prop :=
  ∃ a n cap, v = .slice a n cap ∧ l.length = n ∧ n ≤ 9223372036854775807 ∧ ∀ i, i < n → ∃ b off x, a = some ⟨b, off, none⟩ ∧ l[i]? = some x ∧ x.Ok ∧
    w.cell? ⟨b, off + i * 6, none⟩ = some (.int .u8 x.k) ∧ w.cell? ⟨b, off + i * 6 + 1, none⟩ = some (.int .u8 x.r) ∧ w.cell? ⟨b, off + i * 6 + 2, none⟩ = some (.int .u8 x.ar) ∧ w.cell? ⟨b, off + i * 6 + 3, none⟩ = some (.int .u8 x.a) ∧ w.cell? ⟨b, off + i * 6 + 4, none⟩ = some (.int .u8 x.b) ∧ w.cell? ⟨b, off + i * 6 + 5, none⟩ = some (.int .u64 x.n)
def ActD.cells (x : ActD) : List Value := [.int .u8 x.k, .int .u8 x.r, .int .u8 x.ar, .int .u8 x.a, .int .u8 x.b, .int .u64 x.n]
theorem ActsOf.later {w w' : World} {v : Value} {l : List ActD} (h : ActsOf w v l) (hb : Below w.heap.size w w') : ActsOf w' v l := by
  obtain ⟨a, n, cap, rfl, hl, hm, hx⟩ := h
  refine ⟨a, n, cap, rfl, hl, hm, fun i hi => ?_⟩
  obtain ⟨b, off, c, h1, h2, h3, d0, d1, d2, d3, d4, d5⟩ := hx i hi
  exact ⟨b, off, c, h1, h2, h3, cell_later hb d0, cell_later hb d1, cell_later hb d2, cell_later hb d3, cell_later hb d4, cell_later hb d5⟩
end
end Go.Proofs.YtiklidgcmheofaaDoor
