/- Values of terms: what package eval's inner function gives for a node. -/
import Derived.Test.YtofbadmjopefpaaEvalT
import Derived.Deep.DeepCutAuto
import Derived.Deep.CutBlock
import Derived.Outline
namespace Go.Proofs.Ytofbadmjopefpaa
open Go.RowKit Go.Maps
set_option maxHeartbeats 800000

theorem value_any {w : World} (vb wb xb yb M W : Nat) (vv va : Value) (vals acc : List Int) (f : Nat → Value) (n : PNode)
    (c1 : w.cell? ⟨vb, 0, none⟩ = some vv) (hv : SliceOf w .u64 vv vals) (hvl : vals.length ≤ 9223372036854775807) (hvu : U64s vals)
    (c2 : w.cell? ⟨wb, 0, none⟩ = some (.int .i64 W)) (h1 : 1 ≤ W) (h2 : W ≤ 64)
    (c3 : w.cell? ⟨xb, 0, none⟩ = some (.slice (some ⟨yb, 0, none⟩) M M)) (hy : w.rowIs yb 42 M f) 
    (hva : SliceOf w .i64 va n.2.2) (hn : NodeOk n) (hM : ∀ a ∈ n.2.2, (0 : Int) ≤ a ∧ a < (M : Int)) (hacc : ∀ a ∈ n.2.2, f a.toNat = .int .u64 (acc.getD a.toNat 0) ∧ 0 ≤ acc.getD a.toNat 0 ∧ acc.getD a.toNat 0 ≤ 18446744073709551615) :
    Calls Try.prog 54 #[.agg #[.int .u8 n.1, .int .u64 n.2.1, va], .pointer (some ⟨vb, 0, none⟩), .pointer (some ⟨wb, 0, none⟩), .pointer (some ⟨xb, 0, none⟩)] w fun e w' => e = .returned (.int .u64 (valN W vals acc n)) ∧ Below w.heap.size w w' := by
  obtain ⟨ap, m, cap, rfl, hlm, -⟩ := hva.parts
  obtain ⟨av, nv, cv, rfl, hlv, hcv⟩ := hv.parts
  obtain ⟨p, hp⟩ : ∃ p, w.heap.size = p := ⟨_, rfl⟩
  obtain ⟨op, num, xs⟩ := n
  simp only at hva hn hM hacc hlm ⊢
  have hm3 : m ≤ 3 := by have := hn.2.2; have := aryN_le op; simp only at *; omega
  have hop : op ≤ 21 := hn.1
  have hnum : num ≤ 18446744073709551615 := hn.2.1
  obtain ⟨R, hR⟩ : ∃ R, valN W vals acc (op, num, xs) = R := ⟨_, rfl⟩
  rw [hR]
  have hb1 := below_new w (.cells #[.int .u8 op, .int .u64 num, .slice ap m cap] 54)
  have hk1 : (w.alloc (.cells #[.int .u8 op, .int .u64 num, .slice ap m cap] 54)).heap[p]? = some (.cells #[.int .u8 op, .int .u64 num, .slice ap m cap] 54 (0, 0)) := by rw [← hp]; exact heap_alloc_new w _
  have HB := Lib.hid hb1; have HK := Lib.hid hk1; have HR := Lib.hid hR; have HN := Lib.hid hn; have HV := Lib.hid hcv; have HA := Lib.hid hva; have HM := Lib.hid hM; have HACC := Lib.hid hacc; have HVU := Lib.hid hvu; have HLV := Lib.hid hlv; have HLM := Lib.hid hlm
  have HC := Lib.hid (And.intro c1 (And.intro c2 (And.intro c3 hy)))
  have hnv : nv ≤ 9223372036854775807 := by omega
  clear hb1 hk1 hR hn hcv hva hM hacc hvu hlv hlm c1 c2 c3 hy hvl hv
  go_enter Try.func54, Try.ntmps54
  go_upto_region 1 with fail
  clear hp
  refine wp_abs (fun w1 => Below w.heap.size w w1 ∧ w1.heap[p]? = some (.cells #[.int .u8 op, .int .u64 num, .slice ap m cap] 54 (0, 0))) ⟨HB.out, HK.out⟩ ?_
  rintro w1 ⟨hb1, hx1⟩
  obtain ⟨d0, d1, d2⟩ := cells3 hx1
  obtain ⟨c1, c2, c3, hy⟩ := HC.out
  have k1 := cell_later hb1 c1
  have k2 := cell_later hb1 c2
  have k3 := cell_later hb1 c3
  have hy1 := rowIs_later hy hb1
  have HB1 := Lib.hid hb1; have HX1 := Lib.hid hx1; have HY1 := Lib.hid hy1
  clear c1 c2 c3 hy hb1 hx1 hy1 HK HB
  by_cases e0 : op = 0
  · have ht : ((op : Int) == 0) = true := by rw [beq_iff_eq]; omega
    have hr : R = num := by rw [← HR.out]; exact valN_const e0
    subst hr
    clear e0
    go_wp2
    go_ret
    exact ⟨rfl, HB1.out⟩
  have ht : ((op : Int) == 0) = false := by rw [beq_eq_false_iff_ne]; omega
  by_cases e1 : op = 1
  · have ht1 : ((op : Int) == 1) = true := by rw [beq_iff_eq]; omega
    by_cases hlt : num < nv
    · have hle : ¬ (nv : Int) ≤ (num : Int) := by omega
      obtain ⟨vb', off, q, rfl, hq, hqv⟩ := HV.out num hlt
      have hq0 : 0 ≤ q ∧ q ≤ 18446744073709551615 := HVU.out q (List.mem_of_getElem? hqv)
      have hr : R = ((q.toNat % 2 ^ W : Nat) : Int) := by rw [← HR.out, valN_var e1 (by rw [HLV.out]; exact hlt)]; rw [List.getD_eq_getElem?_getD, hqv]; rfl
      have e3 : trimI W q = R := by rw [hr]; unfold trimI; rw [if_pos (chk_in (by omega) (by omega)), Int.toNat_natCast]
      have htr : ∀ wx, Calls Try.prog 46 #[.int .i64 W, .int .u64 q] wx fun e w' => e = .returned (.tuple #[.int .u64 R, .int .i64 0]) ∧ w' = wx := fun wx => by
        refine (trim_any W q hq0.1 hq0.2 wx).mono ?_
        rintro e w' ⟨rfl, rfl⟩
        rw [e3, chk_in (by omega) (by omega)]
        exact ⟨rfl, rfl⟩
      have k4 := cell_later HB1.out hq
      have HTR := Lib.hid htr
      clear hq hqv hq0 hr htr e1 e0 e3
      go_wp2
      go_quiet ((go_at_call 46; refine Calls.quiet_of_same (HTR.out _)))
      go_wp2
      go_ret
      exact ⟨rfl, below_drewN HB1.out _⟩
    · have hle : (nv : Int) ≤ (num : Int) := by omega
      have hr : R = 0 := by rw [← HR.out]; exact valN_no e1 (by rw [HLV.out]; exact hlt)
      subst hr
      clear e1 e0 hlt
      go_wp2
      go_ret
      exact ⟨rfl, HB1.out⟩
  · have ht1 : ((op : Int) == 1) = false := by rw [beq_eq_false_iff_ne]; omega
    have hmk := run_make_row' (P := Try.prog) 68 42 (.int .u64 0) 8 Try.underlying68 Try.infoU64 rfl .i64 .i64 m (by omega) (by omega)
    have hb2 := below_new w1 (.cells (madeCells #[.int .u64 0] m) 42)
    have hz := World.rowIs_made w1 (.int .u64 0) m 42
    obtain ⟨q, hq⟩ : ∃ q, w1.heap.size = q := ⟨_, rfl⟩
    rw [hq] at hz
    have HB2 := Lib.hid hb2; have HZ := Lib.hid hz
    clear hb2 hz
    go_upto_region 10 with fail
    have HQ := Lib.hid hq
    have HD := Lib.hid (And.intro d0 (And.intro d2 (And.intro k2 k3)))
    clear hq d0 d1 d2 k1 k2 k3
    refine wp_abs (fun w2 => Below w1.heap.size w1 w2 ∧ w2.rowIs q 42 m (fun _ => .int .u64 0)) ⟨HB2.out, HZ.out⟩ ?_
    rintro w2 ⟨hb2, hz⟩
    have d2 := cell_later hb2 HD.out.2.1
    have HB2 := Lib.hid hb2; have HZ := Lib.hid hz
    clear hb2 hz
    go_wp2
    go_loopw [45] (fun i wr => ∃ k : Nat, k ≤ m ∧ i = .int .i64 k ∧ wr.rowIs q 42 m (fun j => .int .u64 (if j < k then acc.getD (xs.getD j 0).toNat 0 else 0)) ∧ Below w1.heap.size w1 wr) (fun i _ => m - (intOf i).toNat)
    case atStart => exact ⟨0, by omega, rfl, HZ.out.congr (fun i hi => by simp), HB2.out⟩
    case round =>
      obtain ⟨k, hk, rfl, hrow, hb⟩ := hrel
      have hd := HD.out
      have r0 := cell_later hb hd.1
      have r2 := cell_later hb hd.2.2.1
      have r3 := cell_later hb hd.2.2.2
      have HB3 := Lib.hid hb; have HROW := Lib.hid hrow
      by_cases hlt : k < m
      · obtain ⟨xb0, xo, x, rfl, hx, hxq⟩ := HA.out.parts' hlt
        have hx1 := cell_later hb (cell_later HB1.out hx)
        have hmem := List.mem_of_getElem? hxq
        obtain ⟨z, rfl⟩ := Int.eq_ofNat_of_zero_le (HM.out x hmem).1
        have hzM : (z : Int) < (M : Int) := (HM.out _ hmem).2
        have hy := (rowIs_later (rowIs_later HY1.out (Below.refl _ _)) hb).cell (i := z) (by omega)
        have hac := (HACC.out _ hmem).1
        rw [Int.toNat_natCast] at hac
        rw [hac] at hy
        have hc := hrow.cell hlt
        have hf := hrow.frozen k
        have hget : xs.getD k 0 = (z : Int) := by rw [List.getD_eq_getElem?_getD, hxq]; rfl
        have HGET := Lib.hid hget
        clear hb hrow hd hx hxq hmem hget hac
        go_wp2
        go_roundw
        case rel =>
          refine ⟨k + 1, by omega, by go_num, (HROW.out.set k _).congr (fun j hj => ?_), HB3.out.setCell (by rw [← HQ.out]; exact Nat.le_refl _) _⟩
          by_cases hjk : j = k
          · rw [if_pos hjk, hjk, if_pos (by omega), HGET.out, Int.toNat_natCast]; simp [List.getD_eq_getElem?_getD]
          · rw [if_neg hjk]
            by_cases hj2 : j < k
            · rw [if_pos hj2, if_pos (by omega)]
            · rw [if_neg hj2, if_neg (by omega)]
        case measure => simp [intOf]; omega
      · obtain rfl : k = m := by omega
        have hs : SliceOf wr .u64 (.slice (some ⟨q, 0, none⟩) k k) (xs.map fun a => acc.getD a.toNat 0) := by
          refine slice_of_row hrow (by rw [List.length_map]; exact HLM.out) (fun i hi => ?_)
          have hl : i < xs.length := by rw [HLM.out]; exact hi
          rw [if_pos hi, List.getD_eq_getElem?_getD, List.getD_eq_getElem?_getD, List.getD_eq_getElem?_getD, List.getElem?_map, List.getElem?_eq_getElem hl]
          rfl
        have hu : U64s (xs.map fun a => acc.getD a.toNat 0) := by
          intro y hy
          obtain ⟨a, ha, rfl⟩ := List.mem_map.1 hy
          exact (HACC.out a ha).2
        have hap := apply_any op W (by omega) (by omega) _ _ wr hs hu (by rw [List.length_map, HLM.out]; omega)
        have hr : wI op W (xs.map fun a => acc.getD a.toNat 0) = R := by rw [← HR.out]; exact (valN_app (n := (op, num, xs)) e0 e1).symm
        rw [hr] at hap
        have HAP := Lib.hid hap
        clear hb hrow hd hs hu hap hr e0 e1
        go_wp2_with (go_at_call 55; refine HAP.out.mono ?_; rintro e w4 ⟨rfl, hb4⟩)
        go_ret
        have hb5 := HB1.out.trans (HB3.out.mono HB1.out.size)
        exact ⟨rfl, hb5.trans (hb4.mono hb5.size)⟩
end Go.Proofs.Ytofbadmjopefpaa
